/- The law GroundsParts: a walk through its code at every input. -/
import Derived.Test.YtkndpgbpdidlgaaDoorL09B
namespace Go.Proofs.YtkndpgbpdidlgaaDoor
open Go.RowKit Go.Proofs.YtkndpgbpdidlgaaDoorW.PrintWords Go.Proofs.YtkndpgbpdidlgaaDoorW.PrintLast Go.Proofs.YtkndpgbpdidlgaaDoorW.PrintMore
set_option linter.unusedVariables false
set_option linter.unusedSimpArgs false
namespace L09
theorem latO_zero {rows : List Int} (h : latO rows = some rows) : hasLat (latO rows) 0 = true := by
  have h0 : checkO rows = 0 := by
    unfold latO at h
    split at h
    · assumption
    · cases h
  rw [h]
  have := (check_ord h0).2.1
  exact decide_eq_true (by omega)
theorem effO_has {m t : Int} (h : effO m = some t) : hasEff (effO m) 0 = true := by
  rw [h]
  unfold effO at h
  split at h
  · cases h
  · rename_i h1
    cases h
    have hp : (1 : Int) ≤ 2 ^ m.toNat := by exact_mod_cast Nat.one_le_two_pow
    have hq : (2 : Int) ^ m.toNat ≤ 2 ^ 64 := by exact_mod_cast Nat.pow_le_pow_right (n := 2) (by decide) (by omega)
    show (lessI 0 (2 ^ m.toNat - 1) == 0) = true
    rw [beq_iff_eq]
    exact (lessI_zero 0 _ (by decide) (by decide) (by omega) (by omega)).2 fun j hj => by simp at hj
theorem refN_wf : Node.wf refN := wf_all [refN] (by decide +kernel) _ List.mem_cons_self
theorem funN_wf : Node.wf funN := wf_all [funN] (by decide +kernel) _ List.mem_cons_self
theorem wf_ref {l : List Node} (h : ∀ n ∈ l, Node.wf n) : ∀ n ∈ refN :: l, Node.wf n := fun n hn => (List.mem_cons.1 hn).elim (fun e => e ▸ refN_wf) (h n)
theorem wf_fun {l k : List Node} (h : ∀ n ∈ l, Node.wf n) (h2 : ∀ n ∈ k, Node.wf n) : ∀ n ∈ funN :: (l ++ k), Node.wf n := fun n hn => (List.mem_cons.1 hn).elim (fun e => e ▸ funN_wf) fun h3 => (List.mem_append.1 h3).elim (h n) (h2 n)
/-- types.Check, its answer named. -/
theorem check_named (w : World) (A : Option Addr) (c n : Nat) (a : List Node) (q : Int) (hq : checkB a = q) (hn : n = a.length) (hr : kNode.C w A n a) : Calls Tryd.prog 18 #[.slice A n c] w fun e w' => e = .returned (.int .i64 q) ∧ Below w.heap.size w w' := by
  rw [← hq]
  subst hn
  exact check_calls w A c a hr
set_option maxRecDepth 100000 in
set_option maxHeartbeats 16000000 in
theorem parts_walk (w : World) (ht : TabAt 0 Lib.deBruijn64tab w) (z : BodyY × BodyY) (hz : z.1.ok w ∧ z.2.ok w) (z2 : BodyY × BodyY) (hz2 : z2.1.ok w ∧ z2.2.ok w) (y : SortsY) (hy : y.ok w) :
    Calls Tryd.prog 5 #[.agg #[z.1.v, z.2.v], .agg #[z2.1.v, z2.2.v], y.v] w fun e w' => e = .returned (.bool true) ∧ Below w.heap.size w w' := by
  obtain ⟨D, f, rows, m⟩ := y
  obtain ⟨⟨A0, d0, a0⟩, ⟨A1, d1, a1⟩⟩ := z
  obtain ⟨⟨B0, f0, b0⟩, ⟨B1, f1, b1⟩⟩ := z2
  obtain ⟨⟨-, hr0, hwa⟩, ⟨-, hr1, hwb⟩⟩ := hz
  obtain ⟨⟨-, hr2, hwc⟩, ⟨-, hr3, hwd⟩⟩ := hz2
  obtain ⟨-, hs, hU, -⟩ := hy
  simp only at hr0 hwa hr1 hwb hr2 hwc hr3 hwd hs hU
  simp only [SortsY.v, BodyY.v]
  have HT := Aside0.mk ht
  have HR := Aside0.mk (And.intro hr0 (And.intro hr1 (And.intro hr2 hr3)))
  have HW := Aside0.mk (And.intro hwa (And.intro hwb (And.intro hwc hwd)))
  have HZ := Aside0.mk hs
  have HU := Aside0.mk hU
  obtain ⟨n0, hn0⟩ : ∃ n, n = a0.length := ⟨_, rfl⟩
  obtain ⟨n1, hn1⟩ : ∃ n, n = a1.length := ⟨_, rfl⟩
  obtain ⟨m0, hm0⟩ : ∃ n, n = b0.length := ⟨_, rfl⟩
  obtain ⟨m1, hm1⟩ : ∃ n, n = b1.length := ⟨_, rfl⟩
  obtain ⟨q, hq⟩ : ∃ q, q = rows.length := ⟨_, rfl⟩
  have HN := Aside0.mk (And.intro hn0 (And.intro hn1 (And.intro hm0 hm1)))
  have HQ := Aside0.mk hq
  rw [← hn0, ← hn1, ← hm0, ← hm1, ← hq]
  obtain ⟨O1, hO1⟩ : ∃ O : Obj, O = .cells #[.slice A0 n0 d0, .slice A1 n1 d1] 39 := ⟨_, rfl⟩
  obtain ⟨O2, hO2⟩ : ∃ O : Obj, O = .cells #[.slice B0 m0 f0, .slice B1 m1 f1] 39 := ⟨_, rfl⟩
  obtain ⟨O, hO⟩ : ∃ O : Obj, O = .cells #[.slice D q f, .int .i64 m] 25 := ⟨_, rfl⟩
  have HB := Aside0.mk (below_alloc (below_alloc (below_alloc (Below.refl w.heap.size w) O1) O2) O)
  have g1 : (((w.alloc O1).alloc O2).alloc O).heap[w.heap.size]? = some O1 := blk_alloc (blk_alloc (blk_new w _) _) _
  have g2 : (((w.alloc O1).alloc O2).alloc O).heap[w.heap.size + 1]? = some O2 := by have := blk_alloc (blk_new (w.alloc O1) O2) O; rwa [World.size_alloc] at this
  have g3 : (((w.alloc O1).alloc O2).alloc O).heap[w.heap.size + 1 + 1]? = some O := by have := blk_new ((w.alloc O1).alloc O2) O; rwa [World.size_alloc, World.size_alloc] at this
  subst hO hO1 hO2
  have c0 := (blk_cell g1 0).trans (show _ = some (Value.slice A0 n0 d0) from rfl)
  have c1 := (blk_cell g1 1).trans (show _ = some (Value.slice A1 n1 d1) from rfl)
  have c2 := (blk_cell g2 0).trans (show _ = some (Value.slice B0 m0 f0) from rfl)
  have c3 := (blk_cell g2 1).trans (show _ = some (Value.slice B1 m1 f1) from rfl)
  have c4 := (blk_cell g3 0).trans (show _ = some (Value.slice D q f) from rfl)
  have c5 := (blk_cell g3 1).trans (show _ = some (Value.int .i64 m) from rfl)
  clear g1 g2 g3 ht hr0 hr1 hr2 hr3 hwa hwb hwc hwd hs hU hn0 hn1 hm0 hm1 hq
  by_cases hb : 64 < q ∨ 200 < n0 ∨ 200 < n1
  · have HE1 : Aside0 (decide (64 < q ∨ 200 < n0 ∨ 200 < n1) = true) := ⟨decide_eq_true hb⟩
    clear hb
    go_enter Tryd.func5, Tryd.ntmps5
    go_wp2_with (first | (go_at_call 11; (with_reducible refine (great_calls _ _ _ _ _ _ _ _ _ _ _).mono ?_); rintro e W' ⟨rfl, hb'⟩; replace c0 := pw_cell_below hb' c0; replace c1 := pw_cell_below hb' c1; replace c2 := pw_cell_below hb' c2; replace c3 := pw_cell_below hb' c3; replace c4 := pw_cell_below hb' c4; replace c5 := pw_cell_below hb' c5; have HB' := Aside0.mk (below_step HB.out hb'); clear HB hb'; have HB := HB'; clear HB'; rw [HE1.out]) | (go_at_call 12; (with_reducible refine (alive_calls _ ⟨tab_below HB.out HT.out⟩).mono ?_); rintro e W' ⟨rfl, hb'⟩; replace c0 := pw_cell_below hb' c0; replace c1 := pw_cell_below hb' c1; replace c2 := pw_cell_below hb' c2; replace c3 := pw_cell_below hb' c3; replace c4 := pw_cell_below hb' c4; replace c5 := pw_cell_below hb' c5; have HB' := Aside0.mk (below_step HB.out hb'); clear HB hb'; have HB := HB'; clear HB'))
    go_ret
    exact ⟨rfl, HB.out⟩
  have HE1 : Aside0 (decide (64 < q ∨ 200 < n0 ∨ 200 < n1) = false) := ⟨decide_eq_false hb⟩
  have x0 : n0 ≤ 200 ∧ n1 ≤ 200 := by omega
  obtain ⟨x0, x1⟩ := x0
  clear hb
  by_cases hb : 64 < q ∨ 200 < m0 ∨ 200 < m1
  · have HE2 : Aside0 (decide (64 < q ∨ 200 < m0 ∨ 200 < m1) = true) := ⟨decide_eq_true hb⟩
    clear hb
    go_enter Tryd.func5, Tryd.ntmps5
    go_wp2_with (first | (go_at_call 11; (with_reducible refine (great_calls _ _ _ _ _ _ _ _ _ _ _).mono ?_); rintro e W' ⟨rfl, hb'⟩; replace c0 := pw_cell_below hb' c0; replace c1 := pw_cell_below hb' c1; replace c2 := pw_cell_below hb' c2; replace c3 := pw_cell_below hb' c3; replace c4 := pw_cell_below hb' c4; replace c5 := pw_cell_below hb' c5; have HB' := Aside0.mk (below_step HB.out hb'); clear HB hb'; have HB := HB'; clear HB'; rw [HE1.out]) | (go_at_call 11; (with_reducible refine (great_calls _ _ _ _ _ _ _ _ _ _ _).mono ?_); rintro e W' ⟨rfl, hb'⟩; replace c0 := pw_cell_below hb' c0; replace c1 := pw_cell_below hb' c1; replace c2 := pw_cell_below hb' c2; replace c3 := pw_cell_below hb' c3; replace c4 := pw_cell_below hb' c4; replace c5 := pw_cell_below hb' c5; have HB' := Aside0.mk (below_step HB.out hb'); clear HB hb'; have HB := HB'; clear HB'; rw [HE2.out]) | (go_at_call 12; (with_reducible refine (alive_calls _ ⟨tab_below HB.out HT.out⟩).mono ?_); rintro e W' ⟨rfl, hb'⟩; replace c0 := pw_cell_below hb' c0; replace c1 := pw_cell_below hb' c1; replace c2 := pw_cell_below hb' c2; replace c3 := pw_cell_below hb' c3; replace c4 := pw_cell_below hb' c4; replace c5 := pw_cell_below hb' c5; have HB' := Aside0.mk (below_step HB.out hb'); clear HB hb'; have HB := HB'; clear HB'))
    go_ret
    exact ⟨rfl, HB.out⟩
  have HE2 : Aside0 (decide (64 < q ∨ 200 < m0 ∨ 200 < m1) = false) := ⟨decide_eq_false hb⟩
  have x2 : m0 ≤ 200 ∧ m1 ≤ 200 := by omega
  obtain ⟨x2, x3⟩ := x2
  clear hb
  by_cases hb : 126 < n0 + n1
  · have z1 : decide (126 < (n0 : Int) + (n1 : Int)) = true := decide_eq_true (by omega)
    go_enter Tryd.func5, Tryd.ntmps5
    go_wp2_with (first | (go_at_call 11; (with_reducible refine (great_calls _ _ _ _ _ _ _ _ _ _ _).mono ?_); rintro e W' ⟨rfl, hb'⟩; replace c0 := pw_cell_below hb' c0; replace c1 := pw_cell_below hb' c1; replace c2 := pw_cell_below hb' c2; replace c3 := pw_cell_below hb' c3; replace c4 := pw_cell_below hb' c4; replace c5 := pw_cell_below hb' c5; have HB' := Aside0.mk (below_step HB.out hb'); clear HB hb'; have HB := HB'; clear HB'; rw [HE1.out]) | (go_at_call 11; (with_reducible refine (great_calls _ _ _ _ _ _ _ _ _ _ _).mono ?_); rintro e W' ⟨rfl, hb'⟩; replace c0 := pw_cell_below hb' c0; replace c1 := pw_cell_below hb' c1; replace c2 := pw_cell_below hb' c2; replace c3 := pw_cell_below hb' c3; replace c4 := pw_cell_below hb' c4; replace c5 := pw_cell_below hb' c5; have HB' := Aside0.mk (below_step HB.out hb'); clear HB hb'; have HB := HB'; clear HB'; rw [HE2.out]) | (go_at_call 12; (with_reducible refine (alive_calls _ ⟨tab_below HB.out HT.out⟩).mono ?_); rintro e W' ⟨rfl, hb'⟩; replace c0 := pw_cell_below hb' c0; replace c1 := pw_cell_below hb' c1; replace c2 := pw_cell_below hb' c2; replace c3 := pw_cell_below hb' c3; replace c4 := pw_cell_below hb' c4; replace c5 := pw_cell_below hb' c5; have HB' := Aside0.mk (below_step HB.out hb'); clear HB hb'; have HB := HB'; clear HB'))
    go_ret
    exact ⟨rfl, HB.out⟩
  have z1 : decide (126 < (n0 : Int) + (n1 : Int)) = false := decide_eq_false (by omega)
  by_cases hb2 : 126 < m0 + m1
  · have z2 : decide (126 < (m0 : Int) + (m1 : Int)) = true := decide_eq_true (by omega)
    go_enter Tryd.func5, Tryd.ntmps5
    go_wp2_with (first | (go_at_call 11; (with_reducible refine (great_calls _ _ _ _ _ _ _ _ _ _ _).mono ?_); rintro e W' ⟨rfl, hb'⟩; replace c0 := pw_cell_below hb' c0; replace c1 := pw_cell_below hb' c1; replace c2 := pw_cell_below hb' c2; replace c3 := pw_cell_below hb' c3; replace c4 := pw_cell_below hb' c4; replace c5 := pw_cell_below hb' c5; have HB' := Aside0.mk (below_step HB.out hb'); clear HB hb'; have HB := HB'; clear HB'; rw [HE1.out]) | (go_at_call 11; (with_reducible refine (great_calls _ _ _ _ _ _ _ _ _ _ _).mono ?_); rintro e W' ⟨rfl, hb'⟩; replace c0 := pw_cell_below hb' c0; replace c1 := pw_cell_below hb' c1; replace c2 := pw_cell_below hb' c2; replace c3 := pw_cell_below hb' c3; replace c4 := pw_cell_below hb' c4; replace c5 := pw_cell_below hb' c5; have HB' := Aside0.mk (below_step HB.out hb'); clear HB hb'; have HB := HB'; clear HB'; rw [HE2.out]) | (go_at_call 12; (with_reducible refine (alive_calls _ ⟨tab_below HB.out HT.out⟩).mono ?_); rintro e W' ⟨rfl, hb'⟩; replace c0 := pw_cell_below hb' c0; replace c1 := pw_cell_below hb' c1; replace c2 := pw_cell_below hb' c2; replace c3 := pw_cell_below hb' c3; replace c4 := pw_cell_below hb' c4; replace c5 := pw_cell_below hb' c5; have HB' := Aside0.mk (below_step HB.out hb'); clear HB hb'; have HB := HB'; clear HB'))
    go_ret
    exact ⟨rfl, HB.out⟩
  have z2 : decide (126 < (m0 : Int) + (m1 : Int)) = false := decide_eq_false (by omega)
  go_enter Tryd.func5, Tryd.ntmps5
  go_wp2_with (first | (go_at_call 11; (with_reducible refine (great_calls _ _ _ _ _ _ _ _ _ _ _).mono ?_); rintro e W' ⟨rfl, hb'⟩; replace c0 := pw_cell_below hb' c0; replace c1 := pw_cell_below hb' c1; replace c2 := pw_cell_below hb' c2; replace c3 := pw_cell_below hb' c3; replace c4 := pw_cell_below hb' c4; replace c5 := pw_cell_below hb' c5; have HB' := Aside0.mk (below_step HB.out hb'); clear HB hb'; have HB := HB'; clear HB'; rw [HE1.out]) | (go_at_call 11; (with_reducible refine (great_calls _ _ _ _ _ _ _ _ _ _ _).mono ?_); rintro e W' ⟨rfl, hb'⟩; replace c0 := pw_cell_below hb' c0; replace c1 := pw_cell_below hb' c1; replace c2 := pw_cell_below hb' c2; replace c3 := pw_cell_below hb' c3; replace c4 := pw_cell_below hb' c4; replace c5 := pw_cell_below hb' c5; have HB' := Aside0.mk (below_step HB.out hb'); clear HB hb'; have HB := HB'; clear HB'; rw [HE2.out]))
  refine (of_calls _ D f q rows m HQ.out (Kd.C_below (by rw [HQ.out]; exact HZ.out) HB.out) HU.out ⟨tab_below HB.out HT.out⟩).mono ?_
  rintro e W2 ⟨hb', v1, v2, rfl, hl, hx⟩
  replace c0 := pw_cell_below hb' c0; replace c1 := pw_cell_below hb' c1; replace c2 := pw_cell_below hb' c2; replace c3 := pw_cell_below hb' c3
  have HB2 := Aside0.mk (below_step HB.out hb')
  clear hb' HB c4 c5 z1 z2
  obtain ⟨hra, hrb, hrc, hrd⟩ := HR.out
  replace hra := Kd.C_below hra HB2.out
  replace hrb := Kd.C_below hrb HB2.out
  replace hrc := Kd.C_below hrc HB2.out
  replace hrd := Kd.C_below hrd HB2.out
  rw [← HN.out.1] at hra
  rw [← HN.out.2.1] at hrb
  rw [← HN.out.2.2.1] at hrc
  rw [← HN.out.2.2.2] at hrd
  obtain ⟨o, ho⟩ : ∃ o, o = latO rows := ⟨_, rfl⟩
  obtain ⟨p, hp⟩ : ∃ p, p = effO m := ⟨_, rfl⟩
  rw [← ho] at hl
  rw [← hp] at hx
  have HSL : Aside0 (SortOk (hasLat o) (leLat o)) := ⟨by rw [ho]; exact latO_ok rows HU.out⟩
  have HSX : Aside0 (SortOk (hasEff p) (leEff p)) := ⟨eff_ok p⟩
  obtain ⟨r1, h1⟩ : ∃ r, r = groundB (hasLat o) (hasEff p) (leLat o) (leEff p) b0 a0 := ⟨_, rfl⟩
  obtain ⟨r2, h2⟩ : ∃ r, r = groundB (hasLat o) (hasEff p) (leLat o) (leEff p) a0 b0 := ⟨_, rfl⟩
  obtain ⟨r3, h3⟩ : ∃ r, r = groundB (hasLat o) (hasEff p) (leLat o) (leEff p) a1 b1 := ⟨_, rfl⟩
  have G1 := named_at (c := f0) (d := d0) h1 HN.out.2.2.1 HN.out.1 hrc hra HW.out.2.2.1 HW.out.1 hl hx
  have G2 := named_at (c := d0) (d := f0) h2 HN.out.1 HN.out.2.2.1 hra hrc HW.out.1 HW.out.2.2.1 hl hx
  have G3 := named_at (c := d1) (d := f1) h3 HN.out.2.1 HN.out.2.2.2 hrb hrd HW.out.2.1 HW.out.2.2.2 hl hx
  have H1 := Aside0.mk (And.intro h1 (And.intro h2 h3))
  have HRR := Aside0.mk (And.intro hra (And.intro hrb (And.intro hrc hrd)))
  have HLX := Aside0.mk (And.intro hl hx)
  have HO := Aside0.mk (And.intro ho hp)
  clear hra hrb hrc hrd hl hx h1 h2 h3 ho hp
  obtain ⟨i1, e1⟩ := r1
  obtain ⟨i2, e2⟩ := r2
  obtain ⟨i3, e3⟩ := r3
  have HB := Aside0.mk (Below.refl W2.heap.size W2)
  have hnn : n0 + n1 ≤ 1000 := by omega
  have hmm : m0 + m1 ≤ 1000 := by omega
  go_wp2_with (first | (go_at_call 14; (with_reducible refine (G1.out _ HB.out).mono ?_); rintro e W' ⟨rfl, hb'⟩; replace c0 := pw_cell_below hb' c0; replace c1 := pw_cell_below hb' c1; replace c2 := pw_cell_below hb' c2; replace c3 := pw_cell_below hb' c3; have HB' := Aside0.mk (below_step HB.out hb'); clear HB hb'; have HB := HB'; clear HB') | (go_at_call 14; (with_reducible refine (G2.out _ HB.out).mono ?_); rintro e W' ⟨rfl, hb'⟩; replace c0 := pw_cell_below hb' c0; replace c1 := pw_cell_below hb' c1; replace c2 := pw_cell_below hb' c2; replace c3 := pw_cell_below hb' c3; have HB' := Aside0.mk (below_step HB.out hb'); clear HB hb'; have HB := HB'; clear HB') | (go_at_call 14; (with_reducible refine (G3.out _ HB.out).mono ?_); rintro e W' ⟨rfl, hb'⟩; replace c0 := pw_cell_below hb' c0; replace c1 := pw_cell_below hb' c1; replace c2 := pw_cell_below hb' c2; replace c3 := pw_cell_below hb' c3; have HB' := Aside0.mk (below_step HB.out hb'); clear HB hb'; have HB := HB'; clear HB'))
  refine (fun_calls _ A0 A1 d0 n0 d1 n1 a0 a1 HN.out.1 HN.out.2.1 hnn (Kd.C_below HRR.out.1 HB.out) (Kd.C_below HRR.out.2.1 HB.out)).mono ?_
  rintro e W3 ⟨Ap, cp, rfl, kp, hb'⟩
  replace c0 := pw_cell_below hb' c0; replace c1 := pw_cell_below hb' c1; replace c2 := pw_cell_below hb' c2; replace c3 := pw_cell_below hb' c3
  have HB' := Aside0.mk (below_step HB.out hb'); clear HB hb'; have HB := HB'; clear HB'
  go_wp2_with fail
  refine (fun_calls _ B0 B1 f0 m0 f1 m1 b0 b1 HN.out.2.2.1 HN.out.2.2.2 hmm (Kd.C_below HRR.out.2.2.1 HB.out) (Kd.C_below HRR.out.2.2.2 HB.out)).mono ?_
  rintro e W4 ⟨Aq, cq, rfl, kq, hb'⟩
  replace kp := Kd.C_below kp hb'
  replace c0 := pw_cell_below hb' c0; replace c1 := pw_cell_below hb' c1; replace c2 := pw_cell_below hb' c2; replace c3 := pw_cell_below hb' c3
  have HB' := Aside0.mk (below_step HB.out hb'); clear HB hb'; have HB := HB'; clear HB'
  obtain ⟨P, hP⟩ : ∃ P, P = funN :: (a0 ++ a1) := ⟨_, rfl⟩
  obtain ⟨Q, hQ⟩ : ∃ Q, Q = funN :: (b0 ++ b1) := ⟨_, rfl⟩
  rw [← hP] at kp
  rw [← hQ] at kq
  have lp : n0 + n1 + 1 = P.length := by rw [hP, HN.out.1, HN.out.2.1]; simp
  have lq : m0 + m1 + 1 = Q.length := by rw [hQ, HN.out.2.2.1, HN.out.2.2.2]; simp
  have wp : ∀ n ∈ P, Node.wf n := by rw [hP]; exact wf_fun HW.out.1 HW.out.2.1
  have wq : ∀ n ∈ Q, Node.wf n := by rw [hQ]; exact wf_fun HW.out.2.2.1 HW.out.2.2.2
  obtain ⟨r4, h4⟩ : ∃ r, groundB (hasLat o) (hasEff p) (leLat o) (leEff p) P Q = r := ⟨_, rfl⟩
  have HPQ := Aside0.mk (And.intro hP (And.intro hQ h4))
  have HLP := Aside0.mk (And.intro lp lq)
  clear hP hQ h4 lp lq
  go_wp2_with fail
  refine (ground_named _ Ap Aq cp cq _ _ P Q v1 v2 o p r4 HPQ.out.2.2 HLP.out.1 HLP.out.2 kp kq wp wq (HLX.out.1.kept HB.out) (HLX.out.2.kept HB.out)).mono ?_
  rintro e W5 ⟨rfl, hb'⟩
  replace kp := Kd.C_below kp hb'
  replace kq := Kd.C_below kq hb'
  replace c0 := pw_cell_below hb' c0; replace c1 := pw_cell_below hb' c1; replace c2 := pw_cell_below hb' c2; replace c3 := pw_cell_below hb' c3
  have HB' := Aside0.mk (below_step HB.out hb'); clear HB hb'; have HB := HB'; clear HB'
  obtain ⟨i4, e4⟩ := r4
  obtain ⟨qp, hqp⟩ : ∃ x, checkB P = x := ⟨_, rfl⟩
  obtain ⟨qq, hqq⟩ : ∃ x, checkB Q = x := ⟨_, rfl⟩
  have CP : Aside0 (∀ W, Below W5.heap.size W5 W → Calls Tryd.prog 18 #[.slice Ap (n0 + n1 + 1) cp] W fun e w' => e = .returned (.int .i64 qp) ∧ Below W.heap.size W w') := ⟨fun W hb => check_named W Ap cp _ P qp hqp HLP.out.1 (Kd.C_below kp hb)⟩
  have CQ : Aside0 (∀ W, Below W5.heap.size W5 W → Calls Tryd.prog 18 #[.slice Aq (m0 + m1 + 1) cq] W fun e w' => e = .returned (.int .i64 qq) ∧ Below W.heap.size W w') := ⟨fun W hb => check_named W Aq cq _ Q qq hqq HLP.out.2 (Kd.C_below kq hb)⟩
  have HQQ := Aside0.mk (And.intro hqp hqq)
  clear hqp hqq kp kq wp wq G1 G2 G3 hnn hmm
  have HB3 := Aside0.mk (below_step HB2.out HB.out)
  have HL5 := Aside0.mk (And.intro (HLX.out.1.kept HB.out) (HLX.out.2.kept HB.out))
  have HR5 := Aside0.mk (And.intro (Kd.C_below HRR.out.1 HB.out) (Kd.C_below HRR.out.2.2.1 HB.out))
  clear HB HB2 HLX HRR
  have HB := Aside0.mk (Below.refl W5.heap.size W5)
  cases o with
  | none =>
    have hv : v1 = .pointer none := HL5.out.1
    subst hv
    go_wp2_with (first | (go_at_call 12; (with_reducible refine (alive_calls _ ⟨tab_below (below_step HB3.out HB.out) HT.out⟩).mono ?_); rintro e W' ⟨rfl, hb'⟩; replace c0 := pw_cell_below hb' c0; replace c1 := pw_cell_below hb' c1; replace c2 := pw_cell_below hb' c2; replace c3 := pw_cell_below hb' c3; have HB' := Aside0.mk (below_step HB.out hb'); clear HB hb'; have HB := HB'; clear HB'))
    go_ret
    exact ⟨rfl, below_step HB3.out HB.out⟩
  | some rws =>
  cases p with
  | none =>
    have hv : v2 = .pointer none := HL5.out.2
    subst hv
    obtain ⟨g, rfl, -⟩ := HL5.out.1
    go_wp2_with (first | (go_at_call 12; (with_reducible refine (alive_calls _ ⟨tab_below (below_step HB3.out HB.out) HT.out⟩).mono ?_); rintro e W' ⟨rfl, hb'⟩; replace c0 := pw_cell_below hb' c0; replace c1 := pw_cell_below hb' c1; replace c2 := pw_cell_below hb' c2; replace c3 := pw_cell_below hb' c3; have HB' := Aside0.mk (below_step HB.out hb'); clear HB hb'; have HB := HB'; clear HB'))
    go_ret
    exact ⟨rfl, below_step HB3.out HB.out⟩
  | some tt =>
  obtain ⟨g, rfl, -⟩ := id HL5.out.1
  obtain ⟨g', rfl, -⟩ := id HL5.out.2
  by_cases q1 : e1 = 0
  rotate_left
  · have z1 : (e1 != 0) = true := bne_iff_ne.mpr q1
    clear q1
    go_wp2_with (first | (go_at_call 12; (with_reducible refine (alive_calls _ ⟨tab_below (below_step HB3.out HB.out) HT.out⟩).mono ?_); rintro e W' ⟨rfl, hb'⟩; replace c0 := pw_cell_below hb' c0; replace c1 := pw_cell_below hb' c1; replace c2 := pw_cell_below hb' c2; replace c3 := pw_cell_below hb' c3; have HB' := Aside0.mk (below_step HB.out hb'); clear HB hb'; have HB := HB'; clear HB'))
    go_ret
    exact ⟨rfl, below_step HB3.out HB.out⟩
  subst q1
  by_cases q1 : e2 = 0
  rotate_left
  · have z1 : (e2 != 0) = true := bne_iff_ne.mpr q1
    clear q1
    go_wp2_with (first | (go_at_call 12; (with_reducible refine (alive_calls _ ⟨tab_below (below_step HB3.out HB.out) HT.out⟩).mono ?_); rintro e W' ⟨rfl, hb'⟩; replace c0 := pw_cell_below hb' c0; replace c1 := pw_cell_below hb' c1; replace c2 := pw_cell_below hb' c2; replace c3 := pw_cell_below hb' c3; have HB' := Aside0.mk (below_step HB.out hb'); clear HB hb'; have HB := HB'; clear HB'))
    go_ret
    exact ⟨rfl, below_step HB3.out HB.out⟩
  subst q1
  by_cases q1 : e3 = 0
  rotate_left
  · have z1 : (e3 != 0) = true := bne_iff_ne.mpr q1
    clear q1
    go_wp2_with (first | (go_at_call 12; (with_reducible refine (alive_calls _ ⟨tab_below (below_step HB3.out HB.out) HT.out⟩).mono ?_); rintro e W' ⟨rfl, hb'⟩; replace c0 := pw_cell_below hb' c0; replace c1 := pw_cell_below hb' c1; replace c2 := pw_cell_below hb' c2; replace c3 := pw_cell_below hb' c3; have HB' := Aside0.mk (below_step HB.out hb'); clear HB hb'; have HB := HB'; clear HB'))
    go_ret
    exact ⟨rfl, below_step HB3.out HB.out⟩
  subst q1
  by_cases q1 : qp = 0
  rotate_left
  · have z1 : (qp != 0) = true := bne_iff_ne.mpr q1
    clear q1
    go_wp2_with (first | (go_at_call 18; (with_reducible refine (CP.out _ HB.out).mono ?_); rintro e W' ⟨rfl, hb'⟩; replace c0 := pw_cell_below hb' c0; replace c1 := pw_cell_below hb' c1; replace c2 := pw_cell_below hb' c2; replace c3 := pw_cell_below hb' c3; have HB' := Aside0.mk (below_step HB.out hb'); clear HB hb'; have HB := HB'; clear HB') | (go_at_call 12; (with_reducible refine (alive_calls _ ⟨tab_below (below_step HB3.out HB.out) HT.out⟩).mono ?_); rintro e W' ⟨rfl, hb'⟩; replace c0 := pw_cell_below hb' c0; replace c1 := pw_cell_below hb' c1; replace c2 := pw_cell_below hb' c2; replace c3 := pw_cell_below hb' c3; have HB' := Aside0.mk (below_step HB.out hb'); clear HB hb'; have HB := HB'; clear HB'))
    go_ret
    exact ⟨rfl, below_step HB3.out HB.out⟩
  subst q1
  by_cases q1 : qq = 0
  rotate_left
  · have z1 : (qq != 0) = true := bne_iff_ne.mpr q1
    clear q1
    go_wp2_with (first | (go_at_call 18; (with_reducible refine (CP.out _ HB.out).mono ?_); rintro e W' ⟨rfl, hb'⟩; replace c0 := pw_cell_below hb' c0; replace c1 := pw_cell_below hb' c1; replace c2 := pw_cell_below hb' c2; replace c3 := pw_cell_below hb' c3; have HB' := Aside0.mk (below_step HB.out hb'); clear HB hb'; have HB := HB'; clear HB') | (go_at_call 18; (with_reducible refine (CQ.out _ HB.out).mono ?_); rintro e W' ⟨rfl, hb'⟩; replace c0 := pw_cell_below hb' c0; replace c1 := pw_cell_below hb' c1; replace c2 := pw_cell_below hb' c2; replace c3 := pw_cell_below hb' c3; have HB' := Aside0.mk (below_step HB.out hb'); clear HB hb'; have HB := HB'; clear HB') | (go_at_call 12; (with_reducible refine (alive_calls _ ⟨tab_below (below_step HB3.out HB.out) HT.out⟩).mono ?_); rintro e W' ⟨rfl, hb'⟩; replace c0 := pw_cell_below hb' c0; replace c1 := pw_cell_below hb' c1; replace c2 := pw_cell_below hb' c2; replace c3 := pw_cell_below hb' c3; have HB' := Aside0.mk (below_step HB.out hb'); clear HB hb'; have HB := HB'; clear HB'))
    go_ret
    exact ⟨rfl, below_step HB3.out HB.out⟩
  subst q1
  have lh0 : n0 ≤ 1000 := by omega
  have lh1 : m0 ≤ 1000 := by omega
  have HLA : Aside0 (n0 + 1 = (refN :: a0).length ∧ m0 + 1 = (refN :: b0).length) := ⟨by rw [HN.out.1, HN.out.2.2.1]; simp⟩
  obtain ⟨⟨i5, e5⟩, h5⟩ : ∃ r, groundB (hasLat (some rws)) (hasEff (some tt)) (leLat (some rws)) (leEff (some tt)) (refN :: a0) (refN :: b0) = r := ⟨_, rfl⟩
  have HE5 := Aside0.mk h5
  obtain ⟨qa, hqa⟩ : ∃ x, checkB (refN :: a0) = x := ⟨_, rfl⟩
  obtain ⟨qb, hqb⟩ : ∃ x, checkB (refN :: b0) = x := ⟨_, rfl⟩
  have HQA := Aside0.mk (And.intro hqa hqb)
  clear h5 hqa hqb
  have hl0 : hasLat (some rws) 0 = true := by
    have h := HO.out.1
    have h2 : latO rows = some rows := by
      unfold latO at h ⊢
      split at h
      · rename_i h0
        rw [if_pos h0]
      · cases h
    rw [h]
    exact latO_zero h2
  have hx0 : hasEff (some tt) 0 = true := by
    have h := effO_has HO.out.2.symm
    rw [← HO.out.2] at h
    exact h
  have F4 : i4 = (i1 && i3) ∧ e4 = 0 := by
    have h := ground_fun HSL.out HSX.out hl0 hx0 a0 a1 b0 b1 (by rw [← H1.out.1]) (by rw [← H1.out.2.2]) (by rw [← HPQ.out.1]; exact HQQ.out.1) (by rw [← HPQ.out.2.1]; exact HQQ.out.2)
    rw [← HPQ.out.1, ← HPQ.out.2.1, HPQ.out.2.2, ← H1.out.1, ← H1.out.2.2] at h
    simpa using h
  obtain ⟨F4, rfl⟩ := F4
  have F5 : qa = 0 → qb = 0 → i5 = (i1 && i2) ∧ e5 = 0 := fun ha hb => by
    have h := ground_ref HSL.out HSX.out hl0 a0 b0 (by rw [← H1.out.1]) (by rw [← H1.out.2.1]) (by rw [HQA.out.1, ha]) (by rw [HQA.out.2, hb])
    rw [HE5.out, ← H1.out.1, ← H1.out.2.1] at h
    simpa using h
  have HF4 := Aside0.mk F4
  have HF5 := Aside0.mk F5
  clear F4 F5 hl0 hx0
  have CA : Aside0 (∀ W A c, kNode.C W A (n0 + 1) (refN :: a0) → Calls Tryd.prog 18 #[.slice A (n0 + 1) c] W fun e w' => e = .returned (.int .i64 qa) ∧ Below W.heap.size W w') := ⟨fun W A c h => check_named W A c _ _ qa HQA.out.1 HLA.out.1 h⟩
  have CB : Aside0 (∀ W A c, kNode.C W A (m0 + 1) (refN :: b0) → Calls Tryd.prog 18 #[.slice A (m0 + 1) c] W fun e w' => e = .returned (.int .i64 qb) ∧ Below W.heap.size W w') := ⟨fun W A c h => check_named W A c _ _ qb HQA.out.2 HLA.out.2 h⟩
  have RA : Aside0 (∀ W, Below W5.heap.size W5 W → Calls Tryd.prog 19 #[.slice A0 n0 d0] W fun e w' => ∃ A1 c1, e = .returned (.slice A1 (n0 + 1) c1) ∧ kNode.C w' A1 (n0 + 1) (refN :: a0) ∧ Below W.heap.size W w') := ⟨fun W hb => ref_calls W A0 d0 n0 a0 HN.out.1 lh0 (Kd.C_below HR5.out.1 hb)⟩
  have RB : Aside0 (∀ W, Below W5.heap.size W5 W → Calls Tryd.prog 19 #[.slice B0 m0 f0] W fun e w' => ∃ A1 c1, e = .returned (.slice A1 (m0 + 1) c1) ∧ kNode.C w' A1 (m0 + 1) (refN :: b0) ∧ Below W.heap.size W w') := ⟨fun W hb => ref_calls W B0 f0 m0 b0 HN.out.2.2.1 lh1 (Kd.C_below HR5.out.2 hb)⟩
  have BL : Aside0 (∀ W A c B d, Below W5.heap.size W5 W → kNode.C W A (n0 + 1) (refN :: a0) → kNode.C W B (m0 + 1) (refN :: b0) → Calls Tryd.prog 14 #[.slice A (n0 + 1) c, .slice B (m0 + 1) d, .pointer (some ⟨g, 0, none⟩), .pointer (some ⟨g', 0, none⟩)] W fun e w' => e = .returned (.tuple #[.bool i5, .int .i64 e5]) ∧ Below W.heap.size W w') := ⟨fun W A c B d hb ka kb => ground_named W A B c d _ _ (refN :: a0) (refN :: b0) _ _ _ _ (i5, e5) HE5.out HLA.out.1 HLA.out.2 ka kb (wf_ref HW.out.1) (wf_ref HW.out.2.2.1) (HL5.out.1.kept hb) (HL5.out.2.kept hb)⟩
  go_wp2_with (first | (go_at_call 18; (with_reducible refine (CP.out _ HB.out).mono ?_); rintro e W' ⟨rfl, hb'⟩; replace c0 := pw_cell_below hb' c0; replace c1 := pw_cell_below hb' c1; replace c2 := pw_cell_below hb' c2; replace c3 := pw_cell_below hb' c3; have HB' := Aside0.mk (below_step HB.out hb'); clear HB hb'; have HB := HB'; clear HB') | (go_at_call 18; (with_reducible refine (CQ.out _ HB.out).mono ?_); rintro e W' ⟨rfl, hb'⟩; replace c0 := pw_cell_below hb' c0; replace c1 := pw_cell_below hb' c1; replace c2 := pw_cell_below hb' c2; replace c3 := pw_cell_below hb' c3; have HB' := Aside0.mk (below_step HB.out hb'); clear HB hb'; have HB := HB'; clear HB'))
  have HB' := Aside0.mk HB.out.drew
  clear HB
  have HB := HB'
  clear HB'
  go_region_with (first | (go_at_call 14; (with_reducible refine (BL.out _ _ _ _ _ HB.out ka kb).mono ?_); rintro e W' ⟨rfl, hb'⟩; replace c0 := pw_cell_below hb' c0; replace c1 := pw_cell_below hb' c1; replace c2 := pw_cell_below hb' c2; replace c3 := pw_cell_below hb' c3; have HB' := Aside0.mk (below_step HB.out hb'); clear HB hb'; have HB := HB'; clear HB'; clear ka kb) | (go_at_call 19; (with_reducible refine (RA.out _ HB.out).mono ?_); rintro e W' ⟨Aa, ca, rfl, ka, hb'⟩; (try replace kb := Kd.C_below kb hb'); replace c0 := pw_cell_below hb' c0; replace c1 := pw_cell_below hb' c1; replace c2 := pw_cell_below hb' c2; replace c3 := pw_cell_below hb' c3; have HB' := Aside0.mk (below_step HB.out hb'); clear HB hb'; have HB := HB'; clear HB') | (go_at_call 19; (with_reducible refine (RB.out _ HB.out).mono ?_); rintro e W' ⟨Ab, cb, rfl, kb, hb'⟩; (try replace ka := Kd.C_below ka hb'); replace c0 := pw_cell_below hb' c0; replace c1 := pw_cell_below hb' c1; replace c2 := pw_cell_below hb' c2; replace c3 := pw_cell_below hb' c3; have HB' := Aside0.mk (below_step HB.out hb'); clear HB hb'; have HB := HB'; clear HB'))
  all_goals
    by_cases q1 : qa = 0
    rotate_left
    · have z1 : (qa != 0) = true := bne_iff_ne.mpr q1
      clear q1
      go_wp2_with (first | (go_at_call 19; (with_reducible refine (RA.out _ HB.out).mono ?_); rintro e W' ⟨Aa, ca, rfl, ka, hb'⟩; (try replace kb := Kd.C_below kb hb'); replace c0 := pw_cell_below hb' c0; replace c1 := pw_cell_below hb' c1; replace c2 := pw_cell_below hb' c2; replace c3 := pw_cell_below hb' c3; have HB' := Aside0.mk (below_step HB.out hb'); clear HB hb'; have HB := HB'; clear HB') | (go_at_call 18; (with_reducible refine (CA.out _ _ _ ka).mono ?_); rintro e W' ⟨rfl, hb'⟩; replace c0 := pw_cell_below hb' c0; replace c1 := pw_cell_below hb' c1; replace c2 := pw_cell_below hb' c2; replace c3 := pw_cell_below hb' c3; have HB' := Aside0.mk (below_step HB.out hb'); clear HB hb'; have HB := HB'; clear HB') | (go_at_call 12; (with_reducible refine (alive_calls _ ⟨tab_below (below_step HB3.out HB.out) HT.out⟩).mono ?_); rintro e W' ⟨rfl, hb'⟩; replace c0 := pw_cell_below hb' c0; replace c1 := pw_cell_below hb' c1; replace c2 := pw_cell_below hb' c2; replace c3 := pw_cell_below hb' c3; have HB' := Aside0.mk (below_step HB.out hb'); clear HB hb'; have HB := HB'; clear HB'))
      go_ret
      exact ⟨rfl, below_step HB3.out HB.out⟩
    by_cases q2 : qb = 0
    rotate_left
    · have z1 : (qb != 0) = true := bne_iff_ne.mpr q2
      subst q1
      clear q2
      go_wp2_with (first | (go_at_call 19; (with_reducible refine (RA.out _ HB.out).mono ?_); rintro e W' ⟨Aa, ca, rfl, ka, hb'⟩; (try replace kb := Kd.C_below kb hb'); replace c0 := pw_cell_below hb' c0; replace c1 := pw_cell_below hb' c1; replace c2 := pw_cell_below hb' c2; replace c3 := pw_cell_below hb' c3; have HB' := Aside0.mk (below_step HB.out hb'); clear HB hb'; have HB := HB'; clear HB') | (go_at_call 18; (with_reducible refine (CA.out _ _ _ ka).mono ?_); rintro e W' ⟨rfl, hb'⟩; replace c0 := pw_cell_below hb' c0; replace c1 := pw_cell_below hb' c1; replace c2 := pw_cell_below hb' c2; replace c3 := pw_cell_below hb' c3; have HB' := Aside0.mk (below_step HB.out hb'); clear HB hb'; have HB := HB'; clear HB') | (go_at_call 19; (with_reducible refine (RB.out _ HB.out).mono ?_); rintro e W' ⟨Ab, cb, rfl, kb, hb'⟩; (try replace ka := Kd.C_below ka hb'); replace c0 := pw_cell_below hb' c0; replace c1 := pw_cell_below hb' c1; replace c2 := pw_cell_below hb' c2; replace c3 := pw_cell_below hb' c3; have HB' := Aside0.mk (below_step HB.out hb'); clear HB hb'; have HB := HB'; clear HB') | (go_at_call 18; (with_reducible refine (CB.out _ _ _ kb).mono ?_); rintro e W' ⟨rfl, hb'⟩; replace c0 := pw_cell_below hb' c0; replace c1 := pw_cell_below hb' c1; replace c2 := pw_cell_below hb' c2; replace c3 := pw_cell_below hb' c3; have HB' := Aside0.mk (below_step HB.out hb'); clear HB hb'; have HB := HB'; clear HB') | (go_at_call 12; (with_reducible refine (alive_calls _ ⟨tab_below (below_step HB3.out HB.out) HT.out⟩).mono ?_); rintro e W' ⟨rfl, hb'⟩; replace c0 := pw_cell_below hb' c0; replace c1 := pw_cell_below hb' c1; replace c2 := pw_cell_below hb' c2; replace c3 := pw_cell_below hb' c3; have HB' := Aside0.mk (below_step HB.out hb'); clear HB hb'; have HB := HB'; clear HB'))
      go_ret
      exact ⟨rfl, below_step HB3.out HB.out⟩
    obtain ⟨F5, rfl⟩ := HF5.out q1 q2
    have F4 := HF4.out
    subst q1 q2
    cases i1 with
    | false =>
      have F5' : i5 = false := F5
      have F4' : i4 = false := F4
      subst F5' F4'
      clear F5 F4
      go_wp2_with (first | (go_at_call 19; (with_reducible refine (RA.out _ HB.out).mono ?_); rintro e W' ⟨Aa, ca, rfl, ka, hb'⟩; (try replace kb := Kd.C_below kb hb'); replace c0 := pw_cell_below hb' c0; replace c1 := pw_cell_below hb' c1; replace c2 := pw_cell_below hb' c2; replace c3 := pw_cell_below hb' c3; have HB' := Aside0.mk (below_step HB.out hb'); clear HB hb'; have HB := HB'; clear HB') | (go_at_call 18; (with_reducible refine (CA.out _ _ _ ka).mono ?_); rintro e W' ⟨rfl, hb'⟩; replace c0 := pw_cell_below hb' c0; replace c1 := pw_cell_below hb' c1; replace c2 := pw_cell_below hb' c2; replace c3 := pw_cell_below hb' c3; have HB' := Aside0.mk (below_step HB.out hb'); clear HB hb'; have HB := HB'; clear HB') | (go_at_call 19; (with_reducible refine (RB.out _ HB.out).mono ?_); rintro e W' ⟨Ab, cb, rfl, kb, hb'⟩; (try replace ka := Kd.C_below ka hb'); replace c0 := pw_cell_below hb' c0; replace c1 := pw_cell_below hb' c1; replace c2 := pw_cell_below hb' c2; replace c3 := pw_cell_below hb' c3; have HB' := Aside0.mk (below_step HB.out hb'); clear HB hb'; have HB := HB'; clear HB') | (go_at_call 18; (with_reducible refine (CB.out _ _ _ kb).mono ?_); rintro e W' ⟨rfl, hb'⟩; replace c0 := pw_cell_below hb' c0; replace c1 := pw_cell_below hb' c1; replace c2 := pw_cell_below hb' c2; replace c3 := pw_cell_below hb' c3; have HB' := Aside0.mk (below_step HB.out hb'); clear HB hb'; have HB := HB'; clear HB') | (go_at_call 12; (with_reducible refine (alive_calls _ ⟨tab_below (below_step HB3.out HB.out) HT.out⟩).mono ?_); rintro e W' ⟨rfl, hb'⟩; replace c0 := pw_cell_below hb' c0; replace c1 := pw_cell_below hb' c1; replace c2 := pw_cell_below hb' c2; replace c3 := pw_cell_below hb' c3; have HB' := Aside0.mk (below_step HB.out hb'); clear HB hb'; have HB := HB'; clear HB'))
      go_ret
      exact ⟨rfl, below_step HB3.out HB.out⟩
    | true =>
      have F5' : i5 = i2 := F5
      have F4' : i4 = i3 := F4
      subst F5' F4'
      clear F5 F4
      go_wp2_with (first | (go_at_call 19; (with_reducible refine (RA.out _ HB.out).mono ?_); rintro e W' ⟨Aa, ca, rfl, ka, hb'⟩; (try replace kb := Kd.C_below kb hb'); replace c0 := pw_cell_below hb' c0; replace c1 := pw_cell_below hb' c1; replace c2 := pw_cell_below hb' c2; replace c3 := pw_cell_below hb' c3; have HB' := Aside0.mk (below_step HB.out hb'); clear HB hb'; have HB := HB'; clear HB') | (go_at_call 18; (with_reducible refine (CA.out _ _ _ ka).mono ?_); rintro e W' ⟨rfl, hb'⟩; replace c0 := pw_cell_below hb' c0; replace c1 := pw_cell_below hb' c1; replace c2 := pw_cell_below hb' c2; replace c3 := pw_cell_below hb' c3; have HB' := Aside0.mk (below_step HB.out hb'); clear HB hb'; have HB := HB'; clear HB') | (go_at_call 19; (with_reducible refine (RB.out _ HB.out).mono ?_); rintro e W' ⟨Ab, cb, rfl, kb, hb'⟩; (try replace ka := Kd.C_below ka hb'); replace c0 := pw_cell_below hb' c0; replace c1 := pw_cell_below hb' c1; replace c2 := pw_cell_below hb' c2; replace c3 := pw_cell_below hb' c3; have HB' := Aside0.mk (below_step HB.out hb'); clear HB hb'; have HB := HB'; clear HB') | (go_at_call 18; (with_reducible refine (CB.out _ _ _ kb).mono ?_); rintro e W' ⟨rfl, hb'⟩; replace c0 := pw_cell_below hb' c0; replace c1 := pw_cell_below hb' c1; replace c2 := pw_cell_below hb' c2; replace c3 := pw_cell_below hb' c3; have HB' := Aside0.mk (below_step HB.out hb'); clear HB hb'; have HB := HB'; clear HB') | (go_at_call 12; (with_reducible refine (alive_calls _ ⟨tab_below (below_step HB3.out HB.out) HT.out⟩).mono ?_); rintro e W' ⟨rfl, hb'⟩; replace c0 := pw_cell_below hb' c0; replace c1 := pw_cell_below hb' c1; replace c2 := pw_cell_below hb' c2; replace c3 := pw_cell_below hb' c3; have HB' := Aside0.mk (below_step HB.out hb'); clear HB hb'; have HB := HB'; clear HB'))
      go_ret
      exact ⟨rfl, below_step HB3.out HB.out⟩
end L09
end Go.Proofs.YtkndpgbpdidlgaaDoor
