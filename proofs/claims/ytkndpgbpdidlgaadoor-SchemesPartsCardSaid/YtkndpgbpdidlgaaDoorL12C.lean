/- The law SchemesParts: a walk through its code at every input. -/
import Derived.Test.YtkndpgbpdidlgaaDoorL12A
import Derived.Test.YtkndpgbpdidlgaaDoorScT
import Derived.Test.YtkndpgbpdidlgaaDoorQt
namespace Go.Proofs.YtkndpgbpdidlgaaDoor
open Go.RowKit Go.Proofs.YtkndpgbpdidlgaaDoorW.PrintWords Go.Proofs.YtkndpgbpdidlgaaDoorW.PrintLast Go.Proofs.YtkndpgbpdidlgaaDoorW.PrintMore
set_option linter.unusedVariables false
set_option linter.unusedSimpArgs false
namespace L12
open L09
theorem scheme_named (w : World) (lv ev : Int) (A LA EA : Option Addr) (c lc ec n k m : Nat) (a : List Node) (L E : List Bound) (v1 v2 : Value) (o : Option (List Int)) (p : Option Int) (r : Int) (hr : schemeB (hasLat o) (hasEff p) lv ev a L E = r) (hn : n = a.length) (hk : k = L.length) (hm : m = E.length) (hy : SchY.ok w ⟨lv, ev, A, c, a, LA, lc, L, EA, ec, E⟩) (hv1 : LatV w v1 o) (hv2 : EffV w v2 p) :
    Calls Tryd.prog 22 #[.agg #[.int .i64 lv, .int .i64 ev, .slice A n c, .slice LA k lc, .slice EA m ec], .iface 28 v1, .iface 29 v2] w fun e w' => e = .returned (.int .i64 r) ∧ Below w.heap.size w w' := by
  rw [← hr]
  subst hn hk hm
  exact scheme_calls w ⟨lv, ev, A, c, a, LA, lc, L, EA, ec, E⟩ hy v1 v2 o p hv1 hv2
theorem nilHasL (k : Nat) (v : Value) (w : World) : (nilAhead (k + 1) 28 v "Has").run Tryd.prog w = .ok (some false) w := by kernel_rfl
theorem nilHasE (k : Nat) (v : Value) (w : World) : (nilAhead (k + 1) 29 v "Has").run Tryd.prog w = .ok (some false) w := by kernel_rfl
theorem all_take_false {α : Type} {g : Bool} {l : List α} {p : α → Bool} {k : Nat} (h : (g && (l.take k).all p) = false) : (g && l.all p) = false := by
  cases g with
  | false => rfl
  | true =>
    rw [Bool.true_and] at h ⊢
    cases e : l.all p with
    | false => rfl
    | true =>
      rw [← h]
      exact (List.all_eq_true.2 fun x hx => List.all_eq_true.1 e x (List.mem_of_mem_take hx)).symm
theorem scheme_zero (hasL hasX : Int → Bool) (lv ev : Int) (a : List Node) (L E : List Bound) : (schemeB hasL hasX lv ev a L E == 0) = (checkB a == 0 && boundsB hasL lv L == 0 && boundsB hasX ev E == 0 && (labB a).all (fun x => termOk hasL lv x.f3) && (effB a).all (fun x => termOk hasX ev x.f3)) := by
  unfold schemeB
  by_cases h1 : checkB a = 0
  · rw [if_neg (by simpa using h1), beq_iff_eq.mpr h1, Bool.true_and]
    by_cases h2 : boundsB hasL lv L = 0
    · rw [if_neg (by simpa using h2), beq_iff_eq.mpr h2, Bool.true_and]
      by_cases h3 : boundsB hasX ev E = 0
      · rw [if_neg (by simpa using h3), beq_iff_eq.mpr h3, Bool.true_and]
        cases (labB a).all (fun x => termOk hasL lv x.f3) <;> cases (effB a).all (fun x => termOk hasX ev x.f3) <;> rfl
      · rw [if_pos h3, beq_eq_false_iff_ne.mpr h3]; rfl
    · rw [if_pos h2, beq_eq_false_iff_ne.mpr h2]; rfl
  · rw [if_pos h1, beq_eq_false_iff_ne.mpr h1]; rfl
set_option maxRecDepth 100000 in
set_option maxHeartbeats 16000000 in
theorem parts_walk (w : World) (ht : TabAt 0 Lib.deBruijn64tab w) (y : SchY) (hy : y.ok w) (z : SortsY) (hz : z.ok w) :
    Calls Tryd.prog 7 #[y.v, z.v] w fun e w' => e = .returned (.bool true) ∧ Below w.heap.size w w' := by
  obtain ⟨D, f, rows, zm⟩ := z
  obtain ⟨lv, ev, A, c, a, LA, lc, L, EA, ec, E⟩ := y
  obtain ⟨-, hs, hU, -⟩ := hz
  simp only at hs hU
  simp only [SortsY.v, SchY.v]
  have HT := Aside0.mk ht
  have HY := Aside0.mk hy
  have HZ0 := Aside0.mk hs
  have HU := Aside0.mk hU
  have NN := Aside0.mk (And.intro (labB_nonneg (a := a) hy.wb) (effB_nonneg (a := a) hy.wb))
  have HWB := Aside0.mk (And.intro (bound_nn hy.wl) (bound_nn hy.we))
  obtain ⟨n, hn⟩ : ∃ n, n = a.length := ⟨_, rfl⟩
  obtain ⟨k, hk⟩ : ∃ n, n = L.length := ⟨_, rfl⟩
  obtain ⟨m, hm⟩ : ∃ n, n = E.length := ⟨_, rfl⟩
  obtain ⟨q, hq⟩ : ∃ n, n = rows.length := ⟨_, rfl⟩
  have HN := Aside0.mk (And.intro hn (And.intro hk hm))
  have HQ := Aside0.mk hq
  rw [← hn, ← hk, ← hm, ← hq]
  obtain ⟨O1, hO1⟩ : ∃ O : Obj, O = .cells #[.int .i64 lv, .int .i64 ev, .slice A n c, .slice LA k lc, .slice EA m ec] 46 := ⟨_, rfl⟩
  obtain ⟨O, hO⟩ : ∃ O : Obj, O = .cells #[.slice D q f, .int .i64 zm] 47 := ⟨_, rfl⟩
  have HB := Aside0.mk (below_alloc (below_alloc (Below.refl w.heap.size w) O1) O)
  have g1 : ((w.alloc O1).alloc O).heap[w.heap.size]? = some O1 := blk_alloc (blk_new w _) _
  have g2 : ((w.alloc O1).alloc O).heap[w.heap.size + 1]? = some O := by have := blk_new (w.alloc O1) O; rwa [World.size_alloc] at this
  subst hO hO1
  have c0 := (blk_cell g1 0).trans (show _ = some (Value.int .i64 lv) from rfl)
  have c1 := (blk_cell g1 1).trans (show _ = some (Value.int .i64 ev) from rfl)
  have c2 := (blk_cell g1 2).trans (show _ = some (Value.slice A n c) from rfl)
  have c3 := (blk_cell g1 3).trans (show _ = some (Value.slice LA k lc) from rfl)
  have c4 := (blk_cell g1 4).trans (show _ = some (Value.slice EA m ec) from rfl)
  have c5 := (blk_cell g2 0).trans (show _ = some (Value.slice D q f) from rfl)
  have c6 := (blk_cell g2 1).trans (show _ = some (Value.int .i64 zm) from rfl)
  clear g1 g2 ht hy hs hU hn hk hm hq
  by_cases hb : 64 < q ∨ 200 < n ∨ 300 < k ∨ 300 < m
  · have HE : Aside0 (decide (64 < q ∨ 200 < n ∨ 300 < k ∨ 300 < m) = true) := ⟨decide_eq_true hb⟩
    clear hb
    go_enter Tryd.func7, Tryd.ntmps7
    go_wp2_with (first | (go_at_call 21; (with_reducible refine (great12_calls _ _ _ _ _ _ _ _ _ _ _ _ _ _ _ _).mono ?_); rintro e W' ⟨rfl, hb'⟩; replace c0 := pw_cell_below hb' c0; replace c1 := pw_cell_below hb' c1; replace c2 := pw_cell_below hb' c2; replace c3 := pw_cell_below hb' c3; replace c4 := pw_cell_below hb' c4; replace c5 := pw_cell_below hb' c5; replace c6 := pw_cell_below hb' c6; have HB' := Aside0.mk (below_step HB.out hb'); clear HB hb'; have HB := HB'; clear HB'; rw [HE.out]) | (go_at_call 23; (with_reducible refine (alive12_calls _ ⟨tab_below HB.out HT.out⟩).mono ?_); rintro e W' ⟨rfl, hb'⟩; replace c0 := pw_cell_below hb' c0; replace c1 := pw_cell_below hb' c1; replace c2 := pw_cell_below hb' c2; replace c3 := pw_cell_below hb' c3; replace c4 := pw_cell_below hb' c4; replace c5 := pw_cell_below hb' c5; replace c6 := pw_cell_below hb' c6; have HB' := Aside0.mk (below_step HB.out hb'); clear HB hb'; have HB := HB'; clear HB'))
    go_ret
    exact ⟨rfl, HB.out⟩
  have HE : Aside0 (decide (64 < q ∨ 200 < n ∨ 300 < k ∨ 300 < m) = false) := ⟨decide_eq_false hb⟩
  clear hb
  go_enter Tryd.func7, Tryd.ntmps7
  go_wp2_with (go_at_call 21; (with_reducible refine (great12_calls _ _ _ _ _ _ _ _ _ _ _ _ _ _ _ _).mono ?_); rintro e W' ⟨rfl, hb'⟩; replace c0 := pw_cell_below hb' c0; replace c1 := pw_cell_below hb' c1; replace c2 := pw_cell_below hb' c2; replace c3 := pw_cell_below hb' c3; replace c4 := pw_cell_below hb' c4; replace c5 := pw_cell_below hb' c5; replace c6 := pw_cell_below hb' c6; have HB' := Aside0.mk (below_step HB.out hb'); clear HB hb'; have HB := HB'; clear HB'; rw [HE.out])
  refine (of12_calls _ D f q rows zm HQ.out (Kd.C_below (by rw [HQ.out]; exact HZ0.out) HB.out) HU.out ⟨tab_below HB.out HT.out⟩).mono ?_
  rintro e W1 ⟨hb', v1, v2, rfl, hl, hx⟩
  replace c0 := pw_cell_below hb' c0; replace c1 := pw_cell_below hb' c1; replace c2 := pw_cell_below hb' c2; replace c3 := pw_cell_below hb' c3; replace c4 := pw_cell_below hb' c4; replace c5 := pw_cell_below hb' c5; replace c6 := pw_cell_below hb' c6
  have HB' := Aside0.mk (below_step HB.out hb'); clear HB hb'; have HB := HB'; clear HB'
  have HLX := Aside0.mk (And.intro hl hx)
  obtain ⟨o, ho⟩ : ∃ o, o = latO rows := ⟨_, rfl⟩
  obtain ⟨p, hp⟩ : ∃ p, p = effO zm := ⟨_, rfl⟩
  rw [← ho, ← hp] at HLX
  clear hl hx ho hp HE
  have hra : kNode.C W1 A a.length a := Kd.C_below HY.out.rb HB.out
  go_wp2_with fail
  have OF := Go.Proofs.YtkndpgbpdidlgaaDoor.of_calls W1 A c a hra
  rw [← HN.out.1] at OF
  refine OF.mono ?_
  clear OF hra
  rintro e W3 ⟨u1, u2, rfl, s1, s2, hb'⟩
  obtain ⟨A1, d1, rfl⟩ := Kd.R_slice s1
  obtain ⟨A2, d2, rfl⟩ := Kd.R_slice s2
  obtain ⟨la, hla⟩ : ∃ l, l = labB a := ⟨_, rfl⟩
  obtain ⟨xa, hxa⟩ : ∃ l, l = effB a := ⟨_, rfl⟩
  have q1 : la.length ≤ 256 := by rw [hla]; exact labB_max a
  have q2 : xa.length ≤ 256 := by rw [hxa]; exact effB_max a
  replace s1 := (Kd.R_reads' s1).2.2
  replace s2 := (Kd.R_reads' s2).2.2
  rw [← hla] at s1 NN ⊢
  rw [← hxa] at s2 NN ⊢
  have HZ1 : Aside0 ((schemeB (hasLat o) (hasEff p) lv ev a L E == 0) = (checkB a == 0 && boundsB (hasLat o) lv L == 0 && boundsB (hasEff p) ev E == 0 && la.all (fun x => termOk (hasLat o) lv x.f3) && xa.all (fun x => termOk (hasEff p) ev x.f3))) := ⟨by rw [scheme_zero, hla, hxa]⟩
  obtain ⟨X, hX⟩ : ∃ X, X = la.length := ⟨_, rfl⟩
  obtain ⟨Y, hY⟩ : ∃ Y, Y = xa.length := ⟨_, rfl⟩
  rw [← hX] at s1 q1 ⊢
  rw [← hY] at s2 q2 ⊢
  have HX := Aside0.mk (And.intro hX hY)
  have HS := Aside0.mk (And.intro s1 s2)
  replace c0 := pw_cell_below hb' c0; replace c1 := pw_cell_below hb' c1; replace c2 := pw_cell_below hb' c2; replace c3 := pw_cell_below hb' c3; replace c4 := pw_cell_below hb' c4
  have HL3 := Aside0.mk (And.intro (HLX.out.1.kept hb') (HLX.out.2.kept hb'))
  have HB3 := Aside0.mk (below_step HB.out hb')
  have HC := Aside0.mk (And.intro c0 (And.intro c1 (And.intro c2 (And.intro c3 c4))))
  clear s1 s2 hla hxa hX hY HB hb' HLX c5 c6
  have HB := Aside0.mk (Below.refl W3.heap.size W3)
  have HY3 := Aside0.mk (HY.out.kept HB3.out)
  obtain ⟨q0, hq0⟩ : ∃ q, q = checkB a := ⟨_, rfl⟩
  obtain ⟨ql, hql⟩ : ∃ q, q = boundsB (hasLat o) lv L := ⟨_, rfl⟩
  obtain ⟨qe, hqe⟩ : ∃ q, q = boundsB (hasEff p) ev E := ⟨_, rfl⟩
  obtain ⟨r, hr⟩ : ∃ r, schemeB (hasLat o) (hasEff p) lv ev a L E = r := ⟨_, rfl⟩
  rw [hr, ← hq0, ← hql, ← hqe] at HZ1
  have HR := Aside0.mk hr
  have HQQ := Aside0.mk (And.intro hq0 (And.intro hql hqe))
  have CK : Aside0 (∀ W, Below W3.heap.size W3 W → Calls Tryd.prog 18 #[.slice A n c] W fun e w' => e = .returned (.int .i64 q0) ∧ Below W.heap.size W w') := ⟨fun W hb => by rw [HQQ.out.1, HN.out.1]; exact check_calls W A c a (HY3.out.kept hb).rb⟩
  have BL : Aside0 (∀ W, Below W3.heap.size W3 W → Calls Tryd.prog 26 #[.iface 28 v1, .int .i64 lv, .slice LA k lc] W fun e w' => e = .returned (.int .i64 ql) ∧ Below W.heap.size W w') := ⟨fun W hb => by rw [HQQ.out.2.1]; exact bchkL_calls W LA lc k L lv v1 o HN.out.2.1 HWB.out.1 (by rw [HN.out.2.1]; exact (HY3.out.kept hb).rl) (HL3.out.1.kept hb)⟩
  have BE : Aside0 (∀ W, Below W3.heap.size W3 W → Calls Tryd.prog 26 #[.iface 29 v2, .int .i64 ev, .slice EA m ec] W fun e w' => e = .returned (.int .i64 qe) ∧ Below W.heap.size W w') := ⟨fun W hb => by rw [HQQ.out.2.2]; exact bchkE_calls W EA ec m E ev v2 p HN.out.2.2 HWB.out.2 (by rw [HN.out.2.2]; exact (HY3.out.kept hb).re) (HL3.out.2.kept hb)⟩
  have S : Aside0 (∀ W, Below W3.heap.size W3 W → Calls Tryd.prog 22 #[.agg #[.int .i64 lv, .int .i64 ev, .slice A n c, .slice LA k lc, .slice EA m ec], .iface 28 v1, .iface 29 v2] W fun e w' => e = .returned (.int .i64 r) ∧ Below W.heap.size W w') := ⟨fun W hb => scheme_named W lv ev A LA EA c lc ec n k m a L E v1 v2 o p r HR.out HN.out.1 HN.out.2.1 HN.out.2.2 (HY3.out.kept hb) (HL3.out.1.kept hb) (HL3.out.2.kept hb)⟩
  have HasL : Aside0 (∀ W, Below W3.heap.size W3 W → ∀ x, 0 ≤ x → Calls Tryd.prog 27 #[v1, .int .u64 x] W fun e w' => e = .returned (.bool (hasLat o x)) ∧ Below W.heap.size W w') := ⟨fun W hb x hx => hasLbd_calls W v1 o x hx (HL3.out.1.kept hb)⟩
  have HasE : Aside0 (∀ W, Below W3.heap.size W3 W → ∀ x, 0 ≤ x → Calls Tryd.prog 128 #[v2, .int .u64 x] W fun e w' => e = .returned (.bool (hasEff p x)) ∧ Below W.heap.size W w') := ⟨fun W hb x hx => hasE_calls W v2 p x (HL3.out.2.kept hb)⟩
  clear hq0 hql hqe hr
  by_cases h1 : q0 = 0
  rotate_left
  · have z1 : (q0 == 0) = false := beq_eq_false_iff_ne.mpr h1
    have HZ : Aside0 ((r == 0) = (false && la.all (fun x => termOk (hasLat o) lv x.f3) && xa.all (fun x => termOk (hasEff p) ev x.f3))) := ⟨by rw [HZ1.out, z1]; rfl⟩
    clear h1 HZ1
    go_wp2_with (go_at_call 18; (with_reducible refine (CK.out _ HB.out).mono ?_); rintro e W' ⟨rfl, hb'⟩; replace c0 := pw_cell_below hb' c0; replace c1 := pw_cell_below hb' c1; replace c2 := pw_cell_below hb' c2; replace c3 := pw_cell_below hb' c3; replace c4 := pw_cell_below hb' c4; have HB' := Aside0.mk (below_step HB.out hb'); clear HB hb'; have HB := HB'; clear HB')
    clear c0 c1 c2 c3 c4
    go_loopg [9, 10] (X + 1) (fun g b i W => ∃ i1 : Nat, i = .int .i64 (i1 : Int) ∧ b = .bool (false && (la.take i1).all (fun x => termOk (hasLat o) lv x.f3)) ∧ i1 ≤ X ∧ X + 1 - i1 ≤ g ∧ Aside0 (Below W3.heap.size W3 W))
    case atStart => exact ⟨0, rfl, by simp, by omega, by omega, HB⟩
    case round =>
      clear HB
      obtain ⟨i1, rfl, rfl, hk, hkg, HW⟩ := hrel
      obtain ⟨g1, hg2⟩ : ∃ b, b = (false && (la.take i1).all (fun x => termOk (hasLat o) lv x.f3)) := ⟨_, rfl⟩
      rw [← hg2]
      rcases Nat.lt_or_ge i1 X with hlt | hge
      · have hd : decide (i1 < X) = true := decide_eq_true hlt
        cases g1
        · have HGD : Aside0 (false = (false && la.all (fun x => termOk (hasLat o) lv x.f3))) := ⟨(all_take_false hg2.symm).symm⟩
          generalize wr = W4 at *
          have HW4 := HW
          clear hg2 HW
          go_wp2
          go_loopg [9, 11] (Y + 1) (fun g b i W => ∃ j : Nat, i = .int .i64 (j : Int) ∧ b = .bool (false && (xa.take j).all (fun x => termOk (hasEff p) ev x.f3)) ∧ j ≤ Y ∧ Y + 1 - j ≤ g ∧ Aside0 (Below W3.heap.size W3 W))
          case atStart => exact ⟨0, rfl, by simp, by omega, by omega, HW4⟩
          case round =>
            clear HW4
            obtain ⟨j, rfl, rfl, hj, hjg, HW⟩ := hrel
            obtain ⟨g2, hg2⟩ : ∃ b, b = (false && (xa.take j).all (fun x => termOk (hasEff p) ev x.f3)) := ⟨_, rfl⟩
            rw [← hg2]
            rcases Nat.lt_or_ge j Y with hlt | hge
            · have hd : decide (j < Y) = true := decide_eq_true hlt
              cases g2
              · have HZ2 : Aside0 ((r == 0) = false) := ⟨by rw [HZ.out, ← HGD.out]; exact all_take_false hg2.symm⟩
                clear hg2
                have z : (r == 0) = false := HZ2.out
                obtain ⟨c0, c1, c2, c3, c4⟩ := HC.out
                replace c0 := pw_cell_below HW.out c0; replace c1 := pw_cell_below HW.out c1; replace c2 := pw_cell_below HW.out c2; replace c3 := pw_cell_below HW.out c3; replace c4 := pw_cell_below HW.out c4
                have HB := HW
                clear HW
                go_wp2_with (first | (go_at_call 23; (with_reducible refine (alive12_calls _ ⟨tab_below (below_step HB3.out HB.out) HT.out⟩).mono ?_); rintro e W' ⟨rfl, hb'⟩; replace c0 := pw_cell_below hb' c0; replace c1 := pw_cell_below hb' c1; replace c2 := pw_cell_below hb' c2; replace c3 := pw_cell_below hb' c3; replace c4 := pw_cell_below hb' c4; have HB' := Aside0.mk (below_step HB.out hb'); clear HB hb'; have HB := HB'; clear HB') | (go_at_call 22; (with_reducible refine (S.out _ HB.out).mono ?_); rintro e W' ⟨rfl, hb'⟩; replace c0 := pw_cell_below hb' c0; replace c1 := pw_cell_below hb' c1; replace c2 := pw_cell_below hb' c2; replace c3 := pw_cell_below hb' c3; replace c4 := pw_cell_below hb' c4; have HB' := Aside0.mk (below_step HB.out hb'); clear HB hb'; have HB := HB'; clear HB'))
                go_ret
                exact ⟨rfl, below_step HB3.out HB.out⟩
              · simp at hg2
            · have hd : decide (j < Y) = false := decide_eq_false (by omega)
              obtain rfl : j = Y := by omega
              have HZ2 : Aside0 ((r == 0) = g2) := ⟨by rw [HZ.out, ← HGD.out, hg2, List.take_of_length_le (by rw [← HX.out.2]; exact Nat.le_refl _)]⟩
              clear hg2 hge hjg
              generalize wr = W6 at *
              cases g2
              · have z : (r == 0) = false := HZ2.out
                obtain ⟨c0, c1, c2, c3, c4⟩ := HC.out
                replace c0 := pw_cell_below HW.out c0; replace c1 := pw_cell_below HW.out c1; replace c2 := pw_cell_below HW.out c2; replace c3 := pw_cell_below HW.out c3; replace c4 := pw_cell_below HW.out c4
                have HB := HW
                clear HW
                go_wp2_with (first | (go_at_call 23; (with_reducible refine (alive12_calls _ ⟨tab_below (below_step HB3.out HB.out) HT.out⟩).mono ?_); rintro e W' ⟨rfl, hb'⟩; replace c0 := pw_cell_below hb' c0; replace c1 := pw_cell_below hb' c1; replace c2 := pw_cell_below hb' c2; replace c3 := pw_cell_below hb' c3; replace c4 := pw_cell_below hb' c4; have HB' := Aside0.mk (below_step HB.out hb'); clear HB hb'; have HB := HB'; clear HB') | (go_at_call 22; (with_reducible refine (S.out _ HB.out).mono ?_); rintro e W' ⟨rfl, hb'⟩; replace c0 := pw_cell_below hb' c0; replace c1 := pw_cell_below hb' c1; replace c2 := pw_cell_below hb' c2; replace c3 := pw_cell_below hb' c3; replace c4 := pw_cell_below hb' c4; have HB' := Aside0.mk (below_step HB.out hb'); clear HB hb'; have HB := HB'; clear HB'))
                go_ret
                exact ⟨rfl, below_step HB3.out HB.out⟩
              have z : (r == 0) = true := HZ2.out
              obtain ⟨c0, c1, c2, c3, c4⟩ := HC.out
              replace c0 := pw_cell_below HW.out c0; replace c1 := pw_cell_below HW.out c1; replace c2 := pw_cell_below HW.out c2; replace c3 := pw_cell_below HW.out c3; replace c4 := pw_cell_below HW.out c4
              have HB := HW
              clear HW
              go_wp2_with (first | (go_at_call 23; (with_reducible refine (alive12_calls _ ⟨tab_below (below_step HB3.out HB.out) HT.out⟩).mono ?_); rintro e W' ⟨rfl, hb'⟩; replace c0 := pw_cell_below hb' c0; replace c1 := pw_cell_below hb' c1; replace c2 := pw_cell_below hb' c2; replace c3 := pw_cell_below hb' c3; replace c4 := pw_cell_below hb' c4; have HB' := Aside0.mk (below_step HB.out hb'); clear HB hb'; have HB := HB'; clear HB') | (go_at_call 22; (with_reducible refine (S.out _ HB.out).mono ?_); rintro e W' ⟨rfl, hb'⟩; replace c0 := pw_cell_below hb' c0; replace c1 := pw_cell_below hb' c1; replace c2 := pw_cell_below hb' c2; replace c3 := pw_cell_below hb' c3; replace c4 := pw_cell_below hb' c4; have HB' := Aside0.mk (below_step HB.out hb'); clear HB hb'; have HB := HB'; clear HB'))
              go_ret
              exact ⟨rfl, below_step HB3.out HB.out⟩
        · simp at hg2
      · have hd : decide (i1 < X) = false := decide_eq_false (by omega)
        obtain rfl : i1 = X := by omega
        have HGD : Aside0 (g1 = (false && la.all (fun x => termOk (hasLat o) lv x.f3))) := ⟨by rw [hg2, List.take_of_length_le (by rw [← HX.out.1]; exact Nat.le_refl _)]⟩
        generalize wr = W4 at *
        have HW4 := HW
        clear hg2 HW hge hkg
        go_wp2
        go_loopg [9, 11] (Y + 1) (fun g b i W => ∃ j : Nat, i = .int .i64 (j : Int) ∧ b = .bool (g1 && (xa.take j).all (fun x => termOk (hasEff p) ev x.f3)) ∧ j ≤ Y ∧ Y + 1 - j ≤ g ∧ Aside0 (Below W3.heap.size W3 W))
        case atStart => exact ⟨0, rfl, by simp, by omega, by omega, HW4⟩
        case round =>
          clear HW4
          obtain ⟨j, rfl, rfl, hj, hjg, HW⟩ := hrel
          obtain ⟨g2, hg2⟩ : ∃ b, b = (g1 && (xa.take j).all (fun x => termOk (hasEff p) ev x.f3)) := ⟨_, rfl⟩
          rw [← hg2]
          rcases Nat.lt_or_ge j Y with hlt | hge
          · have hd : decide (j < Y) = true := decide_eq_true hlt
            cases g2
            · have HZ2 : Aside0 ((r == 0) = false) := ⟨by rw [HZ.out, ← HGD.out]; exact all_take_false hg2.symm⟩
              clear hg2
              have z : (r == 0) = false := HZ2.out
              obtain ⟨c0, c1, c2, c3, c4⟩ := HC.out
              replace c0 := pw_cell_below HW.out c0; replace c1 := pw_cell_below HW.out c1; replace c2 := pw_cell_below HW.out c2; replace c3 := pw_cell_below HW.out c3; replace c4 := pw_cell_below HW.out c4
              have HB := HW
              clear HW
              go_wp2_with (first | (go_at_call 23; (with_reducible refine (alive12_calls _ ⟨tab_below (below_step HB3.out HB.out) HT.out⟩).mono ?_); rintro e W' ⟨rfl, hb'⟩; replace c0 := pw_cell_below hb' c0; replace c1 := pw_cell_below hb' c1; replace c2 := pw_cell_below hb' c2; replace c3 := pw_cell_below hb' c3; replace c4 := pw_cell_below hb' c4; have HB' := Aside0.mk (below_step HB.out hb'); clear HB hb'; have HB := HB'; clear HB') | (go_at_call 22; (with_reducible refine (S.out _ HB.out).mono ?_); rintro e W' ⟨rfl, hb'⟩; replace c0 := pw_cell_below hb' c0; replace c1 := pw_cell_below hb' c1; replace c2 := pw_cell_below hb' c2; replace c3 := pw_cell_below hb' c3; replace c4 := pw_cell_below hb' c4; have HB' := Aside0.mk (below_step HB.out hb'); clear HB hb'; have HB := HB'; clear HB'))
              go_ret
              exact ⟨rfl, below_step HB3.out HB.out⟩
            · exact absurd hg2 (by rw [HGD.out]; simp)
          · have hd : decide (j < Y) = false := decide_eq_false (by omega)
            obtain rfl : j = Y := by omega
            have HZ2 : Aside0 ((r == 0) = g2) := ⟨by rw [HZ.out, ← HGD.out, hg2, List.take_of_length_le (by rw [← HX.out.2]; exact Nat.le_refl _)]⟩
            clear hg2 hge hjg
            generalize wr = W6 at *
            cases g2
            · have z : (r == 0) = false := HZ2.out
              obtain ⟨c0, c1, c2, c3, c4⟩ := HC.out
              replace c0 := pw_cell_below HW.out c0; replace c1 := pw_cell_below HW.out c1; replace c2 := pw_cell_below HW.out c2; replace c3 := pw_cell_below HW.out c3; replace c4 := pw_cell_below HW.out c4
              have HB := HW
              clear HW
              go_wp2_with (first | (go_at_call 23; (with_reducible refine (alive12_calls _ ⟨tab_below (below_step HB3.out HB.out) HT.out⟩).mono ?_); rintro e W' ⟨rfl, hb'⟩; replace c0 := pw_cell_below hb' c0; replace c1 := pw_cell_below hb' c1; replace c2 := pw_cell_below hb' c2; replace c3 := pw_cell_below hb' c3; replace c4 := pw_cell_below hb' c4; have HB' := Aside0.mk (below_step HB.out hb'); clear HB hb'; have HB := HB'; clear HB') | (go_at_call 22; (with_reducible refine (S.out _ HB.out).mono ?_); rintro e W' ⟨rfl, hb'⟩; replace c0 := pw_cell_below hb' c0; replace c1 := pw_cell_below hb' c1; replace c2 := pw_cell_below hb' c2; replace c3 := pw_cell_below hb' c3; replace c4 := pw_cell_below hb' c4; have HB' := Aside0.mk (below_step HB.out hb'); clear HB hb'; have HB := HB'; clear HB'))
              go_ret
              exact ⟨rfl, below_step HB3.out HB.out⟩
            have z : (r == 0) = true := HZ2.out
            obtain ⟨c0, c1, c2, c3, c4⟩ := HC.out
            replace c0 := pw_cell_below HW.out c0; replace c1 := pw_cell_below HW.out c1; replace c2 := pw_cell_below HW.out c2; replace c3 := pw_cell_below HW.out c3; replace c4 := pw_cell_below HW.out c4
            have HB := HW
            clear HW
            go_wp2_with (first | (go_at_call 23; (with_reducible refine (alive12_calls _ ⟨tab_below (below_step HB3.out HB.out) HT.out⟩).mono ?_); rintro e W' ⟨rfl, hb'⟩; replace c0 := pw_cell_below hb' c0; replace c1 := pw_cell_below hb' c1; replace c2 := pw_cell_below hb' c2; replace c3 := pw_cell_below hb' c3; replace c4 := pw_cell_below hb' c4; have HB' := Aside0.mk (below_step HB.out hb'); clear HB hb'; have HB := HB'; clear HB') | (go_at_call 22; (with_reducible refine (S.out _ HB.out).mono ?_); rintro e W' ⟨rfl, hb'⟩; replace c0 := pw_cell_below hb' c0; replace c1 := pw_cell_below hb' c1; replace c2 := pw_cell_below hb' c2; replace c3 := pw_cell_below hb' c3; replace c4 := pw_cell_below hb' c4; have HB' := Aside0.mk (below_step HB.out hb'); clear HB hb'; have HB := HB'; clear HB'))
            go_ret
            exact ⟨rfl, below_step HB3.out HB.out⟩
  have z1 : (q0 == 0) = true := beq_iff_eq.mpr h1
  by_cases h2 : ql = 0
  rotate_left
  · have z2 : (ql == 0) = false := beq_eq_false_iff_ne.mpr h2
    have HZ : Aside0 ((r == 0) = (false && la.all (fun x => termOk (hasLat o) lv x.f3) && xa.all (fun x => termOk (hasEff p) ev x.f3))) := ⟨by rw [HZ1.out, z1, z2]; rfl⟩
    clear h1 h2 HZ1
    go_wp2_with (first | (go_at_call 18; (with_reducible refine (CK.out _ HB.out).mono ?_); rintro e W' ⟨rfl, hb'⟩; replace c0 := pw_cell_below hb' c0; replace c1 := pw_cell_below hb' c1; replace c2 := pw_cell_below hb' c2; replace c3 := pw_cell_below hb' c3; replace c4 := pw_cell_below hb' c4; have HB' := Aside0.mk (below_step HB.out hb'); clear HB hb'; have HB := HB'; clear HB') | (go_at_call 26; (with_reducible refine (BL.out _ HB.out).mono ?_); rintro e W' ⟨rfl, hb'⟩; replace c0 := pw_cell_below hb' c0; replace c1 := pw_cell_below hb' c1; replace c2 := pw_cell_below hb' c2; replace c3 := pw_cell_below hb' c3; replace c4 := pw_cell_below hb' c4; have HB' := Aside0.mk (below_step HB.out hb'); clear HB hb'; have HB := HB'; clear HB'))
    clear c0 c1 c2 c3 c4
    go_loopg [9, 10] (X + 1) (fun g b i W => ∃ i1 : Nat, i = .int .i64 (i1 : Int) ∧ b = .bool (false && (la.take i1).all (fun x => termOk (hasLat o) lv x.f3)) ∧ i1 ≤ X ∧ X + 1 - i1 ≤ g ∧ Aside0 (Below W3.heap.size W3 W))
    case atStart => exact ⟨0, rfl, by simp, by omega, by omega, HB⟩
    case round =>
      clear HB
      obtain ⟨i1, rfl, rfl, hk, hkg, HW⟩ := hrel
      obtain ⟨g1, hg2⟩ : ∃ b, b = (false && (la.take i1).all (fun x => termOk (hasLat o) lv x.f3)) := ⟨_, rfl⟩
      rw [← hg2]
      rcases Nat.lt_or_ge i1 X with hlt | hge
      · have hd : decide (i1 < X) = true := decide_eq_true hlt
        cases g1
        · have HGD : Aside0 (false = (false && la.all (fun x => termOk (hasLat o) lv x.f3))) := ⟨(all_take_false hg2.symm).symm⟩
          generalize wr = W4 at *
          have HW4 := HW
          clear hg2 HW
          go_wp2
          go_loopg [9, 11] (Y + 1) (fun g b i W => ∃ j : Nat, i = .int .i64 (j : Int) ∧ b = .bool (false && (xa.take j).all (fun x => termOk (hasEff p) ev x.f3)) ∧ j ≤ Y ∧ Y + 1 - j ≤ g ∧ Aside0 (Below W3.heap.size W3 W))
          case atStart => exact ⟨0, rfl, by simp, by omega, by omega, HW4⟩
          case round =>
            clear HW4
            obtain ⟨j, rfl, rfl, hj, hjg, HW⟩ := hrel
            obtain ⟨g2, hg2⟩ : ∃ b, b = (false && (xa.take j).all (fun x => termOk (hasEff p) ev x.f3)) := ⟨_, rfl⟩
            rw [← hg2]
            rcases Nat.lt_or_ge j Y with hlt | hge
            · have hd : decide (j < Y) = true := decide_eq_true hlt
              cases g2
              · have HZ2 : Aside0 ((r == 0) = false) := ⟨by rw [HZ.out, ← HGD.out]; exact all_take_false hg2.symm⟩
                clear hg2
                have z : (r == 0) = false := HZ2.out
                obtain ⟨c0, c1, c2, c3, c4⟩ := HC.out
                replace c0 := pw_cell_below HW.out c0; replace c1 := pw_cell_below HW.out c1; replace c2 := pw_cell_below HW.out c2; replace c3 := pw_cell_below HW.out c3; replace c4 := pw_cell_below HW.out c4
                have HB := HW
                clear HW
                go_wp2_with (first | (go_at_call 23; (with_reducible refine (alive12_calls _ ⟨tab_below (below_step HB3.out HB.out) HT.out⟩).mono ?_); rintro e W' ⟨rfl, hb'⟩; replace c0 := pw_cell_below hb' c0; replace c1 := pw_cell_below hb' c1; replace c2 := pw_cell_below hb' c2; replace c3 := pw_cell_below hb' c3; replace c4 := pw_cell_below hb' c4; have HB' := Aside0.mk (below_step HB.out hb'); clear HB hb'; have HB := HB'; clear HB') | (go_at_call 22; (with_reducible refine (S.out _ HB.out).mono ?_); rintro e W' ⟨rfl, hb'⟩; replace c0 := pw_cell_below hb' c0; replace c1 := pw_cell_below hb' c1; replace c2 := pw_cell_below hb' c2; replace c3 := pw_cell_below hb' c3; replace c4 := pw_cell_below hb' c4; have HB' := Aside0.mk (below_step HB.out hb'); clear HB hb'; have HB := HB'; clear HB'))
                go_ret
                exact ⟨rfl, below_step HB3.out HB.out⟩
              · simp at hg2
            · have hd : decide (j < Y) = false := decide_eq_false (by omega)
              obtain rfl : j = Y := by omega
              have HZ2 : Aside0 ((r == 0) = g2) := ⟨by rw [HZ.out, ← HGD.out, hg2, List.take_of_length_le (by rw [← HX.out.2]; exact Nat.le_refl _)]⟩
              clear hg2 hge hjg
              generalize wr = W6 at *
              cases g2
              · have z : (r == 0) = false := HZ2.out
                obtain ⟨c0, c1, c2, c3, c4⟩ := HC.out
                replace c0 := pw_cell_below HW.out c0; replace c1 := pw_cell_below HW.out c1; replace c2 := pw_cell_below HW.out c2; replace c3 := pw_cell_below HW.out c3; replace c4 := pw_cell_below HW.out c4
                have HB := HW
                clear HW
                go_wp2_with (first | (go_at_call 23; (with_reducible refine (alive12_calls _ ⟨tab_below (below_step HB3.out HB.out) HT.out⟩).mono ?_); rintro e W' ⟨rfl, hb'⟩; replace c0 := pw_cell_below hb' c0; replace c1 := pw_cell_below hb' c1; replace c2 := pw_cell_below hb' c2; replace c3 := pw_cell_below hb' c3; replace c4 := pw_cell_below hb' c4; have HB' := Aside0.mk (below_step HB.out hb'); clear HB hb'; have HB := HB'; clear HB') | (go_at_call 22; (with_reducible refine (S.out _ HB.out).mono ?_); rintro e W' ⟨rfl, hb'⟩; replace c0 := pw_cell_below hb' c0; replace c1 := pw_cell_below hb' c1; replace c2 := pw_cell_below hb' c2; replace c3 := pw_cell_below hb' c3; replace c4 := pw_cell_below hb' c4; have HB' := Aside0.mk (below_step HB.out hb'); clear HB hb'; have HB := HB'; clear HB'))
                go_ret
                exact ⟨rfl, below_step HB3.out HB.out⟩
              have z : (r == 0) = true := HZ2.out
              obtain ⟨c0, c1, c2, c3, c4⟩ := HC.out
              replace c0 := pw_cell_below HW.out c0; replace c1 := pw_cell_below HW.out c1; replace c2 := pw_cell_below HW.out c2; replace c3 := pw_cell_below HW.out c3; replace c4 := pw_cell_below HW.out c4
              have HB := HW
              clear HW
              go_wp2_with (first | (go_at_call 23; (with_reducible refine (alive12_calls _ ⟨tab_below (below_step HB3.out HB.out) HT.out⟩).mono ?_); rintro e W' ⟨rfl, hb'⟩; replace c0 := pw_cell_below hb' c0; replace c1 := pw_cell_below hb' c1; replace c2 := pw_cell_below hb' c2; replace c3 := pw_cell_below hb' c3; replace c4 := pw_cell_below hb' c4; have HB' := Aside0.mk (below_step HB.out hb'); clear HB hb'; have HB := HB'; clear HB') | (go_at_call 22; (with_reducible refine (S.out _ HB.out).mono ?_); rintro e W' ⟨rfl, hb'⟩; replace c0 := pw_cell_below hb' c0; replace c1 := pw_cell_below hb' c1; replace c2 := pw_cell_below hb' c2; replace c3 := pw_cell_below hb' c3; replace c4 := pw_cell_below hb' c4; have HB' := Aside0.mk (below_step HB.out hb'); clear HB hb'; have HB := HB'; clear HB'))
              go_ret
              exact ⟨rfl, below_step HB3.out HB.out⟩
        · simp at hg2
      · have hd : decide (i1 < X) = false := decide_eq_false (by omega)
        obtain rfl : i1 = X := by omega
        have HGD : Aside0 (g1 = (false && la.all (fun x => termOk (hasLat o) lv x.f3))) := ⟨by rw [hg2, List.take_of_length_le (by rw [← HX.out.1]; exact Nat.le_refl _)]⟩
        generalize wr = W4 at *
        have HW4 := HW
        clear hg2 HW hge hkg
        go_wp2
        go_loopg [9, 11] (Y + 1) (fun g b i W => ∃ j : Nat, i = .int .i64 (j : Int) ∧ b = .bool (g1 && (xa.take j).all (fun x => termOk (hasEff p) ev x.f3)) ∧ j ≤ Y ∧ Y + 1 - j ≤ g ∧ Aside0 (Below W3.heap.size W3 W))
        case atStart => exact ⟨0, rfl, by simp, by omega, by omega, HW4⟩
        case round =>
          clear HW4
          obtain ⟨j, rfl, rfl, hj, hjg, HW⟩ := hrel
          obtain ⟨g2, hg2⟩ : ∃ b, b = (g1 && (xa.take j).all (fun x => termOk (hasEff p) ev x.f3)) := ⟨_, rfl⟩
          rw [← hg2]
          rcases Nat.lt_or_ge j Y with hlt | hge
          · have hd : decide (j < Y) = true := decide_eq_true hlt
            cases g2
            · have HZ2 : Aside0 ((r == 0) = false) := ⟨by rw [HZ.out, ← HGD.out]; exact all_take_false hg2.symm⟩
              clear hg2
              have z : (r == 0) = false := HZ2.out
              obtain ⟨c0, c1, c2, c3, c4⟩ := HC.out
              replace c0 := pw_cell_below HW.out c0; replace c1 := pw_cell_below HW.out c1; replace c2 := pw_cell_below HW.out c2; replace c3 := pw_cell_below HW.out c3; replace c4 := pw_cell_below HW.out c4
              have HB := HW
              clear HW
              go_wp2_with (first | (go_at_call 23; (with_reducible refine (alive12_calls _ ⟨tab_below (below_step HB3.out HB.out) HT.out⟩).mono ?_); rintro e W' ⟨rfl, hb'⟩; replace c0 := pw_cell_below hb' c0; replace c1 := pw_cell_below hb' c1; replace c2 := pw_cell_below hb' c2; replace c3 := pw_cell_below hb' c3; replace c4 := pw_cell_below hb' c4; have HB' := Aside0.mk (below_step HB.out hb'); clear HB hb'; have HB := HB'; clear HB') | (go_at_call 22; (with_reducible refine (S.out _ HB.out).mono ?_); rintro e W' ⟨rfl, hb'⟩; replace c0 := pw_cell_below hb' c0; replace c1 := pw_cell_below hb' c1; replace c2 := pw_cell_below hb' c2; replace c3 := pw_cell_below hb' c3; replace c4 := pw_cell_below hb' c4; have HB' := Aside0.mk (below_step HB.out hb'); clear HB hb'; have HB := HB'; clear HB'))
              go_ret
              exact ⟨rfl, below_step HB3.out HB.out⟩
            · exact absurd hg2 (by rw [HGD.out]; simp)
          · have hd : decide (j < Y) = false := decide_eq_false (by omega)
            obtain rfl : j = Y := by omega
            have HZ2 : Aside0 ((r == 0) = g2) := ⟨by rw [HZ.out, ← HGD.out, hg2, List.take_of_length_le (by rw [← HX.out.2]; exact Nat.le_refl _)]⟩
            clear hg2 hge hjg
            generalize wr = W6 at *
            cases g2
            · have z : (r == 0) = false := HZ2.out
              obtain ⟨c0, c1, c2, c3, c4⟩ := HC.out
              replace c0 := pw_cell_below HW.out c0; replace c1 := pw_cell_below HW.out c1; replace c2 := pw_cell_below HW.out c2; replace c3 := pw_cell_below HW.out c3; replace c4 := pw_cell_below HW.out c4
              have HB := HW
              clear HW
              go_wp2_with (first | (go_at_call 23; (with_reducible refine (alive12_calls _ ⟨tab_below (below_step HB3.out HB.out) HT.out⟩).mono ?_); rintro e W' ⟨rfl, hb'⟩; replace c0 := pw_cell_below hb' c0; replace c1 := pw_cell_below hb' c1; replace c2 := pw_cell_below hb' c2; replace c3 := pw_cell_below hb' c3; replace c4 := pw_cell_below hb' c4; have HB' := Aside0.mk (below_step HB.out hb'); clear HB hb'; have HB := HB'; clear HB') | (go_at_call 22; (with_reducible refine (S.out _ HB.out).mono ?_); rintro e W' ⟨rfl, hb'⟩; replace c0 := pw_cell_below hb' c0; replace c1 := pw_cell_below hb' c1; replace c2 := pw_cell_below hb' c2; replace c3 := pw_cell_below hb' c3; replace c4 := pw_cell_below hb' c4; have HB' := Aside0.mk (below_step HB.out hb'); clear HB hb'; have HB := HB'; clear HB'))
              go_ret
              exact ⟨rfl, below_step HB3.out HB.out⟩
            have z : (r == 0) = true := HZ2.out
            obtain ⟨c0, c1, c2, c3, c4⟩ := HC.out
            replace c0 := pw_cell_below HW.out c0; replace c1 := pw_cell_below HW.out c1; replace c2 := pw_cell_below HW.out c2; replace c3 := pw_cell_below HW.out c3; replace c4 := pw_cell_below HW.out c4
            have HB := HW
            clear HW
            go_wp2_with (first | (go_at_call 23; (with_reducible refine (alive12_calls _ ⟨tab_below (below_step HB3.out HB.out) HT.out⟩).mono ?_); rintro e W' ⟨rfl, hb'⟩; replace c0 := pw_cell_below hb' c0; replace c1 := pw_cell_below hb' c1; replace c2 := pw_cell_below hb' c2; replace c3 := pw_cell_below hb' c3; replace c4 := pw_cell_below hb' c4; have HB' := Aside0.mk (below_step HB.out hb'); clear HB hb'; have HB := HB'; clear HB') | (go_at_call 22; (with_reducible refine (S.out _ HB.out).mono ?_); rintro e W' ⟨rfl, hb'⟩; replace c0 := pw_cell_below hb' c0; replace c1 := pw_cell_below hb' c1; replace c2 := pw_cell_below hb' c2; replace c3 := pw_cell_below hb' c3; replace c4 := pw_cell_below hb' c4; have HB' := Aside0.mk (below_step HB.out hb'); clear HB hb'; have HB := HB'; clear HB'))
            go_ret
            exact ⟨rfl, below_step HB3.out HB.out⟩
  have z2 : (ql == 0) = true := beq_iff_eq.mpr h2
  by_cases h3 : qe = 0
  rotate_left
  · have z3 : (qe == 0) = false := beq_eq_false_iff_ne.mpr h3
    have HZ : Aside0 ((r == 0) = (false && la.all (fun x => termOk (hasLat o) lv x.f3) && xa.all (fun x => termOk (hasEff p) ev x.f3))) := ⟨by rw [HZ1.out, z1, z2, z3]; rfl⟩
    clear h1 h2 h3 HZ1
    go_wp2_with (first | (go_at_call 18; (with_reducible refine (CK.out _ HB.out).mono ?_); rintro e W' ⟨rfl, hb'⟩; replace c0 := pw_cell_below hb' c0; replace c1 := pw_cell_below hb' c1; replace c2 := pw_cell_below hb' c2; replace c3 := pw_cell_below hb' c3; replace c4 := pw_cell_below hb' c4; have HB' := Aside0.mk (below_step HB.out hb'); clear HB hb'; have HB := HB'; clear HB') | (go_at_call 26; (with_reducible refine (BL.out _ HB.out).mono ?_); rintro e W' ⟨rfl, hb'⟩; replace c0 := pw_cell_below hb' c0; replace c1 := pw_cell_below hb' c1; replace c2 := pw_cell_below hb' c2; replace c3 := pw_cell_below hb' c3; replace c4 := pw_cell_below hb' c4; have HB' := Aside0.mk (below_step HB.out hb'); clear HB hb'; have HB := HB'; clear HB') | (go_at_call 26; (with_reducible refine (BE.out _ HB.out).mono ?_); rintro e W' ⟨rfl, hb'⟩; replace c0 := pw_cell_below hb' c0; replace c1 := pw_cell_below hb' c1; replace c2 := pw_cell_below hb' c2; replace c3 := pw_cell_below hb' c3; replace c4 := pw_cell_below hb' c4; have HB' := Aside0.mk (below_step HB.out hb'); clear HB hb'; have HB := HB'; clear HB'))
    clear c0 c1 c2 c3 c4
    go_loopg [9, 10] (X + 1) (fun g b i W => ∃ i1 : Nat, i = .int .i64 (i1 : Int) ∧ b = .bool (false && (la.take i1).all (fun x => termOk (hasLat o) lv x.f3)) ∧ i1 ≤ X ∧ X + 1 - i1 ≤ g ∧ Aside0 (Below W3.heap.size W3 W))
    case atStart => exact ⟨0, rfl, by simp, by omega, by omega, HB⟩
    case round =>
      clear HB
      obtain ⟨i1, rfl, rfl, hk, hkg, HW⟩ := hrel
      obtain ⟨g1, hg2⟩ : ∃ b, b = (false && (la.take i1).all (fun x => termOk (hasLat o) lv x.f3)) := ⟨_, rfl⟩
      rw [← hg2]
      rcases Nat.lt_or_ge i1 X with hlt | hge
      · have hd : decide (i1 < X) = true := decide_eq_true hlt
        cases g1
        · have HGD : Aside0 (false = (false && la.all (fun x => termOk (hasLat o) lv x.f3))) := ⟨(all_take_false hg2.symm).symm⟩
          generalize wr = W4 at *
          have HW4 := HW
          clear hg2 HW
          go_wp2
          go_loopg [9, 11] (Y + 1) (fun g b i W => ∃ j : Nat, i = .int .i64 (j : Int) ∧ b = .bool (false && (xa.take j).all (fun x => termOk (hasEff p) ev x.f3)) ∧ j ≤ Y ∧ Y + 1 - j ≤ g ∧ Aside0 (Below W3.heap.size W3 W))
          case atStart => exact ⟨0, rfl, by simp, by omega, by omega, HW4⟩
          case round =>
            clear HW4
            obtain ⟨j, rfl, rfl, hj, hjg, HW⟩ := hrel
            obtain ⟨g2, hg2⟩ : ∃ b, b = (false && (xa.take j).all (fun x => termOk (hasEff p) ev x.f3)) := ⟨_, rfl⟩
            rw [← hg2]
            rcases Nat.lt_or_ge j Y with hlt | hge
            · have hd : decide (j < Y) = true := decide_eq_true hlt
              cases g2
              · have HZ2 : Aside0 ((r == 0) = false) := ⟨by rw [HZ.out, ← HGD.out]; exact all_take_false hg2.symm⟩
                clear hg2
                have z : (r == 0) = false := HZ2.out
                obtain ⟨c0, c1, c2, c3, c4⟩ := HC.out
                replace c0 := pw_cell_below HW.out c0; replace c1 := pw_cell_below HW.out c1; replace c2 := pw_cell_below HW.out c2; replace c3 := pw_cell_below HW.out c3; replace c4 := pw_cell_below HW.out c4
                have HB := HW
                clear HW
                go_wp2_with (first | (go_at_call 23; (with_reducible refine (alive12_calls _ ⟨tab_below (below_step HB3.out HB.out) HT.out⟩).mono ?_); rintro e W' ⟨rfl, hb'⟩; replace c0 := pw_cell_below hb' c0; replace c1 := pw_cell_below hb' c1; replace c2 := pw_cell_below hb' c2; replace c3 := pw_cell_below hb' c3; replace c4 := pw_cell_below hb' c4; have HB' := Aside0.mk (below_step HB.out hb'); clear HB hb'; have HB := HB'; clear HB') | (go_at_call 22; (with_reducible refine (S.out _ HB.out).mono ?_); rintro e W' ⟨rfl, hb'⟩; replace c0 := pw_cell_below hb' c0; replace c1 := pw_cell_below hb' c1; replace c2 := pw_cell_below hb' c2; replace c3 := pw_cell_below hb' c3; replace c4 := pw_cell_below hb' c4; have HB' := Aside0.mk (below_step HB.out hb'); clear HB hb'; have HB := HB'; clear HB'))
                go_ret
                exact ⟨rfl, below_step HB3.out HB.out⟩
              · simp at hg2
            · have hd : decide (j < Y) = false := decide_eq_false (by omega)
              obtain rfl : j = Y := by omega
              have HZ2 : Aside0 ((r == 0) = g2) := ⟨by rw [HZ.out, ← HGD.out, hg2, List.take_of_length_le (by rw [← HX.out.2]; exact Nat.le_refl _)]⟩
              clear hg2 hge hjg
              generalize wr = W6 at *
              cases g2
              · have z : (r == 0) = false := HZ2.out
                obtain ⟨c0, c1, c2, c3, c4⟩ := HC.out
                replace c0 := pw_cell_below HW.out c0; replace c1 := pw_cell_below HW.out c1; replace c2 := pw_cell_below HW.out c2; replace c3 := pw_cell_below HW.out c3; replace c4 := pw_cell_below HW.out c4
                have HB := HW
                clear HW
                go_wp2_with (first | (go_at_call 23; (with_reducible refine (alive12_calls _ ⟨tab_below (below_step HB3.out HB.out) HT.out⟩).mono ?_); rintro e W' ⟨rfl, hb'⟩; replace c0 := pw_cell_below hb' c0; replace c1 := pw_cell_below hb' c1; replace c2 := pw_cell_below hb' c2; replace c3 := pw_cell_below hb' c3; replace c4 := pw_cell_below hb' c4; have HB' := Aside0.mk (below_step HB.out hb'); clear HB hb'; have HB := HB'; clear HB') | (go_at_call 22; (with_reducible refine (S.out _ HB.out).mono ?_); rintro e W' ⟨rfl, hb'⟩; replace c0 := pw_cell_below hb' c0; replace c1 := pw_cell_below hb' c1; replace c2 := pw_cell_below hb' c2; replace c3 := pw_cell_below hb' c3; replace c4 := pw_cell_below hb' c4; have HB' := Aside0.mk (below_step HB.out hb'); clear HB hb'; have HB := HB'; clear HB'))
                go_ret
                exact ⟨rfl, below_step HB3.out HB.out⟩
              have z : (r == 0) = true := HZ2.out
              obtain ⟨c0, c1, c2, c3, c4⟩ := HC.out
              replace c0 := pw_cell_below HW.out c0; replace c1 := pw_cell_below HW.out c1; replace c2 := pw_cell_below HW.out c2; replace c3 := pw_cell_below HW.out c3; replace c4 := pw_cell_below HW.out c4
              have HB := HW
              clear HW
              go_wp2_with (first | (go_at_call 23; (with_reducible refine (alive12_calls _ ⟨tab_below (below_step HB3.out HB.out) HT.out⟩).mono ?_); rintro e W' ⟨rfl, hb'⟩; replace c0 := pw_cell_below hb' c0; replace c1 := pw_cell_below hb' c1; replace c2 := pw_cell_below hb' c2; replace c3 := pw_cell_below hb' c3; replace c4 := pw_cell_below hb' c4; have HB' := Aside0.mk (below_step HB.out hb'); clear HB hb'; have HB := HB'; clear HB') | (go_at_call 22; (with_reducible refine (S.out _ HB.out).mono ?_); rintro e W' ⟨rfl, hb'⟩; replace c0 := pw_cell_below hb' c0; replace c1 := pw_cell_below hb' c1; replace c2 := pw_cell_below hb' c2; replace c3 := pw_cell_below hb' c3; replace c4 := pw_cell_below hb' c4; have HB' := Aside0.mk (below_step HB.out hb'); clear HB hb'; have HB := HB'; clear HB'))
              go_ret
              exact ⟨rfl, below_step HB3.out HB.out⟩
        · simp at hg2
      · have hd : decide (i1 < X) = false := decide_eq_false (by omega)
        obtain rfl : i1 = X := by omega
        have HGD : Aside0 (g1 = (false && la.all (fun x => termOk (hasLat o) lv x.f3))) := ⟨by rw [hg2, List.take_of_length_le (by rw [← HX.out.1]; exact Nat.le_refl _)]⟩
        generalize wr = W4 at *
        have HW4 := HW
        clear hg2 HW hge hkg
        go_wp2
        go_loopg [9, 11] (Y + 1) (fun g b i W => ∃ j : Nat, i = .int .i64 (j : Int) ∧ b = .bool (g1 && (xa.take j).all (fun x => termOk (hasEff p) ev x.f3)) ∧ j ≤ Y ∧ Y + 1 - j ≤ g ∧ Aside0 (Below W3.heap.size W3 W))
        case atStart => exact ⟨0, rfl, by simp, by omega, by omega, HW4⟩
        case round =>
          clear HW4
          obtain ⟨j, rfl, rfl, hj, hjg, HW⟩ := hrel
          obtain ⟨g2, hg2⟩ : ∃ b, b = (g1 && (xa.take j).all (fun x => termOk (hasEff p) ev x.f3)) := ⟨_, rfl⟩
          rw [← hg2]
          rcases Nat.lt_or_ge j Y with hlt | hge
          · have hd : decide (j < Y) = true := decide_eq_true hlt
            cases g2
            · have HZ2 : Aside0 ((r == 0) = false) := ⟨by rw [HZ.out, ← HGD.out]; exact all_take_false hg2.symm⟩
              clear hg2
              have z : (r == 0) = false := HZ2.out
              obtain ⟨c0, c1, c2, c3, c4⟩ := HC.out
              replace c0 := pw_cell_below HW.out c0; replace c1 := pw_cell_below HW.out c1; replace c2 := pw_cell_below HW.out c2; replace c3 := pw_cell_below HW.out c3; replace c4 := pw_cell_below HW.out c4
              have HB := HW
              clear HW
              go_wp2_with (first | (go_at_call 23; (with_reducible refine (alive12_calls _ ⟨tab_below (below_step HB3.out HB.out) HT.out⟩).mono ?_); rintro e W' ⟨rfl, hb'⟩; replace c0 := pw_cell_below hb' c0; replace c1 := pw_cell_below hb' c1; replace c2 := pw_cell_below hb' c2; replace c3 := pw_cell_below hb' c3; replace c4 := pw_cell_below hb' c4; have HB' := Aside0.mk (below_step HB.out hb'); clear HB hb'; have HB := HB'; clear HB') | (go_at_call 22; (with_reducible refine (S.out _ HB.out).mono ?_); rintro e W' ⟨rfl, hb'⟩; replace c0 := pw_cell_below hb' c0; replace c1 := pw_cell_below hb' c1; replace c2 := pw_cell_below hb' c2; replace c3 := pw_cell_below hb' c3; replace c4 := pw_cell_below hb' c4; have HB' := Aside0.mk (below_step HB.out hb'); clear HB hb'; have HB := HB'; clear HB'))
              go_ret
              exact ⟨rfl, below_step HB3.out HB.out⟩
            · exact absurd hg2 (by rw [HGD.out]; simp)
          · have hd : decide (j < Y) = false := decide_eq_false (by omega)
            obtain rfl : j = Y := by omega
            have HZ2 : Aside0 ((r == 0) = g2) := ⟨by rw [HZ.out, ← HGD.out, hg2, List.take_of_length_le (by rw [← HX.out.2]; exact Nat.le_refl _)]⟩
            clear hg2 hge hjg
            generalize wr = W6 at *
            cases g2
            · have z : (r == 0) = false := HZ2.out
              obtain ⟨c0, c1, c2, c3, c4⟩ := HC.out
              replace c0 := pw_cell_below HW.out c0; replace c1 := pw_cell_below HW.out c1; replace c2 := pw_cell_below HW.out c2; replace c3 := pw_cell_below HW.out c3; replace c4 := pw_cell_below HW.out c4
              have HB := HW
              clear HW
              go_wp2_with (first | (go_at_call 23; (with_reducible refine (alive12_calls _ ⟨tab_below (below_step HB3.out HB.out) HT.out⟩).mono ?_); rintro e W' ⟨rfl, hb'⟩; replace c0 := pw_cell_below hb' c0; replace c1 := pw_cell_below hb' c1; replace c2 := pw_cell_below hb' c2; replace c3 := pw_cell_below hb' c3; replace c4 := pw_cell_below hb' c4; have HB' := Aside0.mk (below_step HB.out hb'); clear HB hb'; have HB := HB'; clear HB') | (go_at_call 22; (with_reducible refine (S.out _ HB.out).mono ?_); rintro e W' ⟨rfl, hb'⟩; replace c0 := pw_cell_below hb' c0; replace c1 := pw_cell_below hb' c1; replace c2 := pw_cell_below hb' c2; replace c3 := pw_cell_below hb' c3; replace c4 := pw_cell_below hb' c4; have HB' := Aside0.mk (below_step HB.out hb'); clear HB hb'; have HB := HB'; clear HB'))
              go_ret
              exact ⟨rfl, below_step HB3.out HB.out⟩
            have z : (r == 0) = true := HZ2.out
            obtain ⟨c0, c1, c2, c3, c4⟩ := HC.out
            replace c0 := pw_cell_below HW.out c0; replace c1 := pw_cell_below HW.out c1; replace c2 := pw_cell_below HW.out c2; replace c3 := pw_cell_below HW.out c3; replace c4 := pw_cell_below HW.out c4
            have HB := HW
            clear HW
            go_wp2_with (first | (go_at_call 23; (with_reducible refine (alive12_calls _ ⟨tab_below (below_step HB3.out HB.out) HT.out⟩).mono ?_); rintro e W' ⟨rfl, hb'⟩; replace c0 := pw_cell_below hb' c0; replace c1 := pw_cell_below hb' c1; replace c2 := pw_cell_below hb' c2; replace c3 := pw_cell_below hb' c3; replace c4 := pw_cell_below hb' c4; have HB' := Aside0.mk (below_step HB.out hb'); clear HB hb'; have HB := HB'; clear HB') | (go_at_call 22; (with_reducible refine (S.out _ HB.out).mono ?_); rintro e W' ⟨rfl, hb'⟩; replace c0 := pw_cell_below hb' c0; replace c1 := pw_cell_below hb' c1; replace c2 := pw_cell_below hb' c2; replace c3 := pw_cell_below hb' c3; replace c4 := pw_cell_below hb' c4; have HB' := Aside0.mk (below_step HB.out hb'); clear HB hb'; have HB := HB'; clear HB'))
            go_ret
            exact ⟨rfl, below_step HB3.out HB.out⟩
  have z3 : (qe == 0) = true := beq_iff_eq.mpr h3
  have HZ : Aside0 ((r == 0) = (true && la.all (fun x => termOk (hasLat o) lv x.f3) && xa.all (fun x => termOk (hasEff p) ev x.f3))) := ⟨by rw [HZ1.out, z1, z2, z3]; rfl⟩
  obtain ⟨hl0, hl64, -⟩ := bounds_vars (HQQ.out.2.1.symm.trans h2)
  obtain ⟨he0, he64, -⟩ := bounds_vars (HQQ.out.2.2.symm.trans h3)
  obtain ⟨lv, rfl⟩ := Int.eq_ofNat_of_zero_le hl0
  obtain ⟨ev, rfl⟩ := Int.eq_ofNat_of_zero_le he0
  have hl64' : lv ≤ 64 := by omega
  have he64' : ev ≤ 64 := by omega
  clear h1 h2 h3 HZ1 HR HQQ hl0 hl64 he0 he64
  go_wp2_with (first | (go_at_call 18; (with_reducible refine (CK.out _ HB.out).mono ?_); rintro e W' ⟨rfl, hb'⟩; replace c0 := pw_cell_below hb' c0; replace c1 := pw_cell_below hb' c1; replace c2 := pw_cell_below hb' c2; replace c3 := pw_cell_below hb' c3; replace c4 := pw_cell_below hb' c4; have HB' := Aside0.mk (below_step HB.out hb'); clear HB hb'; have HB := HB'; clear HB') | (go_at_call 26; (with_reducible refine (BL.out _ HB.out).mono ?_); rintro e W' ⟨rfl, hb'⟩; replace c0 := pw_cell_below hb' c0; replace c1 := pw_cell_below hb' c1; replace c2 := pw_cell_below hb' c2; replace c3 := pw_cell_below hb' c3; replace c4 := pw_cell_below hb' c4; have HB' := Aside0.mk (below_step HB.out hb'); clear HB hb'; have HB := HB'; clear HB') | (go_at_call 26; (with_reducible refine (BE.out _ HB.out).mono ?_); rintro e W' ⟨rfl, hb'⟩; replace c0 := pw_cell_below hb' c0; replace c1 := pw_cell_below hb' c1; replace c2 := pw_cell_below hb' c2; replace c3 := pw_cell_below hb' c3; replace c4 := pw_cell_below hb' c4; have HB' := Aside0.mk (below_step HB.out hb'); clear HB hb'; have HB := HB'; clear HB'))
  clear c0 c1 c2 c3 c4
  go_loopg [9, 10] (X + 1) (fun g b i W => ∃ i1 : Nat, i = .int .i64 (i1 : Int) ∧ b = .bool (true && (la.take i1).all (fun x => termOk (hasLat o) (lv : Int) x.f3)) ∧ i1 ≤ X ∧ X + 1 - i1 ≤ g ∧ Aside0 (Below W3.heap.size W3 W))
  case atStart => exact ⟨0, rfl, by simp, by omega, by omega, HB⟩
  case round =>
    clear HB
    obtain ⟨i1, rfl, rfl, hk, hkg, HW⟩ := hrel
    obtain ⟨g1, hg2⟩ : ∃ b, b = (true && (la.take i1).all (fun x => termOk (hasLat o) (lv : Int) x.f3)) := ⟨_, rfl⟩
    rw [← hg2]
    rcases Nat.lt_or_ge i1 X with hlt | hge
    · have hd : decide (i1 < X) = true := decide_eq_true hlt
      cases g1
      · have HGD : Aside0 (false = (true && la.all (fun x => termOk (hasLat o) (lv : Int) x.f3))) := ⟨(all_take_false hg2.symm).symm⟩
        generalize wr = W4 at *
        have HW4 := HW
        clear hg2 HW
        go_wp2
        go_loopg [9, 11] (Y + 1) (fun g b i W => ∃ j : Nat, i = .int .i64 (j : Int) ∧ b = .bool (false && (xa.take j).all (fun x => termOk (hasEff p) (ev : Int) x.f3)) ∧ j ≤ Y ∧ Y + 1 - j ≤ g ∧ Aside0 (Below W3.heap.size W3 W))
        case atStart => exact ⟨0, rfl, by simp, by omega, by omega, HW4⟩
        case round =>
          clear HW4
          obtain ⟨j, rfl, rfl, hj, hjg, HW⟩ := hrel
          obtain ⟨g2, hg2⟩ : ∃ b, b = (false && (xa.take j).all (fun x => termOk (hasEff p) (ev : Int) x.f3)) := ⟨_, rfl⟩
          rw [← hg2]
          rcases Nat.lt_or_ge j Y with hlt | hge
          · have hd : decide (j < Y) = true := decide_eq_true hlt
            cases g2
            · have HZ2 : Aside0 ((r == 0) = false) := ⟨by rw [HZ.out, ← HGD.out]; exact all_take_false hg2.symm⟩
              clear hg2
              have z : (r == 0) = false := HZ2.out
              obtain ⟨c0, c1, c2, c3, c4⟩ := HC.out
              replace c0 := pw_cell_below HW.out c0; replace c1 := pw_cell_below HW.out c1; replace c2 := pw_cell_below HW.out c2; replace c3 := pw_cell_below HW.out c3; replace c4 := pw_cell_below HW.out c4
              have HB := HW
              clear HW
              go_wp2_with (first | (go_at_call 23; (with_reducible refine (alive12_calls _ ⟨tab_below (below_step HB3.out HB.out) HT.out⟩).mono ?_); rintro e W' ⟨rfl, hb'⟩; replace c0 := pw_cell_below hb' c0; replace c1 := pw_cell_below hb' c1; replace c2 := pw_cell_below hb' c2; replace c3 := pw_cell_below hb' c3; replace c4 := pw_cell_below hb' c4; have HB' := Aside0.mk (below_step HB.out hb'); clear HB hb'; have HB := HB'; clear HB') | (go_at_call 22; (with_reducible refine (S.out _ HB.out).mono ?_); rintro e W' ⟨rfl, hb'⟩; replace c0 := pw_cell_below hb' c0; replace c1 := pw_cell_below hb' c1; replace c2 := pw_cell_below hb' c2; replace c3 := pw_cell_below hb' c3; replace c4 := pw_cell_below hb' c4; have HB' := Aside0.mk (below_step HB.out hb'); clear HB hb'; have HB := HB'; clear HB'))
              go_ret
              exact ⟨rfl, below_step HB3.out HB.out⟩
            · simp at hg2
          · have hd : decide (j < Y) = false := decide_eq_false (by omega)
            obtain rfl : j = Y := by omega
            have HZ2 : Aside0 ((r == 0) = g2) := ⟨by rw [HZ.out, ← HGD.out, hg2, List.take_of_length_le (by rw [← HX.out.2]; exact Nat.le_refl _)]⟩
            clear hg2 hge hjg
            generalize wr = W6 at *
            cases g2
            · have z : (r == 0) = false := HZ2.out
              obtain ⟨c0, c1, c2, c3, c4⟩ := HC.out
              replace c0 := pw_cell_below HW.out c0; replace c1 := pw_cell_below HW.out c1; replace c2 := pw_cell_below HW.out c2; replace c3 := pw_cell_below HW.out c3; replace c4 := pw_cell_below HW.out c4
              have HB := HW
              clear HW
              go_wp2_with (first | (go_at_call 23; (with_reducible refine (alive12_calls _ ⟨tab_below (below_step HB3.out HB.out) HT.out⟩).mono ?_); rintro e W' ⟨rfl, hb'⟩; replace c0 := pw_cell_below hb' c0; replace c1 := pw_cell_below hb' c1; replace c2 := pw_cell_below hb' c2; replace c3 := pw_cell_below hb' c3; replace c4 := pw_cell_below hb' c4; have HB' := Aside0.mk (below_step HB.out hb'); clear HB hb'; have HB := HB'; clear HB') | (go_at_call 22; (with_reducible refine (S.out _ HB.out).mono ?_); rintro e W' ⟨rfl, hb'⟩; replace c0 := pw_cell_below hb' c0; replace c1 := pw_cell_below hb' c1; replace c2 := pw_cell_below hb' c2; replace c3 := pw_cell_below hb' c3; replace c4 := pw_cell_below hb' c4; have HB' := Aside0.mk (below_step HB.out hb'); clear HB hb'; have HB := HB'; clear HB'))
              go_ret
              exact ⟨rfl, below_step HB3.out HB.out⟩
            have z : (r == 0) = true := HZ2.out
            obtain ⟨c0, c1, c2, c3, c4⟩ := HC.out
            replace c0 := pw_cell_below HW.out c0; replace c1 := pw_cell_below HW.out c1; replace c2 := pw_cell_below HW.out c2; replace c3 := pw_cell_below HW.out c3; replace c4 := pw_cell_below HW.out c4
            have HB := HW
            clear HW
            go_wp2_with (first | (go_at_call 23; (with_reducible refine (alive12_calls _ ⟨tab_below (below_step HB3.out HB.out) HT.out⟩).mono ?_); rintro e W' ⟨rfl, hb'⟩; replace c0 := pw_cell_below hb' c0; replace c1 := pw_cell_below hb' c1; replace c2 := pw_cell_below hb' c2; replace c3 := pw_cell_below hb' c3; replace c4 := pw_cell_below hb' c4; have HB' := Aside0.mk (below_step HB.out hb'); clear HB hb'; have HB := HB'; clear HB') | (go_at_call 22; (with_reducible refine (S.out _ HB.out).mono ?_); rintro e W' ⟨rfl, hb'⟩; replace c0 := pw_cell_below hb' c0; replace c1 := pw_cell_below hb' c1; replace c2 := pw_cell_below hb' c2; replace c3 := pw_cell_below hb' c3; replace c4 := pw_cell_below hb' c4; have HB' := Aside0.mk (below_step HB.out hb'); clear HB hb'; have HB := HB'; clear HB'))
            go_ret
            exact ⟨rfl, below_step HB3.out HB.out⟩
      · have hkx : i1 < la.length := by rw [← HX.out.1]; exact hlt
        obtain ⟨adx, e2, -, -, -, x3, x4⟩ := C_spotN (by rw [← HX.out.1]; exact Kd.C_below HS.out.1 HW.out) i1 hkx
        subst e2
        obtain ⟨b, hb⟩ : ∃ b, b = la[i1].f3 := ⟨_, rfl⟩
        have hu : 0 ≤ b.f1 := by rw [hb]; exact NN.out.1 _ (List.getElem_mem _)
        rw [← hb] at x3 x4
        have HM : Aside0 ((true && (la.take (i1 + 1)).all (fun x => termOk (hasLat o) (lv : Int) x.f3)) = termOk (hasLat o) (lv : Int) b) := ⟨by
          have h0 : (la.take i1).all (fun x => termOk (hasLat o) (lv : Int) x.f3) = true := by simpa using hg2.symm
          rw [List.take_succ_eq_append_getElem hkx, List.all_append, h0, hb]; simp⟩
        obtain ⟨t0, t1⟩ := b
        simp only at x3 x4 hu
        have HU := Aside0.mk hu
        obtain ⟨c0, c1, c2, c3, c4⟩ := HC.out
        replace c0 := pw_cell_below HW.out c0
        clear hb hg2 hu c1 c2 c3 c4
        cases t0
        · obtain ⟨h, hh⟩ : ∃ h, hasLat o t1 = h := ⟨_, rfl⟩
          have HM2 : Aside0 ((true && (la.take (i1 + 1)).all (fun x => termOk (hasLat o) (lv : Int) x.f3)) = h) := ⟨by rw [HM.out, ← hh]; rfl⟩
          have HH := Aside0.mk hh
          clear hh HM
          have HB := Aside0.mk HW.out.drew
          have mh := mHasBdL
          have nh := nilHasL
          go_wp2
          refine region_quiet_tail 37 (by kernel_rfl) (by kernel_rfl) ?_
          simp only [List.take_succ_cons, List.take_zero, List.drop_succ_cons, List.drop_zero]
          repeat (go_big_quiet_step (fail))
          refine wpQuiet_nil ?_
          generalize World.drew wr = wd at *
          go_wp2_with (go_at_call 27; (with_reducible refine (HasL.out _ HB.out _ HU.out).mono ?_); rintro e W' ⟨rfl, hb'⟩; rw [HH.out]; have HB' := Aside0.mk (below_step HB.out hb'); clear HB hb'; have HB := HB'; clear HB')
          go_roundg (gk - 1)
          case measure => omega
          case rel => exact ⟨i1 + 1, by go_num, by rw [HM2.out], by omega, by omega, HB⟩
        have hl := HM.out.trans (show termOk (hasLat o) (lv : Int) ⟨true, t1⟩ = decide (t1 < (lv : Int)) from rfl)
        cases z : decide (t1 < (lv : Int))
        · rw [z] at hl
          have HM2 := Aside0.mk hl
          clear hl HM
          go_wp2
          go_quiet (fail)
          go_wp2
          go_roundg (gk - 1)
          case measure => omega
          case rel => exact ⟨i1 + 1, by go_num, by rw [HM2.out], by omega, by omega, ⟨pw_below_drewN HW.out _⟩⟩
        rw [z] at hl
        have HM2 := Aside0.mk hl
        clear hl HM
        go_wp2
        go_quiet (fail)
        go_wp2
        go_roundg (gk - 1)
        case measure => omega
        case rel => exact ⟨i1 + 1, by go_num, by rw [HM2.out], by omega, by omega, ⟨pw_below_drewN HW.out _⟩⟩
    · have hd : decide (i1 < X) = false := decide_eq_false (by omega)
      obtain rfl : i1 = X := by omega
      have HGD : Aside0 (g1 = (true && la.all (fun x => termOk (hasLat o) (lv : Int) x.f3))) := ⟨by rw [hg2, List.take_of_length_le (by rw [← HX.out.1]; exact Nat.le_refl _)]⟩
      generalize wr = W4 at *
      have HW4 := HW
      clear hg2 HW hge hkg
      go_wp2
      go_loopg [9, 11] (Y + 1) (fun g b i W => ∃ j : Nat, i = .int .i64 (j : Int) ∧ b = .bool (g1 && (xa.take j).all (fun x => termOk (hasEff p) (ev : Int) x.f3)) ∧ j ≤ Y ∧ Y + 1 - j ≤ g ∧ Aside0 (Below W3.heap.size W3 W))
      case atStart => exact ⟨0, rfl, by simp, by omega, by omega, HW4⟩
      case round =>
        clear HW4
        obtain ⟨j, rfl, rfl, hj, hjg, HW⟩ := hrel
        obtain ⟨g2, hg2⟩ : ∃ b, b = (g1 && (xa.take j).all (fun x => termOk (hasEff p) (ev : Int) x.f3)) := ⟨_, rfl⟩
        rw [← hg2]
        rcases Nat.lt_or_ge j Y with hlt | hge
        · have hd : decide (j < Y) = true := decide_eq_true hlt
          cases g2
          · have HZ2 : Aside0 ((r == 0) = false) := ⟨by rw [HZ.out, ← HGD.out]; exact all_take_false hg2.symm⟩
            clear hg2
            have z : (r == 0) = false := HZ2.out
            obtain ⟨c0, c1, c2, c3, c4⟩ := HC.out
            replace c0 := pw_cell_below HW.out c0; replace c1 := pw_cell_below HW.out c1; replace c2 := pw_cell_below HW.out c2; replace c3 := pw_cell_below HW.out c3; replace c4 := pw_cell_below HW.out c4
            have HB := HW
            clear HW
            go_wp2_with (first | (go_at_call 23; (with_reducible refine (alive12_calls _ ⟨tab_below (below_step HB3.out HB.out) HT.out⟩).mono ?_); rintro e W' ⟨rfl, hb'⟩; replace c0 := pw_cell_below hb' c0; replace c1 := pw_cell_below hb' c1; replace c2 := pw_cell_below hb' c2; replace c3 := pw_cell_below hb' c3; replace c4 := pw_cell_below hb' c4; have HB' := Aside0.mk (below_step HB.out hb'); clear HB hb'; have HB := HB'; clear HB') | (go_at_call 22; (with_reducible refine (S.out _ HB.out).mono ?_); rintro e W' ⟨rfl, hb'⟩; replace c0 := pw_cell_below hb' c0; replace c1 := pw_cell_below hb' c1; replace c2 := pw_cell_below hb' c2; replace c3 := pw_cell_below hb' c3; replace c4 := pw_cell_below hb' c4; have HB' := Aside0.mk (below_step HB.out hb'); clear HB hb'; have HB := HB'; clear HB'))
            go_ret
            exact ⟨rfl, below_step HB3.out HB.out⟩
          · have hq := hg2.symm; rw [Bool.and_eq_true] at hq; obtain rfl := hq.1; clear hq
            have hkx : j < xa.length := by rw [← HX.out.2]; exact hlt
            obtain ⟨adx, e2, -, -, -, x3, x4⟩ := C_spotN (by rw [← HX.out.2]; exact Kd.C_below HS.out.2 HW.out) j hkx
            subst e2
            obtain ⟨b, hb⟩ : ∃ b, b = xa[j].f3 := ⟨_, rfl⟩
            have hu : 0 ≤ b.f1 := by rw [hb]; exact NN.out.2 _ (List.getElem_mem _)
            rw [← hb] at x3 x4
            have HM : Aside0 ((true && (xa.take (j + 1)).all (fun x => termOk (hasEff p) (ev : Int) x.f3)) = termOk (hasEff p) (ev : Int) b) := ⟨by
              have h0 : (xa.take j).all (fun x => termOk (hasEff p) (ev : Int) x.f3) = true := by simpa using hg2.symm
              rw [List.take_succ_eq_append_getElem hkx, List.all_append, h0, hb]; simp⟩
            obtain ⟨t0, t1⟩ := b
            simp only at x3 x4 hu
            have HU := Aside0.mk hu
            obtain ⟨c0, c1, c2, c3, c4⟩ := HC.out
            replace c1 := pw_cell_below HW.out c1
            clear hb hg2 hu c0 c2 c3 c4
            cases t0
            · obtain ⟨h, hh⟩ : ∃ h, hasEff p t1 = h := ⟨_, rfl⟩
              have HM2 : Aside0 ((true && (xa.take (j + 1)).all (fun x => termOk (hasEff p) (ev : Int) x.f3)) = h) := ⟨by rw [HM.out, ← hh]; rfl⟩
              have HH := Aside0.mk hh
              clear hh HM
              have HB := Aside0.mk HW.out.drew
              have mh := mHasBdE
              have nh := nilHasE
              go_wp2
              refine region_quiet_tail 37 (by kernel_rfl) (by kernel_rfl) ?_
              simp only [List.take_succ_cons, List.take_zero, List.drop_succ_cons, List.drop_zero]
              repeat (go_big_quiet_step (fail))
              refine wpQuiet_nil ?_
              generalize World.drew wr = wd at *
              go_wp2_with (go_at_call 128; (with_reducible refine (HasE.out _ HB.out _ HU.out).mono ?_); rintro e W' ⟨rfl, hb'⟩; rw [HH.out]; have HB' := Aside0.mk (below_step HB.out hb'); clear HB hb'; have HB := HB'; clear HB')
              go_roundg (gk - 1)
              case measure => omega
              case rel => exact ⟨j + 1, by go_num, by rw [HM2.out], by omega, by omega, HB⟩
            have hl := HM.out.trans (show termOk (hasEff p) (ev : Int) ⟨true, t1⟩ = decide (t1 < (ev : Int)) from rfl)
            cases z : decide (t1 < (ev : Int))
            · rw [z] at hl
              have HM2 := Aside0.mk hl
              clear hl HM
              go_wp2
              go_quiet (fail)
              go_wp2
              go_roundg (gk - 1)
              case measure => omega
              case rel => exact ⟨j + 1, by go_num, by rw [HM2.out], by omega, by omega, ⟨pw_below_drewN HW.out _⟩⟩
            rw [z] at hl
            have HM2 := Aside0.mk hl
            clear hl HM
            go_wp2
            go_quiet (fail)
            go_wp2
            go_roundg (gk - 1)
            case measure => omega
            case rel => exact ⟨j + 1, by go_num, by rw [HM2.out], by omega, by omega, ⟨pw_below_drewN HW.out _⟩⟩
        · have hd : decide (j < Y) = false := decide_eq_false (by omega)
          obtain rfl : j = Y := by omega
          have HZ2 : Aside0 ((r == 0) = g2) := ⟨by rw [HZ.out, ← HGD.out, hg2, List.take_of_length_le (by rw [← HX.out.2]; exact Nat.le_refl _)]⟩
          clear hg2 hge hjg
          generalize wr = W6 at *
          cases g2
          · have z : (r == 0) = false := HZ2.out
            obtain ⟨c0, c1, c2, c3, c4⟩ := HC.out
            replace c0 := pw_cell_below HW.out c0; replace c1 := pw_cell_below HW.out c1; replace c2 := pw_cell_below HW.out c2; replace c3 := pw_cell_below HW.out c3; replace c4 := pw_cell_below HW.out c4
            have HB := HW
            clear HW
            go_wp2_with (first | (go_at_call 23; (with_reducible refine (alive12_calls _ ⟨tab_below (below_step HB3.out HB.out) HT.out⟩).mono ?_); rintro e W' ⟨rfl, hb'⟩; replace c0 := pw_cell_below hb' c0; replace c1 := pw_cell_below hb' c1; replace c2 := pw_cell_below hb' c2; replace c3 := pw_cell_below hb' c3; replace c4 := pw_cell_below hb' c4; have HB' := Aside0.mk (below_step HB.out hb'); clear HB hb'; have HB := HB'; clear HB') | (go_at_call 22; (with_reducible refine (S.out _ HB.out).mono ?_); rintro e W' ⟨rfl, hb'⟩; replace c0 := pw_cell_below hb' c0; replace c1 := pw_cell_below hb' c1; replace c2 := pw_cell_below hb' c2; replace c3 := pw_cell_below hb' c3; replace c4 := pw_cell_below hb' c4; have HB' := Aside0.mk (below_step HB.out hb'); clear HB hb'; have HB := HB'; clear HB'))
            go_ret
            exact ⟨rfl, below_step HB3.out HB.out⟩
          have z : (r == 0) = true := HZ2.out
          obtain ⟨c0, c1, c2, c3, c4⟩ := HC.out
          replace c0 := pw_cell_below HW.out c0; replace c1 := pw_cell_below HW.out c1; replace c2 := pw_cell_below HW.out c2; replace c3 := pw_cell_below HW.out c3; replace c4 := pw_cell_below HW.out c4
          have HB := HW
          clear HW
          go_wp2_with (first | (go_at_call 23; (with_reducible refine (alive12_calls _ ⟨tab_below (below_step HB3.out HB.out) HT.out⟩).mono ?_); rintro e W' ⟨rfl, hb'⟩; replace c0 := pw_cell_below hb' c0; replace c1 := pw_cell_below hb' c1; replace c2 := pw_cell_below hb' c2; replace c3 := pw_cell_below hb' c3; replace c4 := pw_cell_below hb' c4; have HB' := Aside0.mk (below_step HB.out hb'); clear HB hb'; have HB := HB'; clear HB') | (go_at_call 22; (with_reducible refine (S.out _ HB.out).mono ?_); rintro e W' ⟨rfl, hb'⟩; replace c0 := pw_cell_below hb' c0; replace c1 := pw_cell_below hb' c1; replace c2 := pw_cell_below hb' c2; replace c3 := pw_cell_below hb' c3; replace c4 := pw_cell_below hb' c4; have HB' := Aside0.mk (below_step HB.out hb'); clear HB hb'; have HB := HB'; clear HB'))
          go_ret
          exact ⟨rfl, below_step HB3.out HB.out⟩
end L12
end Go.Proofs.YtkndpgbpdidlgaaDoor
