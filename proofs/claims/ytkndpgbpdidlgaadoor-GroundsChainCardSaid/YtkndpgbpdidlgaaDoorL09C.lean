/- The law GroundsChain: a walk through its code at every input. -/
import Derived.Test.YtkndpgbpdidlgaaDoorL09B
import Derived.Test.YtkndpgbpdidlgaaDoorSn
namespace Go.Proofs.YtkndpgbpdidlgaaDoor
open Go.RowKit Go.Proofs.YtkndpgbpdidlgaaDoorW.PrintWords Go.Proofs.YtkndpgbpdidlgaaDoorW.PrintLast Go.Proofs.YtkndpgbpdidlgaaDoorW.PrintMore
set_option linter.unusedVariables false
set_option linter.unusedSimpArgs false
namespace L09
set_option maxRecDepth 100000 in
set_option maxHeartbeats 8000000 in
theorem chain_walk (w : World) (ht : TabAt 0 Lib.deBruijn64tab w) (z : BodyY × BodyY × BodyY) (hz : z.1.ok w ∧ z.2.1.ok w ∧ z.2.2.ok w) (y : SortsY) (hy : y.ok w) :
    Calls Tryd.prog 4 #[.agg #[z.1.v, z.2.1.v, z.2.2.v], y.v] w fun e w' => e = .returned (.bool true) ∧ Below w.heap.size w w' := by
  obtain ⟨D, f, rows, m⟩ := y
  obtain ⟨⟨A0, d0, a⟩, ⟨A1, d1, b⟩, ⟨A2, d2, c⟩⟩ := z
  obtain ⟨⟨-, hr0, hwa⟩, ⟨-, hr1, hwb⟩, ⟨-, hr2, hwc⟩⟩ := hz
  obtain ⟨-, hs, hU, -⟩ := hy
  simp only at hr0 hwa hr1 hwb hr2 hwc hs hU
  simp only [SortsY.v, BodyY.v]
  have HT := Aside0.mk ht
  have HR0 := Aside0.mk hr0
  have HR1 := Aside0.mk hr1
  have HR2 := Aside0.mk hr2
  have HWA := Aside0.mk hwa
  have HWB := Aside0.mk hwb
  have HWC := Aside0.mk hwc
  have HZ := Aside0.mk hs
  have HU := Aside0.mk hU
  obtain ⟨n0, hn0⟩ : ∃ n, n = a.length := ⟨_, rfl⟩
  obtain ⟨n1, hn1⟩ : ∃ n, n = b.length := ⟨_, rfl⟩
  obtain ⟨n2, hn2⟩ : ∃ n, n = c.length := ⟨_, rfl⟩
  obtain ⟨q, hq⟩ : ∃ q, q = rows.length := ⟨_, rfl⟩
  have HN0 := Aside0.mk hn0
  have HN1 := Aside0.mk hn1
  have HN2 := Aside0.mk hn2
  have HQ := Aside0.mk hq
  rw [← hn0, ← hn1, ← hn2, ← hq]
  obtain ⟨O1, hO1⟩ : ∃ O : Obj, O = .cells #[.slice A0 n0 d0, .slice A1 n1 d1, .slice A2 n2 d2] 36 := ⟨_, rfl⟩
  obtain ⟨O, hO⟩ : ∃ O : Obj, O = .cells #[.slice D q f, .int .i64 m] 25 := ⟨_, rfl⟩
  have HB := Aside0.mk (below_alloc (below_alloc (Below.refl w.heap.size w) O1) O)
  have b1 : ((w.alloc O1).alloc O).heap[w.heap.size]? = some O1 := blk_alloc (blk_new w _) _
  have b2 : ((w.alloc O1).alloc O).heap[w.heap.size + 1]? = some O := by have := blk_new (w.alloc O1) O; rwa [World.size_alloc] at this
  subst hO hO1
  have c0 := blk_cell b1 0
  have c1 := blk_cell b1 1
  have c2 := blk_cell b1 2
  have c3 := blk_cell b2 0
  have c4 := blk_cell b2 1
  clear b1 b2
  have e0 : (#[Value.slice A0 n0 d0, .slice A1 n1 d1, .slice A2 n2 d2] : Array Value)[0]? = some (.slice A0 n0 d0) := rfl
  have e1 : (#[Value.slice A0 n0 d0, .slice A1 n1 d1, .slice A2 n2 d2] : Array Value)[1]? = some (.slice A1 n1 d1) := rfl
  have e2 : (#[Value.slice A0 n0 d0, .slice A1 n1 d1, .slice A2 n2 d2] : Array Value)[2]? = some (.slice A2 n2 d2) := rfl
  have e3 : (#[Value.slice D q f, .int .i64 m] : Array Value)[0]? = some (.slice D q f) := rfl
  have e4 : (#[Value.slice D q f, .int .i64 m] : Array Value)[1]? = some (.int .i64 m) := rfl
  rw [e0] at c0
  rw [e1] at c1
  rw [e2] at c2
  rw [e3] at c3
  rw [e4] at c4
  clear e0 e1 e2 e3 e4 ht hr0 hr1 hr2 hwa hwb hwc hs hU hn0 hn1 hn2 hq
  by_cases hb : 64 < q ∨ 200 < n0 ∨ 200 < n1
  · have HE : Aside0 (decide (64 < q ∨ 200 < n0 ∨ 200 < n1) = true) := ⟨decide_eq_true hb⟩
    clear hb
    go_enter Tryd.func4, Tryd.ntmps4
    go_wp2_with (first | (go_at_call 11; (with_reducible refine (great_calls _ _ _ _ _ _ _ _ _ _ _).mono ?_); rintro e W' ⟨rfl, hb'⟩; replace c0 := pw_cell_below hb' c0; replace c1 := pw_cell_below hb' c1; replace c2 := pw_cell_below hb' c2; replace c3 := pw_cell_below hb' c3; replace c4 := pw_cell_below hb' c4; have HB' := Aside0.mk (below_step HB.out hb'); clear HB hb'; have HB := HB'; clear HB'; rw [HE.out]) | (go_at_call 12; (with_reducible refine (alive_calls _ ⟨tab_below HB.out HT.out⟩).mono ?_); rintro e W' ⟨rfl, hb'⟩; replace c0 := pw_cell_below hb' c0; replace c1 := pw_cell_below hb' c1; replace c2 := pw_cell_below hb' c2; replace c3 := pw_cell_below hb' c3; replace c4 := pw_cell_below hb' c4; have HB' := Aside0.mk (below_step HB.out hb'); clear HB hb'; have HB := HB'; clear HB'))
    go_ret
    exact ⟨rfl, HB.out⟩
  have HE : Aside0 (decide (64 < q ∨ 200 < n0 ∨ 200 < n1) = false) := ⟨decide_eq_false hb⟩
  clear hb
  by_cases hb : 200 < n2
  · have z2 : decide (200 < (n2 : Int)) = true := decide_eq_true (by omega)
    clear hb
    go_enter Tryd.func4, Tryd.ntmps4
    go_wp2_with (first | (go_at_call 11; (with_reducible refine (great_calls _ _ _ _ _ _ _ _ _ _ _).mono ?_); rintro e W' ⟨rfl, hb'⟩; replace c0 := pw_cell_below hb' c0; replace c1 := pw_cell_below hb' c1; replace c2 := pw_cell_below hb' c2; replace c3 := pw_cell_below hb' c3; replace c4 := pw_cell_below hb' c4; have HB' := Aside0.mk (below_step HB.out hb'); clear HB hb'; have HB := HB'; clear HB'; rw [HE.out]) | (go_at_call 12; (with_reducible refine (alive_calls _ ⟨tab_below HB.out HT.out⟩).mono ?_); rintro e W' ⟨rfl, hb'⟩; replace c0 := pw_cell_below hb' c0; replace c1 := pw_cell_below hb' c1; replace c2 := pw_cell_below hb' c2; replace c3 := pw_cell_below hb' c3; replace c4 := pw_cell_below hb' c4; have HB' := Aside0.mk (below_step HB.out hb'); clear HB hb'; have HB := HB'; clear HB'))
    go_ret
    exact ⟨rfl, HB.out⟩
  have z2 : decide (200 < (n2 : Int)) = false := decide_eq_false (by omega)
  clear hb
  go_enter Tryd.func4, Tryd.ntmps4
  go_wp2_with (go_at_call 11; (with_reducible refine (great_calls _ _ _ _ _ _ _ _ _ _ _).mono ?_); rintro e W' ⟨rfl, hb'⟩; replace c0 := pw_cell_below hb' c0; replace c1 := pw_cell_below hb' c1; replace c2 := pw_cell_below hb' c2; replace c3 := pw_cell_below hb' c3; replace c4 := pw_cell_below hb' c4; have HB' := Aside0.mk (below_step HB.out hb'); clear HB hb'; have HB := HB'; clear HB'; rw [HE.out])
  refine (of_calls _ D f q rows m HQ.out (Kd.C_below (by rw [HQ.out]; exact HZ.out) HB.out) HU.out ⟨tab_below HB.out HT.out⟩).mono ?_
  rintro e W2 ⟨hb2, v1, v2, rfl, hl, hx⟩
  replace c0 := pw_cell_below hb2 c0
  replace c1 := pw_cell_below hb2 c1
  replace c2 := pw_cell_below hb2 c2
  have HB2 := Aside0.mk (below_step HB.out hb2)
  have hra := Kd.C_below HR0.out HB2.out
  have hrb := Kd.C_below HR1.out HB2.out
  have hrc := Kd.C_below HR2.out HB2.out
  rw [← HN0.out] at hra
  rw [← HN1.out] at hrb
  rw [← HN2.out] at hrc
  obtain ⟨r1, h1⟩ : ∃ r, r = groundB (hasLat (latO rows)) (hasEff (effO m)) (leLat (latO rows)) (leEff (effO m)) a b := ⟨_, rfl⟩
  obtain ⟨r2, h2⟩ : ∃ r, r = groundB (hasLat (latO rows)) (hasEff (effO m)) (leLat (latO rows)) (leEff (effO m)) b c := ⟨_, rfl⟩
  obtain ⟨r3, h3⟩ : ∃ r, r = groundB (hasLat (latO rows)) (hasEff (effO m)) (leLat (latO rows)) (leEff (effO m)) a c := ⟨_, rfl⟩
  obtain ⟨r4, h4⟩ : ∃ r, r = groundB (hasLat (latO rows)) (hasEff (effO m)) (leLat (latO rows)) (leEff (effO m)) b a := ⟨_, rfl⟩
  have G1 := named_at (c := d0) (d := d1) h1 HN0.out HN1.out hra hrb HWA.out HWB.out hl hx
  have G2 := named_at (c := d1) (d := d2) h2 HN1.out HN2.out hrb hrc HWB.out HWC.out hl hx
  have G3 := named_at (c := d0) (d := d2) h3 HN0.out HN2.out hra hrc HWA.out HWC.out hl hx
  have G4 := named_at (c := d1) (d := d0) h4 HN1.out HN0.out hrb hra HWB.out HWA.out hl hx
  have PL := ground_chain (latO_ok rows HU.out) (eff_ok (effO m)) a b c HWA.out HWB.out HWC.out
  rw [← h1, ← h2, ← h3, ← h4] at PL
  have S1 : sameL a b = true → Aside0 (∀ W, Below W2.heap.size W2 W → Calls Tryd.prog 16 #[.slice A0 n0 d0, .slice A1 n1 d1] W fun e w' => e = .returned (.bool true) ∧ Below W.heap.size W w') := fun h => ⟨fun W hb => by
    rw [← h, HN0.out, HN1.out]
    rw [HN0.out] at hra
    rw [HN1.out] at hrb
    exact same_calls W A0 A1 d0 d1 a b (Kd.C_below hra hb) (Kd.C_below hrb hb)⟩
  have S2 : a = b → Aside0 (∀ W, Below W2.heap.size W2 W → Calls Tryd.prog 15 #[.slice A0 n0 d0, .slice A1 n1 d1] W fun e w' => e = .returned (.bool true) ∧ Below W.heap.size W w') := fun h => ⟨fun W hb => by
    have e : n1 = n0 := by rw [HN1.out, HN0.out, h]
    subst e
    rw [HN0.out] at hra hrb ⊢
    rw [← h] at hrb
    exact sameNodes_calls W A0 A1 d0 d1 a (Kd.C_below hra hb) (Kd.C_below hrb hb)⟩
  have HS1 := Aside0.mk S1
  have HS2 := Aside0.mk S2
  have PL := Aside0.mk PL
  clear h1 h2 h3 h4 hra hrb hrc hl hx hb2 c3 c4 HB S1 S2
  obtain ⟨i1, e1⟩ := r1
  obtain ⟨i2, e2⟩ := r2
  obtain ⟨i3, e3⟩ := r3
  obtain ⟨i4, e4⟩ := r4
  have HB := Aside0.mk (Below.refl W2.heap.size W2)
  by_cases q1 : e1 = 0
  rotate_left
  · have z1 : (e1 != 0) = true := bne_iff_ne.mpr q1
    clear q1
    go_wp2_with (first | (go_at_call 14; (with_reducible refine (G1.out _ HB.out).mono ?_); rintro e W' ⟨rfl, hb'⟩; replace c0 := pw_cell_below hb' c0; replace c1 := pw_cell_below hb' c1; replace c2 := pw_cell_below hb' c2; have HB' := Aside0.mk (below_step HB.out hb'); clear HB hb'; have HB := HB'; clear HB') | (go_at_call 14; (with_reducible refine (G2.out _ HB.out).mono ?_); rintro e W' ⟨rfl, hb'⟩; replace c0 := pw_cell_below hb' c0; replace c1 := pw_cell_below hb' c1; replace c2 := pw_cell_below hb' c2; have HB' := Aside0.mk (below_step HB.out hb'); clear HB hb'; have HB := HB'; clear HB') | (go_at_call 14; (with_reducible refine (G3.out _ HB.out).mono ?_); rintro e W' ⟨rfl, hb'⟩; replace c0 := pw_cell_below hb' c0; replace c1 := pw_cell_below hb' c1; replace c2 := pw_cell_below hb' c2; have HB' := Aside0.mk (below_step HB.out hb'); clear HB hb'; have HB := HB'; clear HB') | (go_at_call 14; (with_reducible refine (G4.out _ HB.out).mono ?_); rintro e W' ⟨rfl, hb'⟩; replace c0 := pw_cell_below hb' c0; replace c1 := pw_cell_below hb' c1; replace c2 := pw_cell_below hb' c2; have HB' := Aside0.mk (below_step HB.out hb'); clear HB hb'; have HB := HB'; clear HB') | (go_at_call 12; (with_reducible refine (alive_calls _ ⟨tab_below (below_step HB2.out HB.out) HT.out⟩).mono ?_); rintro e W' ⟨rfl, hb'⟩; replace c0 := pw_cell_below hb' c0; replace c1 := pw_cell_below hb' c1; replace c2 := pw_cell_below hb' c2; have HB' := Aside0.mk (below_step HB.out hb'); clear HB hb'; have HB := HB'; clear HB'))
    go_ret
    exact ⟨rfl, below_step HB2.out HB.out⟩
  by_cases q2 : e2 = 0
  rotate_left
  · have z1 : (e2 != 0) = true := bne_iff_ne.mpr q2
    subst q1
    clear q2
    go_wp2_with (first | (go_at_call 14; (with_reducible refine (G1.out _ HB.out).mono ?_); rintro e W' ⟨rfl, hb'⟩; replace c0 := pw_cell_below hb' c0; replace c1 := pw_cell_below hb' c1; replace c2 := pw_cell_below hb' c2; have HB' := Aside0.mk (below_step HB.out hb'); clear HB hb'; have HB := HB'; clear HB') | (go_at_call 14; (with_reducible refine (G2.out _ HB.out).mono ?_); rintro e W' ⟨rfl, hb'⟩; replace c0 := pw_cell_below hb' c0; replace c1 := pw_cell_below hb' c1; replace c2 := pw_cell_below hb' c2; have HB' := Aside0.mk (below_step HB.out hb'); clear HB hb'; have HB := HB'; clear HB') | (go_at_call 14; (with_reducible refine (G3.out _ HB.out).mono ?_); rintro e W' ⟨rfl, hb'⟩; replace c0 := pw_cell_below hb' c0; replace c1 := pw_cell_below hb' c1; replace c2 := pw_cell_below hb' c2; have HB' := Aside0.mk (below_step HB.out hb'); clear HB hb'; have HB := HB'; clear HB') | (go_at_call 14; (with_reducible refine (G4.out _ HB.out).mono ?_); rintro e W' ⟨rfl, hb'⟩; replace c0 := pw_cell_below hb' c0; replace c1 := pw_cell_below hb' c1; replace c2 := pw_cell_below hb' c2; have HB' := Aside0.mk (below_step HB.out hb'); clear HB hb'; have HB := HB'; clear HB') | (go_at_call 12; (with_reducible refine (alive_calls _ ⟨tab_below (below_step HB2.out HB.out) HT.out⟩).mono ?_); rintro e W' ⟨rfl, hb'⟩; replace c0 := pw_cell_below hb' c0; replace c1 := pw_cell_below hb' c1; replace c2 := pw_cell_below hb' c2; have HB' := Aside0.mk (below_step HB.out hb'); clear HB hb'; have HB := HB'; clear HB'))
    go_ret
    exact ⟨rfl, below_step HB2.out HB.out⟩
  by_cases q3 : e3 = 0
  rotate_left
  · have z1 : (e3 != 0) = true := bne_iff_ne.mpr q3
    subst q1 q2
    clear q3
    go_wp2_with (first | (go_at_call 14; (with_reducible refine (G1.out _ HB.out).mono ?_); rintro e W' ⟨rfl, hb'⟩; replace c0 := pw_cell_below hb' c0; replace c1 := pw_cell_below hb' c1; replace c2 := pw_cell_below hb' c2; have HB' := Aside0.mk (below_step HB.out hb'); clear HB hb'; have HB := HB'; clear HB') | (go_at_call 14; (with_reducible refine (G2.out _ HB.out).mono ?_); rintro e W' ⟨rfl, hb'⟩; replace c0 := pw_cell_below hb' c0; replace c1 := pw_cell_below hb' c1; replace c2 := pw_cell_below hb' c2; have HB' := Aside0.mk (below_step HB.out hb'); clear HB hb'; have HB := HB'; clear HB') | (go_at_call 14; (with_reducible refine (G3.out _ HB.out).mono ?_); rintro e W' ⟨rfl, hb'⟩; replace c0 := pw_cell_below hb' c0; replace c1 := pw_cell_below hb' c1; replace c2 := pw_cell_below hb' c2; have HB' := Aside0.mk (below_step HB.out hb'); clear HB hb'; have HB := HB'; clear HB') | (go_at_call 14; (with_reducible refine (G4.out _ HB.out).mono ?_); rintro e W' ⟨rfl, hb'⟩; replace c0 := pw_cell_below hb' c0; replace c1 := pw_cell_below hb' c1; replace c2 := pw_cell_below hb' c2; have HB' := Aside0.mk (below_step HB.out hb'); clear HB hb'; have HB := HB'; clear HB') | (go_at_call 12; (with_reducible refine (alive_calls _ ⟨tab_below (below_step HB2.out HB.out) HT.out⟩).mono ?_); rintro e W' ⟨rfl, hb'⟩; replace c0 := pw_cell_below hb' c0; replace c1 := pw_cell_below hb' c1; replace c2 := pw_cell_below hb' c2; have HB' := Aside0.mk (below_step HB.out hb'); clear HB hb'; have HB := HB'; clear HB'))
    go_ret
    exact ⟨rfl, below_step HB2.out HB.out⟩
  by_cases q4 : e4 = 0
  rotate_left
  · have z1 : (e4 != 0) = true := bne_iff_ne.mpr q4
    subst q1 q2 q3
    clear q4
    go_wp2_with (first | (go_at_call 14; (with_reducible refine (G1.out _ HB.out).mono ?_); rintro e W' ⟨rfl, hb'⟩; replace c0 := pw_cell_below hb' c0; replace c1 := pw_cell_below hb' c1; replace c2 := pw_cell_below hb' c2; have HB' := Aside0.mk (below_step HB.out hb'); clear HB hb'; have HB := HB'; clear HB') | (go_at_call 14; (with_reducible refine (G2.out _ HB.out).mono ?_); rintro e W' ⟨rfl, hb'⟩; replace c0 := pw_cell_below hb' c0; replace c1 := pw_cell_below hb' c1; replace c2 := pw_cell_below hb' c2; have HB' := Aside0.mk (below_step HB.out hb'); clear HB hb'; have HB := HB'; clear HB') | (go_at_call 14; (with_reducible refine (G3.out _ HB.out).mono ?_); rintro e W' ⟨rfl, hb'⟩; replace c0 := pw_cell_below hb' c0; replace c1 := pw_cell_below hb' c1; replace c2 := pw_cell_below hb' c2; have HB' := Aside0.mk (below_step HB.out hb'); clear HB hb'; have HB := HB'; clear HB') | (go_at_call 14; (with_reducible refine (G4.out _ HB.out).mono ?_); rintro e W' ⟨rfl, hb'⟩; replace c0 := pw_cell_below hb' c0; replace c1 := pw_cell_below hb' c1; replace c2 := pw_cell_below hb' c2; have HB' := Aside0.mk (below_step HB.out hb'); clear HB hb'; have HB := HB'; clear HB') | (go_at_call 12; (with_reducible refine (alive_calls _ ⟨tab_below (below_step HB2.out HB.out) HT.out⟩).mono ?_); rintro e W' ⟨rfl, hb'⟩; replace c0 := pw_cell_below hb' c0; replace c1 := pw_cell_below hb' c1; replace c2 := pw_cell_below hb' c2; have HB' := Aside0.mk (below_step HB.out hb'); clear HB hb'; have HB := HB'; clear HB'))
    go_ret
    exact ⟨rfl, below_step HB2.out HB.out⟩
  subst q1 q2 q3 q4
  obtain ⟨p1, p2, p3⟩ := PL.out rfl rfl rfl rfl
  simp only at p1 p2 p3
  cases i1 with
  | false =>
    clear p1 p2 p3
    go_wp2_with (first | (go_at_call 14; (with_reducible refine (G1.out _ HB.out).mono ?_); rintro e W' ⟨rfl, hb'⟩; replace c0 := pw_cell_below hb' c0; replace c1 := pw_cell_below hb' c1; replace c2 := pw_cell_below hb' c2; have HB' := Aside0.mk (below_step HB.out hb'); clear HB hb'; have HB := HB'; clear HB') | (go_at_call 14; (with_reducible refine (G2.out _ HB.out).mono ?_); rintro e W' ⟨rfl, hb'⟩; replace c0 := pw_cell_below hb' c0; replace c1 := pw_cell_below hb' c1; replace c2 := pw_cell_below hb' c2; have HB' := Aside0.mk (below_step HB.out hb'); clear HB hb'; have HB := HB'; clear HB') | (go_at_call 14; (with_reducible refine (G3.out _ HB.out).mono ?_); rintro e W' ⟨rfl, hb'⟩; replace c0 := pw_cell_below hb' c0; replace c1 := pw_cell_below hb' c1; replace c2 := pw_cell_below hb' c2; have HB' := Aside0.mk (below_step HB.out hb'); clear HB hb'; have HB := HB'; clear HB') | (go_at_call 14; (with_reducible refine (G4.out _ HB.out).mono ?_); rintro e W' ⟨rfl, hb'⟩; replace c0 := pw_cell_below hb' c0; replace c1 := pw_cell_below hb' c1; replace c2 := pw_cell_below hb' c2; have HB' := Aside0.mk (below_step HB.out hb'); clear HB hb'; have HB := HB'; clear HB') | (go_at_call 12; (with_reducible refine (alive_calls _ ⟨tab_below (below_step HB2.out HB.out) HT.out⟩).mono ?_); rintro e W' ⟨rfl, hb'⟩; replace c0 := pw_cell_below hb' c0; replace c1 := pw_cell_below hb' c1; replace c2 := pw_cell_below hb' c2; have HB' := Aside0.mk (below_step HB.out hb'); clear HB hb'; have HB := HB'; clear HB'))
    go_ret
    exact ⟨rfl, below_step HB2.out HB.out⟩
  | true =>
    have S1 := HS1.out (p3 rfl)
    cases i4 with
    | false =>
      cases i2 with
      | false =>
        clear p1 p2 p3
        go_wp2_with (first | (go_at_call 14; (with_reducible refine (G1.out _ HB.out).mono ?_); rintro e W' ⟨rfl, hb'⟩; replace c0 := pw_cell_below hb' c0; replace c1 := pw_cell_below hb' c1; replace c2 := pw_cell_below hb' c2; have HB' := Aside0.mk (below_step HB.out hb'); clear HB hb'; have HB := HB'; clear HB') | (go_at_call 14; (with_reducible refine (G2.out _ HB.out).mono ?_); rintro e W' ⟨rfl, hb'⟩; replace c0 := pw_cell_below hb' c0; replace c1 := pw_cell_below hb' c1; replace c2 := pw_cell_below hb' c2; have HB' := Aside0.mk (below_step HB.out hb'); clear HB hb'; have HB := HB'; clear HB') | (go_at_call 14; (with_reducible refine (G3.out _ HB.out).mono ?_); rintro e W' ⟨rfl, hb'⟩; replace c0 := pw_cell_below hb' c0; replace c1 := pw_cell_below hb' c1; replace c2 := pw_cell_below hb' c2; have HB' := Aside0.mk (below_step HB.out hb'); clear HB hb'; have HB := HB'; clear HB') | (go_at_call 14; (with_reducible refine (G4.out _ HB.out).mono ?_); rintro e W' ⟨rfl, hb'⟩; replace c0 := pw_cell_below hb' c0; replace c1 := pw_cell_below hb' c1; replace c2 := pw_cell_below hb' c2; have HB' := Aside0.mk (below_step HB.out hb'); clear HB hb'; have HB := HB'; clear HB') | (go_at_call 12; (with_reducible refine (alive_calls _ ⟨tab_below (below_step HB2.out HB.out) HT.out⟩).mono ?_); rintro e W' ⟨rfl, hb'⟩; replace c0 := pw_cell_below hb' c0; replace c1 := pw_cell_below hb' c1; replace c2 := pw_cell_below hb' c2; have HB' := Aside0.mk (below_step HB.out hb'); clear HB hb'; have HB := HB'; clear HB') | (go_at_call 16; (with_reducible refine (S1.out _ HB.out).mono ?_); rintro e W' ⟨rfl, hb'⟩; replace c0 := pw_cell_below hb' c0; replace c1 := pw_cell_below hb' c1; replace c2 := pw_cell_below hb' c2; have HB' := Aside0.mk (below_step HB.out hb'); clear HB hb'; have HB := HB'; clear HB'))
        go_ret
        exact ⟨rfl, below_step HB2.out HB.out⟩
      | true =>
        obtain rfl := p1 rfl rfl
        clear p1 p2 p3
        go_wp2_with (first | (go_at_call 14; (with_reducible refine (G1.out _ HB.out).mono ?_); rintro e W' ⟨rfl, hb'⟩; replace c0 := pw_cell_below hb' c0; replace c1 := pw_cell_below hb' c1; replace c2 := pw_cell_below hb' c2; have HB' := Aside0.mk (below_step HB.out hb'); clear HB hb'; have HB := HB'; clear HB') | (go_at_call 14; (with_reducible refine (G2.out _ HB.out).mono ?_); rintro e W' ⟨rfl, hb'⟩; replace c0 := pw_cell_below hb' c0; replace c1 := pw_cell_below hb' c1; replace c2 := pw_cell_below hb' c2; have HB' := Aside0.mk (below_step HB.out hb'); clear HB hb'; have HB := HB'; clear HB') | (go_at_call 14; (with_reducible refine (G3.out _ HB.out).mono ?_); rintro e W' ⟨rfl, hb'⟩; replace c0 := pw_cell_below hb' c0; replace c1 := pw_cell_below hb' c1; replace c2 := pw_cell_below hb' c2; have HB' := Aside0.mk (below_step HB.out hb'); clear HB hb'; have HB := HB'; clear HB') | (go_at_call 14; (with_reducible refine (G4.out _ HB.out).mono ?_); rintro e W' ⟨rfl, hb'⟩; replace c0 := pw_cell_below hb' c0; replace c1 := pw_cell_below hb' c1; replace c2 := pw_cell_below hb' c2; have HB' := Aside0.mk (below_step HB.out hb'); clear HB hb'; have HB := HB'; clear HB') | (go_at_call 12; (with_reducible refine (alive_calls _ ⟨tab_below (below_step HB2.out HB.out) HT.out⟩).mono ?_); rintro e W' ⟨rfl, hb'⟩; replace c0 := pw_cell_below hb' c0; replace c1 := pw_cell_below hb' c1; replace c2 := pw_cell_below hb' c2; have HB' := Aside0.mk (below_step HB.out hb'); clear HB hb'; have HB := HB'; clear HB') | (go_at_call 16; (with_reducible refine (S1.out _ HB.out).mono ?_); rintro e W' ⟨rfl, hb'⟩; replace c0 := pw_cell_below hb' c0; replace c1 := pw_cell_below hb' c1; replace c2 := pw_cell_below hb' c2; have HB' := Aside0.mk (below_step HB.out hb'); clear HB hb'; have HB := HB'; clear HB'))
        go_ret
        exact ⟨rfl, below_step HB2.out HB.out⟩
    | true =>
      have S2 := HS2.out (p2 rfl rfl)
      cases i2 with
      | false =>
        clear p1 p2 p3
        go_wp2_with (first | (go_at_call 14; (with_reducible refine (G1.out _ HB.out).mono ?_); rintro e W' ⟨rfl, hb'⟩; replace c0 := pw_cell_below hb' c0; replace c1 := pw_cell_below hb' c1; replace c2 := pw_cell_below hb' c2; have HB' := Aside0.mk (below_step HB.out hb'); clear HB hb'; have HB := HB'; clear HB') | (go_at_call 14; (with_reducible refine (G2.out _ HB.out).mono ?_); rintro e W' ⟨rfl, hb'⟩; replace c0 := pw_cell_below hb' c0; replace c1 := pw_cell_below hb' c1; replace c2 := pw_cell_below hb' c2; have HB' := Aside0.mk (below_step HB.out hb'); clear HB hb'; have HB := HB'; clear HB') | (go_at_call 14; (with_reducible refine (G3.out _ HB.out).mono ?_); rintro e W' ⟨rfl, hb'⟩; replace c0 := pw_cell_below hb' c0; replace c1 := pw_cell_below hb' c1; replace c2 := pw_cell_below hb' c2; have HB' := Aside0.mk (below_step HB.out hb'); clear HB hb'; have HB := HB'; clear HB') | (go_at_call 14; (with_reducible refine (G4.out _ HB.out).mono ?_); rintro e W' ⟨rfl, hb'⟩; replace c0 := pw_cell_below hb' c0; replace c1 := pw_cell_below hb' c1; replace c2 := pw_cell_below hb' c2; have HB' := Aside0.mk (below_step HB.out hb'); clear HB hb'; have HB := HB'; clear HB') | (go_at_call 12; (with_reducible refine (alive_calls _ ⟨tab_below (below_step HB2.out HB.out) HT.out⟩).mono ?_); rintro e W' ⟨rfl, hb'⟩; replace c0 := pw_cell_below hb' c0; replace c1 := pw_cell_below hb' c1; replace c2 := pw_cell_below hb' c2; have HB' := Aside0.mk (below_step HB.out hb'); clear HB hb'; have HB := HB'; clear HB') | (go_at_call 16; (with_reducible refine (S1.out _ HB.out).mono ?_); rintro e W' ⟨rfl, hb'⟩; replace c0 := pw_cell_below hb' c0; replace c1 := pw_cell_below hb' c1; replace c2 := pw_cell_below hb' c2; have HB' := Aside0.mk (below_step HB.out hb'); clear HB hb'; have HB := HB'; clear HB') | (go_at_call 15; (with_reducible refine (S2.out _ HB.out).mono ?_); rintro e W' ⟨rfl, hb'⟩; replace c0 := pw_cell_below hb' c0; replace c1 := pw_cell_below hb' c1; replace c2 := pw_cell_below hb' c2; have HB' := Aside0.mk (below_step HB.out hb'); clear HB hb'; have HB := HB'; clear HB'))
        go_ret
        exact ⟨rfl, below_step HB2.out HB.out⟩
      | true =>
        obtain rfl := p1 rfl rfl
        clear p1 p2 p3
        go_wp2_with (first | (go_at_call 14; (with_reducible refine (G1.out _ HB.out).mono ?_); rintro e W' ⟨rfl, hb'⟩; replace c0 := pw_cell_below hb' c0; replace c1 := pw_cell_below hb' c1; replace c2 := pw_cell_below hb' c2; have HB' := Aside0.mk (below_step HB.out hb'); clear HB hb'; have HB := HB'; clear HB') | (go_at_call 14; (with_reducible refine (G2.out _ HB.out).mono ?_); rintro e W' ⟨rfl, hb'⟩; replace c0 := pw_cell_below hb' c0; replace c1 := pw_cell_below hb' c1; replace c2 := pw_cell_below hb' c2; have HB' := Aside0.mk (below_step HB.out hb'); clear HB hb'; have HB := HB'; clear HB') | (go_at_call 14; (with_reducible refine (G3.out _ HB.out).mono ?_); rintro e W' ⟨rfl, hb'⟩; replace c0 := pw_cell_below hb' c0; replace c1 := pw_cell_below hb' c1; replace c2 := pw_cell_below hb' c2; have HB' := Aside0.mk (below_step HB.out hb'); clear HB hb'; have HB := HB'; clear HB') | (go_at_call 14; (with_reducible refine (G4.out _ HB.out).mono ?_); rintro e W' ⟨rfl, hb'⟩; replace c0 := pw_cell_below hb' c0; replace c1 := pw_cell_below hb' c1; replace c2 := pw_cell_below hb' c2; have HB' := Aside0.mk (below_step HB.out hb'); clear HB hb'; have HB := HB'; clear HB') | (go_at_call 12; (with_reducible refine (alive_calls _ ⟨tab_below (below_step HB2.out HB.out) HT.out⟩).mono ?_); rintro e W' ⟨rfl, hb'⟩; replace c0 := pw_cell_below hb' c0; replace c1 := pw_cell_below hb' c1; replace c2 := pw_cell_below hb' c2; have HB' := Aside0.mk (below_step HB.out hb'); clear HB hb'; have HB := HB'; clear HB') | (go_at_call 16; (with_reducible refine (S1.out _ HB.out).mono ?_); rintro e W' ⟨rfl, hb'⟩; replace c0 := pw_cell_below hb' c0; replace c1 := pw_cell_below hb' c1; replace c2 := pw_cell_below hb' c2; have HB' := Aside0.mk (below_step HB.out hb'); clear HB hb'; have HB := HB'; clear HB') | (go_at_call 15; (with_reducible refine (S2.out _ HB.out).mono ?_); rintro e W' ⟨rfl, hb'⟩; replace c0 := pw_cell_below hb' c0; replace c1 := pw_cell_below hb' c1; replace c2 := pw_cell_below hb' c2; have HB' := Aside0.mk (below_step HB.out hb'); clear HB hb'; have HB := HB'; clear HB'))
        go_ret
        exact ⟨rfl, below_step HB2.out HB.out⟩
end L09
end Go.Proofs.YtkndpgbpdidlgaaDoor
