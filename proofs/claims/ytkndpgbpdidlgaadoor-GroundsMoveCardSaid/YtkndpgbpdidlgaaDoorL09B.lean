/- The law GroundsSelf: a walk through its code at every input. -/
import Derived.Test.YtkndpgbpdidlgaaDoorL09A
namespace Go.Proofs.YtkndpgbpdidlgaaDoor
open Go.RowKit Go.Proofs.YtkndpgbpdidlgaaDoorW.PrintWords Go.Proofs.YtkndpgbpdidlgaaDoorW.PrintLast Go.Proofs.YtkndpgbpdidlgaaDoorW.PrintMore
set_option linter.unusedVariables false
set_option linter.unusedSimpArgs false
namespace L09
/-- What 'of' answers, in the world behind it: contracts of all that is asked then. -/
theorem named_at {w : World} {A B : Option Addr} {c d n m : Nat} {a b : List Node} {v1 v2 : Value} {o : Option (List Int)} {p : Option Int} {r : Bool × Int} (hg : r = groundB (hasLat o) (hasEff p) (leLat o) (leEff p) a b) (hn : n = a.length) (hm : m = b.length) (hr : kNode.C w A n a) (hr2 : kNode.C w B m b) (hwa : ∀ n ∈ a, Node.wf n) (hwb : ∀ n ∈ b, Node.wf n) (hv1 : LatV w v1 o) (hv2 : EffV w v2 p) :
    Aside0 (∀ W, Below w.heap.size w W → Calls Tryd.prog 14 #[.slice A n c, .slice B m d, v1, v2] W fun e w' => e = .returned (.tuple #[.bool r.1, .int .i64 r.2]) ∧ Below W.heap.size W w') := ⟨fun W hb => ground_named W A B c d n m a b v1 v2 o p r hg.symm hn hm (Kd.C_below hr hb) (Kd.C_below hr2 hb) hwa hwb (hv1.kept hb) (hv2.kept hb)⟩
set_option maxRecDepth 100000 in
set_option maxHeartbeats 8000000 in
theorem self_walk (w : World) (ht : TabAt 0 Lib.deBruijn64tab w) (A : Option Addr) (c : Nat) (a : List Node) (hr : kNode.C w A a.length a) (hc : a.length ≤ c) (hwa : ∀ n ∈ a, Node.wf n) (B : Option Addr) (d : Nat) (b : List Node) (hr2 : kNode.C w B b.length b) (hd : b.length ≤ d) (hwb : ∀ n ∈ b, Node.wf n) (y : SortsY) (hy : y.ok w) :
    Calls Tryd.prog 3 #[.slice A a.length c, .slice B b.length d, y.v] w fun e w' => e = .returned (.bool true) ∧ Below w.heap.size w w' := by
  obtain ⟨D, f, rows, m⟩ := y
  obtain ⟨-, hz, hU, -⟩ := hy
  simp only at hz hU
  simp only [SortsY.v]
  have HT := Aside0.mk ht
  have HR := Aside0.mk hr
  have HR2 := Aside0.mk hr2
  have HWA := Aside0.mk hwa
  have HWB := Aside0.mk hwb
  have HZ := Aside0.mk hz
  have HU := Aside0.mk hU
  obtain ⟨n, hn⟩ : ∃ n, n = a.length := ⟨_, rfl⟩
  obtain ⟨k, hk⟩ : ∃ k, k = b.length := ⟨_, rfl⟩
  obtain ⟨q, hq⟩ : ∃ q, q = rows.length := ⟨_, rfl⟩
  have HN := Aside0.mk hn
  have HK := Aside0.mk hk
  have HQ := Aside0.mk hq
  rw [← hn, ← hk, ← hq]
  obtain ⟨O, hO⟩ : ∃ O : Obj, O = .cells #[.slice D q f, .int .i64 m] 25 := ⟨_, rfl⟩
  have HB := Aside0.mk (below_alloc (Below.refl w.heap.size w) O)
  have C0 : Aside0 ((w.alloc O).cell? ⟨w.heap.size, 0, none⟩ = some (.slice D q f)) := ⟨by rw [hO]; exact blk_cell (blk_new w _) 0⟩
  have C1 : Aside0 ((w.alloc O).cell? ⟨w.heap.size, 1, none⟩ = some (.int .i64 m)) := ⟨by rw [hO]; exact blk_cell (blk_new w _) 1⟩
  subst hO
  clear ht hr hr2 hc hd hwa hwb hz hU hn hk hq
  by_cases hb : 64 < q ∨ 200 < n ∨ 200 < k
  · have HE : Aside0 (decide (64 < q ∨ 200 < n ∨ 200 < k) = true) := ⟨decide_eq_true hb⟩
    clear hb C0 C1
    go_enter Tryd.func3, Tryd.ntmps3
    go_wp2_with (first | (go_at_call 11; (with_reducible refine (great_calls _ _ _ _ _ _ _ _ _ _ _).mono ?_); rintro e W' ⟨rfl, hb'⟩; have HB' := Aside0.mk (below_step HB.out hb'); clear HB hb'; have HB := HB'; clear HB'; rw [HE.out]) | (go_at_call 12; (with_reducible refine (alive_calls _ ⟨tab_below HB.out HT.out⟩).mono ?_); rintro e W' ⟨rfl, hb'⟩; have HB' := Aside0.mk (below_step HB.out hb'); clear HB hb'; have HB := HB'; clear HB'))
    go_ret
    exact ⟨rfl, HB.out⟩
  have HE : Aside0 (decide (64 < q ∨ 200 < n ∨ 200 < k) = false) := ⟨decide_eq_false hb⟩
  clear hb
  go_enter Tryd.func3, Tryd.ntmps3
  go_wp2_with fail
  refine (great_calls _ _ _ _ _ _ _ _ _ _ _).mono ?_
  rintro e W1 ⟨rfl, hb⟩
  rw [HE.out]
  have c0 := pw_cell_below hb C0.out
  have c1 := pw_cell_below hb C1.out
  have HB1 := Aside0.mk (below_step HB.out hb)
  clear hb HB C0 C1
  go_wp2_with fail
  refine (of_calls _ D f q rows m HQ.out (Kd.C_below (by rw [HQ.out]; exact HZ.out) HB1.out) HU.out ⟨tab_below HB1.out HT.out⟩).mono ?_
  rintro e W2 ⟨hb2, v1, v2, rfl, hl, hx⟩
  have HB2 := Aside0.mk (below_step HB1.out hb2)
  have hra := Kd.C_below HR.out HB2.out
  have hrb := Kd.C_below HR2.out HB2.out
  rw [← HN.out] at hra
  rw [← HK.out] at hrb
  obtain ⟨r1, h1⟩ : ∃ r, r = groundB (hasLat (latO rows)) (hasEff (effO m)) (leLat (latO rows)) (leEff (effO m)) a a := ⟨_, rfl⟩
  obtain ⟨r2, h2⟩ : ∃ r, r = groundB (hasLat (latO rows)) (hasEff (effO m)) (leLat (latO rows)) (leEff (effO m)) a b := ⟨_, rfl⟩
  obtain ⟨r3, h3⟩ : ∃ r, r = groundB (hasLat (latO rows)) (hasEff (effO m)) (leLat (latO rows)) (leEff (effO m)) b a := ⟨_, rfl⟩
  have G1 := named_at (c := c) (d := c) h1 HN.out HN.out hra hra HWA.out HWA.out hl hx
  have G2 := named_at (c := c) (d := d) h2 HN.out HK.out hra hrb HWA.out HWB.out hl hx
  have G3 := named_at (c := d) (d := c) h3 HK.out HN.out hrb hra HWB.out HWA.out hl hx
  have PL := ground_self (latO_ok rows HU.out) (eff_ok (effO m)) a b HWA.out
  rw [← h1, ← h2, ← h3] at PL
  clear h1 h2 h3 hra hrb hl hx hb2 c0 c1
  obtain ⟨i1, e1⟩ := r1
  obtain ⟨i2, e2⟩ := r2
  obtain ⟨i3, e3⟩ := r3
  simp only at PL G1 G2 G3
  have HB := Aside0.mk (Below.refl W2.heap.size W2)
  by_cases he : e1 = 0
  · obtain ⟨rfl, rfl⟩ := PL.2 he
    subst he
    clear PL
    go_wp2_with (first | (go_at_call 14; (with_reducible refine (G1.out _ HB.out).mono ?_); rintro e W' ⟨rfl, hb'⟩; have HB' := Aside0.mk (below_step HB.out hb'); clear HB hb'; have HB := HB'; clear HB') | (go_at_call 14; (with_reducible refine (G2.out _ HB.out).mono ?_); rintro e W' ⟨rfl, hb'⟩; have HB' := Aside0.mk (below_step HB.out hb'); clear HB hb'; have HB := HB'; clear HB') | (go_at_call 14; (with_reducible refine (G3.out _ HB.out).mono ?_); rintro e W' ⟨rfl, hb'⟩; have HB' := Aside0.mk (below_step HB.out hb'); clear HB hb'; have HB := HB'; clear HB') | (go_at_call 12; (with_reducible refine (alive_calls _ ⟨tab_below (below_step HB2.out HB.out) HT.out⟩).mono ?_); rintro e W' ⟨rfl, hb'⟩; have HB' := Aside0.mk (below_step HB.out hb'); clear HB hb'; have HB := HB'; clear HB'))
    go_ret
    exact ⟨rfl, below_step HB2.out HB.out⟩
  · obtain ⟨rfl, n2, n3⟩ := PL.1 he
    have z1 : (e1 != 0) = true := bne_iff_ne.mpr he
    have z2 : (e2 != 0) = true := bne_iff_ne.mpr n2
    have z3 : (e3 != 0) = true := bne_iff_ne.mpr n3
    clear PL he n2 n3
    go_wp2_with (first | (go_at_call 14; (with_reducible refine (G1.out _ HB.out).mono ?_); rintro e W' ⟨rfl, hb'⟩; have HB' := Aside0.mk (below_step HB.out hb'); clear HB hb'; have HB := HB'; clear HB') | (go_at_call 14; (with_reducible refine (G2.out _ HB.out).mono ?_); rintro e W' ⟨rfl, hb'⟩; have HB' := Aside0.mk (below_step HB.out hb'); clear HB hb'; have HB := HB'; clear HB') | (go_at_call 14; (with_reducible refine (G3.out _ HB.out).mono ?_); rintro e W' ⟨rfl, hb'⟩; have HB' := Aside0.mk (below_step HB.out hb'); clear HB hb'; have HB := HB'; clear HB') | (go_at_call 12; (with_reducible refine (alive_calls _ ⟨tab_below (below_step HB2.out HB.out) HT.out⟩).mono ?_); rintro e W' ⟨rfl, hb'⟩; have HB' := Aside0.mk (below_step HB.out hb'); clear HB hb'; have HB := HB'; clear HB'))
    go_ret
    exact ⟨rfl, below_step HB2.out HB.out⟩
end L09
end Go.Proofs.YtkndpgbpdidlgaaDoor
