/- GroundsOf, walked whole: it answers true at every input. -/
import Derived.Test.YtbdecnagdnancaaGreatDoorR9
import Derived.Test.YtbdecnagdnancaaGreatDoorTwB

namespace Go.Proofs.YtbdecnagdnancaaGreatDoor
open Go.RowKit Go.Shelf Go.Proofs.YtbdecnagdnancaaGreatDoorW.PrintWords Go.Proofs.YtbdecnagdnancaaGreatDoorW.PrintLast Go.Proofs.YtbdecnagdnancaaGreatDoorW.PrintMore
set_option linter.unusedVariables false
set_option linter.unusedSimpArgs false
namespace L09
theorem twin_of {w : World} {base n c : Nat} {A : Option Addr} {xs : List Node} {ok : Nat → Prop} (hn : n = xs.length) (h : kNode.R 122 w base ok (.slice A (xs ++ [spareN]).length c) (xs ++ [spareN])) : kNode.C w A n xs := by
  have := Kd.R_take h (m := n) (by rw [List.length_append]; omega)
  rw [List.take_left' hn.symm] at this
  have h2 := (Kd.R_reads' this).2.2
  rwa [← hn] at h2
set_option maxRecDepth 100000 in
set_option maxHeartbeats 8000000 in
theorem groundsOf_walk (w : World) (ht : TabAt 5 Lib.deBruijn64tab w) (A : Option Addr) (c : Nat) (a : List Node) (hr : kNode.C w A a.length a) (hc : a.length ≤ c) (hwa : ∀ n ∈ a, Node.wf n) (B : Option Addr) (d : Nat) (b : List Node) (hr2 : kNode.C w B b.length b) (hd : b.length ≤ d) (hwb : ∀ n ∈ b, Node.wf n) (y : SortsY) (hy : y.ok w) :
    Calls Tryz.prog 4 #[.slice A a.length c, .slice B b.length d, y.v] w fun e w' => e = .returned (.bool true) ∧ Below w.heap.size w w' := by
  obtain ⟨D, f, rows, m⟩ := y
  obtain ⟨-, hz, hU, -⟩ := hy
  simp only at hz hU
  simp only [SortsY.v]
  have HT := Aside0.mk ht
  have HR := Aside0.mk hr
  have HR2 := Aside0.mk hr2
  have HWA := Aside0.mk hwa
  have HWB := Aside0.mk hwb
  have HZ := Aside0.mk hz
  have HU := Aside0.mk hU
  obtain ⟨n, hn⟩ : ∃ n, n = a.length := ⟨_, rfl⟩
  obtain ⟨k, hk⟩ : ∃ k, k = b.length := ⟨_, rfl⟩
  obtain ⟨q, hq⟩ : ∃ q, q = rows.length := ⟨_, rfl⟩
  have HN := Aside0.mk hn
  have HK := Aside0.mk hk
  have HQ := Aside0.mk hq
  rw [← hn, ← hk, ← hq]
  obtain ⟨O, hO⟩ : ∃ O : Obj, O = .cells #[.slice D q f, .int .i64 m] 52 := ⟨_, rfl⟩
  have HB := Aside0.mk (below_alloc (Below.refl w.heap.size w) O)
  have C0 : Aside0 ((w.alloc O).cell? ⟨w.heap.size, 0, none⟩ = some (.slice D q f)) := ⟨by rw [hO]; exact blk_cell (blk_new w _) 0⟩
  have C1 : Aside0 ((w.alloc O).cell? ⟨w.heap.size, 1, none⟩ = some (.int .i64 m)) := ⟨by rw [hO]; exact blk_cell (blk_new w _) 1⟩
  subst hO
  clear ht hr hr2 hc hd hwa hwb hz hU hn hk hq
  by_cases hb : 64 < q ∨ 200 < n ∨ 200 < k
  · have HE : Aside0 (decide (64 < q ∨ 200 < n ∨ 200 < k) = true) := ⟨decide_eq_true hb⟩
    clear hb C0 C1
    go_enter Tryz.func4, Tryz.ntmps4
    go_wp2_with (go_at_call 14; (with_reducible refine (great_calls _ _ _ _ _ _ _ _ _ _ _).mono ?_); rintro e W' ⟨rfl, hb'⟩; have HB' := Aside0.mk (below_step HB.out hb'); clear HB hb'; have HB := HB'; clear HB'; rw [HE.out])
    go_ret
    exact ⟨rfl, HB.out⟩
  have HE : Aside0 (decide (64 < q ∨ 200 < n ∨ 200 < k) = false) := ⟨decide_eq_false hb⟩
  have hn300 : n ≤ 200 := by omega
  have hk300 : k ≤ 200 := by omega
  clear hb
  go_enter Tryz.func4, Tryz.ntmps4
  go_wp2_with fail
  refine (great_calls _ _ _ _ _ _ _ _ _ _ _).mono ?_
  rintro e W1 ⟨rfl, hb⟩
  rw [HE.out]
  have c0 := pw_cell_below hb C0.out
  have c1 := pw_cell_below hb C1.out
  have HB1 := Aside0.mk (below_step HB.out hb)
  clear hb HB C0 C1
  go_wp2_with fail
  refine (of_calls _ D f q rows m HQ.out (Kd.C_below (by rw [HQ.out]; exact HZ.out) HB1.out) HU.out ⟨tab_below HB1.out HT.out⟩).mono ?_
  rintro e W2 ⟨hb2, v1, v2, rfl, hl, hx⟩
  have HB2 := Aside0.mk (below_step HB1.out hb2)
  have HL := Aside0.mk hl
  have HX := Aside0.mk hx
  have c0' := pw_cell_below hb2 c0
  have c1' := pw_cell_below hb2 c1
  clear c0 c1 hb2 hl hx
  have C1 := Aside0.mk (twin_calls W2 A c a (by rw [← HN.out]; omega) (Kd.C_below HR.out HB2.out))
  rw [← HN.out] at C1
  go_wp2_with fail
  refine C1.out.mono ?_
  rintro e W3 ⟨A1, c1, rfl, hb3, hc1, r1⟩
  have HB23 := Aside0.mk hb3
  have HR1 := Aside0.mk r1
  clear hb3 r1 C1
  have C1 := Aside0.mk (twin_calls W3 B d b (by rw [← HK.out]; omega) (Kd.C_below HR2.out (below_step HB2.out HB23.out)))
  rw [← HK.out] at C1
  go_wp2_with fail
  refine C1.out.mono ?_
  rintro e W4 ⟨A2, c2, rfl, hb4, hc2, r2⟩
  have HB34 := Aside0.mk hb4
  have HB24 := Aside0.mk (below_step HB23.out hb4)
  have HB4 := Aside0.mk (below_step HB2.out (below_step HB23.out hb4))
  have HR3 := Aside0.mk r2
  clear hb4 r2 C1
  have c0 := pw_cell_below HB24.out c0'
  have c1'' := pw_cell_below HB24.out c1'
  obtain ⟨r, hr0⟩ : ∃ r, r = groundB (hasLat (latO rows)) (hasEff (effO m)) (leLat (latO rows)) (leEff (effO m)) a b := ⟨_, rfl⟩
  have HRR := Aside0.mk hr0
  have C1 := Aside0.mk (ground_calls W4 A1 A2 c1 c2 a b v1 v2 (latO rows) (effO m) (Kd.C_below (twin_of (by rfl) HR1.out) HB34.out) (twin_of (by rfl) HR3.out) HWA.out HWB.out (HL.out.kept HB24.out) (HX.out.kept HB24.out))
  rw [← hr0, ← HN.out, ← HK.out] at C1
  obtain ⟨is, e⟩ := r
  simp only at C1
  clear hr0
  clear c0' c1'
  go_wp2_with fail
  refine C1.out.mono ?_
  rintro e' W5 ⟨rfl, hb5⟩
  have HB45 := Aside0.mk hb5
  have HB5 := Aside0.mk (below_step HB4.out hb5)
  have c0' := pw_cell_below hb5 c0
  have c1' := pw_cell_below hb5 c1''
  clear hb5 C1 c0 c1''
  have C1 := Aside0.mk (Ref09.below9_calls W5 A B D n k c d q f m a b rows HN.out HK.out (by omega) (by omega) HQ.out (by rw [HN.out]; exact Kd.C_below HR.out HB5.out) (by rw [HK.out]; exact Kd.C_below HR2.out HB5.out) (by rw [HQ.out]; exact Kd.C_below HZ.out HB5.out) HU.out HWA.out HWB.out)
  rw [← HRR.out] at C1
  simp only at C1
  go_wp2_with fail
  refine C1.out.mono ?_
  rintro e' W6 ⟨rfl, hb6⟩
  have HB46 := Aside0.mk (below_step HB45.out hb6)
  have HB6 := Aside0.mk (below_step HB5.out hb6)
  clear hb6 C1 c0' c1'
  have z1 : (is == is) = true := beq_self_eq_true _
  have z2 : (e == e) = true := beq_self_eq_true _
  have C1 := Aside0.mk (left_calls W6 A1 A c1 c a (by rw [← HN.out]; omega) (by rw [← HN.out]; exact hc1) (Kd.R_reads' (Kd.R_below HR1.out (below_step HB34.out HB46.out))).2.2 (Kd.C_below HR.out HB6.out))
  rw [← HN.out] at C1
  go_wp2_with fail
  refine C1.out.mono ?_
  rintro e' W7 ⟨rfl, hb7⟩
  have HB47 := Aside0.mk (below_step HB46.out hb7)
  have HB7 := Aside0.mk (below_step HB6.out hb7)
  clear hb7 C1
  have C1 := Aside0.mk (left_calls W7 A2 B c2 d b (by rw [← HK.out]; omega) (by rw [← HK.out]; exact hc2) (Kd.R_reads' (Kd.R_below HR3.out HB47.out)).2.2 (Kd.C_below HR2.out HB7.out))
  rw [← HK.out] at C1
  go_wp2_with fail
  refine C1.out.mono ?_
  rintro e' W8 ⟨rfl, hb8⟩
  have HB8 := Aside0.mk (below_step HB7.out hb8)
  clear hb8 C1
  go_wp2
  go_ret
  exact ⟨rfl, HB8.out⟩
end L09
end Go.Proofs.YtbdecnagdnancaaGreatDoor
