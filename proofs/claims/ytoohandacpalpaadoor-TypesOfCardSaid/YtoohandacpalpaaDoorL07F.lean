/- The law TypesOf: a walk through its code at every input. -/
import Derived.Test.YtoohandacpalpaaDoorTwB
import Derived.Test.YtoohandacpalpaaDoorTyUa
namespace Go.Proofs.YtoohandacpalpaaDoor
open Go.RowKit Go.Shelf Go.Proofs.YtoohandacpalpaaDoorW.PrintWords Go.Proofs.YtoohandacpalpaaDoorW.PrintLast Go.Proofs.YtoohandacpalpaaDoorW.PrintMore
set_option linter.unusedVariables false
set_option linter.unusedSimpArgs false
namespace L07
set_option maxRecDepth 100000 in
set_option maxHeartbeats 4000000 in
theorem of_yes (w : World) (A B : Option Addr) (c d : Nat) (xs ys : List Node) (at_ : Int) (hr : Kd.C kNode w A xs.length xs) (hr2 : Kd.C kNode w B ys.length ys) (hl : xs.length ≤ 300) (hl2 : ys.length ≤ 300) :
    Calls Tryd.prog 3 #[.slice A xs.length c, .slice B ys.length d, .int .i64 at_] w fun e w' => e = .returned (.bool true) ∧ Below w.heap.size w w' := by
  have T1 := Aside0.mk (twin_calls w A c xs hl hr)
  have T2 : Aside0 (∀ W, Below w.heap.size w W → Calls Tryd.prog 13 #[.slice B ys.length d] W fun e w' => ∃ A1 c1, e = .returned (.slice A1 ys.length c1) ∧ Below W.heap.size W w' ∧ ys.length < c1 ∧ kNode.R 36 w' W.heap.size (fun _ => True) (.slice A1 (ys ++ [spareN]).length c1) (ys ++ [spareN])) := ⟨fun W hb => twin_calls W B d ys hl2 (Kd.C_below hr2 hb)⟩
  obtain ⟨n, hn⟩ : ∃ n, n = xs.length := ⟨_, rfl⟩
  obtain ⟨m, hm⟩ : ∃ m, m = ys.length := ⟨_, rfl⟩
  have HN := Aside0.mk hn
  have HM := Aside0.mk hm
  have HR := Aside0.mk hr
  have HR2 := Aside0.mk hr2
  rw [← hn] at hl ⊢
  rw [← hm] at hl2 ⊢
  rw [← hn] at T1
  rw [← hm] at T2
  have z1 : decide (300 < (n : Int)) = false := decide_eq_false (by omega)
  have z2 : decide (300 < (m : Int)) = false := decide_eq_false (by omega)
  clear hn hm hr hr2
  go_enter Tryd.func3, Tryd.ntmps3
  go_wp2_with (go_at_call 13; (with_reducible refine (T1.out).mono ?_); rintro e w1 ⟨A1, c1, rfl, hb1, hc1, ht1⟩)
  have HB1 := Aside0.mk hb1
  have HT1 := Aside0.mk ht1
  clear hb1 ht1
  refine (T2.out _ HB1.out).mono ?_
  rintro e w2 ⟨B1, d1, rfl, hb2, hc2, ht2⟩
  have HT3 : Aside0 (kNode.C w2 A1 (xs ++ [spareN]).length (xs ++ [spareN])) := ⟨Kd.C_below (Kd.R_reads' HT1.out).2.2 hb2⟩
  have HT4 : Aside0 (kNode.C w2 B1 (ys ++ [spareN]).length (ys ++ [spareN])) := ⟨(Kd.R_reads' ht2).2.2⟩
  have HX : Aside0 (kNode.C w2 A1 n xs) := ⟨by
    have := C_take (m := n) HT3.out (by rw [HN.out]; simp)
    rw [HN.out, List.take_left] at this; rw [HN.out]; exact this⟩
  have HY : Aside0 (kNode.C w2 B1 m ys) := ⟨by
    have := C_take (m := m) HT4.out (by rw [HM.out]; simp)
    rw [HM.out, List.take_left] at this; rw [HM.out]; exact this⟩
  have HB2 := Aside0.mk (below_step HB1.out hb2)
  have HX0 : Aside0 (kNode.C w2 A n xs) := ⟨by rw [HN.out]; exact Kd.C_below HR.out HB2.out⟩
  have HY0 : Aside0 (kNode.C w2 B m ys) := ⟨by rw [HM.out]; exact Kd.C_below HR2.out HB2.out⟩
  clear hb2 ht2 HT1 HB1 T1 T2
  obtain ⟨q, hq⟩ : ∃ q, q = checkB xs := ⟨_, rfl⟩
  obtain ⟨en, hen⟩ : ∃ en, en = endB xs at_ := ⟨_, rfl⟩
  obtain ⟨dp, hdp⟩ : ∃ dp, dp = deepB xs := ⟨_, rfl⟩
  obtain ⟨sm, hsm⟩ : ∃ sm, sm = sameL xs ys := ⟨_, rfl⟩
  have K1 : Aside0 (∀ W, Below w2.heap.size w2 W → Calls Tryd.prog 14 #[.slice A1 n c1] W fun e w' => e = .returned (.int .i64 q) ∧ Below W.heap.size W w') := ⟨fun W hb => by rw [hq, HN.out]; exact check_calls W A1 c1 xs (by rw [← HN.out]; exact Kd.C_below HX.out hb)⟩
  have K2 : Aside0 (∀ W, Below w2.heap.size w2 W → Calls Tryd.prog 15 #[.slice A n c] W fun e w' => e = .returned (.int .i64 q) ∧ Below W.heap.size W w') := ⟨fun W hb => by rw [hq, HN.out]; exact Ref07.check_calls W A c xs (by rw [← HN.out]; exact hl) (by rw [← HN.out]; exact Kd.C_below HX0.out hb)⟩
  have K3 : Aside0 (∀ W, Below w2.heap.size w2 W → Calls Tryd.prog 16 #[.slice A1 n c1, .int .i64 at_] W fun e w' => e = .returned (.int .i64 en) ∧ Below W.heap.size W w') := ⟨fun W hb => by rw [hen, HN.out]; exact end_calls W A1 c1 xs at_ (by rw [← HN.out]; exact Kd.C_below HX.out hb)⟩
  have K4 : Aside0 (∀ W, Below w2.heap.size w2 W → Calls Tryd.prog 17 #[.slice A n c, .int .i64 at_] W fun e w' => e = .returned (.int .i64 en) ∧ Below W.heap.size W w') := ⟨fun W hb => by rw [hen, HN.out]; exact Ref07.end_calls W A c xs at_ (by rw [← HN.out]; exact hl) (by rw [← HN.out]; exact Kd.C_below HX0.out hb)⟩
  have K5 : Aside0 (∀ W, Below w2.heap.size w2 W → Calls Tryd.prog 18 #[.slice A1 n c1] W fun e w' => e = .returned (.int .i64 dp) ∧ Below W.heap.size W w') := ⟨fun W hb => by rw [hdp, HN.out]; exact deep_calls W A1 c1 xs (by rw [← HN.out]; exact Kd.C_below HX.out hb)⟩
  have K6 : Aside0 (∀ W, Below w2.heap.size w2 W → Calls Tryd.prog 19 #[.slice A n c] W fun e w' => e = .returned (.int .i64 dp) ∧ Below W.heap.size W w') := ⟨fun W hb => by rw [hdp, HN.out]; exact Ref07.deep_calls W A c xs (by rw [← HN.out]; exact hl) (by rw [← HN.out]; exact Kd.C_below HX0.out hb)⟩
  have K7 : Aside0 (∀ W, Below w2.heap.size w2 W → Calls Tryd.prog 20 #[.slice A1 n c1, .slice B1 m d1] W fun e w' => e = .returned (.bool sm) ∧ Below W.heap.size W w') := ⟨fun W hb => by rw [hsm, HN.out, HM.out]; exact same_calls W A1 B1 c1 d1 xs ys (by rw [← HN.out]; exact Kd.C_below HX.out hb) (by rw [← HM.out]; exact Kd.C_below HY.out hb)⟩
  have K8 : Aside0 (∀ W, Below w2.heap.size w2 W → Calls Tryd.prog 21 #[.slice A n c, .slice B m d] W fun e w' => e = .returned (.bool sm) ∧ Below W.heap.size W w') := ⟨fun W hb => by rw [hsm, HN.out, HM.out]; exact Ref07.same_calls W A B c d xs ys (by rw [← HN.out]; exact Kd.C_below HX0.out hb) (by rw [← HM.out]; exact Kd.C_below HY0.out hb)⟩
  have K9 : Aside0 (∀ W, Below w2.heap.size w2 W → Calls Tryd.prog 22 #[.slice A1 n c1, .slice A n c] W fun e w' => e = .returned (.bool true) ∧ Below W.heap.size W w') := ⟨fun W hb => by rw [HN.out]; exact left_calls W A1 A c1 c xs (by rw [← HN.out]; exact hl) (by rw [← HN.out]; exact hc1) (Kd.C_below HT3.out hb) (by rw [← HN.out]; exact Kd.C_below HX0.out hb)⟩
  have K10 : Aside0 (∀ W, Below w2.heap.size w2 W → Calls Tryd.prog 22 #[.slice B1 m d1, .slice B m d] W fun e w' => e = .returned (.bool true) ∧ Below W.heap.size W w') := ⟨fun W hb => by rw [HM.out]; exact left_calls W B1 B d1 d ys (by rw [← HM.out]; exact hl2) (by rw [← HM.out]; exact hc2) (Kd.C_below HT4.out hb) (by rw [← HM.out]; exact Kd.C_below HY0.out hb)⟩
  have HB := Aside0.mk (Below.refl w2.heap.size w2)
  clear hq hen hdp hsm HT3 HT4 HX HY HX0 HY0 HR HR2 HN HM hc1 hc2
  go_wp2_with (first
    | (go_at_call 14; (with_reducible refine (K1.out _ HB.out).mono ?_); rintro e W' ⟨rfl, hb'⟩; have HB' := Aside0.mk (below_step HB.out hb'); clear HB hb'; have HB := HB'; clear HB') | (go_at_call 15; (with_reducible refine (K2.out _ HB.out).mono ?_); rintro e W' ⟨rfl, hb'⟩; have HB' := Aside0.mk (below_step HB.out hb'); clear HB hb'; have HB := HB'; clear HB')
    | (go_at_call 16; (with_reducible refine (K3.out _ HB.out).mono ?_); rintro e W' ⟨rfl, hb'⟩; have HB' := Aside0.mk (below_step HB.out hb'); clear HB hb'; have HB := HB'; clear HB') | (go_at_call 17; (with_reducible refine (K4.out _ HB.out).mono ?_); rintro e W' ⟨rfl, hb'⟩; have HB' := Aside0.mk (below_step HB.out hb'); clear HB hb'; have HB := HB'; clear HB')
    | (go_at_call 18; (with_reducible refine (K5.out _ HB.out).mono ?_); rintro e W' ⟨rfl, hb'⟩; have HB' := Aside0.mk (below_step HB.out hb'); clear HB hb'; have HB := HB'; clear HB') | (go_at_call 19; (with_reducible refine (K6.out _ HB.out).mono ?_); rintro e W' ⟨rfl, hb'⟩; have HB' := Aside0.mk (below_step HB.out hb'); clear HB hb'; have HB := HB'; clear HB')
    | (go_at_call 20; (with_reducible refine (K7.out _ HB.out).mono ?_); rintro e W' ⟨rfl, hb'⟩; have HB' := Aside0.mk (below_step HB.out hb'); clear HB hb'; have HB := HB'; clear HB') | (go_at_call 21; (with_reducible refine (K8.out _ HB.out).mono ?_); rintro e W' ⟨rfl, hb'⟩; have HB' := Aside0.mk (below_step HB.out hb'); clear HB hb'; have HB := HB'; clear HB')
    | (go_at_call 22; (with_reducible refine (K9.out _ HB.out).mono ?_); rintro e W' ⟨rfl, hb'⟩; have HB' := Aside0.mk (below_step HB.out hb'); clear HB hb'; have HB := HB'; clear HB') | (go_at_call 22; (with_reducible refine (K10.out _ HB.out).mono ?_); rintro e W' ⟨rfl, hb'⟩; have HB' := Aside0.mk (below_step HB.out hb'); clear HB hb'; have HB := HB'; clear HB'))
  go_ret
  exact ⟨rfl, below_step HB2.out HB.out⟩
theorem of_no (w : World) (A B : Option Addr) (c d n m : Nat) (at_ : Int) (h : 300 < n ∨ 300 < m) :
    Calls Tryd.prog 3 #[.slice A n c, .slice B m d, .int .i64 at_] w fun e w' => e = .returned (.bool true) ∧ Below w.heap.size w w' := by
  by_cases h1 : 300 < n
  all_goals
    go_enter Tryd.func3, Tryd.ntmps3
    try have h2 := h.resolve_left h1
    clear h
    go_wp2
    go_ret
    exact ⟨rfl, Below.refl _ _⟩
/-- TypesOf: true at every input. -/
theorem of_walk (w : World) (A : Option Addr) (c : Nat) (xs : List Node) (hr : Kd.C kNode w A xs.length xs) (hc : xs.length ≤ c) (hw : ∀ n ∈ xs, Node.wf n) (B : Option Addr) (d : Nat) (ys : List Node) (hr2 : Kd.C kNode w B ys.length ys) (hd : ys.length ≤ d) (hw2 : ∀ n ∈ ys, Node.wf n) (at_ : Int) (ha : (Lit.int .i64 at_).wf = true) :
    Calls Tryd.prog 3 #[.slice A xs.length c, .slice B ys.length d, .int .i64 at_] w fun e w' => e = .returned (.bool true) ∧ Below w.heap.size w w' := by
  by_cases h : 300 < xs.length ∨ 300 < ys.length
  · exact of_no w A B c d _ _ at_ h
  · exact of_yes w A B c d xs ys at_ hr hr2 (by omega) (by omega)
end L07
end Go.Proofs.YtoohandacpalpaaDoor
