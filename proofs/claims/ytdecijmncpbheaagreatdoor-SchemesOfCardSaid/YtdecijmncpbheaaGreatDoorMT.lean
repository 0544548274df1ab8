/- Several texts as one: TwB, TwNum, TwBound, TwS. -/
import Derived.Test.YtdecijmncpbheaaGreatDoorMA
import Derived.Test.YtdecijmncpbheaaGreatDoorMB
import Derived.Test.YtdecijmncpbheaaGreatDoorMC
import Derived.Test.YtdecijmncpbheaaGreatDoorMS
import Derived.Deep.RegionHeld3

namespace Go.Proofs.YtdecijmncpbheaaGreatDoor
open Go.RowKit Go.Shelf Go.Proofs.YtdecijmncpbheaaGreatDoorW.PrintWords Go.Proofs.YtdecijmncpbheaaGreatDoorW.PrintLast Go.Proofs.YtdecijmncpbheaaGreatDoorW.PrintMore
set_option linter.unusedVariables false
set_option linter.unusedSimpArgs false
def spareN : Node := ⟨0, 77, ⟨#[]⟩, 0, ⟨false, 0⟩, ⟨false, 0⟩, ⟨false, 0⟩⟩
/-- One node, in a block that is new. -/
theorem node_C (w : World) (n : Node) : kNode.C (w.alloc (.cells (nodeC n).toArray 119)) (some ⟨w.heap.size, 0, none⟩) 1 [n] := by
  have h := reps_cons (R := kNode.K (w.alloc (.cells (nodeC n ++ []).toArray 119))) (k119_mk _ n) rfl (Reps.none _ kNode.sz)
  rw [← List.append_nil (nodeC n)]
  exact C_block (blk_new w _) h (show 1 ≤ 9223372036854775807 by decide)
set_option maxRecDepth 100000 in
set_option maxHeartbeats 4000000 in
theorem twin_calls (w : World) (A : Option Addr) (c : Nat) (xs : List Node) (hl : xs.length ≤ 300) (hr : Kd.C kNode w A xs.length xs) :
    Calls Tryz.prog 29 #[.slice A xs.length c] w fun e w' => ∃ A1 c1, e = .returned (.slice A1 xs.length c1) ∧ Below w.heap.size w w' ∧ xs.length < c1 ∧ kNode.R 119 w' w.heap.size (fun _ => True) (.slice A1 (xs ++ [spareN]).length c1) (xs ++ [spareN]) := by
  have HR := Aside0.mk hr
  clear hr
  obtain ⟨n, hn⟩ : ∃ n, n = xs.length := ⟨_, rfl⟩
  have HN := Aside0.mk hn
  rw [← hn] at hl ⊢
  clear hn
  go_enter Tryz.func29, Tryz.ntmps29
  go_wp2_with (at_make; refine wpList_make0 rfl kNode w.heap.size 119 22 _ _ rfl ((n : Int) + 1) (n + 1) rfl rfl rfl (by kernel_rfl) (.agg #[.int .u8 0, .int .i64 0, .string ⟨#[]⟩, .int .i64 0, .bool false, .int .u64 0, .bool false, .int .u64 0, .bool false, .int .u64 0]) 88 L07.infoN (by decide) (by omega) (fun _ => True) trivial (Nat.le_refl _) ?_; intro w1 HO1 hg1; have HO := Aside0.mk HO1; have HB := Aside0.mk ((Below.refl w.heap.size w).grown hg1 (Nat.le_refl _) (fun k hk => by cases hk)); clear HO1 hg1)
  go_loopg [3, 4] 302 (fun g t i W => ∃ (k : Nat) (A1 : Option Addr) (c1 : Nat), i = .int .i64 k ∧ t = .slice A1 k c1 ∧ k ≤ n ∧ n + 1 - k ≤ g ∧ Aside0 (kNode.R 119 W w.heap.size (fun _ => True) (.slice A1 k c1) (xs.take k)) ∧ Aside0 (Below w.heap.size w W))
  case atStart => exact ⟨0, _, _, rfl, rfl, by omega, by omega, HO, HB⟩
  case round =>
    clear HO HB
    obtain ⟨k, A1, c1, rfl, rfl, hk, hkg, HO, HB⟩ := hrel
    rcases Nat.lt_or_ge k n with hlt | hge
    · have hd : decide (k < n) = true := decide_eq_true hlt
      obtain ⟨ad, rfl, c0, c1', c2, c3, c4, c5, c6, c7, c8, c9⟩ := C_nodeN (Kd.C_below HR.out HB.out) k (by rw [← HN.out]; exact hlt)
      obtain ⟨m, hm⟩ : ∃ m, m = xs[k]'(by rw [← HN.out]; exact hlt) := ⟨_, rfl⟩
      rw [← hm] at c0 c1' c2 c3 c4 c5 c6 c7 c8 c9
      have HM : Aside0 (xs.take k ++ [m] = xs.take (k + 1)) := ⟨by rw [hm, List.take_succ_eq_append_getElem]⟩
      clear hm
      have hlk : (xs.take k).length = k := by rw [List.length_take]; have := HN.out; omega
      have hlk1 : (xs.take (k + 1)).length = k + 1 := by rw [List.length_take]; have := HN.out; omega
      go_wp2_with (at_builtin; refine wpList_append_R rfl kNode w.heap.size (.tmp 15) (.tmp 20) 22 22 119 119 (.agg #[.int .u8 0, .int .i64 0, .string ⟨#[]⟩, .int .i64 0, .bool false, .int .u64 0, .bool false, .int .u64 0, .bool false, .int .u64 0]) 88 rfl (by kernel_rfl) (by kernel_rfl) L07.infoN rfl (by decide) (by decide) (.slice A1 k c1) (xs.take k) [m] (some ⟨wr.heap.size, 0, none⟩) 1 1 (fun _ => True) (fun _ => False) rfl rfl (Kd.R_below HO.out (below_alloc (Below.refl _ _) _)) (node_C wr m) (fun x cs h => nodeM h) (fun _ h => h.elim) (fun _ _ => trivial) (below_alloc HB.out _).size (by rw [hlk]; omega) ?_; intro v1 w1 HO1 hg1 hat; rw [HM.out] at HO1; obtain ⟨A2, c2, rfl⟩ := Kd.R_slice HO1; rw [hlk1] at HO1 ⊢; have HB1 := Aside0.mk ((below_alloc HB.out _).grown hg1 (below_alloc HB.out _).size (fun k hk => (Kd.R_bound HO.out).1 k hk |>.2.1)); have HO2 := Aside0.mk HO1; clear HO1 hg1 hat HO HB)
      go_roundg (gk - 1)
      case measure => omega
      case rel => exact ⟨k + 1, A2, c2, by go_num, rfl, by omega, by omega, HO2, HB1⟩
    · have hd : decide (k < n) = false := decide_eq_false (by omega)
      obtain rfl : k = n := by omega
      have HO1 := HO.out
      rw [List.take_of_length_le (by rw [← HN.out]; exact Nat.le_refl _)] at HO1
      have HO2 := Aside0.mk HO1
      clear HO HO1
      go_wp2_with (at_builtin; refine wpList_append_R rfl kNode w.heap.size (.tmp 22) (.tmp 24) 22 22 119 119 (.agg #[.int .u8 0, .int .i64 0, .string ⟨#[]⟩, .int .i64 0, .bool false, .int .u64 0, .bool false, .int .u64 0, .bool false, .int .u64 0]) 88 rfl (by kernel_rfl) (by kernel_rfl) L07.infoN rfl (by decide) (by decide) (.slice A1 k c1) xs [spareN] (some ⟨wr.heap.size, 0, none⟩) 1 1 (fun _ => True) (fun _ => False) rfl rfl (Kd.R_below HO2.out (below_alloc (Below.refl _ _) _)) (node_C wr spareN) (fun x cs h => nodeM h) (fun _ h => h.elim) (fun _ _ => trivial) (below_alloc HB.out _).size (by have := HN.out; omega) ?_; intro v1 w1 HO1 hg1 hat; obtain ⟨A2, c2, rfl⟩ := Kd.R_slice HO1; have HB1 := Aside0.mk ((below_alloc HB.out _).grown hg1 (below_alloc HB.out _).size (fun k hk => (Kd.R_bound HO2.out).1 k hk |>.2.1)); have HO3 := Aside0.mk HO1; have hcap := (Kd.R_reads' HO1).2.1; have hkc : k < c2 := (by have := HN.out; simp at hcap; omega); clear HO1 hg1 hat HO2 HB hcap)
      go_ret
      exact ⟨A2, c2, rfl, HB1.out, hkc, HO3.out⟩
end Go.Proofs.YtdecijmncpbheaaGreatDoor
namespace Go.Proofs.YtdecijmncpbheaaGreatDoor
open Go.RowKit Go.Shelf Go.Proofs.YtdecijmncpbheaaGreatDoorW.PrintWords Go.Proofs.YtdecijmncpbheaaGreatDoorW.PrintLast Go.Proofs.YtdecijmncpbheaaGreatDoorW.PrintMore
set_option linter.unusedVariables false
set_option linter.unusedSimpArgs false
set_option maxRecDepth 100000 in
set_option maxHeartbeats 4000000 in
theorem left_calls (w : World) (A A2 : Option Addr) (c c2 : Nat) (xs : List Node) (hl : xs.length ≤ 300) (hc : xs.length < c) (hr : Kd.C kNode w A (xs ++ [spareN]).length (xs ++ [spareN])) (hr2 : Kd.C kNode w A2 xs.length xs) :
    Calls Tryz.prog 47 #[.slice A xs.length c, .slice A2 xs.length c2] w fun e w' => e = .returned (.bool true) ∧ Below w.heap.size w w' := by
  have HR := Aside0.mk hr
  have HR2 := Aside0.mk hr2
  clear hr hr2
  obtain ⟨n, hn⟩ : ∃ n, n = xs.length := ⟨_, rfl⟩
  have HN := Aside0.mk hn
  rw [← hn] at hl hc ⊢
  clear hn
  have z0 : ((n : Int) != (n : Int)) = false := bne_self_eq_false _
  have z1 : decide ((c : Int) ≤ (n : Int)) = false := decide_eq_false (by omega)
  have hls : (xs ++ [spareN]).length = n + 1 := by rw [HN.out]; simp
  have HLS := Aside0.mk hls
  clear hls
  go_enter Tryz.func47, Tryz.ntmps47
  go_wp2
  go_loopg [5] 302 (fun g i W => ∃ (k : Nat), i = .int .i64 k ∧ k ≤ n ∧ n + 1 - k ≤ g ∧ Aside0 (Below w.heap.size w W))
  case atStart => exact ⟨0, rfl, by omega, by omega, ⟨Below.refl _ _⟩⟩
  case round =>
    obtain ⟨k, rfl, hk, hkg, HB⟩ := hrel
    rcases Nat.lt_or_ge k n with hlt | hge
    · have hd : decide (k < n) = true := decide_eq_true hlt
      obtain ⟨ad, rfl, c0, c1', c2', c3, c4, c5, c6, c7, c8, c9⟩ := C_nodeN (Kd.C_below HR.out HB.out) k (by rw [HLS.out]; omega)
      obtain ⟨bd, rfl, d0, d1, d2, d3, d4, d5, d6, d7, d8, d9⟩ := C_nodeN (Kd.C_below HR2.out HB.out) k (by rw [← HN.out]; exact hlt)
      obtain ⟨m, hm⟩ : ∃ m, m = xs[k]'(by rw [← HN.out]; exact hlt) := ⟨_, rfl⟩
      rw [List.getElem_append_left (by rw [← HN.out]; exact hlt), ← hm] at c0 c1' c2' c3 c4 c5 c6 c7 c8 c9
      rw [← hm] at d0 d1 d2 d3 d4 d5 d6 d7 d8 d9
      clear hm
      go_wp2
      go_quiet (fail)
      go_wp2
      go_roundg (gk - 1)
      case measure => omega
      case rel => exact ⟨k + 1, by go_num, by omega, by omega, ⟨pw_below_drewN HB.out _⟩⟩
    · have hd : decide (k < n) = false := decide_eq_false (by omega)
      obtain rfl : k = n := by omega
      obtain ⟨ad, rfl, c0, c1', c2', c3, c4, c5, c6, c7, c8, c9⟩ := C_nodeN (Kd.C_below HR.out HB.out) k (by rw [HLS.out]; omega)
      have hm : (xs ++ [spareN])[k]'(by rw [HLS.out]; omega) = spareN := by
        rw [List.getElem_append_right (by rw [← HN.out]; exact Nat.le_refl _)]; simp [HN.out]
      rw [hm] at c0 c1' c2' c3 c4 c5 c6 c7 c8 c9
      clear hm
      go_wp2
      go_ret
      exact ⟨rfl, below_alloc HB.out _⟩
end Go.Proofs.YtdecijmncpbheaaGreatDoor

namespace Go.Proofs.YtdecijmncpbheaaGreatDoor
open Go.RowKit Go.Shelf Go.Proofs.YtdecijmncpbheaaGreatDoorW.PrintWords Go.Proofs.YtdecijmncpbheaaGreatDoorW.PrintLast Go.Proofs.YtdecijmncpbheaaGreatDoorW.PrintMore
set_option linter.unusedVariables false
set_option linter.unusedSimpArgs false
namespace Tw
def spareNum : Int := 77
theorem infoNum : (Tryz.prog.info? 91).map (fun i => (i.zero, i.size, i.bytes)) = some (some (.int .u64 0), 1, 8) := by kernel_rfl
theorem newNum (w : World) (x : Int) : (Kd.int .u64).C (w.alloc (.cells #[.int .u64 x] 91)) (some ⟨w.heap.size, 0, none⟩) 1 [x] := by
  exact C_one_new _ w _ 91
theorem M_Num {w w1 : World} {base : Nat} {ok : Nat → Prop} {x : Int} {cs : List Value} (h : (Kd.int .u64).K w x cs) : (Kd.int .u64).M w1 base ok x cs := by
  exact h
set_option maxRecDepth 100000 in
set_option maxHeartbeats 4000000 in
theorem twinNum_calls (w : World) (A : Option Addr) (c : Nat) (xs : List Int) (hl : xs.length ≤ 1000) (hr : Kd.C (Kd.int .u64) w A xs.length xs) :
    Calls Tryz.prog 8 #[.slice A xs.length c] w fun e w' => ∃ A1 c1, e = .returned (.slice A1 xs.length c1) ∧ Below w.heap.size w w' ∧ xs.length < c1 ∧ (Kd.int .u64).R 91 w' w.heap.size (fun _ => True) (.slice A1 (xs ++ [spareNum]).length c1) (xs ++ [spareNum]) := by
  have HR := Aside0.mk hr
  clear hr
  obtain ⟨n, hn⟩ : ∃ n, n = xs.length := ⟨_, rfl⟩
  have HN := Aside0.mk hn
  rw [← hn] at hl ⊢
  clear hn
  go_enter Tryz.func8, Tryz.ntmps8
  go_wp2_with (at_make; refine wpList_make0 rfl (Kd.int .u64) w.heap.size 91 26 _ _ rfl ((n : Int) + 1) (n + 1) rfl rfl rfl (by kernel_rfl) (.int .u64 0) 8 infoNum (by decide) (by omega) (fun _ => True) trivial (Nat.le_refl _) ?_; intro w1 HO1 hg1; have HO := Aside0.mk HO1; have HB := Aside0.mk ((Below.refl w.heap.size w).grown hg1 (Nat.le_refl _) (fun k hk => by cases hk)); clear HO1 hg1)
  go_loopg [3, 4] 1002 (fun g t i W => ∃ (k : Nat) (A1 : Option Addr) (c1 : Nat), i = .int .i64 k ∧ t = .slice A1 k c1 ∧ k ≤ n ∧ n + 1 - k ≤ g ∧ Aside0 ((Kd.int .u64).R 91 W w.heap.size (fun _ => True) (.slice A1 k c1) (xs.take k)) ∧ Aside0 (Below w.heap.size w W))
  case atStart => exact ⟨0, _, _, rfl, rfl, by omega, by omega, HO, HB⟩
  case round =>
    clear HO HB
    obtain ⟨k, A1, c1, rfl, rfl, hk, hkg, HO, HB⟩ := hrel
    rcases Nat.lt_or_ge k n with hlt | hge
    · have hd : decide (k < n) = true := decide_eq_true hlt
      obtain ⟨ad, rfl, y0⟩ := C_intN (Kd.C_below HR.out HB.out) k (by rw [← HN.out]; exact hlt)
      obtain ⟨x, hx⟩ : ∃ x, x = xs[k]'(by rw [← HN.out]; exact hlt) := ⟨_, rfl⟩
      rw [← hx] at y0
      have HM : Aside0 (xs.take k ++ [x] = xs.take (k + 1)) := ⟨by rw [hx, List.take_succ_eq_append_getElem]⟩
      clear hx
      have hlk : (xs.take k).length = k := by rw [List.length_take]; have := HN.out; omega
      have hlk1 : (xs.take (k + 1)).length = k + 1 := by rw [List.length_take]; have := HN.out; omega
      go_wp2_with (at_builtin; refine wpList_append_R rfl (Kd.int .u64) w.heap.size (.tmp 15) (.tmp 20) 26 26 91 91 (.int .u64 0) 8 rfl (by kernel_rfl) (by kernel_rfl) infoNum rfl (by decide) (by decide) (.slice A1 k c1) (xs.take k) [x] (some ⟨wr.heap.size, 0, none⟩) 1 1 (fun _ => True) (fun _ => False) rfl rfl (Kd.R_below HO.out (below_alloc (Below.refl _ _) _)) (newNum wr x) (fun x cs h => M_Num h) (fun _ h => h.elim) (fun _ _ => trivial) (below_alloc HB.out _).size (by rw [hlk]; omega) ?_; intro v1 w1 HO1 hg1 hat; rw [HM.out] at HO1; obtain ⟨A2, c2, rfl⟩ := Kd.R_slice HO1; rw [hlk1] at HO1 ⊢; have HB1 := Aside0.mk ((below_alloc HB.out _).grown hg1 (below_alloc HB.out _).size (fun k hk => (Kd.R_bound HO.out).1 k hk |>.2.1)); have HO2 := Aside0.mk HO1; clear HO1 hg1 hat HO HB)
      go_roundg (gk - 1)
      case measure => omega
      case rel => exact ⟨k + 1, A2, c2, by go_num, rfl, by omega, by omega, HO2, HB1⟩
    · have hd : decide (k < n) = false := decide_eq_false (by omega)
      obtain rfl : k = n := by omega
      have HO1 := HO.out
      rw [List.take_of_length_le (by rw [← HN.out]; exact Nat.le_refl _)] at HO1
      have HO2 := Aside0.mk HO1
      clear HO HO1
      go_wp2_with (at_builtin; refine wpList_append_R rfl (Kd.int .u64) w.heap.size (.tmp 22) (.tmp 23) 26 26 91 91 (.int .u64 0) 8 rfl (by kernel_rfl) (by kernel_rfl) infoNum rfl (by decide) (by decide) (.slice A1 k c1) xs [spareNum] (some ⟨wr.heap.size, 0, none⟩) 1 1 (fun _ => True) (fun _ => False) rfl rfl (Kd.R_below HO2.out (below_alloc (Below.refl _ _) _)) (newNum wr spareNum) (fun x cs h => M_Num h) (fun _ h => h.elim) (fun _ _ => trivial) (below_alloc HB.out _).size (by have := HN.out; omega) ?_; intro v1 w1 HO1 hg1 hat; obtain ⟨A2, c2, rfl⟩ := Kd.R_slice HO1; have HB1 := Aside0.mk ((below_alloc HB.out _).grown hg1 (below_alloc HB.out _).size (fun k hk => (Kd.R_bound HO2.out).1 k hk |>.2.1)); have HO3 := Aside0.mk HO1; have hcap := (Kd.R_reads' HO1).2.1; have hkc : k < c2 := (by have := HN.out; simp at hcap; omega); clear HO1 hg1 hat HO2 HB hcap)
      go_ret
      exact ⟨A2, c2, rfl, HB1.out, hkc, HO3.out⟩
theorem takeNum {w : World} {base n c : Nat} {A : Option Addr} {xs : List Int} {ok : Nat → Prop} (hn : n = xs.length) (h : (Kd.int .u64).R 91 w base ok (.slice A (xs ++ [spareNum]).length c) (xs ++ [spareNum])) : (Kd.int .u64).R 91 w base ok (.slice A n c) xs := by
  have := Kd.R_take h (m := n) (by rw [List.length_append]; omega)
  rwa [List.take_left' hn.symm] at this
set_option maxRecDepth 100000 in
set_option maxHeartbeats 4000000 in
theorem leftNum_calls (w : World) (A A2 : Option Addr) (c c2 : Nat) (xs : List Int) (hl : xs.length ≤ 1000) (hc : xs.length < c) (hr : Kd.C (Kd.int .u64) w A (xs ++ [spareNum]).length (xs ++ [spareNum])) (hr2 : Kd.C (Kd.int .u64) w A2 xs.length xs) :
    Calls Tryz.prog 17 #[.slice A xs.length c, .slice A2 xs.length c2] w fun e w' => e = .returned (.bool true) ∧ Below w.heap.size w w' := by
  have HR := Aside0.mk hr
  have HR2 := Aside0.mk hr2
  clear hr hr2
  obtain ⟨n, hn⟩ : ∃ n, n = xs.length := ⟨_, rfl⟩
  have HN := Aside0.mk hn
  rw [← hn] at hl hc ⊢
  clear hn
  have z0 : ((n : Int) != (n : Int)) = false := bne_self_eq_false _
  have z1 : decide ((c : Int) ≤ (n : Int)) = false := decide_eq_false (by omega)
  have hls : (xs ++ [spareNum]).length = n + 1 := by rw [HN.out]; simp
  have HLS := Aside0.mk hls
  clear hls
  go_enter Tryz.func17, Tryz.ntmps17
  go_wp2
  go_loopg [5] 1002 (fun g i W => ∃ (k : Nat), i = .int .i64 k ∧ k ≤ n ∧ n + 1 - k ≤ g ∧ Aside0 (Below w.heap.size w W))
  case atStart => exact ⟨0, rfl, by omega, by omega, ⟨Below.refl _ _⟩⟩
  case round =>
    obtain ⟨k, rfl, hk, hkg, HB⟩ := hrel
    rcases Nat.lt_or_ge k n with hlt | hge
    · have hd : decide (k < n) = true := decide_eq_true hlt
      obtain ⟨ad, rfl, y0⟩ := C_intN (Kd.C_below HR.out HB.out) k (by rw [HLS.out]; omega)
      obtain ⟨bd, rfl, z0'⟩ := C_intN (Kd.C_below HR2.out HB.out) k (by rw [← HN.out]; exact hlt)
      obtain ⟨m, hm⟩ : ∃ m, m = xs[k]'(by rw [← HN.out]; exact hlt) := ⟨_, rfl⟩
      rw [List.getElem_append_left (by rw [← HN.out]; exact hlt), ← hm] at y0
      rw [← hm] at z0'
      clear hm
      have hmm : (m != m) = false := bne_self_eq_false _
      go_wp2
      go_quiet (fail)
      go_wp2
      go_roundg (gk - 1)
      case measure => omega
      case rel => exact ⟨k + 1, by go_num, by omega, by omega, ⟨pw_below_drewN HB.out _⟩⟩
    · have hd : decide (k < n) = false := decide_eq_false (by omega)
      obtain rfl : k = n := by omega
      obtain ⟨ad, rfl, y0⟩ := C_intN (Kd.C_below HR.out HB.out) k (by rw [HLS.out]; omega)
      have hm : (xs ++ [spareNum])[k]'(by rw [HLS.out]; omega) = spareNum := by
        rw [List.getElem_append_right (by rw [← HN.out]; exact Nat.le_refl _)]; simp [HN.out]
      rw [hm] at y0
      simp only [spareNum] at y0
      clear hm
      go_wp2
      go_ret
      exact ⟨rfl, HB.out⟩
end Tw
end Go.Proofs.YtdecijmncpbheaaGreatDoor

namespace Go.Proofs.YtdecijmncpbheaaGreatDoor
open Go.RowKit Go.Shelf Go.Proofs.YtdecijmncpbheaaGreatDoorW.PrintWords Go.Proofs.YtdecijmncpbheaaGreatDoorW.PrintLast Go.Proofs.YtdecijmncpbheaaGreatDoorW.PrintMore
set_option linter.unusedVariables false
set_option linter.unusedSimpArgs false
namespace Tw
def spareBound : Bound := ⟨⟨false, 77⟩, ⟨false, 0⟩⟩
theorem infoBound : (Tryz.prog.info? 104).map (fun i => (i.zero, i.size, i.bytes)) = some (some (.agg #[.bool false, .int .u64 0, .bool false, .int .u64 0]), 4, 32) := by kernel_rfl
theorem newBound (w : World) (x : Bound) : kBound.C (w.alloc (.cells #[.bool x.f0.f0, .int .u64 x.f0.f1, .bool x.f1.f0, .int .u64 x.f1.f1] 104)) (some ⟨w.heap.size, 0, none⟩) 1 [x] := by
  have h := reps_cons (R := kBound.K (w.alloc (.cells ([Value.bool x.f0.f0, .int .u64 x.f0.f1, .bool x.f1.f0, .int .u64 x.f1.f1] ++ []).toArray 104))) (k104_mk _ x) rfl (Reps.none _ kBound.sz)
  exact C_block (blk_new w _) h (show 1 ≤ 9223372036854775807 by decide)
theorem M_Bound {w w1 : World} {base : Nat} {ok : Nat → Prop} {x : Bound} {cs : List Value} (h : kBound.K w x cs) : kBound.M w1 base ok x cs := by
  rw [k104_open h]
  exact k104_mkM w1 base ok x
set_option maxRecDepth 100000 in
set_option maxHeartbeats 4000000 in
theorem twinBound_calls (w : World) (A : Option Addr) (c : Nat) (xs : List Bound) (hl : xs.length ≤ 1000) (hr : Kd.C kBound w A xs.length xs) :
    Calls Tryz.prog 30 #[.slice A xs.length c] w fun e w' => ∃ A1 c1, e = .returned (.slice A1 xs.length c1) ∧ Below w.heap.size w w' ∧ xs.length < c1 ∧ kBound.R 104 w' w.heap.size (fun _ => True) (.slice A1 (xs ++ [spareBound]).length c1) (xs ++ [spareBound]) := by
  have HR := Aside0.mk hr
  clear hr
  obtain ⟨n, hn⟩ : ∃ n, n = xs.length := ⟨_, rfl⟩
  have HN := Aside0.mk hn
  rw [← hn] at hl ⊢
  clear hn
  go_enter Tryz.func30, Tryz.ntmps30
  go_wp2_with (at_make; refine wpList_make0 rfl kBound w.heap.size 104 23 _ _ rfl ((n : Int) + 1) (n + 1) rfl rfl rfl (by kernel_rfl) (.agg #[.bool false, .int .u64 0, .bool false, .int .u64 0]) 32 infoBound (by decide) (by omega) (fun _ => True) trivial (Nat.le_refl _) ?_; intro w1 HO1 hg1; have HO := Aside0.mk HO1; have HB := Aside0.mk ((Below.refl w.heap.size w).grown hg1 (Nat.le_refl _) (fun k hk => by cases hk)); clear HO1 hg1)
  go_loopg [3, 4] 1002 (fun g t i W => ∃ (k : Nat) (A1 : Option Addr) (c1 : Nat), i = .int .i64 k ∧ t = .slice A1 k c1 ∧ k ≤ n ∧ n + 1 - k ≤ g ∧ Aside0 (kBound.R 104 W w.heap.size (fun _ => True) (.slice A1 k c1) (xs.take k)) ∧ Aside0 (Below w.heap.size w W))
  case atStart => exact ⟨0, _, _, rfl, rfl, by omega, by omega, HO, HB⟩
  case round =>
    clear HO HB
    obtain ⟨k, A1, c1, rfl, rfl, hk, hkg, HO, HB⟩ := hrel
    rcases Nat.lt_or_ge k n with hlt | hge
    · have hd : decide (k < n) = true := decide_eq_true hlt
      obtain ⟨ad, rfl, y0, y1, y2, y3⟩ := C_boundN (Kd.C_below HR.out HB.out) k (by rw [← HN.out]; exact hlt)
      obtain ⟨x, hx⟩ : ∃ x, x = xs[k]'(by rw [← HN.out]; exact hlt) := ⟨_, rfl⟩
      rw [← hx] at y0 y1 y2 y3
      have HM : Aside0 (xs.take k ++ [x] = xs.take (k + 1)) := ⟨by rw [hx, List.take_succ_eq_append_getElem]⟩
      clear hx
      have hlk : (xs.take k).length = k := by rw [List.length_take]; have := HN.out; omega
      have hlk1 : (xs.take (k + 1)).length = k + 1 := by rw [List.length_take]; have := HN.out; omega
      go_wp2_with (at_builtin; refine wpList_append_R rfl kBound w.heap.size (.tmp 15) (.tmp 20) 23 23 104 104 (.agg #[.bool false, .int .u64 0, .bool false, .int .u64 0]) 32 rfl (by kernel_rfl) (by kernel_rfl) infoBound rfl (by decide) (by decide) (.slice A1 k c1) (xs.take k) [x] (some ⟨wr.heap.size, 0, none⟩) 1 1 (fun _ => True) (fun _ => False) rfl rfl (Kd.R_below HO.out (below_alloc (Below.refl _ _) _)) (newBound wr x) (fun x cs h => M_Bound h) (fun _ h => h.elim) (fun _ _ => trivial) (below_alloc HB.out _).size (by rw [hlk]; omega) ?_; intro v1 w1 HO1 hg1 hat; rw [HM.out] at HO1; obtain ⟨A2, c2, rfl⟩ := Kd.R_slice HO1; rw [hlk1] at HO1 ⊢; have HB1 := Aside0.mk ((below_alloc HB.out _).grown hg1 (below_alloc HB.out _).size (fun k hk => (Kd.R_bound HO.out).1 k hk |>.2.1)); have HO2 := Aside0.mk HO1; clear HO1 hg1 hat HO HB)
      go_roundg (gk - 1)
      case measure => omega
      case rel => exact ⟨k + 1, A2, c2, by go_num, rfl, by omega, by omega, HO2, HB1⟩
    · have hd : decide (k < n) = false := decide_eq_false (by omega)
      obtain rfl : k = n := by omega
      have HO1 := HO.out
      rw [List.take_of_length_le (by rw [← HN.out]; exact Nat.le_refl _)] at HO1
      have HO2 := Aside0.mk HO1
      clear HO HO1
      go_wp2_with (at_builtin; refine wpList_append_R rfl kBound w.heap.size (.tmp 22) (.tmp 25) 23 23 104 104 (.agg #[.bool false, .int .u64 0, .bool false, .int .u64 0]) 32 rfl (by kernel_rfl) (by kernel_rfl) infoBound rfl (by decide) (by decide) (.slice A1 k c1) xs [spareBound] (some ⟨wr.heap.size, 0, none⟩) 1 1 (fun _ => True) (fun _ => False) rfl rfl (Kd.R_below HO2.out (below_alloc (Below.refl _ _) _)) (newBound wr spareBound) (fun x cs h => M_Bound h) (fun _ h => h.elim) (fun _ _ => trivial) (below_alloc HB.out _).size (by have := HN.out; omega) ?_; intro v1 w1 HO1 hg1 hat; obtain ⟨A2, c2, rfl⟩ := Kd.R_slice HO1; have HB1 := Aside0.mk ((below_alloc HB.out _).grown hg1 (below_alloc HB.out _).size (fun k hk => (Kd.R_bound HO2.out).1 k hk |>.2.1)); have HO3 := Aside0.mk HO1; have hcap := (Kd.R_reads' HO1).2.1; have hkc : k < c2 := (by have := HN.out; simp at hcap; omega); clear HO1 hg1 hat HO2 HB hcap)
      go_ret
      exact ⟨A2, c2, rfl, HB1.out, hkc, HO3.out⟩
theorem takeBound {w : World} {base n c : Nat} {A : Option Addr} {xs : List Bound} {ok : Nat → Prop} (hn : n = xs.length) (h : kBound.R 104 w base ok (.slice A (xs ++ [spareBound]).length c) (xs ++ [spareBound])) : kBound.R 104 w base ok (.slice A n c) xs := by
  have := Kd.R_take h (m := n) (by rw [List.length_append]; omega)
  rwa [List.take_left' hn.symm] at this
set_option maxRecDepth 100000 in
set_option maxHeartbeats 4000000 in
theorem leftBound_calls (w : World) (A A2 : Option Addr) (c c2 : Nat) (xs : List Bound) (hl : xs.length ≤ 1000) (hc : xs.length < c) (hr : Kd.C kBound w A (xs ++ [spareBound]).length (xs ++ [spareBound])) (hr2 : Kd.C kBound w A2 xs.length xs) :
    Calls Tryz.prog 48 #[.slice A xs.length c, .slice A2 xs.length c2] w fun e w' => e = .returned (.bool true) ∧ Below w.heap.size w w' := by
  have HR := Aside0.mk hr
  have HR2 := Aside0.mk hr2
  clear hr hr2
  obtain ⟨n, hn⟩ : ∃ n, n = xs.length := ⟨_, rfl⟩
  have HN := Aside0.mk hn
  rw [← hn] at hl hc ⊢
  clear hn
  have z0 : ((n : Int) != (n : Int)) = false := bne_self_eq_false _
  have z1 : decide ((c : Int) ≤ (n : Int)) = false := decide_eq_false (by omega)
  have hls : (xs ++ [spareBound]).length = n + 1 := by rw [HN.out]; simp
  have HLS := Aside0.mk hls
  clear hls
  go_enter Tryz.func48, Tryz.ntmps48
  go_wp2
  go_loopg [5] 1002 (fun g i W => ∃ (k : Nat), i = .int .i64 k ∧ k ≤ n ∧ n + 1 - k ≤ g ∧ Aside0 (Below w.heap.size w W))
  case atStart => exact ⟨0, rfl, by omega, by omega, ⟨Below.refl _ _⟩⟩
  case round =>
    obtain ⟨k, rfl, hk, hkg, HB⟩ := hrel
    rcases Nat.lt_or_ge k n with hlt | hge
    · have hd : decide (k < n) = true := decide_eq_true hlt
      obtain ⟨ad, rfl, y0, y1, y2, y3⟩ := C_boundN (Kd.C_below HR.out HB.out) k (by rw [HLS.out]; omega)
      obtain ⟨bd, rfl, z0', z1', z2', z3'⟩ := C_boundN (Kd.C_below HR2.out HB.out) k (by rw [← HN.out]; exact hlt)
      obtain ⟨m, hm⟩ : ∃ m, m = xs[k]'(by rw [← HN.out]; exact hlt) := ⟨_, rfl⟩
      rw [List.getElem_append_left (by rw [← HN.out]; exact hlt), ← hm] at y0 y1 y2 y3
      rw [← hm] at z0' z1' z2' z3'
      clear hm
      go_wp2
      go_quiet (fail)
      go_wp2
      go_roundg (gk - 1)
      case measure => omega
      case rel => exact ⟨k + 1, by go_num, by omega, by omega, ⟨pw_below_drewN HB.out _⟩⟩
    · have hd : decide (k < n) = false := decide_eq_false (by omega)
      obtain rfl : k = n := by omega
      obtain ⟨ad, rfl, y0, y1, y2, y3⟩ := C_boundN (Kd.C_below HR.out HB.out) k (by rw [HLS.out]; omega)
      have hm : (xs ++ [spareBound])[k]'(by rw [HLS.out]; omega) = spareBound := by
        rw [List.getElem_append_right (by rw [← HN.out]; exact Nat.le_refl _)]; simp [HN.out]
      rw [hm] at y0 y1 y2 y3
      simp only [spareBound] at y0 y1 y2 y3
      clear hm
      go_wp2
      go_ret
      exact ⟨rfl, below_alloc HB.out _⟩
end Tw
end Go.Proofs.YtdecijmncpbheaaGreatDoor

namespace Go.Proofs.YtdecijmncpbheaaGreatDoor
open Go.RowKit Go.Shelf Go.Proofs.YtdecijmncpbheaaGreatDoorW.PrintWords Go.Proofs.YtdecijmncpbheaaGreatDoorW.PrintLast Go.Proofs.YtdecijmncpbheaaGreatDoorW.PrintMore
set_option linter.unusedVariables false
set_option linter.unusedSimpArgs false
namespace Tw
/-- A twin of a scheme: its lists are rows of their own, apart. -/
structure TwinS (w : World) (y : SchY) (e : Ending) (w' : World) : Prop where
  ans : ∃ A1 c1 A2 c2 A3 c3, e = .returned (.agg #[.int .i64 y.lv, .int .i64 y.ev, .slice A1 y.body.length c1, .slice A2 y.L.length c2, .slice A3 y.E.length c3]) ∧ (y.body.length < c1 ∧ y.L.length < c2 ∧ y.E.length < c3) ∧
    kNode.R 119 w' w.heap.size (fun _ => True) (.slice A1 (y.body ++ [spareN]).length c1) (y.body ++ [spareN]) ∧ kBound.R 104 w' w.heap.size (fun _ => True) (.slice A2 (y.L ++ [spareBound]).length c2) (y.L ++ [spareBound]) ∧
    kBound.R 104 w' w.heap.size (fun _ => True) (.slice A3 (y.E ++ [spareBound]).length c3) (y.E ++ [spareBound]) ∧ (∀ a b, A2 = some a → A3 = some b → a.block ≠ b.block)
  below : Below w.heap.size w w'
theorem row_in {α : Type} {d : Kd α} {e : Nat} {W : World} {base : Nat} {A : Option Addr} {n c : Nat} {xs : List α} (h : d.R e W base (fun _ => True) (.slice A n c) xs) : ∀ a, A = some a → base ≤ a.block ∧ a.block < W.heap.size := fun a ha => by
  subst ha
  exact ⟨((Kd.R_bound h).1 a.block rfl).2.1, ((Kd.R_bound h).1 a.block rfl).2.2.1⟩
theorem takeNode0 {w : World} {base n c : Nat} {A : Option Addr} {xs : List Node} {ok : Nat → Prop} (hn : n = xs.length) (h : kNode.R 119 w base ok (.slice A (xs ++ [spareN]).length c) (xs ++ [spareN])) : kNode.R 119 w base ok (.slice A n c) xs := by
  have := Kd.R_take h (m := n) (by rw [List.length_append]; omega)
  rwa [List.take_left' hn.symm] at this
theorem row_C {α : Type} {d : Kd α} {e : Nat} {W : World} {base : Nat} {ok : Nat → Prop} {A : Option Addr} {n c : Nat} {xs : List α} (h : d.R e W base ok (.slice A n c) xs) : d.C W A n xs := by
  obtain ⟨rfl, _, hc⟩ := Kd.R_reads' h
  exact hc
theorem row_far {α : Type} {d : Kd α} {e : Nat} {W : World} {base : Nat} {v : Value} {l : List α} (h : d.R e W base (fun _ => True) v l) {p : Nat} (hp : p < base) (j : Nat) (u : Value) : d.R e (W.setCell ⟨p, j, none⟩ u) base (fun _ => True) v l :=
  Kd.R_mono (Kd.R_far (Kd.R_bound h) (p := ⟨p, j, none⟩) (fun k hk e => by have := hk.2.1; have : k = p := e; omega) u) (fun _ _ => trivial)
set_option maxRecDepth 200000 in
set_option maxHeartbeats 8000000 in
theorem twinScheme_calls (w : World) (y : SchY) (hy : y.ok w) (h1 : y.body.length ≤ 300) (h2 : y.L.length ≤ 1000) (h3 : y.E.length ≤ 1000) :
    Calls Tryz.prog 7 #[y.v] w (TwinS w y) := by
  obtain ⟨lv, ev, A, c, a, LA, lc, L, EA, ec, E⟩ := y
  obtain ⟨hr, -, hl, -, he, -, -, -⟩ := hy
  simp only at hr hl he h1 h2 h3
  simp only [SchY.v]
  obtain ⟨n, hn⟩ : ∃ n, n = a.length := ⟨_, rfl⟩
  obtain ⟨k, hk⟩ : ∃ n, n = L.length := ⟨_, rfl⟩
  obtain ⟨m, hm⟩ : ∃ n, n = E.length := ⟨_, rfl⟩
  obtain ⟨W0, hW0⟩ : ∃ W, W = (w.alloc (.cells #[.int .i64 lv, .int .i64 ev, .slice A a.length c, .slice LA L.length lc, .slice EA E.length ec] 25)).alloc (.cells #[.int .i64 0, .int .i64 0, .slice none 0 0, .slice none 0 0, .slice none 0 0] 25) := ⟨_, rfl⟩
  have HB0 : Aside0 (Below w.heap.size w W0) := ⟨by rw [hW0]; exact below_alloc (below_alloc (Below.refl _ _) _) _⟩
  have g0 : W0.heap[w.heap.size]? = some (.cells #[.int .i64 lv, .int .i64 ev, .slice A n c, .slice LA k lc, .slice EA m ec] 25 (0, 0)) := by rw [hW0, hn, hk, hm]; exact blk_alloc (blk_new w _) _
  have g1 : W0.heap[w.heap.size + 1]? = some (.cells #[.int .i64 0, .int .i64 0, .slice none 0 0, .slice none 0 0, .slice none 0 0] 25 (0, 0)) := by
    rw [hW0]
    have := blk_new (w.alloc (.cells #[.int .i64 lv, .int .i64 ev, .slice A a.length c, .slice LA L.length lc, .slice EA E.length ec] 25)) (.cells #[.int .i64 0, .int .i64 0, .slice none 0 0, .slice none 0 0, .slice none 0 0] 25)
    rwa [World.size_alloc] at this
  have CN : Aside0 (∀ W, Below w.heap.size w W → Calls Tryz.prog 29 #[.slice A n c] W fun e w' => ∃ A1 c1, e = .returned (.slice A1 n c1) ∧ Below W.heap.size W w' ∧ n < c1 ∧ kNode.R 119 w' W.heap.size (fun _ => True) (.slice A1 (a ++ [spareN]).length c1) (a ++ [spareN])) := ⟨fun W hb => by rw [hn]; exact twin_calls W A c a h1 (Kd.C_below hr hb)⟩
  have CL : Aside0 (∀ W, Below w.heap.size w W → Calls Tryz.prog 30 #[.slice LA k lc] W fun e w' => ∃ A1 c1, e = .returned (.slice A1 k c1) ∧ Below W.heap.size W w' ∧ k < c1 ∧ kBound.R 104 w' W.heap.size (fun _ => True) (.slice A1 (L ++ [spareBound]).length c1) (L ++ [spareBound])) := ⟨fun W hb => by rw [hk]; exact twinBound_calls W LA lc L h2 (Kd.C_below hl hb)⟩
  have CE : Aside0 (∀ W, Below w.heap.size w W → Calls Tryz.prog 30 #[.slice EA m ec] W fun e w' => ∃ A1 c1, e = .returned (.slice A1 m c1) ∧ Below W.heap.size W w' ∧ m < c1 ∧ kBound.R 104 w' W.heap.size (fun _ => True) (.slice A1 (E ++ [spareBound]).length c1) (E ++ [spareBound])) := ⟨fun W hb => by rw [hm]; exact twinBound_calls W EA ec E h3 (Kd.C_below he hb)⟩
  have HN := Aside0.mk (And.intro hn (And.intro hk hm))
  have HSZ : Aside0 (w.heap.size + 2 ≤ W0.heap.size) := ⟨by rw [hW0, World.size_alloc, World.size_alloc]; omega⟩
  have HW0 := Aside0.mk hW0
  have HG := Aside0.mk (And.intro g0 g1)
  clear hr hl he h1 h2 h3 hW0 g0 g1
  go_enter Tryz.func7, Tryz.ntmps7
  go_upto_region 1 with fail
  rw [← HW0.out]
  rw [← hn, ← hk, ← hm]
  clear hn hk hm
  have hsz := HB0.out.size
  have HB := Aside0.mk (Below.refl W0.heap.size W0).drew
  have HS : Aside0 (∀ W, Below W0.heap.size W0 W → W.cell? ⟨w.heap.size, 0, none⟩ = some (.int .i64 lv) ∧ W.cell? ⟨w.heap.size, 1, none⟩ = some (.int .i64 ev) ∧ W.cell? ⟨w.heap.size, 2, none⟩ = some (.slice A n c) ∧ W.cell? ⟨w.heap.size, 3, none⟩ = some (.slice LA k lc) ∧ W.cell? ⟨w.heap.size, 4, none⟩ = some (.slice EA m ec)) := ⟨fun W hb =>
    ⟨(blk_cell (blk_below HG.out.1 hb) 0).trans (show _ = some (Value.int .i64 lv) from rfl), (blk_cell (blk_below HG.out.1 hb) 1).trans (show _ = some (Value.int .i64 ev) from rfl), (blk_cell (blk_below HG.out.1 hb) 2).trans (show _ = some (Value.slice A n c) from rfl), (blk_cell (blk_below HG.out.1 hb) 3).trans (show _ = some (Value.slice LA k lc) from rfl), (blk_cell (blk_below HG.out.1 hb) 4).trans (show _ = some (Value.slice EA m ec) from rfl)⟩⟩
  have HD : Aside0 (∀ W, Below W0.heap.size W0 W → W.heap[w.heap.size + 1]? = some (.cells #[.int .i64 0, .int .i64 0, .slice none 0 0, .slice none 0 0, .slice none 0 0] 25 (0, 0))) := ⟨fun W hb => blk_below HG.out.2 hb⟩
  obtain ⟨d0, d1, d2, d3, d4⟩ : (W0.drew.cell? ⟨w.heap.size + 1, 0, none⟩ = some (.int .i64 0) ∧ W0.drew.cell? ⟨w.heap.size + 1, 1, none⟩ = some (.int .i64 0) ∧ W0.drew.cell? ⟨w.heap.size + 1, 2, none⟩ = some (.slice none 0 0) ∧ W0.drew.cell? ⟨w.heap.size + 1, 3, none⟩ = some (.slice none 0 0) ∧ W0.drew.cell? ⟨w.heap.size + 1, 4, none⟩ = some (.slice none 0 0)) := by
    have h := HD.out _ HB.out
    exact ⟨blk_cell h 0, blk_cell h 1, blk_cell h 2, blk_cell h 3, blk_cell h 4⟩
  go_region_held3 (fun W' => W'.cell? ⟨w.heap.size, 0, none⟩ = some (.int .i64 lv) ∧ W'.cell? ⟨w.heap.size, 1, none⟩ = some (.int .i64 ev) ∧ W'.cell? ⟨w.heap.size, 2, none⟩ = some (.slice A n c) ∧ W'.cell? ⟨w.heap.size, 3, none⟩ = some (.slice LA k lc) ∧ W'.cell? ⟨w.heap.size, 4, none⟩ = some (.slice EA m ec))
    (first | (exact HS.out _ HB.out) | go_keep)
    (first | (go_at_call 29; (with_reducible refine (CN.out _ (below_step HB0.out HB.out)).mono ?_); rintro e W' ⟨A1, x1, rfl, hb', q1, r1⟩; have j1 := hb'.size; have R1 := Aside0.mk (Kd.R_lower r1 HB.out.size); have HB' := Aside0.mk (below_step HB.out hb'); clear HB; have HB := HB'; clear HB'; obtain ⟨d0, d1, d2, d3, d4⟩ : (W'.cell? ⟨w.heap.size + 1, 0, none⟩ = some (.int .i64 0) ∧ W'.cell? ⟨w.heap.size + 1, 1, none⟩ = some (.int .i64 0) ∧ W'.cell? ⟨w.heap.size + 1, 2, none⟩ = some (.slice none 0 0) ∧ W'.cell? ⟨w.heap.size + 1, 3, none⟩ = some (.slice none 0 0) ∧ W'.cell? ⟨w.heap.size + 1, 4, none⟩ = some (.slice none 0 0)) := ⟨blk_cell (HD.out _ HB.out) 0, blk_cell (HD.out _ HB.out) 1, blk_cell (HD.out _ HB.out) 2, blk_cell (HD.out _ HB.out) 3, blk_cell (HD.out _ HB.out) 4⟩; have e0 := blk_frozen (HD.out _ HB.out) 0; have e1 := blk_frozen (HD.out _ HB.out) 1; have e2 := blk_frozen (HD.out _ HB.out) 2; have e3 := blk_frozen (HD.out _ HB.out) 3; have e4 := blk_frozen (HD.out _ HB.out) 4; (try (have HR1' := Aside0.mk (Kd.R_below HR1.out hb'); clear HR1; have HR1 := HR1'; clear HR1')); (try (have HR2' := Aside0.mk (Kd.R_below HR2.out hb'); clear HR2; have HR2 := HR2'; clear HR2')); (try (have HR3' := Aside0.mk (Kd.R_below HR3.out hb'); clear HR3; have HR3 := HR3'; clear HR3')); (try (have HR1 := R1; clear R1 r1)); (try (have HR2 := R2; clear R2 r2)); (try (have HR3 := R3; clear R3 r3)); clear hb') | (go_at_call 30; (with_reducible refine (CL.out _ (below_step HB0.out HB.out)).mono ?_); rintro e W' ⟨A2, x2, rfl, hb', q2, r2⟩; have j2 := hb'.size; have R2 := Aside0.mk (Kd.R_lower r2 HB.out.size); have p2 := row_in r2; have HB' := Aside0.mk (below_step HB.out hb'); clear HB; have HB := HB'; clear HB'; obtain ⟨d0, d1, d2, d3, d4⟩ : (W'.cell? ⟨w.heap.size + 1, 0, none⟩ = some (.int .i64 0) ∧ W'.cell? ⟨w.heap.size + 1, 1, none⟩ = some (.int .i64 0) ∧ W'.cell? ⟨w.heap.size + 1, 2, none⟩ = some (.slice none 0 0) ∧ W'.cell? ⟨w.heap.size + 1, 3, none⟩ = some (.slice none 0 0) ∧ W'.cell? ⟨w.heap.size + 1, 4, none⟩ = some (.slice none 0 0)) := ⟨blk_cell (HD.out _ HB.out) 0, blk_cell (HD.out _ HB.out) 1, blk_cell (HD.out _ HB.out) 2, blk_cell (HD.out _ HB.out) 3, blk_cell (HD.out _ HB.out) 4⟩; have e0 := blk_frozen (HD.out _ HB.out) 0; have e1 := blk_frozen (HD.out _ HB.out) 1; have e2 := blk_frozen (HD.out _ HB.out) 2; have e3 := blk_frozen (HD.out _ HB.out) 3; have e4 := blk_frozen (HD.out _ HB.out) 4; (try (have HR1' := Aside0.mk (Kd.R_below HR1.out hb'); clear HR1; have HR1 := HR1'; clear HR1')); (try (have HR2' := Aside0.mk (Kd.R_below HR2.out hb'); clear HR2; have HR2 := HR2'; clear HR2')); (try (have HR3' := Aside0.mk (Kd.R_below HR3.out hb'); clear HR3; have HR3 := HR3'; clear HR3')); (try (have HR1 := R1; clear R1 r1)); (try (have HR2 := R2; clear R2 r2)); (try (have HR3 := R3; clear R3 r3)); clear hb') | (go_at_call 30; (with_reducible refine (CE.out _ (below_step HB0.out HB.out)).mono ?_); rintro e W' ⟨A3, x3, rfl, hb', q3, r3⟩; have j3 := hb'.size; have R3 := Aside0.mk (Kd.R_lower r3 HB.out.size); have p3 := row_in r3; have HB' := Aside0.mk (below_step HB.out hb'); clear HB; have HB := HB'; clear HB'; obtain ⟨d0, d1, d2, d3, d4⟩ : (W'.cell? ⟨w.heap.size + 1, 0, none⟩ = some (.int .i64 0) ∧ W'.cell? ⟨w.heap.size + 1, 1, none⟩ = some (.int .i64 0) ∧ W'.cell? ⟨w.heap.size + 1, 2, none⟩ = some (.slice none 0 0) ∧ W'.cell? ⟨w.heap.size + 1, 3, none⟩ = some (.slice none 0 0) ∧ W'.cell? ⟨w.heap.size + 1, 4, none⟩ = some (.slice none 0 0)) := ⟨blk_cell (HD.out _ HB.out) 0, blk_cell (HD.out _ HB.out) 1, blk_cell (HD.out _ HB.out) 2, blk_cell (HD.out _ HB.out) 3, blk_cell (HD.out _ HB.out) 4⟩; have e0 := blk_frozen (HD.out _ HB.out) 0; have e1 := blk_frozen (HD.out _ HB.out) 1; have e2 := blk_frozen (HD.out _ HB.out) 2; have e3 := blk_frozen (HD.out _ HB.out) 3; have e4 := blk_frozen (HD.out _ HB.out) 4; (try (have HR1' := Aside0.mk (Kd.R_below HR1.out hb'); clear HR1; have HR1 := HR1'; clear HR1')); (try (have HR2' := Aside0.mk (Kd.R_below HR2.out hb'); clear HR2; have HR2 := HR2'; clear HR2')); (try (have HR3' := Aside0.mk (Kd.R_below HR3.out hb'); clear HR3; have HR3 := HR3'; clear HR3')); (try (have HR1 := R1; clear R1 r1)); (try (have HR2 := R2; clear R2 r2)); (try (have HR3 := R3; clear R3 r3)); clear hb'))
  all_goals (
    go_wp2
    have h5 := blk_put (blk_put (blk_put (blk_put (blk_put (HD.out _ HB.out) 0 (.int .i64 lv) rfl) 1 (.int .i64 ev) rfl) 2 (.slice A1 n x1) rfl) 3 (.slice A2 k x2) rfl) 4 (.slice A3 m x3) rfl
    have r0 := blk_cell h5 0
    have r1 := blk_cell h5 1
    have r2 := blk_cell h5 2
    have r3 := blk_cell h5 3
    have r4 := blk_cell h5 4
    simp at r0 r1 r2 r3 r4
    have hz := HSZ.out
    refine bodyPost_ret (v := .agg #[.int .i64 lv, .int .i64 ev, .slice A1 n x1, .slice A2 k x2, .slice A3 m x3]) (by simp [results, Tryz.f7, go_sem, r0, r1, r2, r3, r4]) rfl ⟨⟨A1, x1, A2, x2, A3, x3, ?_, ?_, ?_, ?_, ?_, ?_⟩, ?_⟩
    · rw [HN.out.1, HN.out.2.1, HN.out.2.2]
    · show a.length < x1 ∧ L.length < x2 ∧ E.length < x3
      rw [← HN.out.1, ← HN.out.2.1, ← HN.out.2.2]
      exact ⟨q1, q2, q3⟩
    · exact Kd.R_lower (row_far (row_far (row_far (row_far (row_far HR1.out (by omega) _ _) (by omega) _ _) (by omega) _ _) (by omega) _ _) (by omega) _ _) HB0.out.size
    · exact Kd.R_lower (row_far (row_far (row_far (row_far (row_far HR2.out (by omega) _ _) (by omega) _ _) (by omega) _ _) (by omega) _ _) (by omega) _ _) HB0.out.size
    · exact Kd.R_lower (row_far (row_far (row_far (row_far (row_far HR3.out (by omega) _ _) (by omega) _ _) (by omega) _ _) (by omega) _ _) (by omega) _ _) HB0.out.size
    · intro u v hu hv
      have := p2 u hu
      have := p3 v hv
      omega
    · exact ((((((below_step HB0.out HB.out).setCell (Nat.le_succ _) _).setCell (Nat.le_succ _) _).setCell (Nat.le_succ _) _).setCell (Nat.le_succ _) _).setCell (Nat.le_succ _) _))
set_option maxRecDepth 200000 in
set_option maxHeartbeats 8000000 in
theorem leftScheme_calls (w : World) (lv ev : Int) (A1 A2 A3 : Option Addr) (x1 x2 x3 : Nat) (A LA EA : Option Addr) (c lc ec n k m : Nat) (a : List Node) (L E : List Bound) (hn : n = a.length) (hk : k = L.length) (hm : m = E.length) (h1 : n ≤ 300) (h2 : k ≤ 1000) (h3 : m ≤ 1000) (q1 : n < x1) (q2 : k < x2) (q3 : m < x3)
    (r1 : kNode.C w A1 (a ++ [spareN]).length (a ++ [spareN])) (r2 : kBound.C w A2 (L ++ [spareBound]).length (L ++ [spareBound])) (r3 : kBound.C w A3 (E ++ [spareBound]).length (E ++ [spareBound])) (hr : kNode.C w A n a) (hl : kBound.C w LA k L) (he : kBound.C w EA m E) :
    Calls Tryz.prog 16 #[.agg #[.int .i64 lv, .int .i64 ev, .slice A1 n x1, .slice A2 k x2, .slice A3 m x3], .agg #[.int .i64 lv, .int .i64 ev, .slice A n c, .slice LA k lc, .slice EA m ec]] w fun e w' => e = .returned (.bool true) ∧ Below w.heap.size w w' := by
  have CN : Aside0 (∀ W, Below w.heap.size w W → Calls Tryz.prog 47 #[.slice A1 n x1, .slice A n c] W fun e w' => e = .returned (.bool true) ∧ Below W.heap.size W w') := ⟨fun W hb => by
    rw [hn] at q1 h1 hr ⊢
    exact left_calls W A1 A x1 c a h1 q1 (Kd.C_below r1 hb) (Kd.C_below hr hb)⟩
  have CL : Aside0 (∀ W, Below w.heap.size w W → Calls Tryz.prog 48 #[.slice A2 k x2, .slice LA k lc] W fun e w' => e = .returned (.bool true) ∧ Below W.heap.size W w') := ⟨fun W hb => by
    rw [hk] at q2 h2 hl ⊢
    exact leftBound_calls W A2 LA x2 lc L h2 q2 (Kd.C_below r2 hb) (Kd.C_below hl hb)⟩
  have CE : Aside0 (∀ W, Below w.heap.size w W → Calls Tryz.prog 48 #[.slice A3 m x3, .slice EA m ec] W fun e w' => e = .returned (.bool true) ∧ Below W.heap.size W w') := ⟨fun W hb => by
    rw [hm] at q3 h3 he ⊢
    exact leftBound_calls W A3 EA x3 ec E h3 q3 (Kd.C_below r3 hb) (Kd.C_below he hb)⟩
  have HB := Aside0.mk (below_alloc (below_alloc (Below.refl w.heap.size w) (.cells #[.int .i64 lv, .int .i64 ev, .slice A1 n x1, .slice A2 k x2, .slice A3 m x3] 25)) (.cells #[.int .i64 lv, .int .i64 ev, .slice A n c, .slice LA k lc, .slice EA m ec] 25))
  have g0 := blk_alloc (blk_new w (.cells #[.int .i64 lv, .int .i64 ev, .slice A1 n x1, .slice A2 k x2, .slice A3 m x3] 25)) (.cells #[.int .i64 lv, .int .i64 ev, .slice A n c, .slice LA k lc, .slice EA m ec] 25)
  have g1 := blk_new (w.alloc (.cells #[.int .i64 lv, .int .i64 ev, .slice A1 n x1, .slice A2 k x2, .slice A3 m x3] 25)) (.cells #[.int .i64 lv, .int .i64 ev, .slice A n c, .slice LA k lc, .slice EA m ec] 25)
  rw [World.size_alloc] at g1
  have c0 := (blk_cell g0 0).trans (show _ = some (Value.int .i64 lv) from rfl)
  have c1 := (blk_cell g0 1).trans (show _ = some (Value.int .i64 ev) from rfl)
  have c2 := (blk_cell g0 2).trans (show _ = some (Value.slice A1 n x1) from rfl)
  have c3 := (blk_cell g0 3).trans (show _ = some (Value.slice A2 k x2) from rfl)
  have c4 := (blk_cell g0 4).trans (show _ = some (Value.slice A3 m x3) from rfl)
  have c5 := (blk_cell g1 0).trans (show _ = some (Value.int .i64 lv) from rfl)
  have c6 := (blk_cell g1 1).trans (show _ = some (Value.int .i64 ev) from rfl)
  have c7 := (blk_cell g1 2).trans (show _ = some (Value.slice A n c) from rfl)
  have c8 := (blk_cell g1 3).trans (show _ = some (Value.slice LA k lc) from rfl)
  have c9 := (blk_cell g1 4).trans (show _ = some (Value.slice EA m ec) from rfl)
  clear g0 g1 hn hk hm h1 h2 h3 q1 q2 q3 r1 r2 r3 hr hl he
  go_enter Tryz.func16, Tryz.ntmps16
  go_wp2_with (first | (go_at_call 47; (with_reducible refine (CN.out _ HB.out).mono ?_); rintro e W' ⟨rfl, hb'⟩; replace c0 := pw_cell_below hb' c0; replace c1 := pw_cell_below hb' c1; replace c2 := pw_cell_below hb' c2; replace c3 := pw_cell_below hb' c3; replace c4 := pw_cell_below hb' c4; replace c5 := pw_cell_below hb' c5; replace c6 := pw_cell_below hb' c6; replace c7 := pw_cell_below hb' c7; replace c8 := pw_cell_below hb' c8; replace c9 := pw_cell_below hb' c9; have HB' := Aside0.mk (below_step HB.out hb'); clear HB hb'; have HB := HB'; clear HB') | (go_at_call 48; (with_reducible refine (CL.out _ HB.out).mono ?_); rintro e W' ⟨rfl, hb'⟩; replace c0 := pw_cell_below hb' c0; replace c1 := pw_cell_below hb' c1; replace c2 := pw_cell_below hb' c2; replace c3 := pw_cell_below hb' c3; replace c4 := pw_cell_below hb' c4; replace c5 := pw_cell_below hb' c5; replace c6 := pw_cell_below hb' c6; replace c7 := pw_cell_below hb' c7; replace c8 := pw_cell_below hb' c8; replace c9 := pw_cell_below hb' c9; have HB' := Aside0.mk (below_step HB.out hb'); clear HB hb'; have HB := HB'; clear HB') | (go_at_call 48; (with_reducible refine (CE.out _ HB.out).mono ?_); rintro e W' ⟨rfl, hb'⟩; replace c0 := pw_cell_below hb' c0; replace c1 := pw_cell_below hb' c1; replace c2 := pw_cell_below hb' c2; replace c3 := pw_cell_below hb' c3; replace c4 := pw_cell_below hb' c4; replace c5 := pw_cell_below hb' c5; replace c6 := pw_cell_below hb' c6; replace c7 := pw_cell_below hb' c7; replace c8 := pw_cell_below hb' c8; replace c9 := pw_cell_below hb' c9; have HB' := Aside0.mk (below_step HB.out hb'); clear HB hb'; have HB := HB'; clear HB'))
  go_ret
  exact ⟨rfl, HB.out⟩
end Tw
end Go.Proofs.YtdecijmncpbheaaGreatDoor
