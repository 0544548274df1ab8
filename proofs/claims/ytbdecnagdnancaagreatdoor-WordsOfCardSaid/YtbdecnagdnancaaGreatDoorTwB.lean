/- TwinNodes and LeftNodes: a copy with one spare node behind, and whether it was left alone. -/
import Derived.Test.YtbdecnagdnancaaGreatDoorMA
import Derived.Test.YtbdecnagdnancaaGreatDoorMB

namespace Go.Proofs.YtbdecnagdnancaaGreatDoor
open Go.RowKit Go.Shelf Go.Proofs.YtbdecnagdnancaaGreatDoorW.PrintWords Go.Proofs.YtbdecnagdnancaaGreatDoorW.PrintLast Go.Proofs.YtbdecnagdnancaaGreatDoorW.PrintMore
set_option linter.unusedVariables false
set_option linter.unusedSimpArgs false
def spareN : Node := ⟨0, 77, ⟨#[]⟩, 0, ⟨false, 0⟩, ⟨false, 0⟩, ⟨false, 0⟩⟩
/-- One node, in a block that is new. -/
theorem node_C (w : World) (n : Node) : kNode.C (w.alloc (.cells (nodeC n).toArray 122)) (some ⟨w.heap.size, 0, none⟩) 1 [n] := by
  have h := reps_cons (R := kNode.K (w.alloc (.cells (nodeC n ++ []).toArray 122))) (k122_mk _ n) rfl (Reps.none _ kNode.sz)
  rw [← List.append_nil (nodeC n)]
  exact C_block (blk_new w _) h (show 1 ≤ 9223372036854775807 by decide)
set_option maxRecDepth 100000 in
set_option maxHeartbeats 4000000 in
theorem twin_calls (w : World) (A : Option Addr) (c : Nat) (xs : List Node) (hl : xs.length ≤ 300) (hr : Kd.C kNode w A xs.length xs) :
    Calls Tryz.prog 16 #[.slice A xs.length c] w fun e w' => ∃ A1 c1, e = .returned (.slice A1 xs.length c1) ∧ Below w.heap.size w w' ∧ xs.length < c1 ∧ kNode.R 122 w' w.heap.size (fun _ => True) (.slice A1 (xs ++ [spareN]).length c1) (xs ++ [spareN]) := by
  have HR := Aside0.mk hr
  clear hr
  obtain ⟨n, hn⟩ : ∃ n, n = xs.length := ⟨_, rfl⟩
  have HN := Aside0.mk hn
  rw [← hn] at hl ⊢
  clear hn
  go_enter Tryz.func16, Tryz.ntmps16
  go_wp2_with (at_make; refine wpList_make0 rfl kNode w.heap.size 122 49 _ _ rfl ((n : Int) + 1) (n + 1) rfl rfl rfl (by kernel_rfl) (.agg #[.int .u8 0, .int .i64 0, .string ⟨#[]⟩, .int .i64 0, .bool false, .int .u64 0, .bool false, .int .u64 0, .bool false, .int .u64 0]) 88 L07.infoN (by decide) (by omega) (fun _ => True) trivial (Nat.le_refl _) ?_; intro w1 HO1 hg1; have HO := Aside0.mk HO1; have HB := Aside0.mk ((Below.refl w.heap.size w).grown hg1 (Nat.le_refl _) (fun k hk => by cases hk)); clear HO1 hg1)
  go_loopg [3, 4] 302 (fun g t i W => ∃ (k : Nat) (A1 : Option Addr) (c1 : Nat), i = .int .i64 k ∧ t = .slice A1 k c1 ∧ k ≤ n ∧ n + 1 - k ≤ g ∧ Aside0 (kNode.R 122 W w.heap.size (fun _ => True) (.slice A1 k c1) (xs.take k)) ∧ Aside0 (Below w.heap.size w W))
  case atStart => exact ⟨0, _, _, rfl, rfl, by omega, by omega, HO, HB⟩
  case round =>
    clear HO HB
    obtain ⟨k, A1, c1, rfl, rfl, hk, hkg, HO, HB⟩ := hrel
    rcases Nat.lt_or_ge k n with hlt | hge
    · have hd : decide (k < n) = true := decide_eq_true hlt
      obtain ⟨ad, rfl, c0, c1', c2, c3, c4, c5, c6, c7, c8, c9⟩ := C_nodeN (Kd.C_below HR.out HB.out) k (by rw [← HN.out]; exact hlt)
      obtain ⟨m, hm⟩ : ∃ m, m = xs[k]'(by rw [← HN.out]; exact hlt) := ⟨_, rfl⟩
      rw [← hm] at c0 c1' c2 c3 c4 c5 c6 c7 c8 c9
      have HM : Aside0 (xs.take k ++ [m] = xs.take (k + 1)) := ⟨by rw [hm, List.take_succ_eq_append_getElem]⟩
      clear hm
      have hlk : (xs.take k).length = k := by rw [List.length_take]; have := HN.out; omega
      have hlk1 : (xs.take (k + 1)).length = k + 1 := by rw [List.length_take]; have := HN.out; omega
      go_wp2_with (at_builtin; refine wpList_append_R rfl kNode w.heap.size (.tmp 15) (.tmp 20) 49 49 122 122 (.agg #[.int .u8 0, .int .i64 0, .string ⟨#[]⟩, .int .i64 0, .bool false, .int .u64 0, .bool false, .int .u64 0, .bool false, .int .u64 0]) 88 rfl (by kernel_rfl) (by kernel_rfl) L07.infoN rfl (by decide) (by decide) (.slice A1 k c1) (xs.take k) [m] (some ⟨wr.heap.size, 0, none⟩) 1 1 (fun _ => True) (fun _ => False) rfl rfl (Kd.R_below HO.out (below_alloc (Below.refl _ _) _)) (node_C wr m) (fun x cs h => nodeM h) (fun _ h => h.elim) (fun _ _ => trivial) (below_alloc HB.out _).size (by rw [hlk]; omega) ?_; intro v1 w1 HO1 hg1 hat; rw [HM.out] at HO1; obtain ⟨A2, c2, rfl⟩ := Kd.R_slice HO1; rw [hlk1] at HO1 ⊢; have HB1 := Aside0.mk ((below_alloc HB.out _).grown hg1 (below_alloc HB.out _).size (fun k hk => (Kd.R_bound HO.out).1 k hk |>.2.1)); have HO2 := Aside0.mk HO1; clear HO1 hg1 hat HO HB)
      go_roundg (gk - 1)
      case measure => omega
      case rel => exact ⟨k + 1, A2, c2, by go_num, rfl, by omega, by omega, HO2, HB1⟩
    · have hd : decide (k < n) = false := decide_eq_false (by omega)
      obtain rfl : k = n := by omega
      have HO1 := HO.out
      rw [List.take_of_length_le (by rw [← HN.out]; exact Nat.le_refl _)] at HO1
      have HO2 := Aside0.mk HO1
      clear HO HO1
      go_wp2_with (at_builtin; refine wpList_append_R rfl kNode w.heap.size (.tmp 22) (.tmp 24) 49 49 122 122 (.agg #[.int .u8 0, .int .i64 0, .string ⟨#[]⟩, .int .i64 0, .bool false, .int .u64 0, .bool false, .int .u64 0, .bool false, .int .u64 0]) 88 rfl (by kernel_rfl) (by kernel_rfl) L07.infoN rfl (by decide) (by decide) (.slice A1 k c1) xs [spareN] (some ⟨wr.heap.size, 0, none⟩) 1 1 (fun _ => True) (fun _ => False) rfl rfl (Kd.R_below HO2.out (below_alloc (Below.refl _ _) _)) (node_C wr spareN) (fun x cs h => nodeM h) (fun _ h => h.elim) (fun _ _ => trivial) (below_alloc HB.out _).size (by have := HN.out; omega) ?_; intro v1 w1 HO1 hg1 hat; obtain ⟨A2, c2, rfl⟩ := Kd.R_slice HO1; have HB1 := Aside0.mk ((below_alloc HB.out _).grown hg1 (below_alloc HB.out _).size (fun k hk => (Kd.R_bound HO2.out).1 k hk |>.2.1)); have HO3 := Aside0.mk HO1; have hcap := (Kd.R_reads' HO1).2.1; have hkc : k < c2 := (by have := HN.out; simp at hcap; omega); clear HO1 hg1 hat HO2 HB hcap)
      go_ret
      exact ⟨A2, c2, rfl, HB1.out, hkc, HO3.out⟩
end Go.Proofs.YtbdecnagdnancaaGreatDoor
namespace Go.Proofs.YtbdecnagdnancaaGreatDoor
open Go.RowKit Go.Shelf Go.Proofs.YtbdecnagdnancaaGreatDoorW.PrintWords Go.Proofs.YtbdecnagdnancaaGreatDoorW.PrintLast Go.Proofs.YtbdecnagdnancaaGreatDoorW.PrintMore
set_option linter.unusedVariables false
set_option linter.unusedSimpArgs false
set_option maxRecDepth 100000 in
set_option maxHeartbeats 4000000 in
theorem left_calls (w : World) (A A2 : Option Addr) (c c2 : Nat) (xs : List Node) (hl : xs.length ≤ 300) (hc : xs.length < c) (hr : Kd.C kNode w A (xs ++ [spareN]).length (xs ++ [spareN])) (hr2 : Kd.C kNode w A2 xs.length xs) :
    Calls Tryz.prog 19 #[.slice A xs.length c, .slice A2 xs.length c2] w fun e w' => e = .returned (.bool true) ∧ Below w.heap.size w w' := by
  have HR := Aside0.mk hr
  have HR2 := Aside0.mk hr2
  clear hr hr2
  obtain ⟨n, hn⟩ : ∃ n, n = xs.length := ⟨_, rfl⟩
  have HN := Aside0.mk hn
  rw [← hn] at hl hc ⊢
  clear hn
  have z0 : ((n : Int) != (n : Int)) = false := bne_self_eq_false _
  have z1 : decide ((c : Int) ≤ (n : Int)) = false := decide_eq_false (by omega)
  have hls : (xs ++ [spareN]).length = n + 1 := by rw [HN.out]; simp
  have HLS := Aside0.mk hls
  clear hls
  go_enter Tryz.func19, Tryz.ntmps19
  go_wp2
  go_loopg [5] 302 (fun g i W => ∃ (k : Nat), i = .int .i64 k ∧ k ≤ n ∧ n + 1 - k ≤ g ∧ Aside0 (Below w.heap.size w W))
  case atStart => exact ⟨0, rfl, by omega, by omega, ⟨Below.refl _ _⟩⟩
  case round =>
    obtain ⟨k, rfl, hk, hkg, HB⟩ := hrel
    rcases Nat.lt_or_ge k n with hlt | hge
    · have hd : decide (k < n) = true := decide_eq_true hlt
      obtain ⟨ad, rfl, c0, c1', c2', c3, c4, c5, c6, c7, c8, c9⟩ := C_nodeN (Kd.C_below HR.out HB.out) k (by rw [HLS.out]; omega)
      obtain ⟨bd, rfl, d0, d1, d2, d3, d4, d5, d6, d7, d8, d9⟩ := C_nodeN (Kd.C_below HR2.out HB.out) k (by rw [← HN.out]; exact hlt)
      obtain ⟨m, hm⟩ : ∃ m, m = xs[k]'(by rw [← HN.out]; exact hlt) := ⟨_, rfl⟩
      rw [List.getElem_append_left (by rw [← HN.out]; exact hlt), ← hm] at c0 c1' c2' c3 c4 c5 c6 c7 c8 c9
      rw [← hm] at d0 d1 d2 d3 d4 d5 d6 d7 d8 d9
      clear hm
      go_wp2
      go_quiet (fail)
      go_wp2
      go_roundg (gk - 1)
      case measure => omega
      case rel => exact ⟨k + 1, by go_num, by omega, by omega, ⟨pw_below_drewN HB.out _⟩⟩
    · have hd : decide (k < n) = false := decide_eq_false (by omega)
      obtain rfl : k = n := by omega
      obtain ⟨ad, rfl, c0, c1', c2', c3, c4, c5, c6, c7, c8, c9⟩ := C_nodeN (Kd.C_below HR.out HB.out) k (by rw [HLS.out]; omega)
      have hm : (xs ++ [spareN])[k]'(by rw [HLS.out]; omega) = spareN := by
        rw [List.getElem_append_right (by rw [← HN.out]; exact Nat.le_refl _)]; simp [HN.out]
      rw [hm] at c0 c1' c2' c3 c4 c5 c6 c7 c8 c9
      clear hm
      go_wp2
      go_ret
      exact ⟨rfl, below_alloc HB.out _⟩
end Go.Proofs.YtbdecnagdnancaaGreatDoor
