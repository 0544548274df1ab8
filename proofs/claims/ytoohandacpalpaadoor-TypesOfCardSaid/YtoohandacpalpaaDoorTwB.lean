/- LeftNodes, where nothing was changed: it tells so. -/
import Derived.Test.YtoohandacpalpaaDoorTwA
namespace Go.Proofs.YtoohandacpalpaaDoor
open Go.RowKit Go.Shelf Go.Proofs.YtoohandacpalpaaDoorW.PrintWords Go.Proofs.YtoohandacpalpaaDoorW.PrintLast Go.Proofs.YtoohandacpalpaaDoorW.PrintMore
set_option linter.unusedVariables false
set_option linter.unusedSimpArgs false
set_option maxRecDepth 100000 in
set_option maxHeartbeats 4000000 in
theorem left_calls (w : World) (A A2 : Option Addr) (c c2 : Nat) (xs : List Node) (hl : xs.length ≤ 300) (hc : xs.length < c) (hr : Kd.C kNode w A (xs ++ [spareN]).length (xs ++ [spareN])) (hr2 : Kd.C kNode w A2 xs.length xs) :
    Calls Tryd.prog 22 #[.slice A xs.length c, .slice A2 xs.length c2] w fun e w' => e = .returned (.bool true) ∧ Below w.heap.size w w' := by
  have HR := Aside0.mk hr
  have HR2 := Aside0.mk hr2
  clear hr hr2
  obtain ⟨n, hn⟩ : ∃ n, n = xs.length := ⟨_, rfl⟩
  have HN := Aside0.mk hn
  rw [← hn] at hl hc ⊢
  clear hn
  have z0 : ((n : Int) != (n : Int)) = false := bne_self_eq_false _
  have z1 : decide ((c : Int) ≤ (n : Int)) = false := decide_eq_false (by omega)
  have hls : (xs ++ [spareN]).length = n + 1 := by rw [HN.out]; simp
  have HLS := Aside0.mk hls
  clear hls
  go_enter Tryd.func22, Tryd.ntmps22
  go_wp2
  go_loopg [5] 302 (fun g i W => ∃ (k : Nat), i = .int .i64 k ∧ k ≤ n ∧ n + 1 - k ≤ g ∧ Aside0 (Below w.heap.size w W))
  case atStart => exact ⟨0, rfl, by omega, by omega, ⟨Below.refl _ _⟩⟩
  case round =>
    obtain ⟨k, rfl, hk, hkg, HB⟩ := hrel
    rcases Nat.lt_or_ge k n with hlt | hge
    · have hd : decide (k < n) = true := decide_eq_true hlt
      obtain ⟨ad, rfl, c0, c1', c2', c3, c4, c5, c6, c7, c8, c9⟩ := C_nodeN (Kd.C_below HR.out HB.out) k (by rw [HLS.out]; omega)
      obtain ⟨bd, rfl, d0, d1, d2, d3, d4, d5, d6, d7, d8, d9⟩ := C_nodeN (Kd.C_below HR2.out HB.out) k (by rw [← HN.out]; exact hlt)
      obtain ⟨m, hm⟩ : ∃ m, m = xs[k]'(by rw [← HN.out]; exact hlt) := ⟨_, rfl⟩
      rw [List.getElem_append_left (by rw [← HN.out]; exact hlt), ← hm] at c0 c1' c2' c3 c4 c5 c6 c7 c8 c9
      rw [← hm] at d0 d1 d2 d3 d4 d5 d6 d7 d8 d9
      clear hm
      go_wp2
      go_quiet (fail)
      go_wp2
      go_roundg (gk - 1)
      case measure => omega
      case rel => exact ⟨k + 1, by go_num, by omega, by omega, ⟨pw_below_drewN HB.out _⟩⟩
    · have hd : decide (k < n) = false := decide_eq_false (by omega)
      obtain rfl : k = n := by omega
      obtain ⟨ad, rfl, c0, c1', c2', c3, c4, c5, c6, c7, c8, c9⟩ := C_nodeN (Kd.C_below HR.out HB.out) k (by rw [HLS.out]; omega)
      have hm : (xs ++ [spareN])[k]'(by rw [HLS.out]; omega) = spareN := by
        rw [List.getElem_append_right (by rw [← HN.out]; exact Nat.le_refl _)]; simp [HN.out]
      rw [hm] at c0 c1' c2' c3 c4 c5 c6 c7 c8 c9
      clear hm
      go_wp2
      go_ret
      exact ⟨rfl, below_alloc HB.out _⟩
end Go.Proofs.YtoohandacpalpaaDoor
