/- The helpers of the statements of layer 8. -/
import Derived.Test.YtbdecnagdnancaaGreatDoorME
import Derived.Test.YtbdecnagdnancaaGreatDoorTwB

namespace Go.Proofs.YtbdecnagdnancaaGreatDoor
open Go.RowKit Go.Shelf Go.Proofs.YtbdecnagdnancaaGreatDoorW.PrintWords Go.Proofs.YtbdecnagdnancaaGreatDoorW.PrintLast Go.Proofs.YtbdecnagdnancaaGreatDoorW.PrintMore
set_option linter.unusedVariables false
set_option linter.unusedSimpArgs false
set_option maxRecDepth 100000 in
set_option maxHeartbeats 4000000 in
theorem sameNodes_calls (w : World) (A A2 : Option Addr) (c c2 : Nat) (xs : List _) (hr : Kd.C kNode w A xs.length xs) (hr2 : Kd.C kNode w A2 xs.length xs) :
    Calls Tryz.prog 28 #[.slice A xs.length c, .slice A2 xs.length c2] w fun e w' => e = .returned (.bool true) ∧ Below w.heap.size w w' := by
  have hm : xs.length ≤ 9223372036854775807 := hr.2.1
  have HR := Aside0.mk hr
  have HR2 := Aside0.mk hr2
  clear hr hr2
  obtain ⟨n, hn⟩ : ∃ n, n = xs.length := ⟨_, rfl⟩
  have HN := Aside0.mk hn
  rw [← hn] at hm ⊢
  clear hn
  have z0 : ((n : Int) != (n : Int)) = false := bne_self_eq_false _
  go_enter Tryz.func28, Tryz.ntmps28
  go_wp2
  go_loopg [5] (n + 1) (fun g i W => ∃ (k : Nat), i = .int .i64 k ∧ k ≤ n ∧ n + 1 - k ≤ g ∧ Aside0 (Below w.heap.size w W))
  case atStart => exact ⟨0, rfl, by omega, by omega, ⟨Below.refl _ _⟩⟩
  case round =>
    obtain ⟨k, rfl, hk, hkg, HB⟩ := hrel
    rcases Nat.lt_or_ge k n with hlt | hge
    · have hd : decide (k < n) = true := decide_eq_true hlt
      obtain ⟨ad, rfl, c0', c1', c2', c3', c4', c5', c6', c7', c8', c9'⟩ := C_nodeN (Kd.C_below HR.out HB.out) k (by rw [← HN.out]; exact hlt)
      obtain ⟨bd, rfl, d0', d1', d2', d3', d4', d5', d6', d7', d8', d9'⟩ := C_nodeN (Kd.C_below HR2.out HB.out) k (by rw [← HN.out]; exact hlt)
      obtain ⟨m, hm⟩ : ∃ m, m = xs[k]'(by rw [← HN.out]; exact hlt) := ⟨_, rfl⟩
      rw [← hm] at c0' c1' c2' c3' c4' c5' c6' c7' c8' c9' d0' d1' d2' d3' d4' d5' d6' d7' d8' d9'
      clear hm
      go_wp2
      go_quiet (fail)
      go_wp2
      go_roundg (gk - 1)
      case measure => omega
      case rel => exact ⟨k + 1, by go_num, by omega, by omega, ⟨pw_below_drewN HB.out _⟩⟩
    · have hd : decide (k < n) = false := decide_eq_false (by omega)
      go_wp2
      go_ret
      exact ⟨rfl, HB.out⟩
set_option maxRecDepth 100000 in
set_option maxHeartbeats 4000000 in
theorem sameSpots_calls (w : World) (A A2 : Option Addr) (c c2 : Nat) (xs : List _) (hr : Kd.C kSpot w A xs.length xs) (hr2 : Kd.C kSpot w A2 xs.length xs) :
    Calls Tryz.prog 22 #[.slice A xs.length c, .slice A2 xs.length c2] w fun e w' => e = .returned (.bool true) ∧ Below w.heap.size w w' := by
  have hm : xs.length ≤ 9223372036854775807 := hr.2.1
  have HR := Aside0.mk hr
  have HR2 := Aside0.mk hr2
  clear hr hr2
  obtain ⟨n, hn⟩ : ∃ n, n = xs.length := ⟨_, rfl⟩
  have HN := Aside0.mk hn
  rw [← hn] at hm ⊢
  clear hn
  have z0 : ((n : Int) != (n : Int)) = false := bne_self_eq_false _
  go_enter Tryz.func22, Tryz.ntmps22
  go_wp2
  go_loopg [5] (n + 1) (fun g i W => ∃ (k : Nat), i = .int .i64 k ∧ k ≤ n ∧ n + 1 - k ≤ g ∧ Aside0 (Below w.heap.size w W))
  case atStart => exact ⟨0, rfl, by omega, by omega, ⟨Below.refl _ _⟩⟩
  case round =>
    obtain ⟨k, rfl, hk, hkg, HB⟩ := hrel
    rcases Nat.lt_or_ge k n with hlt | hge
    · have hd : decide (k < n) = true := decide_eq_true hlt
      obtain ⟨ad, rfl, c0', c1', c2', c3', c4'⟩ := C_spotN (Kd.C_below HR.out HB.out) k (by rw [← HN.out]; exact hlt)
      obtain ⟨bd, rfl, d0', d1', d2', d3', d4'⟩ := C_spotN (Kd.C_below HR2.out HB.out) k (by rw [← HN.out]; exact hlt)
      obtain ⟨m, hm⟩ : ∃ m, m = xs[k]'(by rw [← HN.out]; exact hlt) := ⟨_, rfl⟩
      rw [← hm] at c0' c1' c2' c3' c4' d0' d1' d2' d3' d4'
      clear hm
      go_wp2
      go_quiet (fail)
      go_wp2
      go_roundg (gk - 1)
      case measure => omega
      case rel => exact ⟨k + 1, by go_num, by omega, by omega, ⟨pw_below_drewN HB.out _⟩⟩
    · have hd : decide (k < n) = false := decide_eq_false (by omega)
      go_wp2
      go_ret
      exact ⟨rfl, HB.out⟩
/-- One number, in a block that is new. -/
theorem u8_C (w : World) (x : Int) : (Kd.int .u8).C (w.alloc (.cells #[.int .u8 x] 128)) (some ⟨w.heap.size, 0, none⟩) 1 [x] := C_one_new .u8 w x _
theorem term_C (w : World) (t : Term) : kTerm.C (w.alloc (.cells #[.bool t.f0, .int .u64 t.f1] 120)) (some ⟨w.heap.size, 0, none⟩) 1 [t] := by
  have h := reps_cons (R := kTerm.K (w.alloc (.cells ([Value.bool t.f0, .int .u64 t.f1] ++ []).toArray 120))) (k120_mk _ t) rfl (Reps.none _ kTerm.sz)
  exact C_block (blk_new w _) h (show 1 ≤ 9223372036854775807 by decide)
theorem infoT : (Tryz.prog.info? 120).map (fun i => (i.zero, i.size, i.bytes)) = some (some (.agg #[.bool false, .int .u64 0]), 2, 16) := by kernel_rfl
theorem termM {w w1 : World} {base : Nat} {ok : Nat → Prop} {x : Term} {c : List Value} (h : kTerm.K w x c) : kTerm.M w1 base ok x c := by
  rw [k120_open h]
  exact k120_mkM w1 base ok x
end Go.Proofs.YtbdecnagdnancaaGreatDoor
