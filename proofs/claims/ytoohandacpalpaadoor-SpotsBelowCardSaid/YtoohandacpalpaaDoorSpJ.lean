/- The helpers of the statements of layer 8. -/
import Derived.Test.YtoohandacpalpaaDoorSpI
import Derived.Test.YtoohandacpalpaaDoorTwB
namespace Go.Proofs.YtoohandacpalpaaDoor
open Go.RowKit Go.Shelf Go.Proofs.YtoohandacpalpaaDoorW.PrintWords Go.Proofs.YtoohandacpalpaaDoorW.PrintLast Go.Proofs.YtoohandacpalpaaDoorW.PrintMore
set_option linter.unusedVariables false
set_option linter.unusedSimpArgs false
set_option maxRecDepth 100000 in
set_option maxHeartbeats 4000000 in
theorem sameNodes_calls (w : World) (A A2 : Option Addr) (c c2 : Nat) (xs : List _) (hr : Kd.C kNode w A xs.length xs) (hr2 : Kd.C kNode w A2 xs.length xs) :
    Calls Tryd.prog 33 #[.slice A xs.length c, .slice A2 xs.length c2] w fun e w' => e = .returned (.bool true) ∧ Below w.heap.size w w' := by
  have hm : xs.length ≤ 9223372036854775807 := hr.2.1
  have HR := Aside0.mk hr
  have HR2 := Aside0.mk hr2
  clear hr hr2
  obtain ⟨n, hn⟩ : ∃ n, n = xs.length := ⟨_, rfl⟩
  have HN := Aside0.mk hn
  rw [← hn] at hm ⊢
  clear hn
  have z0 : ((n : Int) != (n : Int)) = false := bne_self_eq_false _
  go_enter Tryd.func33, Tryd.ntmps33
  go_wp2
  go_loopg [5] (n + 1) (fun g i W => ∃ (k : Nat), i = .int .i64 k ∧ k ≤ n ∧ n + 1 - k ≤ g ∧ Aside0 (Below w.heap.size w W))
  case atStart => exact ⟨0, rfl, by omega, by omega, ⟨Below.refl _ _⟩⟩
  case round =>
    obtain ⟨k, rfl, hk, hkg, HB⟩ := hrel
    rcases Nat.lt_or_ge k n with hlt | hge
    · have hd : decide (k < n) = true := decide_eq_true hlt
      obtain ⟨ad, rfl, c0', c1', c2', c3', c4', c5', c6', c7', c8', c9'⟩ := C_nodeN (Kd.C_below HR.out HB.out) k (by rw [← HN.out]; exact hlt)
      obtain ⟨bd, rfl, d0', d1', d2', d3', d4', d5', d6', d7', d8', d9'⟩ := C_nodeN (Kd.C_below HR2.out HB.out) k (by rw [← HN.out]; exact hlt)
      obtain ⟨m, hm⟩ : ∃ m, m = xs[k]'(by rw [← HN.out]; exact hlt) := ⟨_, rfl⟩
      rw [← hm] at c0' c1' c2' c3' c4' c5' c6' c7' c8' c9' d0' d1' d2' d3' d4' d5' d6' d7' d8' d9'
      clear hm
      go_wp2
      go_quiet (fail)
      go_wp2
      go_roundg (gk - 1)
      case measure => omega
      case rel => exact ⟨k + 1, by go_num, by omega, by omega, ⟨pw_below_drewN HB.out _⟩⟩
    · have hd : decide (k < n) = false := decide_eq_false (by omega)
      go_wp2
      go_ret
      exact ⟨rfl, HB.out⟩
set_option maxRecDepth 100000 in
set_option maxHeartbeats 4000000 in
theorem sameSpots_calls (w : World) (A A2 : Option Addr) (c c2 : Nat) (xs : List _) (hr : Kd.C kSpot w A xs.length xs) (hr2 : Kd.C kSpot w A2 xs.length xs) :
    Calls Tryd.prog 34 #[.slice A xs.length c, .slice A2 xs.length c2] w fun e w' => e = .returned (.bool true) ∧ Below w.heap.size w w' := by
  have hm : xs.length ≤ 9223372036854775807 := hr.2.1
  have HR := Aside0.mk hr
  have HR2 := Aside0.mk hr2
  clear hr hr2
  obtain ⟨n, hn⟩ : ∃ n, n = xs.length := ⟨_, rfl⟩
  have HN := Aside0.mk hn
  rw [← hn] at hm ⊢
  clear hn
  have z0 : ((n : Int) != (n : Int)) = false := bne_self_eq_false _
  go_enter Tryd.func34, Tryd.ntmps34
  go_wp2
  go_loopg [5] (n + 1) (fun g i W => ∃ (k : Nat), i = .int .i64 k ∧ k ≤ n ∧ n + 1 - k ≤ g ∧ Aside0 (Below w.heap.size w W))
  case atStart => exact ⟨0, rfl, by omega, by omega, ⟨Below.refl _ _⟩⟩
  case round =>
    obtain ⟨k, rfl, hk, hkg, HB⟩ := hrel
    rcases Nat.lt_or_ge k n with hlt | hge
    · have hd : decide (k < n) = true := decide_eq_true hlt
      obtain ⟨ad, rfl, c0', c1', c2', c3', c4'⟩ := C_spotN (Kd.C_below HR.out HB.out) k (by rw [← HN.out]; exact hlt)
      obtain ⟨bd, rfl, d0', d1', d2', d3', d4'⟩ := C_spotN (Kd.C_below HR2.out HB.out) k (by rw [← HN.out]; exact hlt)
      obtain ⟨m, hm⟩ : ∃ m, m = xs[k]'(by rw [← HN.out]; exact hlt) := ⟨_, rfl⟩
      rw [← hm] at c0' c1' c2' c3' c4' d0' d1' d2' d3' d4'
      clear hm
      go_wp2
      go_quiet (fail)
      go_wp2
      go_roundg (gk - 1)
      case measure => omega
      case rel => exact ⟨k + 1, by go_num, by omega, by omega, ⟨pw_below_drewN HB.out _⟩⟩
    · have hd : decide (k < n) = false := decide_eq_false (by omega)
      go_wp2
      go_ret
      exact ⟨rfl, HB.out⟩
set_option maxRecDepth 100000 in
set_option maxHeartbeats 4000000 in
theorem sameSides_calls (w : World) (A A2 : Option Addr) (c c2 : Nat) (xs : List _) (hr : Kd.C (Kd.int .u8) w A xs.length xs) (hr2 : Kd.C (Kd.int .u8) w A2 xs.length xs) :
    Calls Tryd.prog 43 #[.slice A xs.length c, .slice A2 xs.length c2] w fun e w' => e = .returned (.bool true) ∧ Below w.heap.size w w' := by
  have hm : xs.length ≤ 9223372036854775807 := hr.2.1
  have HR := Aside0.mk hr
  have HR2 := Aside0.mk hr2
  clear hr hr2
  obtain ⟨n, hn⟩ : ∃ n, n = xs.length := ⟨_, rfl⟩
  have HN := Aside0.mk hn
  rw [← hn] at hm ⊢
  clear hn
  have z0 : ((n : Int) != (n : Int)) = false := bne_self_eq_false _
  go_enter Tryd.func43, Tryd.ntmps43
  go_wp2
  go_loopg [5] (n + 1) (fun g i W => ∃ (k : Nat), i = .int .i64 k ∧ k ≤ n ∧ n + 1 - k ≤ g ∧ Aside0 (Below w.heap.size w W))
  case atStart => exact ⟨0, rfl, by omega, by omega, ⟨Below.refl _ _⟩⟩
  case round =>
    obtain ⟨k, rfl, hk, hkg, HB⟩ := hrel
    rcases Nat.lt_or_ge k n with hlt | hge
    · have hd : decide (k < n) = true := decide_eq_true hlt
      obtain ⟨ad, rfl, c0'⟩ := C_intN (Kd.C_below HR.out HB.out) k (by rw [← HN.out]; exact hlt)
      obtain ⟨bd, rfl, d0'⟩ := C_intN (Kd.C_below HR2.out HB.out) k (by rw [← HN.out]; exact hlt)
      obtain ⟨m, hm⟩ : ∃ m, m = xs[k]'(by rw [← HN.out]; exact hlt) := ⟨_, rfl⟩
      rw [← hm] at c0' d0'
      clear hm
      go_wp2
      go_quiet (fail)
      go_wp2
      go_roundg (gk - 1)
      case measure => omega
      case rel => exact ⟨k + 1, by go_num, by omega, by omega, ⟨pw_below_drewN HB.out _⟩⟩
    · have hd : decide (k < n) = false := decide_eq_false (by omega)
      go_wp2
      go_ret
      exact ⟨rfl, HB.out⟩
/-- One number, in a block that is new. -/
theorem u8_C (w : World) (x : Int) : (Kd.int .u8).C (w.alloc (.cells #[.int .u8 x] 48)) (some ⟨w.heap.size, 0, none⟩) 1 [x] := C_one_new .u8 w x _
theorem term_C (w : World) (t : Term) : kTerm.C (w.alloc (.cells #[.bool t.f0, .int .u64 t.f1] 34)) (some ⟨w.heap.size, 0, none⟩) 1 [t] := by
  have h := reps_cons (R := kTerm.K (w.alloc (.cells ([Value.bool t.f0, .int .u64 t.f1] ++ []).toArray 34))) (k34_mk _ t) rfl (Reps.none _ kTerm.sz)
  exact C_block (blk_new w _) h (show 1 ≤ 9223372036854775807 by decide)
theorem infoT : (Tryd.prog.info? 34).map (fun i => (i.zero, i.size, i.bytes)) = some (some (.agg #[.bool false, .int .u64 0]), 2, 16) := by kernel_rfl
theorem termM {w w1 : World} {base : Nat} {ok : Nat → Prop} {x : Term} {c : List Value} (h : kTerm.K w x c) : kTerm.M w1 base ok x c := by
  rw [k34_open h]
  exact k34_mkM w1 base ok x
set_option maxRecDepth 100000 in
set_option maxHeartbeats 4000000 in
theorem sidesOf_calls (w : World) (A : Option Addr) (c : Nat) (xs : List Spot) (hl : xs.length ≤ 1000) (hr : kSpot.C w A xs.length xs) :
    Calls Tryd.prog 44 #[.slice A xs.length c] w fun e w' => ∃ A1 c1, e = .returned (.slice A1 xs.length c1) ∧ (Kd.int .u8).R 48 w' w.heap.size (fun _ => True) (.slice A1 xs.length c1) (xs.map (·.f2)) ∧ Below w.heap.size w w' := by
  have HR := Aside0.mk hr
  clear hr
  obtain ⟨n, hn⟩ : ∃ n, n = xs.length := ⟨_, rfl⟩
  have HN := Aside0.mk hn
  rw [← hn] at hl ⊢
  clear hn
  go_enter Tryd.func44, Tryd.ntmps44
  go_wp2
  go_loopg [3, 4] (n + 1) (fun g t i W => ∃ (k : Nat) (A1 : Option Addr) (c1 : Nat), i = .int .i64 k ∧ t = .slice A1 k c1 ∧ k ≤ n ∧ n + 1 - k ≤ g ∧ Aside0 ((Kd.int .u8).R 48 W w.heap.size (fun _ => True) (.slice A1 k c1) ((xs.take k).map (·.f2))) ∧ Aside0 (Below w.heap.size w W))
  case atStart => exact ⟨0, none, 0, rfl, rfl, by omega, by omega, ⟨Kd.R_nil _ _ _ _ _⟩, ⟨Below.refl _ _⟩⟩
  case round =>
    obtain ⟨k, A1, c1, rfl, rfl, hk, hkg, HO, HB⟩ := hrel
    rcases Nat.lt_or_ge k n with hlt | hge
    · have hd : decide (k < n) = true := decide_eq_true hlt
      have hkx : k < xs.length := by rw [← HN.out]; exact hlt
      obtain ⟨ad, rfl, c0', c1', c2', c3', c4'⟩ := C_spotN (Kd.C_below HR.out HB.out) k hkx
      obtain ⟨m, hm⟩ : ∃ m, m = xs[k].f2 := ⟨_, rfl⟩
      rw [← hm] at c2'
      have HM : Aside0 ((xs.take k).map (·.f2) ++ [m] = (xs.take (k + 1)).map (·.f2)) := ⟨by rw [hm, List.take_succ_eq_append_getElem hkx, List.map_append]; rfl⟩
      have hlk1 : ((xs.take (k + 1)).map (·.f2)).length = k + 1 := by rw [List.length_map, List.length_take]; omega
      have hlk : ((xs.take k).map (·.f2)).length = k := by rw [List.length_map, List.length_take]; omega
      clear hm c0' c1' c3' c4'
      go_wp2_with (at_builtin; refine wpList_append_R rfl (Kd.int .u8) w.heap.size (.tmp 11) (.tmp 17) 71 71 48 48 (.int .u8 0) 1 rfl (by kernel_rfl) (by kernel_rfl) infoS rfl (by decide) (by decide) (.slice A1 k c1) ((xs.take k).map (·.f2)) [m] (some ⟨wr.heap.size, 0, none⟩) 1 1 (fun _ => True) (fun _ => False) rfl rfl (Kd.R_below HO.out (below_alloc (Below.refl _ _) _)) (u8_C wr m) (fun x cs h => h) (fun _ h => h.elim) (fun _ _ => trivial) (below_alloc HB.out _).size (by rw [hlk]; omega) ?_; intro v1 w1 HO1 hg1 hat; rw [HM.out] at HO1; obtain ⟨A2, c2, rfl⟩ := Kd.R_slice HO1; rw [hlk1] at HO1 ⊢; have HB1 := Aside0.mk ((below_alloc HB.out _).grown hg1 (below_alloc HB.out _).size (fun k hk => (Kd.R_bound HO.out).1 k hk |>.2.1)); have HO2 := Aside0.mk HO1; clear HO1 hg1 hat HO HB)
      go_roundg (gk - 1)
      case measure => omega
      case rel => exact ⟨k + 1, A2, c2, by go_num, rfl, by omega, by omega, HO2, HB1⟩
    · have hd : decide (k < n) = false := decide_eq_false (by omega)
      obtain rfl : n = k := by omega
      go_wp2
      go_ret
      have HO1 := HO.out
      rw [List.take_of_length_le (by rw [← HN.out]; exact Nat.le_refl _)] at HO1
      exact ⟨A1, c1, rfl, HO1, HB.out⟩
end Go.Proofs.YtoohandacpalpaaDoor
