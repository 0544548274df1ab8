/- words.of, within, while, word: what they compute. -/
import Derived.Test.YtbdecnagdnancaaGreatDoorK
import Derived.Test.YtbdecnagdnancaaGreatDoorB
import Derived.Test.YtbdecnagdnancaaGreatDoorSh
import Derived.Test.YtbdecnagdnancaaGreatDoorWdN
import Derived.Laws.Rows
import Derived.Lib.OthersKept
import Derived.Lib.RuneLoops

namespace Go.Proofs.YtbdecnagdnancaaGreatDoor
open Go.RowKit Go.Proofs.YtbdecnagdnancaaGreatDoorW.PrintWords Go.Proofs.YtbdecnagdnancaaGreatDoorW.PrintLast Go.Proofs.YtbdecnagdnancaaGreatDoorW.PrintMore
set_option linter.unusedVariables false
set_option linter.unusedSimpArgs false
namespace Wd
/-- The sort of a byte. -/
def sortOf (n : Nat) : Int :=
  if 97 ≤ n ∧ n ≤ 122 then 2 else if 65 ≤ n ∧ n ≤ 90 then 2 else if 48 ≤ n ∧ n ≤ 57 then 3 else if 9 ≤ n ∧ n ≤ 10 then 1 else if 32 ≤ n ∧ n ≤ 32 then 1 else if 35 ≤ n ∧ n ≤ 35 then 5 else
  if 0 ≤ Lib.indexByte marksL n.toUInt8 then 4 else 0
def WRel (n k : Nat) : Prop := (0 < k → ¬(97 ≤ n ∧ n ≤ 122)) ∧ (1 < k → ¬(65 ≤ n ∧ n ≤ 90)) ∧ (2 < k → ¬(48 ≤ n ∧ n ≤ 57)) ∧ (3 < k → ¬(9 ≤ n ∧ n ≤ 10)) ∧ (4 < k → ¬(32 ≤ n ∧ n ≤ 32)) ∧ (5 < k → ¬(35 ≤ n ∧ n ≤ 35))
def rowsV : List Value := [.int .i32 97, .int .i32 122, .int .u8 2, .int .i32 65, .int .i32 90, .int .u8 2, .int .i32 48, .int .i32 57, .int .u8 3, .int .i32 9, .int .i32 10, .int .u8 1, .int .i32 32, .int .i32 32, .int .u8 1, .int .i32 35, .int .i32 35, .int .u8 5]
/-- The table of ranges, as the row lays it. -/
def RangesAt (w : World) : Prop := ∃ t fr, w.heap[0]? = some (.cells rowsV.toArray t fr)
theorem RangesAt.lt {w : World} (h : RangesAt w) : 0 < w.heap.size := by
  obtain ⟨t, fr, ht⟩ := h
  exact (Array.getElem?_eq_some_iff.1 ht).1
theorem RangesAt.below {w W : World} (h : RangesAt w) (hb : Below w.heap.size w W) : RangesAt W := by
  have hg := h.lt
  obtain ⟨t, fr, ht⟩ := h
  exact ⟨t, fr, by rw [hb.block _ hg]; exact ht⟩
theorem ix0 (w : World) : (Instr.index 286 (.agg rowsV.toArray) (.int .i64 0)).run Tryz.prog w = .ok (.agg #[.int .i32 97, .int .i32 122, .int .u8 2]) w := by kernel_rfl
theorem ix1 (w : World) : (Instr.index 286 (.agg rowsV.toArray) (.int .i64 1)).run Tryz.prog w = .ok (.agg #[.int .i32 65, .int .i32 90, .int .u8 2]) w := by kernel_rfl
theorem ix2 (w : World) : (Instr.index 286 (.agg rowsV.toArray) (.int .i64 2)).run Tryz.prog w = .ok (.agg #[.int .i32 48, .int .i32 57, .int .u8 3]) w := by kernel_rfl
theorem ix3 (w : World) : (Instr.index 286 (.agg rowsV.toArray) (.int .i64 3)).run Tryz.prog w = .ok (.agg #[.int .i32 9, .int .i32 10, .int .u8 1]) w := by kernel_rfl
theorem ix4 (w : World) : (Instr.index 286 (.agg rowsV.toArray) (.int .i64 4)).run Tryz.prog w = .ok (.agg #[.int .i32 32, .int .i32 32, .int .u8 1]) w := by kernel_rfl
theorem ix5 (w : World) : (Instr.index 286 (.agg rowsV.toArray) (.int .i64 5)).run Tryz.prog w = .ok (.agg #[.int .i32 35, .int .i32 35, .int .u8 5]) w := by kernel_rfl
theorem sort_0 {n : Nat} (h : WRel n 0) (h1 : 97 ≤ n ∧ n ≤ 122) : sortOf n = 2 := by unfold sortOf; rw [if_pos h1]
theorem sort_1 {n : Nat} (h : WRel n 1) (h1 : 65 ≤ n ∧ n ≤ 90) : sortOf n = 2 := by unfold WRel at h; unfold sortOf; rw [if_neg (by omega), if_pos h1]
theorem sort_2 {n : Nat} (h : WRel n 2) (h1 : 48 ≤ n ∧ n ≤ 57) : sortOf n = 3 := by unfold WRel at h; unfold sortOf; rw [if_neg (by omega), if_neg (by omega), if_pos h1]
theorem sort_3 {n : Nat} (h : WRel n 3) (h1 : 9 ≤ n ∧ n ≤ 10) : sortOf n = 1 := by unfold WRel at h; unfold sortOf; rw [if_neg (by omega), if_neg (by omega), if_neg (by omega), if_pos h1]
theorem sort_4 {n : Nat} (h : WRel n 4) (h1 : 32 ≤ n ∧ n ≤ 32) : sortOf n = 1 := by unfold WRel at h; unfold sortOf; rw [if_neg (by omega), if_neg (by omega), if_neg (by omega), if_neg (by omega), if_pos h1]
theorem sort_5 {n : Nat} (h : WRel n 5) (h1 : 35 ≤ n ∧ n ≤ 35) : sortOf n = 5 := by unfold WRel at h; unfold sortOf; rw [if_neg (by omega), if_neg (by omega), if_neg (by omega), if_neg (by omega), if_neg (by omega), if_pos h1]
theorem sort_6 {n : Nat} (h : WRel n 6) : sortOf n = if 0 ≤ Lib.indexByte marksL n.toUInt8 then 4 else 0 := by unfold WRel at h; unfold sortOf; rw [if_neg (by omega), if_neg (by omega), if_neg (by omega), if_neg (by omega), if_neg (by omega), if_neg (by omega)]
set_option maxRecDepth 100000 in
set_option maxHeartbeats 4000000 in
theorem wof_calls (w : World) (n : Nat) (hn : n < 256) (HR : Aside0 (RangesAt w)) :
    Calls Tryz.prog 130 #[.int .u8 (n : Int)] w fun e w' => e = .returned (.int .u8 (sortOf n)) ∧ Below w.heap.size w w' := by
  have hw : IntKind.i32.wrap (n : Int) = (n : Int) := by rw [IntKind.wrap_i32]; omega
  obtain ⟨t, fr, hg⟩ := HR.out
  have HB := Aside0.mk (Below.refl w.heap.size w)
  go_enter Tryz.func130, Tryz.ntmps130
  go_wp2_with (refine wpList_load_row rfl 286 _ rfl 0 rfl t _ fr _ hg Tryz.underlying286 rfl (by kernel_rfl) ?_)
  clear hg
  go_loopg [6] 7 (fun g b W => ∃ (k : Nat), b = .int .i64 (k : Int) ∧ k ≤ 6 ∧ 7 - k ≤ g ∧ Aside0 (Below w.heap.size w W) ∧ Aside0 (WRel n k))
  case atStart => exact ⟨0, rfl, by omega, by omega, HB, ⟨by unfold WRel; omega⟩⟩
  case round =>
    obtain ⟨k, rfl, hk, hkg, HB, HK⟩ := hrel
    rcases Nat.lt_or_ge k 6 with hlt | hge
    · have hor : k = 0 ∨ k = 1 ∨ k = 2 ∨ k = 3 ∨ k = 4 ∨ k = 5 := by omega
      rcases hor with rfl | rfl | rfl | rfl | rfl | rfl
      · have HB2 := Aside0.mk (below_alloc HB.out (.cells #[.int .i32 97, .int .i32 122, .int .u8 2] 285))
        have ix := ix0
        by_cases h1 : 97 ≤ n ∧ n ≤ 122
        · have d1 : decide ((97 : Int) ≤ (n : Int)) = true := decide_eq_true (by omega)
          have d2 : decide ((n : Int) ≤ (122 : Int)) = true := decide_eq_true (by omega)
          have HE : Aside0 (sortOf n = 2) := ⟨sort_0 HK.out h1⟩
          clear h1
          go_wp2
          go_ret
          rw [HE.out]
          exact ⟨rfl, HB2.out⟩
        · have HK2 : Aside0 (WRel n 1) := ⟨by have := HK.out; unfold WRel at *; omega⟩
          by_cases h2 : 97 ≤ n
          · have d1 : decide ((97 : Int) ≤ (n : Int)) = true := decide_eq_true (by omega)
            have d2 : decide ((n : Int) ≤ (122 : Int)) = false := decide_eq_false (by omega)
            clear h1 h2
            go_wp2
            go_roundg (gk - 1)
            case measure => omega
            case rel => exact ⟨1, by go_num, by omega, by omega, HB2, HK2⟩
          · have d1 : decide ((97 : Int) ≤ (n : Int)) = false := decide_eq_false (by omega)
            clear h1 h2
            go_wp2
            go_roundg (gk - 1)
            case measure => omega
            case rel => exact ⟨1, by go_num, by omega, by omega, HB2, HK2⟩
      · have HB2 := Aside0.mk (below_alloc HB.out (.cells #[.int .i32 65, .int .i32 90, .int .u8 2] 285))
        have ix := ix1
        by_cases h1 : 65 ≤ n ∧ n ≤ 90
        · have d1 : decide ((65 : Int) ≤ (n : Int)) = true := decide_eq_true (by omega)
          have d2 : decide ((n : Int) ≤ (90 : Int)) = true := decide_eq_true (by omega)
          have HE : Aside0 (sortOf n = 2) := ⟨sort_1 HK.out h1⟩
          clear h1
          go_wp2
          go_ret
          rw [HE.out]
          exact ⟨rfl, HB2.out⟩
        · have HK2 : Aside0 (WRel n 2) := ⟨by have := HK.out; unfold WRel at *; omega⟩
          by_cases h2 : 65 ≤ n
          · have d1 : decide ((65 : Int) ≤ (n : Int)) = true := decide_eq_true (by omega)
            have d2 : decide ((n : Int) ≤ (90 : Int)) = false := decide_eq_false (by omega)
            clear h1 h2
            go_wp2
            go_roundg (gk - 1)
            case measure => omega
            case rel => exact ⟨2, by go_num, by omega, by omega, HB2, HK2⟩
          · have d1 : decide ((65 : Int) ≤ (n : Int)) = false := decide_eq_false (by omega)
            clear h1 h2
            go_wp2
            go_roundg (gk - 1)
            case measure => omega
            case rel => exact ⟨2, by go_num, by omega, by omega, HB2, HK2⟩
      · have HB2 := Aside0.mk (below_alloc HB.out (.cells #[.int .i32 48, .int .i32 57, .int .u8 3] 285))
        have ix := ix2
        by_cases h1 : 48 ≤ n ∧ n ≤ 57
        · have d1 : decide ((48 : Int) ≤ (n : Int)) = true := decide_eq_true (by omega)
          have d2 : decide ((n : Int) ≤ (57 : Int)) = true := decide_eq_true (by omega)
          have HE : Aside0 (sortOf n = 3) := ⟨sort_2 HK.out h1⟩
          clear h1
          go_wp2
          go_ret
          rw [HE.out]
          exact ⟨rfl, HB2.out⟩
        · have HK2 : Aside0 (WRel n 3) := ⟨by have := HK.out; unfold WRel at *; omega⟩
          by_cases h2 : 48 ≤ n
          · have d1 : decide ((48 : Int) ≤ (n : Int)) = true := decide_eq_true (by omega)
            have d2 : decide ((n : Int) ≤ (57 : Int)) = false := decide_eq_false (by omega)
            clear h1 h2
            go_wp2
            go_roundg (gk - 1)
            case measure => omega
            case rel => exact ⟨3, by go_num, by omega, by omega, HB2, HK2⟩
          · have d1 : decide ((48 : Int) ≤ (n : Int)) = false := decide_eq_false (by omega)
            clear h1 h2
            go_wp2
            go_roundg (gk - 1)
            case measure => omega
            case rel => exact ⟨3, by go_num, by omega, by omega, HB2, HK2⟩
      · have HB2 := Aside0.mk (below_alloc HB.out (.cells #[.int .i32 9, .int .i32 10, .int .u8 1] 285))
        have ix := ix3
        by_cases h1 : 9 ≤ n ∧ n ≤ 10
        · have d1 : decide ((9 : Int) ≤ (n : Int)) = true := decide_eq_true (by omega)
          have d2 : decide ((n : Int) ≤ (10 : Int)) = true := decide_eq_true (by omega)
          have HE : Aside0 (sortOf n = 1) := ⟨sort_3 HK.out h1⟩
          clear h1
          go_wp2
          go_ret
          rw [HE.out]
          exact ⟨rfl, HB2.out⟩
        · have HK2 : Aside0 (WRel n 4) := ⟨by have := HK.out; unfold WRel at *; omega⟩
          by_cases h2 : 9 ≤ n
          · have d1 : decide ((9 : Int) ≤ (n : Int)) = true := decide_eq_true (by omega)
            have d2 : decide ((n : Int) ≤ (10 : Int)) = false := decide_eq_false (by omega)
            clear h1 h2
            go_wp2
            go_roundg (gk - 1)
            case measure => omega
            case rel => exact ⟨4, by go_num, by omega, by omega, HB2, HK2⟩
          · have d1 : decide ((9 : Int) ≤ (n : Int)) = false := decide_eq_false (by omega)
            clear h1 h2
            go_wp2
            go_roundg (gk - 1)
            case measure => omega
            case rel => exact ⟨4, by go_num, by omega, by omega, HB2, HK2⟩
      · have HB2 := Aside0.mk (below_alloc HB.out (.cells #[.int .i32 32, .int .i32 32, .int .u8 1] 285))
        have ix := ix4
        by_cases h1 : 32 ≤ n ∧ n ≤ 32
        · have d1 : decide ((32 : Int) ≤ (n : Int)) = true := decide_eq_true (by omega)
          have d2 : decide ((n : Int) ≤ (32 : Int)) = true := decide_eq_true (by omega)
          have HE : Aside0 (sortOf n = 1) := ⟨sort_4 HK.out h1⟩
          clear h1
          go_wp2
          go_ret
          rw [HE.out]
          exact ⟨rfl, HB2.out⟩
        · have HK2 : Aside0 (WRel n 5) := ⟨by have := HK.out; unfold WRel at *; omega⟩
          by_cases h2 : 32 ≤ n
          · have d1 : decide ((32 : Int) ≤ (n : Int)) = true := decide_eq_true (by omega)
            have d2 : decide ((n : Int) ≤ (32 : Int)) = false := decide_eq_false (by omega)
            clear h1 h2
            go_wp2
            go_roundg (gk - 1)
            case measure => omega
            case rel => exact ⟨5, by go_num, by omega, by omega, HB2, HK2⟩
          · have d1 : decide ((32 : Int) ≤ (n : Int)) = false := decide_eq_false (by omega)
            clear h1 h2
            go_wp2
            go_roundg (gk - 1)
            case measure => omega
            case rel => exact ⟨5, by go_num, by omega, by omega, HB2, HK2⟩
      · have HB2 := Aside0.mk (below_alloc HB.out (.cells #[.int .i32 35, .int .i32 35, .int .u8 5] 285))
        have ix := ix5
        by_cases h1 : 35 ≤ n ∧ n ≤ 35
        · have d1 : decide ((35 : Int) ≤ (n : Int)) = true := decide_eq_true (by omega)
          have d2 : decide ((n : Int) ≤ (35 : Int)) = true := decide_eq_true (by omega)
          have HE : Aside0 (sortOf n = 5) := ⟨sort_5 HK.out h1⟩
          clear h1
          go_wp2
          go_ret
          rw [HE.out]
          exact ⟨rfl, HB2.out⟩
        · have HK2 : Aside0 (WRel n 6) := ⟨by have := HK.out; unfold WRel at *; omega⟩
          by_cases h2 : 35 ≤ n
          · have d1 : decide ((35 : Int) ≤ (n : Int)) = true := decide_eq_true (by omega)
            have d2 : decide ((n : Int) ≤ (35 : Int)) = false := decide_eq_false (by omega)
            clear h1 h2
            go_wp2
            go_roundg (gk - 1)
            case measure => omega
            case rel => exact ⟨6, by go_num, by omega, by omega, HB2, HK2⟩
          · have d1 : decide ((35 : Int) ≤ (n : Int)) = false := decide_eq_false (by omega)
            clear h1 h2
            go_wp2
            go_roundg (gk - 1)
            case measure => omega
            case rel => exact ⟨6, by go_num, by omega, by omega, HB2, HK2⟩
    · obtain rfl : k = 6 := by omega
      have hi := Lib.indexByte_ge marksL n.toUInt8
      obtain ⟨z, hz⟩ : ∃ z, z = Lib.indexByte marksL n.toUInt8 := ⟨_, rfl⟩
      have HS : Aside0 (sortOf n = if 0 ≤ z then 4 else 0) := ⟨by rw [hz]; exact sort_6 HK.out⟩
      have HI : Aside0 (∀ W, Calls Tryz.prog 131 #[.string ⟨#[40, 41, 123, 125, 60, 62, 91, 93, 44, 59, 58, 46, 124, 64, 37, 45]⟩, .int .u8 (n : Int)] W fun e w' => e = .returned (.int .i64 z) ∧ w' = W) := ⟨fun W => by
        rw [hz]
        exact Any.strings_IndexByte Tryz.lays137 _ _ W⟩
      clear hz hi
      by_cases h : 0 ≤ z
      · have d1 : decide (0 ≤ z) = true := decide_eq_true h
        have HE : Aside0 (sortOf n = 4) := ⟨by rw [HS.out, if_pos h]⟩
        clear h
        go_wp2_with (go_at_call 131; (with_reducible refine (HI.out _).mono ?_); rintro e W' ⟨rfl, rfl⟩)
        go_ret
        rw [HE.out]
        exact ⟨rfl, HB.out⟩
      · have d1 : decide (0 ≤ z) = false := decide_eq_false h
        have HE : Aside0 (sortOf n = 0) := ⟨by rw [HS.out, if_neg h]⟩
        clear h
        go_wp2_with (go_at_call 131; (with_reducible refine (HI.out _).mono ?_); rintro e W' ⟨rfl, rfl⟩)
        go_ret
        rw [HE.out]
        exact ⟨rfl, HB.out⟩
end Wd
end Go.Proofs.YtbdecnagdnancaaGreatDoor
