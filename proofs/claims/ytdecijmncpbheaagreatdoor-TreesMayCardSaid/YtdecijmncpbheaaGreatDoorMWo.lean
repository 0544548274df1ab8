/- Several texts as one: Wo, Wp, Wq, Wf. -/
import Derived.Test.YtdecijmncpbheaaGreatDoorK
import Derived.Test.YtdecijmncpbheaaGreatDoorB
import Derived.Test.YtdecijmncpbheaaGreatDoorSh
import Derived.Test.YtdecijmncpbheaaGreatDoorMWa
import Derived.Laws.Rows
import Derived.Lib.OthersKept
import Derived.Lib.RuneLoops
import Derived.Laws.RangeAny
import Derived.Laws.BitsLemmas
import Derived.Lib.VarintMem
import Derived.Lib.AppendIntMem
import Derived.Lib.ItoaMem
import Derived.Lib.AtoiErrMem
import Derived.Shelf.Pu.ParseUintPublic10
import Derived.Shelf.Strconv.Itoa3

namespace Go.Proofs.YtdecijmncpbheaaGreatDoor
open Go.RowKit Go.Proofs.YtdecijmncpbheaaGreatDoorW.PrintWords Go.Proofs.YtdecijmncpbheaaGreatDoorW.PrintLast Go.Proofs.YtdecijmncpbheaaGreatDoorW.PrintMore
set_option linter.unusedVariables false
set_option linter.unusedSimpArgs false
namespace Wd
/-- The sort of a byte. -/
def sortOf (n : Nat) : Int :=
  if 97 ≤ n ∧ n ≤ 122 then 2 else if 65 ≤ n ∧ n ≤ 90 then 2 else if 48 ≤ n ∧ n ≤ 57 then 3 else if 9 ≤ n ∧ n ≤ 10 then 1 else if 32 ≤ n ∧ n ≤ 32 then 1 else if 35 ≤ n ∧ n ≤ 35 then 5 else
  if 0 ≤ Lib.indexByte marksL n.toUInt8 then 4 else 0
def WRel (n k : Nat) : Prop := (0 < k → ¬(97 ≤ n ∧ n ≤ 122)) ∧ (1 < k → ¬(65 ≤ n ∧ n ≤ 90)) ∧ (2 < k → ¬(48 ≤ n ∧ n ≤ 57)) ∧ (3 < k → ¬(9 ≤ n ∧ n ≤ 10)) ∧ (4 < k → ¬(32 ≤ n ∧ n ≤ 32)) ∧ (5 < k → ¬(35 ≤ n ∧ n ≤ 35))
def rowsV : List Value := [.int .i32 97, .int .i32 122, .int .u8 2, .int .i32 65, .int .i32 90, .int .u8 2, .int .i32 48, .int .i32 57, .int .u8 3, .int .i32 9, .int .i32 10, .int .u8 1, .int .i32 32, .int .i32 32, .int .u8 1, .int .i32 35, .int .i32 35, .int .u8 5]
/-- The table of ranges, as the row lays it. -/
def RangesAt (w : World) : Prop := ∃ t fr, w.heap[0]? = some (.cells rowsV.toArray t fr)
theorem RangesAt.lt {w : World} (h : RangesAt w) : 0 < w.heap.size := by
  obtain ⟨t, fr, ht⟩ := h
  exact (Array.getElem?_eq_some_iff.1 ht).1
theorem RangesAt.below {w W : World} (h : RangesAt w) (hb : Below w.heap.size w W) : RangesAt W := by
  have hg := h.lt
  obtain ⟨t, fr, ht⟩ := h
  exact ⟨t, fr, by rw [hb.block _ hg]; exact ht⟩
theorem ix0 (w : World) : (Instr.index 301 (.agg rowsV.toArray) (.int .i64 0)).run Tryz.prog w = .ok (.agg #[.int .i32 97, .int .i32 122, .int .u8 2]) w := by kernel_rfl
theorem ix1 (w : World) : (Instr.index 301 (.agg rowsV.toArray) (.int .i64 1)).run Tryz.prog w = .ok (.agg #[.int .i32 65, .int .i32 90, .int .u8 2]) w := by kernel_rfl
theorem ix2 (w : World) : (Instr.index 301 (.agg rowsV.toArray) (.int .i64 2)).run Tryz.prog w = .ok (.agg #[.int .i32 48, .int .i32 57, .int .u8 3]) w := by kernel_rfl
theorem ix3 (w : World) : (Instr.index 301 (.agg rowsV.toArray) (.int .i64 3)).run Tryz.prog w = .ok (.agg #[.int .i32 9, .int .i32 10, .int .u8 1]) w := by kernel_rfl
theorem ix4 (w : World) : (Instr.index 301 (.agg rowsV.toArray) (.int .i64 4)).run Tryz.prog w = .ok (.agg #[.int .i32 32, .int .i32 32, .int .u8 1]) w := by kernel_rfl
theorem ix5 (w : World) : (Instr.index 301 (.agg rowsV.toArray) (.int .i64 5)).run Tryz.prog w = .ok (.agg #[.int .i32 35, .int .i32 35, .int .u8 5]) w := by kernel_rfl
theorem sort_0 {n : Nat} (h : WRel n 0) (h1 : 97 ≤ n ∧ n ≤ 122) : sortOf n = 2 := by unfold sortOf; rw [if_pos h1]
theorem sort_1 {n : Nat} (h : WRel n 1) (h1 : 65 ≤ n ∧ n ≤ 90) : sortOf n = 2 := by unfold WRel at h; unfold sortOf; rw [if_neg (by omega), if_pos h1]
theorem sort_2 {n : Nat} (h : WRel n 2) (h1 : 48 ≤ n ∧ n ≤ 57) : sortOf n = 3 := by unfold WRel at h; unfold sortOf; rw [if_neg (by omega), if_neg (by omega), if_pos h1]
theorem sort_3 {n : Nat} (h : WRel n 3) (h1 : 9 ≤ n ∧ n ≤ 10) : sortOf n = 1 := by unfold WRel at h; unfold sortOf; rw [if_neg (by omega), if_neg (by omega), if_neg (by omega), if_pos h1]
theorem sort_4 {n : Nat} (h : WRel n 4) (h1 : 32 ≤ n ∧ n ≤ 32) : sortOf n = 1 := by unfold WRel at h; unfold sortOf; rw [if_neg (by omega), if_neg (by omega), if_neg (by omega), if_neg (by omega), if_pos h1]
theorem sort_5 {n : Nat} (h : WRel n 5) (h1 : 35 ≤ n ∧ n ≤ 35) : sortOf n = 5 := by unfold WRel at h; unfold sortOf; rw [if_neg (by omega), if_neg (by omega), if_neg (by omega), if_neg (by omega), if_neg (by omega), if_pos h1]
theorem sort_6 {n : Nat} (h : WRel n 6) : sortOf n = if 0 ≤ Lib.indexByte marksL n.toUInt8 then 4 else 0 := by unfold WRel at h; unfold sortOf; rw [if_neg (by omega), if_neg (by omega), if_neg (by omega), if_neg (by omega), if_neg (by omega), if_neg (by omega)]
set_option maxRecDepth 100000 in
set_option maxHeartbeats 4000000 in
theorem wof_calls (w : World) (n : Nat) (hn : n < 256) (HR : Aside0 (RangesAt w)) :
    Calls Tryz.prog 181 #[.int .u8 (n : Int)] w fun e w' => e = .returned (.int .u8 (sortOf n)) ∧ Below w.heap.size w w' := by
  have hw : IntKind.i32.wrap (n : Int) = (n : Int) := by rw [IntKind.wrap_i32]; omega
  obtain ⟨t, fr, hg⟩ := HR.out
  have HB := Aside0.mk (Below.refl w.heap.size w)
  go_enter Tryz.func181, Tryz.ntmps181
  go_wp2_with (refine wpList_load_row rfl 301 _ rfl 0 rfl t _ fr _ hg Tryz.underlying301 rfl (by kernel_rfl) ?_)
  clear hg
  go_loopg [6] 7 (fun g b W => ∃ (k : Nat), b = .int .i64 (k : Int) ∧ k ≤ 6 ∧ 7 - k ≤ g ∧ Aside0 (Below w.heap.size w W) ∧ Aside0 (WRel n k))
  case atStart => exact ⟨0, rfl, by omega, by omega, HB, ⟨by unfold WRel; omega⟩⟩
  case round =>
    obtain ⟨k, rfl, hk, hkg, HB, HK⟩ := hrel
    rcases Nat.lt_or_ge k 6 with hlt | hge
    · have hor : k = 0 ∨ k = 1 ∨ k = 2 ∨ k = 3 ∨ k = 4 ∨ k = 5 := by omega
      rcases hor with rfl | rfl | rfl | rfl | rfl | rfl
      · have HB2 := Aside0.mk (below_alloc HB.out (.cells #[.int .i32 97, .int .i32 122, .int .u8 2] 300))
        have ix := ix0
        by_cases h1 : 97 ≤ n ∧ n ≤ 122
        · have d1 : decide ((97 : Int) ≤ (n : Int)) = true := decide_eq_true (by omega)
          have d2 : decide ((n : Int) ≤ (122 : Int)) = true := decide_eq_true (by omega)
          have HE : Aside0 (sortOf n = 2) := ⟨sort_0 HK.out h1⟩
          clear h1
          go_wp2
          go_ret
          rw [HE.out]
          exact ⟨rfl, HB2.out⟩
        · have HK2 : Aside0 (WRel n 1) := ⟨by have := HK.out; unfold WRel at *; omega⟩
          by_cases h2 : 97 ≤ n
          · have d1 : decide ((97 : Int) ≤ (n : Int)) = true := decide_eq_true (by omega)
            have d2 : decide ((n : Int) ≤ (122 : Int)) = false := decide_eq_false (by omega)
            clear h1 h2
            go_wp2
            go_roundg (gk - 1)
            case measure => omega
            case rel => exact ⟨1, by go_num, by omega, by omega, HB2, HK2⟩
          · have d1 : decide ((97 : Int) ≤ (n : Int)) = false := decide_eq_false (by omega)
            clear h1 h2
            go_wp2
            go_roundg (gk - 1)
            case measure => omega
            case rel => exact ⟨1, by go_num, by omega, by omega, HB2, HK2⟩
      · have HB2 := Aside0.mk (below_alloc HB.out (.cells #[.int .i32 65, .int .i32 90, .int .u8 2] 300))
        have ix := ix1
        by_cases h1 : 65 ≤ n ∧ n ≤ 90
        · have d1 : decide ((65 : Int) ≤ (n : Int)) = true := decide_eq_true (by omega)
          have d2 : decide ((n : Int) ≤ (90 : Int)) = true := decide_eq_true (by omega)
          have HE : Aside0 (sortOf n = 2) := ⟨sort_1 HK.out h1⟩
          clear h1
          go_wp2
          go_ret
          rw [HE.out]
          exact ⟨rfl, HB2.out⟩
        · have HK2 : Aside0 (WRel n 2) := ⟨by have := HK.out; unfold WRel at *; omega⟩
          by_cases h2 : 65 ≤ n
          · have d1 : decide ((65 : Int) ≤ (n : Int)) = true := decide_eq_true (by omega)
            have d2 : decide ((n : Int) ≤ (90 : Int)) = false := decide_eq_false (by omega)
            clear h1 h2
            go_wp2
            go_roundg (gk - 1)
            case measure => omega
            case rel => exact ⟨2, by go_num, by omega, by omega, HB2, HK2⟩
          · have d1 : decide ((65 : Int) ≤ (n : Int)) = false := decide_eq_false (by omega)
            clear h1 h2
            go_wp2
            go_roundg (gk - 1)
            case measure => omega
            case rel => exact ⟨2, by go_num, by omega, by omega, HB2, HK2⟩
      · have HB2 := Aside0.mk (below_alloc HB.out (.cells #[.int .i32 48, .int .i32 57, .int .u8 3] 300))
        have ix := ix2
        by_cases h1 : 48 ≤ n ∧ n ≤ 57
        · have d1 : decide ((48 : Int) ≤ (n : Int)) = true := decide_eq_true (by omega)
          have d2 : decide ((n : Int) ≤ (57 : Int)) = true := decide_eq_true (by omega)
          have HE : Aside0 (sortOf n = 3) := ⟨sort_2 HK.out h1⟩
          clear h1
          go_wp2
          go_ret
          rw [HE.out]
          exact ⟨rfl, HB2.out⟩
        · have HK2 : Aside0 (WRel n 3) := ⟨by have := HK.out; unfold WRel at *; omega⟩
          by_cases h2 : 48 ≤ n
          · have d1 : decide ((48 : Int) ≤ (n : Int)) = true := decide_eq_true (by omega)
            have d2 : decide ((n : Int) ≤ (57 : Int)) = false := decide_eq_false (by omega)
            clear h1 h2
            go_wp2
            go_roundg (gk - 1)
            case measure => omega
            case rel => exact ⟨3, by go_num, by omega, by omega, HB2, HK2⟩
          · have d1 : decide ((48 : Int) ≤ (n : Int)) = false := decide_eq_false (by omega)
            clear h1 h2
            go_wp2
            go_roundg (gk - 1)
            case measure => omega
            case rel => exact ⟨3, by go_num, by omega, by omega, HB2, HK2⟩
      · have HB2 := Aside0.mk (below_alloc HB.out (.cells #[.int .i32 9, .int .i32 10, .int .u8 1] 300))
        have ix := ix3
        by_cases h1 : 9 ≤ n ∧ n ≤ 10
        · have d1 : decide ((9 : Int) ≤ (n : Int)) = true := decide_eq_true (by omega)
          have d2 : decide ((n : Int) ≤ (10 : Int)) = true := decide_eq_true (by omega)
          have HE : Aside0 (sortOf n = 1) := ⟨sort_3 HK.out h1⟩
          clear h1
          go_wp2
          go_ret
          rw [HE.out]
          exact ⟨rfl, HB2.out⟩
        · have HK2 : Aside0 (WRel n 4) := ⟨by have := HK.out; unfold WRel at *; omega⟩
          by_cases h2 : 9 ≤ n
          · have d1 : decide ((9 : Int) ≤ (n : Int)) = true := decide_eq_true (by omega)
            have d2 : decide ((n : Int) ≤ (10 : Int)) = false := decide_eq_false (by omega)
            clear h1 h2
            go_wp2
            go_roundg (gk - 1)
            case measure => omega
            case rel => exact ⟨4, by go_num, by omega, by omega, HB2, HK2⟩
          · have d1 : decide ((9 : Int) ≤ (n : Int)) = false := decide_eq_false (by omega)
            clear h1 h2
            go_wp2
            go_roundg (gk - 1)
            case measure => omega
            case rel => exact ⟨4, by go_num, by omega, by omega, HB2, HK2⟩
      · have HB2 := Aside0.mk (below_alloc HB.out (.cells #[.int .i32 32, .int .i32 32, .int .u8 1] 300))
        have ix := ix4
        by_cases h1 : 32 ≤ n ∧ n ≤ 32
        · have d1 : decide ((32 : Int) ≤ (n : Int)) = true := decide_eq_true (by omega)
          have d2 : decide ((n : Int) ≤ (32 : Int)) = true := decide_eq_true (by omega)
          have HE : Aside0 (sortOf n = 1) := ⟨sort_4 HK.out h1⟩
          clear h1
          go_wp2
          go_ret
          rw [HE.out]
          exact ⟨rfl, HB2.out⟩
        · have HK2 : Aside0 (WRel n 5) := ⟨by have := HK.out; unfold WRel at *; omega⟩
          by_cases h2 : 32 ≤ n
          · have d1 : decide ((32 : Int) ≤ (n : Int)) = true := decide_eq_true (by omega)
            have d2 : decide ((n : Int) ≤ (32 : Int)) = false := decide_eq_false (by omega)
            clear h1 h2
            go_wp2
            go_roundg (gk - 1)
            case measure => omega
            case rel => exact ⟨5, by go_num, by omega, by omega, HB2, HK2⟩
          · have d1 : decide ((32 : Int) ≤ (n : Int)) = false := decide_eq_false (by omega)
            clear h1 h2
            go_wp2
            go_roundg (gk - 1)
            case measure => omega
            case rel => exact ⟨5, by go_num, by omega, by omega, HB2, HK2⟩
      · have HB2 := Aside0.mk (below_alloc HB.out (.cells #[.int .i32 35, .int .i32 35, .int .u8 5] 300))
        have ix := ix5
        by_cases h1 : 35 ≤ n ∧ n ≤ 35
        · have d1 : decide ((35 : Int) ≤ (n : Int)) = true := decide_eq_true (by omega)
          have d2 : decide ((n : Int) ≤ (35 : Int)) = true := decide_eq_true (by omega)
          have HE : Aside0 (sortOf n = 5) := ⟨sort_5 HK.out h1⟩
          clear h1
          go_wp2
          go_ret
          rw [HE.out]
          exact ⟨rfl, HB2.out⟩
        · have HK2 : Aside0 (WRel n 6) := ⟨by have := HK.out; unfold WRel at *; omega⟩
          by_cases h2 : 35 ≤ n
          · have d1 : decide ((35 : Int) ≤ (n : Int)) = true := decide_eq_true (by omega)
            have d2 : decide ((n : Int) ≤ (35 : Int)) = false := decide_eq_false (by omega)
            clear h1 h2
            go_wp2
            go_roundg (gk - 1)
            case measure => omega
            case rel => exact ⟨6, by go_num, by omega, by omega, HB2, HK2⟩
          · have d1 : decide ((35 : Int) ≤ (n : Int)) = false := decide_eq_false (by omega)
            clear h1 h2
            go_wp2
            go_roundg (gk - 1)
            case measure => omega
            case rel => exact ⟨6, by go_num, by omega, by omega, HB2, HK2⟩
    · obtain rfl : k = 6 := by omega
      have hi := Lib.indexByte_ge marksL n.toUInt8
      obtain ⟨z, hz⟩ : ∃ z, z = Lib.indexByte marksL n.toUInt8 := ⟨_, rfl⟩
      have HS : Aside0 (sortOf n = if 0 ≤ z then 4 else 0) := ⟨by rw [hz]; exact sort_6 HK.out⟩
      have HI : Aside0 (∀ W, Calls Tryz.prog 182 #[.string ⟨#[40, 41, 123, 125, 60, 62, 91, 93, 44, 59, 58, 46, 124, 64, 37, 45]⟩, .int .u8 (n : Int)] W fun e w' => e = .returned (.int .i64 z) ∧ w' = W) := ⟨fun W => by
        rw [hz]
        exact Any.strings_IndexByte Tryz.lays137 _ _ W⟩
      clear hz hi
      by_cases h : 0 ≤ z
      · have d1 : decide (0 ≤ z) = true := decide_eq_true h
        have HE : Aside0 (sortOf n = 4) := ⟨by rw [HS.out, if_pos h]⟩
        clear h
        go_wp2_with (go_at_call 182; (with_reducible refine (HI.out _).mono ?_); rintro e W' ⟨rfl, rfl⟩)
        go_ret
        rw [HE.out]
        exact ⟨rfl, HB.out⟩
      · have d1 : decide (0 ≤ z) = false := decide_eq_false h
        have HE : Aside0 (sortOf n = 0) := ⟨by rw [HS.out, if_neg h]⟩
        clear h
        go_wp2_with (go_at_call 182; (with_reducible refine (HI.out _).mono ?_); rintro e W' ⟨rfl, rfl⟩)
        go_ret
        rw [HE.out]
        exact ⟨rfl, HB.out⟩
end Wd
end Go.Proofs.YtdecijmncpbheaaGreatDoor

namespace Go.Proofs.YtdecijmncpbheaaGreatDoor
open Go.RowKit Go.Proofs.YtdecijmncpbheaaGreatDoorW.PrintWords Go.Proofs.YtdecijmncpbheaaGreatDoorW.PrintLast Go.Proofs.YtdecijmncpbheaaGreatDoorW.PrintMore
set_option linter.unusedVariables false
set_option linter.unusedSimpArgs false
namespace Wd
theorem sort_cases (c : B) : (sortOf c.toNat = 2 ↔ letter c = true) ∧ (sortOf c.toNat = 3 ↔ digit c = true) ∧ (sortOf c.toNat = 1 ↔ (c = 10 ∨ c = 32 ∨ c = 9)) ∧ (sortOf c.toNat = 5 ↔ c = 35) ∧ (sortOf c.toNat = 4 ↔ isMark c = true) := by
  have key : ∀ c : B, (decide (sortOf c.toNat = 2) = letter c) ∧ (decide (sortOf c.toNat = 3) = digit c) ∧ (decide (sortOf c.toNat = 1) = decide (c = 10 ∨ c = 32 ∨ c = 9)) ∧ (decide (sortOf c.toNat = 5) = decide (c = 35)) ∧ (decide (sortOf c.toNat = 4) = isMark c) := by
    have : ∀ n : Fin 256, (decide (sortOf n.val = 2) = letter (UInt8.ofNat n.val)) ∧ (decide (sortOf n.val = 3) = digit (UInt8.ofNat n.val)) ∧ (decide (sortOf n.val = 1) = decide ((UInt8.ofNat n.val) = 10 ∨ (UInt8.ofNat n.val) = 32 ∨ (UInt8.ofNat n.val) = 9)) ∧ (decide (sortOf n.val = 5) = decide ((UInt8.ofNat n.val) = 35)) ∧ (decide (sortOf n.val = 4) = isMark (UInt8.ofNat n.val)) := by decide +kernel
    intro c
    have h := this ⟨c.toNat, c.toNat_lt⟩
    simpa using h
  obtain ⟨h1, h2, h3, h4, h5⟩ := key c
  refine ⟨?_, ?_, ?_, ?_, ?_⟩
  · rw [← h1]; simp
  · rw [← h2]; simp
  · rw [← decide_eq_true_iff (p := (c = 10 ∨ c = 32 ∨ c = 9)), ← h3]; simp
  · rw [← decide_eq_true_iff (p := (c = 35)), ← h4]; simp
  · rw [← h5]; simp
theorem tw_len (q : B → Bool) (l : List B) (k : Nat) (hk : k ≤ l.length) (h : ∀ i (hi : i < l.length), i < k → q l[i] = true) (hs : ∀ hi : k < l.length, q l[k] = false) : (l.takeWhile q).length = k := by
  induction l generalizing k with
  | nil => simp at hk; simp [hk]
  | cons c r ih =>
    cases k with
    | zero =>
      have := hs (by simp)
      simp at this
      simp [List.takeWhile_cons, this]
    | succ k =>
      have h0 := h 0 (by simp) (by omega)
      simp at h0
      rw [List.takeWhile_cons, if_pos h0, List.length_cons, ih k (by simpa using hk) (fun i hi hik => by have := h (i + 1) (by simpa using hi) (by omega); simpa using this) (fun hi => by have := hs (by simpa using hi); simpa using this)]
set_option maxRecDepth 100000 in
set_option maxHeartbeats 4000000 in
theorem within_calls (w : World) (r n c : Nat) (A : Option Addr) (l : List Int) (hn : n = l.length) (hr : (Kd.int .u8).C w A n l) (HR : Aside0 (RangesAt w)) :
    Calls Tryz.prog 185 #[.int .i32 (r : Int), .slice A n c] w fun e w' => e = .returned (.bool (decide (r < 128) && l.contains (sortOf r))) ∧ Below w.heap.size w w' := by
  have HC := Aside0.mk hr
  have HN := Aside0.mk hn
  have xm : n ≤ 9223372036854775807 := hr.2.1
  have HB := Aside0.mk (Below.refl w.heap.size w)
  clear hr hn
  obtain ⟨z, hz⟩ : ∃ z, z = sortOf r := ⟨_, rfl⟩
  obtain ⟨res, hres⟩ : ∃ res, res = (decide (r < 128) && l.contains z) := ⟨_, rfl⟩
  rw [← hz, ← hres]
  have HZ := Aside0.mk hz
  have HE := Aside0.mk hres
  clear hz hres
  by_cases h128 : r < 128
  · have d0 : decide ((r : Int) < 128) = true := decide_eq_true (by omega)
    have hw : IntKind.u8.wrap (r : Int) = (r : Int) := by rw [IntKind.wrap_u8]; omega
    go_enter Tryz.func185, Tryz.ntmps185
    go_wp2
    go_loopg [9] (n + 1) (fun g b W => ∃ (k : Nat), b = .int .i64 (k : Int) ∧ k ≤ n ∧ n + 1 - k ≤ g ∧ Aside0 (Below w.heap.size w W) ∧ Aside0 (∀ i (h : i < l.length), i < k → l[i] ≠ z))
    case atStart => exact ⟨0, rfl, by omega, by omega, HB, ⟨fun i h hi => by omega⟩⟩
    case round =>
      obtain ⟨k, rfl, hk, hkg, HB, HK⟩ := hrel
      rcases Nat.lt_or_ge k n with hlt | hge
      · have hd : decide (k < n) = true := decide_eq_true hlt
        have hkl : k < l.length := by rw [← HN.out]; exact hlt
        obtain ⟨ad, rfl, x0⟩ := C_intN (by rw [← HN.out]; exact Kd.C_below HC.out HB.out) k hkl
        obtain ⟨x, hx⟩ : ∃ x, x = l[k] := ⟨_, rfl⟩
        rw [← hx] at x0
        have HX := Aside0.mk hx
        clear hx
        by_cases he : z = x
        · have d1 : (z == x) = true := beq_iff_eq.2 he
          have HT : Aside0 (res = true) := ⟨by rw [HE.out, decide_eq_true h128, Bool.true_and, List.contains_iff_mem, he, HX.out]; exact List.getElem_mem _⟩
          clear he
          go_wp2_with (go_at_call 181; (with_reducible refine (wof_calls _ r (by omega) ⟨HR.out.below HB.out⟩).mono ?_); rintro e W' ⟨rfl, hb'⟩; rw [← HZ.out]; have HB2 := Aside0.mk (below_step HB.out hb'); clear hb')
          go_ret
          rw [HT.out]
          exact ⟨rfl, HB2.out⟩
        · have d1 : (z == x) = false := beq_eq_false_iff_ne.2 he
          have HK2 : Aside0 (∀ i (h : i < l.length), i < k + 1 → l[i] ≠ z) := ⟨by
            intro i h hi
            rcases Nat.lt_or_ge i k with q | q
            · exact HK.out i h q
            · obtain rfl : i = k := by omega
              rw [← HX.out]
              exact fun e => he e.symm⟩
          clear he
          go_wp2_with (go_at_call 181; (with_reducible refine (wof_calls _ r (by omega) ⟨HR.out.below HB.out⟩).mono ?_); rintro e W' ⟨rfl, hb'⟩; rw [← HZ.out]; have HB2 := Aside0.mk (below_step HB.out hb'); clear hb')
          go_roundg (gk - 1)
          case measure => omega
          case rel => exact ⟨k + 1, by go_num, by omega, by omega, HB2, HK2⟩
      · have hd : decide (k < n) = false := decide_eq_false (by omega)
        have HF : Aside0 (res = false) := ⟨by
          rw [HE.out]
          have : l.contains z = false := by
            rw [Bool.eq_false_iff]
            intro h
            obtain ⟨i, hi, e⟩ := List.getElem_of_mem (List.contains_iff_mem.1 h)
            exact HK.out i hi (by have := HN.out; omega) e
          rw [this, Bool.and_false]⟩
        go_wp2
        go_ret
        rw [HF.out]
        exact ⟨rfl, HB.out⟩
  · have d0 : decide ((r : Int) < 128) = false := decide_eq_false (by omega)
    have HF : Aside0 (res = false) := ⟨by rw [HE.out, decide_eq_false h128, Bool.false_and]⟩
    go_enter Tryz.func185, Tryz.ntmps185
    go_wp2
    go_loopg [9] (n + 1) (fun g b W => ∃ (k : Nat), b = .int .i64 (k : Int) ∧ k ≤ n ∧ n + 1 - k ≤ g ∧ Aside0 (Below w.heap.size w W))
    case atStart => exact ⟨0, rfl, by omega, by omega, HB⟩
    case round =>
      obtain ⟨k, rfl, hk, hkg, HB⟩ := hrel
      rcases Nat.lt_or_ge k n with hlt | hge
      · have hd : decide (k < n) = true := decide_eq_true hlt
        have hkl : k < l.length := by rw [← HN.out]; exact hlt
        obtain ⟨ad, rfl, x0⟩ := C_intN (by rw [← HN.out]; exact Kd.C_below HC.out HB.out) k hkl
        go_wp2
        go_roundg (gk - 1)
        case measure => omega
        case rel => exact ⟨k + 1, by go_num, by omega, by omega, HB⟩
      · have hd : decide (k < n) = false := decide_eq_false (by omega)
        go_wp2
        go_ret
        rw [HF.out]
        exact ⟨rfl, HB.out⟩
end Wd
end Go.Proofs.YtdecijmncpbheaaGreatDoor

namespace Go.Proofs.YtdecijmncpbheaaGreatDoor
open Go.RowKit Go.Proofs.YtdecijmncpbheaaGreatDoorW.PrintWords Go.Proofs.YtdecijmncpbheaaGreatDoorW.PrintLast Go.Proofs.YtdecijmncpbheaaGreatDoorW.PrintMore
set_option linter.unusedVariables false
set_option linter.unusedSimpArgs false
namespace Wd
def p1 (r : Nat) : Bool := r == 95 || (decide (r < 128) && ([2, 3] : List Int).contains (sortOf r))
def p2 (r : Nat) : Bool := decide (r < 128) && ([3] : List Int).contains (sortOf r)
theorem two_C (w : World) (x y : Int) (t : TypeId) : (Kd.int .u8).C (w.alloc (.cells #[.int .u8 x, .int .u8 y] t)) (some ⟨w.heap.size, 0, none⟩) 2 [x, y] := C_lit (Value.int .u8) (fun _ => rfl) w [x, y] t (by simp)
set_option maxRecDepth 100000 in
set_option maxHeartbeats 4000000 in
theorem word1_calls (w : World) (r : Nat) (HR : Aside0 (RangesAt w)) : Calls Tryz.prog 184 #[.int .i32 (r : Int)] w fun e w' => e = .returned (.bool (p1 r)) ∧ Below w.heap.size w w' := by
  have HB := Aside0.mk (Below.refl w.heap.size w)
  by_cases h : r = 95
  · subst h
    go_enter Tryz.func184, Tryz.ntmps184
    go_wp2
    go_ret
    exact ⟨rfl, HB.out⟩
  · have d1 : ((r : Int) == 95) = false := beq_eq_false_iff_ne.2 (by omega)
    have HB2 := Aside0.mk (below_alloc HB.out (.cells #[.int .u8 2, .int .u8 3] 272))
    have HP : Aside0 (p1 r = (decide (r < 128) && ([2, 3] : List Int).contains (sortOf r))) := ⟨by rw [p1, beq_eq_false_iff_ne.2 h, Bool.false_or]⟩
    have HC := Aside0.mk (two_C w 2 3 272)
    clear h
    go_enter Tryz.func184, Tryz.ntmps184
    go_wp2_with (go_at_call 185; (with_reducible refine (within_calls _ r 2 2 _ [2, 3] rfl HC.out ⟨HR.out.below HB2.out⟩).mono ?_); rintro e W' ⟨rfl, hb'⟩; rw [← HP.out]; have HB3 := Aside0.mk (below_step HB2.out hb'); clear hb')
    go_ret
    exact ⟨rfl, HB3.out⟩
set_option maxRecDepth 100000 in
set_option maxHeartbeats 4000000 in
theorem word2_calls (w : World) (r : Nat) (HR : Aside0 (RangesAt w)) : Calls Tryz.prog 186 #[.int .i32 (r : Int)] w fun e w' => e = .returned (.bool (p2 r)) ∧ Below w.heap.size w w' := by
  have HB2 := Aside0.mk (below_alloc (Below.refl w.heap.size w) (.cells #[.int .u8 3] 272))
  have HP : Aside0 (p2 r = (decide (r < 128) && ([3] : List Int).contains (sortOf r))) := ⟨rfl⟩
  have HC := Aside0.mk (C_one_new .u8 w 3 272)
  go_enter Tryz.func186, Tryz.ntmps186
  go_wp2_with (go_at_call 185; (with_reducible refine (within_calls _ r 1 1 _ [3] rfl HC.out ⟨HR.out.below HB2.out⟩).mono ?_); rintro e W' ⟨rfl, hb'⟩; rw [← HP.out]; have HB3 := Aside0.mk (below_step HB2.out hb'); clear hb')
  go_ret
  exact ⟨rfl, HB3.out⟩
theorem p1_byte (c : B) (h : c.toNat < 128) : p1 c.toNat = inName c := by
  have hs := sort_cases c
  rw [p1, decide_eq_true h, Bool.true_and]
  have e : (c.toNat == 95) = (c == 95) := by
    rw [Bool.eq_iff_iff, beq_iff_eq, beq_iff_eq]
    exact ⟨fun e => UInt8.toNat_inj.1 e, fun e => by rw [e]; rfl⟩
  rw [e, inName, Bool.eq_iff_iff]
  simp only [Bool.or_eq_true, beq_iff_eq, List.contains_iff_mem, List.mem_cons, List.not_mem_nil, or_false, hs.1, hs.2.1]
  exact ⟨fun h => h.elim .inr .inl, fun h => h.elim .inr .inl⟩
theorem p2_byte (c : B) (h : c.toNat < 128) : p2 c.toNat = digit c := by
  have hs := sort_cases c
  rw [p2, decide_eq_true h, Bool.true_and, Bool.eq_iff_iff]
  simp only [List.contains_iff_mem, List.mem_cons, List.not_mem_nil, or_false, hs.2.1]
theorem high_letter (c : B) (h : 128 ≤ c.toNat) : letter c = false ∧ digit c = false := by
  simp only [letter, digit, decide_eq_false_iff_not]
  omega
theorem p1_high (r : Nat) (h : 128 ≤ r) : p1 r = false := by
  rw [p1, decide_eq_false (by omega), Bool.false_and, Bool.or_false, beq_eq_false_iff_ne]
  omega
theorem p2_high (r : Nat) (h : 128 ≤ r) : p2 r = false := by rw [p2, decide_eq_false (by omega), Bool.false_and]
theorem inName_high (c : B) (h : 128 ≤ c.toNat) : inName c = false := by
  have := high_letter c h
  rw [inName, this.1, this.2, Bool.false_or, Bool.false_or, beq_eq_false_iff_ne]
  rintro rfl
  exact absurd h (by decide)
set_option maxRecDepth 100000 in
set_option maxHeartbeats 4000000 in
theorem while1_calls (w : World) (s : ByteArray) (HR : Aside0 (RangesAt w)) (hs : s.size < 4611686018427387904) :
    Calls Tryz.prog 183 #[.string s, .func (.func 184) #[] #[]] w fun e w' => e = .returned (.int .i64 ((s.data.toList.takeWhile inName).length : Int)) ∧ Below w.heap.size w w' := by
  obtain ⟨p, hp⟩ : ∃ p, p = p1 := ⟨_, rfl⟩
  obtain ⟨q, hq⟩ : ∃ q, q = inName := ⟨_, rfl⟩
  rw [← hq]
  have HF : Aside0 (∀ W, Below w.heap.size w W → ∀ r : Nat, Calls Tryz.prog 184 #[.int .i32 (r : Int)] W fun e w' => e = .returned (.bool (p r)) ∧ Below W.heap.size W w') := ⟨fun W hb r => by rw [hp]; exact word1_calls W r ⟨HR.out.below hb⟩⟩
  have HQ : Aside0 ((∀ b : B, b.toNat < 128 → p b.toNat = q b) ∧ (∀ b : B, 128 ≤ b.toNat → q b = false) ∧ ∀ r, 128 ≤ r → p r = false) := ⟨by rw [hp, hq]; exact ⟨p1_byte, inName_high, p1_high⟩⟩
  obtain ⟨t, ht⟩ : ∃ t, t = (s.data.toList.takeWhile q).length := ⟨_, rfl⟩
  rw [← ht]
  have HT := Aside0.mk ht
  have HL : Aside0 (s.data.toList.length = s.size) := ⟨Array.length_toList⟩
  clear hq hp ht
  have HI : Aside0 ((w.alloc (.stringIter s 0)).heap[w.heap.size]? = some (.stringIter s 0)) := ⟨blk_new w _⟩
  have HB := Aside0.mk (below_alloc (Below.refl w.heap.size w) (.stringIter s 0))
  go_enter Tryz.func183, Tryz.ntmps183
  go_wp2
  go_loopg [5] (s.size + 1) (fun g b W => ∃ (k : Nat), k ≤ s.size ∧ s.size + 1 - k ≤ g ∧ Aside0 (W.heap[w.heap.size]? = some (.stringIter s k)) ∧ Aside0 (Below w.heap.size w W) ∧ Aside0 (∀ i (h : i < s.data.toList.length), i < k → q s.data.toList[i] = true))
  case atStart => exact ⟨0, by omega, by omega, HI, HB, ⟨fun i h hi => by omega⟩⟩
  case round =>
    clear HI HB
    obtain ⟨k, hk, hkg, HI, HB, HK⟩ := hrel
    have hsz : w.heap.size < wr.heap.size := (Array.getElem?_eq_some_iff.1 HI.out).1
    rcases Nat.lt_or_ge k s.size with hlt | hge
    · have hnx : ∀ ty, (Instr.next (.pointer (some ⟨w.heap.size, 0, none⟩)) true ty).run Tryz.prog wr = _ := fun ty => Lib.run_next_any_at wr w.heap.size s k ty HI.out hlt
      obtain ⟨r, hr⟩ : ∃ r, r = (Utf8.decode s k).1 := ⟨_, rfl⟩
      obtain ⟨d, hd⟩ : ∃ d, d = (Utf8.decode s k).2 := ⟨_, rfl⟩
      rw [← hr, ← hd] at hnx
      have HI2 := Aside0.mk (Lib.iterAt_heap wr w.heap.size s k (k + d) HI.out)
      have HB2 := Aside0.mk (Lib.below_iterAt HB.out (k := w.heap.size) (Nat.le_refl _) s (k + d))
      have hkl : k < s.data.toList.length := by rw [HL.out]; exact hlt
      have hbyte : Aside0 ((s[k]'hlt) = s.data.toList[k]) := ⟨by rw [Array.getElem_toList]; rfl⟩
      have HD : Aside0 (((s[k]'hlt).toNat < 128 ∧ r = (s[k]'hlt).toNat ∧ d = 1) ∨ (128 ≤ (s[k]'hlt).toNat ∧ 128 ≤ r)) := ⟨by
        rcases Nat.lt_or_ge (s[k]'hlt).toNat 128 with h | h
        · have := decode_ascii s k hlt h
          rw [this] at hr hd
          exact .inl ⟨h, hr, hd⟩
        · have := decode_high s k hlt h
          rw [← hr] at this
          exact .inr ⟨h, this.1⟩⟩
      have HP : Aside0 (p r = q s.data.toList[k]) := ⟨by
        rw [← hbyte.out]
        rcases HD.out with ⟨h1, h2, h3⟩ | ⟨h1, h2⟩
        · rw [h2]; exact HQ.out.1 _ h1
        · rw [HQ.out.2.1 _ h1]; exact HQ.out.2.2 r h2⟩
      have HF2 : Aside0 (∀ W, W = wr.iterAt w.heap.size s (k + d) → Calls Tryz.prog 184 #[.int .i32 (r : Int)] W fun e w' => e = .returned (.bool (p r)) ∧ Below W.heap.size W w') := ⟨fun W e => HF.out W (by rw [e]; exact HB2.out) r⟩
      have hs2 : w.heap.size < (wr.iterAt w.heap.size s (k + d)).heap.size := by rw [Lib.iterAt_size]; exact hsz
      have HS2 := Aside0.mk hs2
      clear hs2 hr hd
      cases hz : p r with
      | true =>
        have HD1 : Aside0 (d = 1) := ⟨by
          rcases HD.out with ⟨h1, h2, h3⟩ | ⟨h1, h2⟩
          · exact h3
          · have := HQ.out.2.2 r h2; rw [hz] at this; cases this⟩
        have HK2 : Aside0 (∀ i (h : i < s.data.toList.length), i < k + 1 → q s.data.toList[i] = true) := ⟨by
          intro i h hi
          rcases Nat.lt_or_ge i k with q | q
          · exact HK.out i h q
          · obtain rfl : i = k := by omega
            rw [← HP.out]; exact hz⟩
        have HZ := Aside0.mk hz
        clear hz
        go_wp2_with (go_at_call 184; (with_reducible refine (HF2.out _ rfl).mono ?_); rintro e W' ⟨rfl, hb'⟩; rw [HZ.out]; have HI3 := Aside0.mk ((hb'.block _ HS2.out).trans HI2.out); have HB3 := Aside0.mk (below_step HB2.out hb'); clear hb')
        go_roundg (gk - 1)
        case measure => omega
        case rel => exact ⟨k + 1, by omega, by omega, by rw [← HD1.out]; exact HI3, HB3, HK2⟩
      | false =>
        have HE : Aside0 (t = k) := ⟨by rw [HT.out]; exact tw_len q _ k (by rw [HL.out]; omega) HK.out (fun h => by rw [← HP.out]; exact hz)⟩
        have HZ := Aside0.mk hz
        clear hz
        go_wp2_with (go_at_call 184; (with_reducible refine (HF2.out _ rfl).mono ?_); rintro e W' ⟨rfl, hb'⟩; rw [HZ.out]; have HB3 := Aside0.mk (below_step HB2.out hb'); clear hb')
        go_ret
        rw [HE.out]
        exact ⟨rfl, HB3.out⟩
    · have hnx : ∀ ty, (Instr.next (.pointer (some ⟨w.heap.size, 0, none⟩)) true ty).run Tryz.prog wr = _ := fun ty => Lib.run_next_end_at wr w.heap.size s k ty HI.out (by omega)
      have HE : Aside0 (t = s.size) := ⟨by
        obtain rfl : k = s.size := by omega
        rw [HT.out]
        exact tw_len q _ _ (by rw [HL.out]; omega) HK.out (fun h => absurd h (by rw [HL.out]; omega))⟩
      go_wp2
      go_ret
      rw [HE.out]
      exact ⟨rfl, HB.out⟩
set_option maxRecDepth 100000 in
set_option maxHeartbeats 4000000 in
theorem while2_calls (w : World) (s : ByteArray) (HR : Aside0 (RangesAt w)) (hs : s.size < 4611686018427387904) :
    Calls Tryz.prog 183 #[.string s, .func (.func 186) #[] #[]] w fun e w' => e = .returned (.int .i64 ((s.data.toList.takeWhile digit).length : Int)) ∧ Below w.heap.size w w' := by
  obtain ⟨p, hp⟩ : ∃ p, p = p2 := ⟨_, rfl⟩
  obtain ⟨q, hq⟩ : ∃ q, q = digit := ⟨_, rfl⟩
  rw [← hq]
  have HF : Aside0 (∀ W, Below w.heap.size w W → ∀ r : Nat, Calls Tryz.prog 186 #[.int .i32 (r : Int)] W fun e w' => e = .returned (.bool (p r)) ∧ Below W.heap.size W w') := ⟨fun W hb r => by rw [hp]; exact word2_calls W r ⟨HR.out.below hb⟩⟩
  have HQ : Aside0 ((∀ b : B, b.toNat < 128 → p b.toNat = q b) ∧ (∀ b : B, 128 ≤ b.toNat → q b = false) ∧ ∀ r, 128 ≤ r → p r = false) := ⟨by rw [hp, hq]; exact ⟨p2_byte, fun c h => (high_letter c h).2, p2_high⟩⟩
  obtain ⟨t, ht⟩ : ∃ t, t = (s.data.toList.takeWhile q).length := ⟨_, rfl⟩
  rw [← ht]
  have HT := Aside0.mk ht
  have HL : Aside0 (s.data.toList.length = s.size) := ⟨Array.length_toList⟩
  clear hq hp ht
  have HI : Aside0 ((w.alloc (.stringIter s 0)).heap[w.heap.size]? = some (.stringIter s 0)) := ⟨blk_new w _⟩
  have HB := Aside0.mk (below_alloc (Below.refl w.heap.size w) (.stringIter s 0))
  go_enter Tryz.func183, Tryz.ntmps183
  go_wp2
  go_loopg [5] (s.size + 1) (fun g b W => ∃ (k : Nat), k ≤ s.size ∧ s.size + 1 - k ≤ g ∧ Aside0 (W.heap[w.heap.size]? = some (.stringIter s k)) ∧ Aside0 (Below w.heap.size w W) ∧ Aside0 (∀ i (h : i < s.data.toList.length), i < k → q s.data.toList[i] = true))
  case atStart => exact ⟨0, by omega, by omega, HI, HB, ⟨fun i h hi => by omega⟩⟩
  case round =>
    clear HI HB
    obtain ⟨k, hk, hkg, HI, HB, HK⟩ := hrel
    have hsz : w.heap.size < wr.heap.size := (Array.getElem?_eq_some_iff.1 HI.out).1
    rcases Nat.lt_or_ge k s.size with hlt | hge
    · have hnx : ∀ ty, (Instr.next (.pointer (some ⟨w.heap.size, 0, none⟩)) true ty).run Tryz.prog wr = _ := fun ty => Lib.run_next_any_at wr w.heap.size s k ty HI.out hlt
      obtain ⟨r, hr⟩ : ∃ r, r = (Utf8.decode s k).1 := ⟨_, rfl⟩
      obtain ⟨d, hd⟩ : ∃ d, d = (Utf8.decode s k).2 := ⟨_, rfl⟩
      rw [← hr, ← hd] at hnx
      have HI2 := Aside0.mk (Lib.iterAt_heap wr w.heap.size s k (k + d) HI.out)
      have HB2 := Aside0.mk (Lib.below_iterAt HB.out (k := w.heap.size) (Nat.le_refl _) s (k + d))
      have hkl : k < s.data.toList.length := by rw [HL.out]; exact hlt
      have hbyte : Aside0 ((s[k]'hlt) = s.data.toList[k]) := ⟨by rw [Array.getElem_toList]; rfl⟩
      have HD : Aside0 (((s[k]'hlt).toNat < 128 ∧ r = (s[k]'hlt).toNat ∧ d = 1) ∨ (128 ≤ (s[k]'hlt).toNat ∧ 128 ≤ r)) := ⟨by
        rcases Nat.lt_or_ge (s[k]'hlt).toNat 128 with h | h
        · have := decode_ascii s k hlt h
          rw [this] at hr hd
          exact .inl ⟨h, hr, hd⟩
        · have := decode_high s k hlt h
          rw [← hr] at this
          exact .inr ⟨h, this.1⟩⟩
      have HP : Aside0 (p r = q s.data.toList[k]) := ⟨by
        rw [← hbyte.out]
        rcases HD.out with ⟨h1, h2, h3⟩ | ⟨h1, h2⟩
        · rw [h2]; exact HQ.out.1 _ h1
        · rw [HQ.out.2.1 _ h1]; exact HQ.out.2.2 r h2⟩
      have HF2 : Aside0 (∀ W, W = wr.iterAt w.heap.size s (k + d) → Calls Tryz.prog 186 #[.int .i32 (r : Int)] W fun e w' => e = .returned (.bool (p r)) ∧ Below W.heap.size W w') := ⟨fun W e => HF.out W (by rw [e]; exact HB2.out) r⟩
      have hs2 : w.heap.size < (wr.iterAt w.heap.size s (k + d)).heap.size := by rw [Lib.iterAt_size]; exact hsz
      have HS2 := Aside0.mk hs2
      clear hs2 hr hd
      cases hz : p r with
      | true =>
        have HD1 : Aside0 (d = 1) := ⟨by
          rcases HD.out with ⟨h1, h2, h3⟩ | ⟨h1, h2⟩
          · exact h3
          · have := HQ.out.2.2 r h2; rw [hz] at this; cases this⟩
        have HK2 : Aside0 (∀ i (h : i < s.data.toList.length), i < k + 1 → q s.data.toList[i] = true) := ⟨by
          intro i h hi
          rcases Nat.lt_or_ge i k with q | q
          · exact HK.out i h q
          · obtain rfl : i = k := by omega
            rw [← HP.out]; exact hz⟩
        have HZ := Aside0.mk hz
        clear hz
        go_wp2_with (go_at_call 186; (with_reducible refine (HF2.out _ rfl).mono ?_); rintro e W' ⟨rfl, hb'⟩; rw [HZ.out]; have HI3 := Aside0.mk ((hb'.block _ HS2.out).trans HI2.out); have HB3 := Aside0.mk (below_step HB2.out hb'); clear hb')
        go_roundg (gk - 1)
        case measure => omega
        case rel => exact ⟨k + 1, by omega, by omega, by rw [← HD1.out]; exact HI3, HB3, HK2⟩
      | false =>
        have HE : Aside0 (t = k) := ⟨by rw [HT.out]; exact tw_len q _ k (by rw [HL.out]; omega) HK.out (fun h => by rw [← HP.out]; exact hz)⟩
        have HZ := Aside0.mk hz
        clear hz
        go_wp2_with (go_at_call 186; (with_reducible refine (HF2.out _ rfl).mono ?_); rintro e W' ⟨rfl, hb'⟩; rw [HZ.out]; have HB3 := Aside0.mk (below_step HB2.out hb'); clear hb')
        go_ret
        rw [HE.out]
        exact ⟨rfl, HB3.out⟩
    · have hnx : ∀ ty, (Instr.next (.pointer (some ⟨w.heap.size, 0, none⟩)) true ty).run Tryz.prog wr = _ := fun ty => Lib.run_next_end_at wr w.heap.size s k ty HI.out (by omega)
      have HE : Aside0 (t = s.size) := ⟨by
        obtain rfl : k = s.size := by omega
        rw [HT.out]
        exact tw_len q _ _ (by rw [HL.out]; omega) HK.out (fun h => absurd h (by rw [HL.out]; omega))⟩
      go_wp2
      go_ret
      rw [HE.out]
      exact ⟨rfl, HB.out⟩
end Wd
end Go.Proofs.YtdecijmncpbheaaGreatDoor

namespace Go.Proofs.YtdecijmncpbheaaGreatDoor
open Go.RowKit Go.Proofs.YtdecijmncpbheaaGreatDoorW.PrintWords Go.Proofs.YtdecijmncpbheaaGreatDoorW.PrintLast Go.Proofs.YtdecijmncpbheaaGreatDoorW.PrintMore
set_option linter.unusedVariables false
set_option linter.unusedSimpArgs false
open Go.Shelf Go.Sort
namespace Wd
open Go.RowKit
theorem holds_zero0 (w : World) (T : TypeId) (nd : Nat) (hs : nd ≤ 24) : Holds (fun (b : UInt8) => Value.int .u8 (b.toNat : Int)) (w.alloc (.cells Lib.zeros24 T)) w.heap.size 0 (Array.replicate nd (0 : UInt8)) := fun j hj => by
  have hj' : j < nd := by simpa using hj
  refine ⟨?_, World.frozen?_alloc_new _ _ _ _⟩
  rw [World.cell?_alloc_new, Nat.zero_add, Lib.zeros24_at _ (by omega), getElem!_pos _ j hj]
  simp
theorem fin0 (w : World) (o : Obj) (dk : Array UInt8) (k : Nat) : ∃ os, (putRow (fun (b : UInt8) => Value.int .u8 (b.toNat : Int)) (w.alloc o) w.heap.size 0 dk).drewN k = grow (w.drewN k) os := by
  rw [alloc_eq_grow]
  obtain ⟨os', _, e⟩ := putRow_grow_new (fun (b : UInt8) => Value.int .u8 (b.toNat : Int)) w #[o] w.heap.size 0 dk (Nat.le_refl _)
  exact ⟨os', by rw [e]; rfl⟩
/-- The tables and the variable that numbers read, as the row lays them. -/
structure NumsAt (w : World) : Prop where
  tab : Lib.TabIs Tryz.prog w "internal/strconv.uint64pow10" .u64 Lib.pow10Tab
  err : ∃ tp p, w.cell? ⟨4, 0, none⟩ = some (.iface tp p)
theorem tabIs_below {P : Program} {w W : World} {name : String} {k : IntKind} {zs : List Int} (h : Lib.TabIs P w name k zs) (hb : Below w.heap.size w W) : Lib.TabIs P W name k zs := by
  unfold Lib.TabIs World.var? at *
  cases hg : P.globalNamed name with
  | none => simp [hg] at h
  | some g =>
    simp only [hg, Option.bind_some] at h ⊢
    have hlt : g < w.heap.size := by
      rcases Nat.lt_or_ge g w.heap.size with h' | h'
      · exact h'
      · rw [Array.getElem?_eq_none h'] at h; simp at h
    rw [hb.block g hlt]
    exact h
theorem NumsAt.below {w W : World} (h : NumsAt w) (hb : Below w.heap.size w W) : NumsAt W := by
  refine ⟨tabIs_below h.tab hb, ?_⟩
  obtain ⟨tp, p, hc⟩ := h.err
  exact ⟨tp, p, pw_cell_below hb hc⟩
set_option maxRecDepth 100000 in
set_option maxHeartbeats 6400000 in
theorem formatIn_calls (w : World) (u : Nat) (hu64 : u < 18446744073709551616) (HN : Aside0 (NumsAt w)) :
    Calls Tryz.prog 215 #[.int .u64 (u : Int), .int .i64 10] w fun e w' => e = .returned (.string ⟨(Lib.decDigits u).toArray⟩) ∧ Below w.heap.size w w' := by
  by_cases hs : u < 100
  · have d1 : decide ((u : Int) < 100) = true := decide_eq_true (by omega)
    have hwr : IntKind.i64.wrap (u : Int) = (u : Int) := by rw [IntKind.wrap_i64]; omega
    go_enter Tryz.func215, Tryz.ntmps215
    go_wp2_with (go_at_call 249; refine (Any.internal_strconv_small Tryz.lays283 u hs _).mono ?_; rintro e w' ⟨rfl, rfl⟩)
    go_ret
    exact ⟨rfl, Below.refl _ _⟩
  · have d1 : decide ((u : Int) < 100) = false := decide_eq_false (by omega)
    have hu1 : 1 ≤ u := by omega
    have hnd20 : Lib.nDigits u ≤ 20 := by have := Lib.numDigits_eq u hu1 hu64; split at this <;> omega
    have hal : Tryz.prog.arrayLen 333 = 24 := by kernel_rfl
    have hsl1 : ∀ W, (Instr.sliceAt 333 (.pointer (some ⟨w.heap.size, 0, none⟩)) none (some (.int .i64 (Lib.nDigits u : Int))) none).run Tryz.prog W = .ok (.slice (some ⟨w.heap.size, 0, none⟩) (Lib.nDigits u) 24) W := fun W => by
      rw [run_sliceAt_array_h W 333 ⟨w.heap.size, 0, none⟩ (by kernel_rfl) .i64 (Lib.nDigits u : Int) (by omega) (by rw [hal]; omega)]
      go_simp
    have hH0 := holds_zero0 w 333 (Lib.nDigits u) (by omega)
    have hfmt := Any.internal_strconv_formatBase10 Tryz.lays285 w.heap.size 0 24 u (Array.replicate (Lib.nDigits u) 0) (w.alloc (.cells Lib.zeros24 333)) hH0 (by rw [Array.size_replicate]; exact Lib.lt_pow_nDigits u) hu64 (by rw [Array.size_replicate]; omega)
    rw [Array.size_replicate] at hfmt
    have HH0 := Lib.hid hH0
    have HT := Aside0.mk (Lib.tabIs_alloc HN.out.tab (.cells Lib.zeros24 333))
    clear hH0 hal
    go_enter Tryz.func215, Tryz.ntmps215
    go_wp2_with (go_at_call 250; refine (Any.internal_strconv_numDigits Tryz.laysM284 u hu1 hu64 _ HT.out).mono ?_; rintro e w' ⟨rfl, rfl⟩)
    refine hfmt.mono ?_
    rintro e w' ⟨rfl, k, v', dk, rfl, hF⟩
    have hcv : (convert 168 9 (.slice (some ⟨w.heap.size, 0, none⟩) (Lib.nDigits u) 24)).run Tryz.prog ((putRow (fun (b : UInt8) => Value.int .u8 (b.toNat : Int)) (w.alloc (.cells Lib.zeros24 333)) w.heap.size 0 dk).drewN k) = .ok (.string ⟨(Lib.decDigits u).toArray⟩) ((putRow (fun (b : UInt8) => Value.int .u8 (b.toNat : Int)) (w.alloc (.cells Lib.zeros24 333)) w.heap.size 0 dk).drewN k) := by
      have h := run_convert_bytes_back (P := Tryz.prog) ((putRow (fun (b : UInt8) => Value.int .u8 (b.toNat : Int)) (w.alloc (.cells Lib.zeros24 333)) w.heap.size 0 dk).drewN k) 168 9 5 ⟨w.heap.size, 0, none⟩ 24 (Lib.decDigits u) Tryz.underlying168 Tryz.underlying5 Tryz.underlying9 (fun j hj => by
        rw [Lib.row_is_numeral hF j hj, Lib.add_plain, World.cell?_drewN]
        exact cell?_putRow (fun (b : UInt8) => Value.int .u8 (b.toNat : Int)) _ w.heap.size 0 _ dk HH0.out (by rw [hF.size, Array.size_replicate]) j (by rw [hF.size]; rw [Lib.decDigits_length] at hj; exact hj))
      rw [Lib.decDigits_length] at h
      exact h
    obtain ⟨os, eo⟩ := fin0 w (.cells Lib.zeros24 333) dk k
    have hb := Lib.below_grow w.heap.size w (Nat.le_refl _) k os
    rw [← eo] at hb
    have HB := Aside0.mk hb
    clear eo hb
    go_wp2
    go_ret
    exact ⟨rfl, HB.out⟩
set_option maxRecDepth 100000 in
set_option maxHeartbeats 1000000 in
theorem format_calls (w : World) (u : Nat) (hu64 : u < 18446744073709551616) (HN : Aside0 (NumsAt w)) :
    Calls Tryz.prog 188 #[.int .u64 (u : Int), .int .i64 10] w fun e w' => e = .returned (.string ⟨(Lib.decDigits u).toArray⟩) ∧ Below w.heap.size w w' := by
  have HC := Aside0.mk (formatIn_calls w u hu64 HN)
  have HB := Aside0.mk (Below.refl w.heap.size w)
  go_enter Tryz.func188, Tryz.ntmps188
  go_wp2_with (go_at_call 215; (with_reducible refine (HC.out).mono ?_); rintro e W' ⟨rfl, hb'⟩; have HB' := Aside0.mk (below_step HB.out hb'); clear HB hb'; have HB := HB'; clear HB')
  go_ret
  exact ⟨rfl, HB.out⟩
theorem parse_ok (w : World) (s : ByteArray) (hs : s.size ≤ 281474976710656) (u : Nat) (h : Lib.parseUintB 64 s.data.toList = .ok u) :
    Calls Tryz.prog 187 #[.string s, .int .i64 10, .int .i64 64] w fun e w' => e = .returned (.tuple #[.int .u64 (u : Int), .nilIface]) ∧ Below w.heap.size w w' := by
  refine (Any.strconv_ParseUint_10_at64_ok Tryz.laysPu14 s (by omega) u h w).mono ?_
  rintro e w' ⟨rfl, rfl | rfl⟩
  · exact ⟨rfl, Below.refl _ _⟩
  · exact ⟨rfl, Lib.bytesWorld_below _ _ _⟩
theorem parse_range (w : World) (s : ByteArray) (hs : s.size ≤ 281474976710656) (h : Lib.parseUintB 64 s.data.toList = .range) (HN : Aside0 (NumsAt w)) :
    Calls Tryz.prog 187 #[.string s, .int .i64 10, .int .i64 64] w fun e w' => ∃ t N, e = .returned (.tuple #[.int .u64 18446744073709551615, .iface t (.pointer (some ⟨N, 0, none⟩))]) ∧ Below w.heap.size w w' := by
  obtain ⟨tp, p, hc⟩ := HN.out.err
  refine (Any.strconv_ParseUint_10_at64_range Tryz.laysPu14 s hs h _ w hc (.inr ⟨tp, p, rfl⟩)).mono ?_
  rintro e w' ⟨N, rfl, -, -, hb⟩
  exact ⟨_, N, rfl, hb⟩
end Wd
end Go.Proofs.YtdecijmncpbheaaGreatDoor
