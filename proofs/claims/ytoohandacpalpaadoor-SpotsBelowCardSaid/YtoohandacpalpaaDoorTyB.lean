import Derived.Test.YtoohandacpalpaaDoorTyA
namespace Go.Proofs.YtoohandacpalpaaDoor
open Go.RowKit Go.Proofs.YtoohandacpalpaaDoorW.PrintWords Go.Proofs.YtoohandacpalpaaDoorW.PrintLast Go.Proofs.YtoohandacpalpaaDoorW.PrintMore
set_option linter.unusedVariables false
set_option linter.unusedSimpArgs false

/-! ### full -/
/-- The place of the first one of which p holds; -1: there is none. -/
def fidx {α : Type} (p : α → Bool) (xs : List α) : Int := match xs.findIdx? p with | some i => (i : Int) | none => -1
theorem fidx_ge {α : Type} (p : α → Bool) (xs : List α) : decide (0 ≤ fidx p xs) = xs.any p := by
  unfold fidx
  cases h : xs.findIdx? p with
  | none =>
    rw [List.findIdx?_eq_none_iff] at h
    have : xs.any p = false := by rw [List.any_eq_false]; intro x hx; simp [h x hx]
    rw [this]; rfl
  | some i =>
    rw [List.findIdx?_eq_some_iff_getElem] at h
    obtain ⟨hl, hp, _⟩ := h
    have : xs.any p = true := List.any_eq_true.2 ⟨_, List.getElem_mem hl, hp⟩
    rw [this]; simp
theorem fidx_hit {α : Type} (p : α → Bool) (xs : List α) (k : Nat) (hk : k < xs.length) (h0 : ∀ x ∈ xs.take k, p x = false) (h1 : p xs[k] = true) : fidx p xs = k := by
  have : xs.findIdx? p = some k := by
    rw [List.findIdx?_eq_some_iff_getElem]
    refine ⟨hk, h1, fun j hj => ?_⟩
    have := h0 xs[j] (List.mem_take_iff_getElem.2 ⟨j, by omega, rfl⟩)
    simp [this]
  unfold fidx; rw [this]
theorem fidx_none {α : Type} (p : α → Bool) (xs : List α) (h0 : ∀ x ∈ xs, p x = false) : fidx p xs = -1 := by
  have : xs.findIdx? p = none := by rw [List.findIdx?_eq_none_iff]; exact h0
  unfold fidx; rw [this]

set_option maxRecDepth 100000 in
set_option maxHeartbeats 1000000 in
theorem indexPos_calls (w : World) (A : Option Addr) (c : Nat) (xs : List Int) (hr : Kd.C (Kd.int .i64) w A xs.length xs) (hl : xs.length * 8 ≤ 140737488355328) :
    Calls Tryd.prog 59 #[.slice A xs.length c, .func (.func 51) #[] #[]] w fun e w' => e = .returned (.int .i64 (fidx (fun x => decide (x > 0)) xs)) ∧ w' = w := by
  have HR := Aside0.mk hr
  clear hr
  go_enter Tryd.func59, Tryd.ntmps59
  go_wp2
  go_loop [8] (fun i => ∃ k : Nat, i = .int .i64 k ∧ Aside0 (k ≤ xs.length ∧ ∀ x ∈ xs.take k, decide (x > 0) = false)) (fun i => xs.length - (intOf i).toNat)
  case atStart => exact ⟨0, rfl, ⟨Nat.zero_le _, by simp⟩⟩
  case round =>
    obtain ⟨k, rfl, HK⟩ := hrel
    have hk := HK.out.1
    by_cases hlt : k < xs.length
    · obtain ⟨ad, rfl, hc⟩ := C_intN HR.out k hlt
      obtain ⟨x, hx⟩ : ∃ x, x = xs[k] := ⟨_, rfl⟩
      rw [← hx] at hc
      have HX := Aside0.mk hx
      clear hx
      by_cases h0 : 0 < x
      · go_wp2
        go_ret
        refine ⟨?_, rfl⟩
        rw [fidx_hit _ xs k hlt HK.out.2 (by rw [← HX.out]; exact decide_eq_true h0)]
        rfl
      · go_wp2
        go_round
        case rel => exact ⟨k + 1, by go_num, ⟨by omega, take_all_snoc hlt HK.out.2 (by rw [← HX.out]; exact decide_eq_false h0)⟩⟩
        case measure => simp [intOf]; omega
    · go_wp2
      go_ret
      refine ⟨?_, rfl⟩
      rw [fidx_none _ xs (by have h := HK.out.2; rw [List.take_of_length_le (by omega)] at h; exact h)]
      rfl

theorem full_calls (w : World) (A : Option Addr) (c : Nat) (xs : List Int) (hr : Kd.C (Kd.int .i64) w A xs.length xs) (hl : xs.length * 8 ≤ 140737488355328) :
    Calls Tryd.prog 37 #[.slice A xs.length c] w fun e w' => e = .returned (.bool (!xs.any (fun x => decide (x > 0)))) ∧ w' = w := by
  go_enter Tryd.func37, Tryd.ntmps37
  go_wp2_with (first | (go_at_call 50; go_in) | (go_at_call 59; refine (indexPos_calls w A c xs hr hl).mono ?_; rintro e w' ⟨rfl, rfl⟩))
  go_ret
  have e := fidx_ge (fun x : Int => decide (x > 0)) xs
  refine ⟨?_, rfl⟩
  rw [← e]
  rfl
end Go.Proofs.YtoohandacpalpaaDoor
