/- Numbers' digits, in plain Lean. -/
import Derived.Lib.ParseIntB
import Derived.Lib.ItoaNum
import Derived.Test.YtbdecnagdnancaaGreatDoorWdT

namespace Go.Proofs.YtbdecnagdnancaaGreatDoor
set_option linter.unusedVariables false
set_option linter.unusedSimpArgs false
namespace Wd
open Go
theorem dig_val {c : B} (h : digit c = true) : 48 ≤ c.toNat ∧ c.toNat ≤ 57 := by simpa [digit] using h
theorem val_lt (l : List B) (h : ∀ x ∈ l, digit x = true) : valOf l < 10 ^ l.length := by
  induction l with
  | nil => decide
  | cons c r ih =>
    have ih := ih (fun x hx => h x (by simp [hx]))
    have hc := dig_val (h c (by simp))
    rw [val_cons, List.length_cons, Nat.pow_succ]
    have : (c.toNat - 48) * 10 ^ r.length ≤ 9 * 10 ^ r.length := Nat.mul_le_mul_right _ (by omega)
    omega
theorem parseM (l : List B) (acc : Nat) (h : ∀ x ∈ l, digit x = true) (ha : acc < 18446744073709551616) : Lib.parseUintM (2 ^ 64 - 1) acc l = if 18446744073709551616 ≤ acc * 10 ^ l.length + valOf l then .range else .ok (acc * 10 ^ l.length + valOf l) := by
  induction l generalizing acc with
  | nil =>
    rw [Lib.parseUintM]
    simp [valOf]
    omega
  | cons c r ih =>
    have hc := dig_val (h c (by simp))
    have hr := fun x hx => h x (List.mem_cons_of_mem c hx)
    have hp : 0 < 10 ^ r.length := Nat.pow_pos (by decide)
    have e : acc * 10 ^ (c :: r).length + valOf (c :: r) = (acc * 10 + (c.toNat - 48)) * 10 ^ r.length + valOf r := by
      rw [val_cons, List.length_cons, Nat.pow_succ, Nat.add_mul, Nat.mul_assoc, Nat.mul_comm 10, Nat.add_assoc]
    rw [e, Lib.parseUintM, if_pos hc]
    by_cases h1 : 1844674407370955162 ≤ acc
    · rw [if_pos h1, if_pos]
      have : (acc * 10 + (c.toNat - 48)) * 1 ≤ (acc * 10 + (c.toNat - 48)) * 10 ^ r.length := Nat.mul_le_mul_left _ hp
      omega
    rw [if_neg h1]
    by_cases h2 : 2 ^ 64 - 1 < acc * 10 + (c.toNat - 48)
    · rw [if_pos h2, if_pos]
      have : (acc * 10 + (c.toNat - 48)) * 1 ≤ (acc * 10 + (c.toNat - 48)) * 10 ^ r.length := Nat.mul_le_mul_left _ hp
      omega
    rw [if_neg h2]
    exact ih _ hr (by omega)
theorem parse_digits (l : List B) (h0 : l ≠ []) (h : ∀ x ∈ l, digit x = true) : Lib.parseUintB 64 l = if 18446744073709551616 ≤ valOf l then .range else .ok (valOf l) := by
  rw [Lib.parseUintB, if_neg h0, parseM l 0 h (by omega), Nat.zero_mul, Nat.zero_add]
theorem val_snoc (l : List B) (c : B) : valOf (l ++ [c]) = 10 * valOf l + (c.toNat - 48) := by
  unfold valOf
  rw [List.foldl_append]
  rfl
theorem val_pos (c : B) (r : List B) (hc : digit c = true) (h : c ≠ 48) : 0 < valOf (c :: r) := by
  rw [val_cons]
  have hv := dig_val hc
  have : c.toNat ≠ 48 := fun e => h (UInt8.toNat_inj.1 (show c.toNat = (48 : UInt8).toNat from e))
  have hp : 0 < 10 ^ r.length := Nat.pow_pos (by decide)
  have : 1 * 10 ^ r.length ≤ (c.toNat - 48) * 10 ^ r.length := Nat.mul_le_mul_right _ (by omega)
  omega
theorem dig_of {c : B} (h : digit c = true) : UInt8.ofNat (48 + (c.toNat - 48)) = c := by
  have hv := dig_val h
  rw [show 48 + (c.toNat - 48) = c.toNat by omega]
  exact UInt8.ofNat_toNat
/-- Digits without a needless nought are their number's decimal digits. -/
theorem dec_of (n : Nat) (l : List B) (hl : l.length = n + 1) (h : ∀ x ∈ l, digit x = true) (hz : l.length ≤ 1 ∨ l.head? ≠ some 48) : Lib.decDigits (valOf l) = l := by
  induction n generalizing l with
  | zero =>
    match l, hl with
    | [c], _ =>
      have hc := h c (by simp)
      have hv := dig_val hc
      rw [Lib.decDigits, dif_pos (by simp [valOf]; omega)]
      have : valOf [c] = c.toNat - 48 := by simp [valOf]
      rw [this, dig_of hc]
  | succ n ih =>
    obtain ⟨r, c, rfl⟩ : ∃ r c, l = r ++ [c] := ⟨l.dropLast, l.getLast (by intro h; subst h; cases hl), (List.dropLast_concat_getLast _).symm⟩
    have hr : r.length = n + 1 := by simpa using hl
    have hz2 : r.head? ≠ some 48 := by
      rcases hz with hz | hz
      · rw [hl] at hz; omega
      · cases r with
        | nil => cases hr
        | cons d r => simpa using hz
    have hdr : ∀ x ∈ r, digit x = true := fun x hx => h x (by simp [hx])
    have hc := h c (by simp)
    have hv := dig_val hc
    have hpos : 0 < valOf r := by
      cases r with
      | nil => cases hr
      | cons d r => exact val_pos d r (hdr d (by simp)) (fun e => hz2 (by rw [e]; rfl))
    rw [val_snoc, Lib.decDigits, dif_neg (by omega), show (10 * valOf r + (c.toNat - 48)) / 10 = valOf r by omega, show (10 * valOf r + (c.toNat - 48)) % 10 = c.toNat - 48 by omega, dig_of hc, ih r hr hdr (.inr hz2)]
theorem dec_head (u : Nat) (hu : 0 < u) : (Lib.decDigits u).head? ≠ some 48 := by
  induction u using Nat.strongRecOn with
  | ind u ih =>
    rw [Lib.decDigits]
    split
    · rename_i h
      intro e
      have : UInt8.ofNat (48 + u) = 48 := by simpa using e
      have := congrArg UInt8.toNat this
      rw [UInt8.toNat_ofNat'] at this
      have e2 : (48 : UInt8).toNat = 48 := rfl
      rw [e2, Nat.mod_eq_of_lt (by omega)] at this
      omega
    · rename_i h
      have hne : Lib.decDigits (u / 10) ≠ [] := by rw [Lib.decDigits]; split <;> simp
      have := ih (u / 10) (by omega) (by omega)
      cases hd : Lib.decDigits (u / 10) with
      | nil => exact absurd hd hne
      | cons x xs => rw [hd] at this; simpa using this
/-- What is formatted of the parsed number is the text just if it has no needless nought. -/
theorem dec_iff (l : List B) (h0 : l ≠ []) (h : ∀ x ∈ l, digit x = true) : Lib.decDigits (valOf l) = l ↔ (l.length ≤ 1 ∨ l.head? ≠ some 48) := by
  constructor
  · intro e
    by_cases hz : l.head? = some 48
    · left
      cases l with
      | nil => exact absurd rfl h0
      | cons c r =>
        obtain rfl : c = 48 := by simpa using hz
        rcases Nat.eq_zero_or_pos (valOf (48 :: r)) with hv | hv
        · rw [hv] at e
          have := congrArg List.length e
          rw [Lib.decDigits] at this
          simp at this
          subst this
          exact Nat.le_refl _
        · have := dec_head _ hv
          rw [e] at this
          exact absurd rfl this
    · exact .inr hz
  · intro hz
    obtain ⟨n, hn⟩ : ∃ n, l.length = n + 1 := ⟨l.length - 1, by have := List.length_pos_iff.2 h0; omega⟩
    exact dec_of n l hn h hz
theorem numOk_iff (l : List B) (h0 : l ≠ []) (h : ∀ x ∈ l, digit x = true) : numOk l = (decide (valOf l < 18446744073709551616) && decide (Lib.decDigits (valOf l) = l)) := by
  rw [Bool.eq_iff_iff]
  simp only [numOk, Bool.and_eq_true, Bool.or_eq_true, decide_eq_true_eq, bne_iff_ne, ne_eq]
  rw [dec_iff l h0 h]
  exact And.comm
end Wd
end Go.Proofs.YtbdecnagdnancaaGreatDoor
