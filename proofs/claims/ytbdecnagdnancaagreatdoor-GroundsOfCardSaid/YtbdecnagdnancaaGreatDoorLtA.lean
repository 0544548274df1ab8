/- Orders as rows of bits, plain: what orders.one, orders.turned and orders.Check ask, as said by the bits. -/
import Derived.Test.YtbdecnagdnancaaGreatDoorMC

namespace Go.Proofs.YtbdecnagdnancaaGreatDoor
open Go.RowKit Go.Proofs.YtbdecnagdnancaaGreatDoorW.PrintWords Go.Proofs.YtbdecnagdnancaaGreatDoorW.PrintLast Go.Proofs.YtbdecnagdnancaaGreatDoorW.PrintMore
set_option linter.unusedVariables false
set_option linter.unusedSimpArgs false
theorem clear_low (l : Nat) (h0 : l ≠ 0) (hl : l < 2 ^ 64) (j : Nat) : (l &&& (l - 1)).testBit j = (l.testBit j && decide (j ≠ Lib.ctz 64 l)) ∧ l.testBit (Lib.ctz 64 l) = true := by
  obtain ⟨m, hm, hk⟩ := Lib.ctzFrom_spec 64 l (by omega) hl
  have he : Lib.ctz 64 l = Lib.ctzFrom 64 l := by simp [Lib.ctz, h0]
  rw [he]
  generalize Lib.ctzFrom 64 l = k at *
  have hp : 0 < 2 ^ k := Nat.two_pow_pos k
  have h1 : l - 1 = 2 ^ k * (2 * m) + (2 ^ k - 1) := by rw [hm, Nat.mul_add]; omega
  have h2 : l = 2 ^ k * (2 * m + 1) + 0 := by rw [hm]; rfl
  have hx : ∀ j, l.testBit j = if j < k then false else (2 * m + 1).testBit (j - k) := fun j => by
    rw [h2, Nat.testBit_two_pow_mul_add _ hp]
    split <;> simp
  have hy : ∀ j, (l - 1).testBit j = if j < k then true else (2 * m).testBit (j - k) := fun j => by
    rw [h1, Nat.testBit_two_pow_mul_add _ (by omega)]
    split
    · rename_i h; simp [h]
    · rfl
  have hb : ∀ i, (2 * m + 1).testBit i = if i = 0 then true else m.testBit (i - 1) := fun i => by
    cases i with
    | zero => simp [Nat.testBit_zero]
    | succ i => rw [Nat.testBit_succ]; simp; congr 1; omega
  have hc : ∀ i, (2 * m).testBit i = if i = 0 then false else m.testBit (i - 1) := fun i => by
    cases i with
    | zero => simp [Nat.testBit_zero]
    | succ i => rw [Nat.testBit_succ]; simp
  constructor
  · rw [Nat.testBit_and, hx, hy, hb, hc]
    by_cases h : j < k
    · simp [h]
    · rw [if_neg h, if_neg h]
      by_cases h' : j = k
      · subst h'; simp
      · have h3 : j - k ≠ 0 := by omega
        simp [h3, h']
  · rw [hx, if_neg (Nat.lt_irrefl k), hb]; simp
theorem oneL_iff (s : Nat) (rows : List Int) : ∀ (f l : Nat), l ≤ f → l < 2 ^ 64 → (oneL s rows f l = true ↔ ∃ k, l.testBit k = true ∧ (bits .and .u64 (rd rows (k : Int)) (s : Int) == (s : Int)) = true)
  | 0, l, h, _ => by
    obtain rfl : l = 0 := by omega
    simp [oneL]
  | f + 1, l, h, hl => by
    rw [oneL]
    by_cases h0 : l = 0
    · subst h0; simp
    · rw [if_neg h0]
      have hc := clear_low l h0 hl
      have hlt := and_pred_lt l h0
      by_cases ht : (bits .and .u64 (rd rows ((Lib.ctz 64 l : Nat) : Int)) (s : Int) == (s : Int)) = true
      · rw [if_pos ht]
        exact ⟨fun _ => ⟨_, (hc 0).2, ht⟩, fun _ => rfl⟩
      · rw [if_neg ht, oneL_iff s rows f _ (by omega) (by omega)]
        constructor
        · rintro ⟨k, hk, hp⟩
          rw [(hc k).1] at hk
          simp only [Bool.and_eq_true] at hk
          exact ⟨k, hk.1, hp⟩
        · rintro ⟨k, hk, hp⟩
          refine ⟨k, ?_, hp⟩
          rw [(hc k).1, hk]
          simp only [Bool.true_and, decide_eq_true_eq]
          rintro rfl
          exact ht hp
/-- Some of s whose row has all of s. -/
theorem oneB_iff (rows : List Int) (hr : U64s rows) (s : Nat) (hs : s < 2 ^ 64) (hsn : ∀ k, s.testBit k = true → k < rows.length) : oneB s rows = true ↔ ∃ k, s.testBit k = true ∧ ∀ j, s.testBit j = true → (rd rows (k : Int)).toNat.testBit j = true := by
  rw [oneB, oneL_iff s rows s s (Nat.le_refl _) hs]
  constructor
  · rintro ⟨k, hk, hp⟩
    refine ⟨k, hk, fun j hj => ?_⟩
    obtain ⟨h0, h1⟩ := hr _ (rd_mem k (hsn k hk))
    obtain ⟨a, ha⟩ := Int.eq_ofNat_of_zero_le h0
    rw [ha] at hp h1 ⊢
    rw [bits_and_u64_nat a s (by omega) (by omega)] at hp
    have : a &&& s = s := by have := eq_of_beq hp; exact_mod_cast this
    rw [← this, Nat.testBit_and] at hj
    rw [Int.toNat_natCast]
    simp only [Bool.and_eq_true] at hj
    exact hj.1
  · rintro ⟨k, hk, hp⟩
    refine ⟨k, hk, ?_⟩
    obtain ⟨h0, h1⟩ := hr _ (rd_mem k (hsn k hk))
    obtain ⟨a, ha⟩ := Int.eq_ofNat_of_zero_le h0
    have hp2 := fun j hj => hp j hj
    rw [ha] at hp2 h1 ⊢
    rw [bits_and_u64_nat a s (by omega) (by omega)]
    have : a &&& s = s := by
      apply Nat.eq_of_testBit_eq
      intro j
      rw [Nat.testBit_and]
      cases hj : s.testBit j with
      | false => simp
      | true => have := hp2 j hj; rw [Int.toNat_natCast] at this; simp [this]
    rw [this]
    simp
theorem rd_set (l : List Int) (i j : Nat) (x : Int) (hi : i < l.length) : rd (l.set i x) (j : Int) = if j = i then x else rd l (j : Int) := by
  simp only [rd, Int.toNat_natCast, List.getD_eq_getElem?_getD]
  by_cases h : j = i
  · subst h; simp [hi]
  · rw [List.getElem?_set_ne (fun e => h e.symm), if_neg h]
/-- The bits of the rows turned. -/
theorem tJ_bits (n : Nat) (h64 : n ≤ 64) (r : Int) (hr0 : 0 ≤ r) (hr1 : r < 2 ^ 64) (i : Nat) (hi : i < n) (out : List Int) (ho : Small n out) (hl : out.length = n) : ∀ j, j ≤ n → ∀ a b, a < n → (rd (tJ r i out j) (a : Int)).toNat.testBit b = ((rd out (a : Int)).toNat.testBit b || (decide (a < j) && decide (b = i) && r.toNat.testBit a))
  | 0, _, a, b, ha => by simp [tJ]
  | j + 1, hj, a, b, ha => by
    have ih := tJ_bits n h64 r hr0 hr1 i hi out ho hl j (by omega)
    have hjl : j < (tJ r i out j).length := by rw [tJ_len, hl]; omega
    rw [tJ, rd_set _ _ _ _ hjl]
    by_cases haj : a = j
    · subst haj
      rw [if_pos rfl]
      obtain ⟨x, hx, hxl⟩ := tJ_small n h64 r hr0 hr1 i hi out ho hl a (by omega) _ (rd_mem a hjl)
      have hb : bits .and .u64 (r / 2 ^ a) 1 = bitI r a := rfl
      have h2 : (2 : Nat) ^ n ≤ 2 ^ 64 := Nat.pow_le_pow_right (by decide) h64
      have h3 : (2 : Nat) ^ i < 2 ^ n := Nat.pow_lt_pow_right (by decide) hi
      have hih := ih a b ha
      rw [hx, Int.toNat_natCast] at hih
      rw [hx, hb, bitI_nat r a hr0 hr1]
      cases hra : r.toNat.testBit a with
      | false =>
        simp only [Bool.false_eq_true, if_false, Int.zero_mul]
        rw [show IntKind.u64.wrap 0 = ((0 : Nat) : Int) from rfl, bits_or_u64_nat x 0 (by omega) (by omega), Int.toNat_natCast, Nat.or_zero, hih, hra]
        simp
      | true =>
        simp only [if_true, Int.one_mul]
        rw [wrap_u64 _ (by exact_mod_cast Nat.zero_le _) (by exact_mod_cast Nat.lt_of_lt_of_le h3 h2), show (2 : Int) ^ i = ((2 ^ i : Nat) : Int) by simp, bits_or_u64_nat x (2 ^ i) (by omega) (by omega), Int.toNat_natCast, Nat.testBit_or, hih, Nat.testBit_two_pow]
        simp only [Nat.lt_irrefl, decide_false, Bool.false_and, Bool.or_false, Nat.lt_succ_self, decide_true, Bool.true_and, Bool.and_true]
        congr 1
        by_cases e : i = b <;> simp [e, eq_comm]
    · rw [if_neg haj, ih a b ha]
      have : decide (a < j + 1) = decide (a < j) := by
        by_cases h : a < j
        · simp [h]; omega
        · have : ¬ a < j + 1 := by omega
          simp [h, this]
      rw [this]
theorem tI_bits (rows : List Int) (n : Nat) (h64 : n ≤ 64) (hr : U64s rows) (hn : n = rows.length) : ∀ i, i ≤ n → ∀ a b, a < n → (rd (tI rows n i) (a : Int)).toNat.testBit b = (decide (b < i) && (rd rows (b : Int)).toNat.testBit a)
  | 0, _, a, b, ha => by
    have : rd (List.replicate n 0) (a : Int) = 0 := by
      simp only [rd, Int.toNat_natCast, List.getD_eq_getElem?_getD, List.getElem?_replicate]
      rw [if_pos ha]; rfl
    simp [tI, this]
  | i + 1, hi, a, b, ha => by
    obtain ⟨h0, h1⟩ := hr _ (rd_mem i (show i < rows.length by omega))
    rw [tI, tJ_bits n h64 _ h0 h1 i (by omega) _ (tI_small rows n h64 hr hn i (by omega)) (tI_len _ _ _) n (Nat.le_refl _) a b ha, tI_bits rows n h64 hr hn i (by omega) a b ha]
    simp only [ha, decide_true, Bool.true_and]
    by_cases hb : b = i
    · subst hb
      simp
    · have : decide (b < i + 1) = decide (b < i) := by
        by_cases h : b < i
        · simp [h]; omega
        · have : ¬ b < i + 1 := by omega
          simp [h, this]
      rw [this]; simp [hb]
theorem turned_bit (rows : List Int) (hr : U64s rows) (h64 : rows.length ≤ 64) (a b : Nat) (ha : a < rows.length) : (rd (turnedR rows) (a : Int)).toNat.testBit b = (decide (b < rows.length) && (rd rows (b : Int)).toNat.testBit a) :=
  tI_bits rows rows.length h64 hr rfl rows.length (Nat.le_refl _) a b ha
end Go.Proofs.YtbdecnagdnancaaGreatDoor
