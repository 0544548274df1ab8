/- Several texts as one: LtA, LtB, R4A, R4B. -/
import Derived.Test.YtdecijmncpbheaaGreatDoorMC
import Derived.Test.YtdecijmncpbheaaGreatDoorMQ
import Derived.Deep.QuietTactic
import Derived.BigQuiet

namespace Go.Proofs.YtdecijmncpbheaaGreatDoor
open Go.RowKit Go.Proofs.YtdecijmncpbheaaGreatDoorW.PrintWords Go.Proofs.YtdecijmncpbheaaGreatDoorW.PrintLast Go.Proofs.YtdecijmncpbheaaGreatDoorW.PrintMore
set_option linter.unusedVariables false
set_option linter.unusedSimpArgs false
theorem clear_low (l : Nat) (h0 : l ≠ 0) (hl : l < 2 ^ 64) (j : Nat) : (l &&& (l - 1)).testBit j = (l.testBit j && decide (j ≠ Lib.ctz 64 l)) ∧ l.testBit (Lib.ctz 64 l) = true := by
  obtain ⟨m, hm, hk⟩ := Lib.ctzFrom_spec 64 l (by omega) hl
  have he : Lib.ctz 64 l = Lib.ctzFrom 64 l := by simp [Lib.ctz, h0]
  rw [he]
  generalize Lib.ctzFrom 64 l = k at *
  have hp : 0 < 2 ^ k := Nat.two_pow_pos k
  have h1 : l - 1 = 2 ^ k * (2 * m) + (2 ^ k - 1) := by rw [hm, Nat.mul_add]; omega
  have h2 : l = 2 ^ k * (2 * m + 1) + 0 := by rw [hm]; rfl
  have hx : ∀ j, l.testBit j = if j < k then false else (2 * m + 1).testBit (j - k) := fun j => by
    rw [h2, Nat.testBit_two_pow_mul_add _ hp]
    split <;> simp
  have hy : ∀ j, (l - 1).testBit j = if j < k then true else (2 * m).testBit (j - k) := fun j => by
    rw [h1, Nat.testBit_two_pow_mul_add _ (by omega)]
    split
    · rename_i h; simp [h]
    · rfl
  have hb : ∀ i, (2 * m + 1).testBit i = if i = 0 then true else m.testBit (i - 1) := fun i => by
    cases i with
    | zero => simp [Nat.testBit_zero]
    | succ i => rw [Nat.testBit_succ]; simp; congr 1; omega
  have hc : ∀ i, (2 * m).testBit i = if i = 0 then false else m.testBit (i - 1) := fun i => by
    cases i with
    | zero => simp [Nat.testBit_zero]
    | succ i => rw [Nat.testBit_succ]; simp
  constructor
  · rw [Nat.testBit_and, hx, hy, hb, hc]
    by_cases h : j < k
    · simp [h]
    · rw [if_neg h, if_neg h]
      by_cases h' : j = k
      · subst h'; simp
      · have h3 : j - k ≠ 0 := by omega
        simp [h3, h']
  · rw [hx, if_neg (Nat.lt_irrefl k), hb]; simp
theorem oneL_iff (s : Nat) (rows : List Int) : ∀ (f l : Nat), l ≤ f → l < 2 ^ 64 → (oneL s rows f l = true ↔ ∃ k, l.testBit k = true ∧ (bits .and .u64 (rd rows (k : Int)) (s : Int) == (s : Int)) = true)
  | 0, l, h, _ => by
    obtain rfl : l = 0 := by omega
    simp [oneL]
  | f + 1, l, h, hl => by
    rw [oneL]
    by_cases h0 : l = 0
    · subst h0; simp
    · rw [if_neg h0]
      have hc := clear_low l h0 hl
      have hlt := and_pred_lt l h0
      by_cases ht : (bits .and .u64 (rd rows ((Lib.ctz 64 l : Nat) : Int)) (s : Int) == (s : Int)) = true
      · rw [if_pos ht]
        exact ⟨fun _ => ⟨_, (hc 0).2, ht⟩, fun _ => rfl⟩
      · rw [if_neg ht, oneL_iff s rows f _ (by omega) (by omega)]
        constructor
        · rintro ⟨k, hk, hp⟩
          rw [(hc k).1] at hk
          simp only [Bool.and_eq_true] at hk
          exact ⟨k, hk.1, hp⟩
        · rintro ⟨k, hk, hp⟩
          refine ⟨k, ?_, hp⟩
          rw [(hc k).1, hk]
          simp only [Bool.true_and, decide_eq_true_eq]
          rintro rfl
          exact ht hp
/-- Some of s whose row has all of s. -/
theorem oneB_iff (rows : List Int) (hr : U64s rows) (s : Nat) (hs : s < 2 ^ 64) (hsn : ∀ k, s.testBit k = true → k < rows.length) : oneB s rows = true ↔ ∃ k, s.testBit k = true ∧ ∀ j, s.testBit j = true → (rd rows (k : Int)).toNat.testBit j = true := by
  rw [oneB, oneL_iff s rows s s (Nat.le_refl _) hs]
  constructor
  · rintro ⟨k, hk, hp⟩
    refine ⟨k, hk, fun j hj => ?_⟩
    obtain ⟨h0, h1⟩ := hr _ (rd_mem k (hsn k hk))
    obtain ⟨a, ha⟩ := Int.eq_ofNat_of_zero_le h0
    rw [ha] at hp h1 ⊢
    rw [bits_and_u64_nat a s (by omega) (by omega)] at hp
    have : a &&& s = s := by have := eq_of_beq hp; exact_mod_cast this
    rw [← this, Nat.testBit_and] at hj
    rw [Int.toNat_natCast]
    simp only [Bool.and_eq_true] at hj
    exact hj.1
  · rintro ⟨k, hk, hp⟩
    refine ⟨k, hk, ?_⟩
    obtain ⟨h0, h1⟩ := hr _ (rd_mem k (hsn k hk))
    obtain ⟨a, ha⟩ := Int.eq_ofNat_of_zero_le h0
    have hp2 := fun j hj => hp j hj
    rw [ha] at hp2 h1 ⊢
    rw [bits_and_u64_nat a s (by omega) (by omega)]
    have : a &&& s = s := by
      apply Nat.eq_of_testBit_eq
      intro j
      rw [Nat.testBit_and]
      cases hj : s.testBit j with
      | false => simp
      | true => have := hp2 j hj; rw [Int.toNat_natCast] at this; simp [this]
    rw [this]
    simp
theorem rd_set (l : List Int) (i j : Nat) (x : Int) (hi : i < l.length) : rd (l.set i x) (j : Int) = if j = i then x else rd l (j : Int) := by
  simp only [rd, Int.toNat_natCast, List.getD_eq_getElem?_getD]
  by_cases h : j = i
  · subst h; simp [hi]
  · rw [List.getElem?_set_ne (fun e => h e.symm), if_neg h]
/-- The bits of the rows turned. -/
theorem tJ_bits (n : Nat) (h64 : n ≤ 64) (r : Int) (hr0 : 0 ≤ r) (hr1 : r < 2 ^ 64) (i : Nat) (hi : i < n) (out : List Int) (ho : Small n out) (hl : out.length = n) : ∀ j, j ≤ n → ∀ a b, a < n → (rd (tJ r i out j) (a : Int)).toNat.testBit b = ((rd out (a : Int)).toNat.testBit b || (decide (a < j) && decide (b = i) && r.toNat.testBit a))
  | 0, _, a, b, ha => by simp [tJ]
  | j + 1, hj, a, b, ha => by
    have ih := tJ_bits n h64 r hr0 hr1 i hi out ho hl j (by omega)
    have hjl : j < (tJ r i out j).length := by rw [tJ_len, hl]; omega
    rw [tJ, rd_set _ _ _ _ hjl]
    by_cases haj : a = j
    · subst haj
      rw [if_pos rfl]
      obtain ⟨x, hx, hxl⟩ := tJ_small n h64 r hr0 hr1 i hi out ho hl a (by omega) _ (rd_mem a hjl)
      have hb : bits .and .u64 (r / 2 ^ a) 1 = bitI r a := rfl
      have h2 : (2 : Nat) ^ n ≤ 2 ^ 64 := Nat.pow_le_pow_right (by decide) h64
      have h3 : (2 : Nat) ^ i < 2 ^ n := Nat.pow_lt_pow_right (by decide) hi
      have hih := ih a b ha
      rw [hx, Int.toNat_natCast] at hih
      rw [hx, hb, bitI_nat r a hr0 hr1]
      cases hra : r.toNat.testBit a with
      | false =>
        simp only [Bool.false_eq_true, if_false, Int.zero_mul]
        rw [show IntKind.u64.wrap 0 = ((0 : Nat) : Int) from rfl, bits_or_u64_nat x 0 (by omega) (by omega), Int.toNat_natCast, Nat.or_zero, hih, hra]
        simp
      | true =>
        simp only [if_true, Int.one_mul]
        rw [wrap_u64 _ (by exact_mod_cast Nat.zero_le _) (by exact_mod_cast Nat.lt_of_lt_of_le h3 h2), show (2 : Int) ^ i = ((2 ^ i : Nat) : Int) by simp, bits_or_u64_nat x (2 ^ i) (by omega) (by omega), Int.toNat_natCast, Nat.testBit_or, hih, Nat.testBit_two_pow]
        simp only [Nat.lt_irrefl, decide_false, Bool.false_and, Bool.or_false, Nat.lt_succ_self, decide_true, Bool.true_and, Bool.and_true]
        congr 1
        by_cases e : i = b <;> simp [e, eq_comm]
    · rw [if_neg haj, ih a b ha]
      have : decide (a < j + 1) = decide (a < j) := by
        by_cases h : a < j
        · simp [h]; omega
        · have : ¬ a < j + 1 := by omega
          simp [h, this]
      rw [this]
theorem tI_bits (rows : List Int) (n : Nat) (h64 : n ≤ 64) (hr : U64s rows) (hn : n = rows.length) : ∀ i, i ≤ n → ∀ a b, a < n → (rd (tI rows n i) (a : Int)).toNat.testBit b = (decide (b < i) && (rd rows (b : Int)).toNat.testBit a)
  | 0, _, a, b, ha => by
    have : rd (List.replicate n 0) (a : Int) = 0 := by
      simp only [rd, Int.toNat_natCast, List.getD_eq_getElem?_getD, List.getElem?_replicate]
      rw [if_pos ha]; rfl
    simp [tI, this]
  | i + 1, hi, a, b, ha => by
    obtain ⟨h0, h1⟩ := hr _ (rd_mem i (show i < rows.length by omega))
    rw [tI, tJ_bits n h64 _ h0 h1 i (by omega) _ (tI_small rows n h64 hr hn i (by omega)) (tI_len _ _ _) n (Nat.le_refl _) a b ha, tI_bits rows n h64 hr hn i (by omega) a b ha]
    simp only [ha, decide_true, Bool.true_and]
    by_cases hb : b = i
    · subst hb
      simp
    · have : decide (b < i + 1) = decide (b < i) := by
        by_cases h : b < i
        · simp [h]; omega
        · have : ¬ b < i + 1 := by omega
          simp [h, this]
      rw [this]; simp [hb]
theorem turned_bit (rows : List Int) (hr : U64s rows) (h64 : rows.length ≤ 64) (a b : Nat) (ha : a < rows.length) : (rd (turnedR rows) (a : Int)).toNat.testBit b = (decide (b < rows.length) && (rd rows (b : Int)).toNat.testBit a) :=
  tI_bits rows rows.length h64 hr rfl rows.length (Nat.le_refl _) a b ha
end Go.Proofs.YtdecijmncpbheaaGreatDoor

namespace Go.Proofs.YtdecijmncpbheaaGreatDoor
open Go.RowKit Go.Proofs.YtdecijmncpbheaaGreatDoorW.PrintWords Go.Proofs.YtdecijmncpbheaaGreatDoorW.PrintLast Go.Proofs.YtdecijmncpbheaaGreatDoorW.PrintMore
set_option linter.unusedVariables false
set_option linter.unusedSimpArgs false
def upOk (rows : List Int) (i j : Nat) : Prop := ∃ x, (leB rows i x = true ∧ leB rows j x = true) ∧ ∀ y, leB rows i y = true → leB rows j y = true → leB rows x y = true
def dnOk (rows : List Int) (i j : Nat) : Prop := ∃ x, (leB rows x i = true ∧ leB rows x j = true) ∧ ∀ y, leB rows y i = true → leB rows y j = true → leB rows y x = true
/-- The document's order. -/
structure RefOk (rows : List Int) : Prop where
  n1 : 1 ≤ rows.length
  n64 : rows.length ≤ 64
  small : ∀ i, i < rows.length → rd rows (i : Int) < 2 ^ rows.length
  refl : ∀ i, i < rows.length → leB rows i i = true
  anti : ∀ i j, i < rows.length → j < rows.length → i ≠ j → leB rows i j = true → leB rows j i = false
  trans : ∀ i j k, leB rows i j = true → leB rows j k = true → leB rows i k = true
  up : ∀ i j, i < rows.length → j < rows.length → upOk rows i j
  dn : ∀ i j, i < rows.length → j < rows.length → dnOk rows i j
theorem pow_int (n : Nat) : ((2 : Int) ^ n - 1).toNat = 2 ^ n - 1 := by
  have : ((2 : Int) ^ n - 1) = ((2 ^ n - 1 : Nat) : Int) := by
    have := Nat.one_le_two_pow (n := n)
    rw [Int.ofNat_sub this]
    simp
  rw [this, Int.toNat_natCast]
theorem small_iff (n : Nat) (h64 : n ≤ 64) (x : Int) (h0 : 0 ≤ x) (h1 : x < 2 ^ 64) : (lessI x (2 ^ n - 1) == 0) = true ↔ x < 2 ^ n := by
  have hp : (2 : Int) ^ n ≤ 2 ^ 64 := by exact_mod_cast Nat.pow_le_pow_right (n := 2) (by decide) h64
  have h3 : (1 : Int) ≤ 2 ^ n := by exact_mod_cast Nat.one_le_two_pow
  constructor
  · intro h
    obtain ⟨a, rfl, ha⟩ := less_small n h64 x h0 h1 (by simpa using h)
    exact_mod_cast ha
  · intro h
    have : lessI x (2 ^ n - 1) = 0 := (lessI_zero x (2 ^ n - 1) h0 h1 (by omega) (by omega)).2 fun j hj => by
      rw [pow_int, Nat.testBit_two_pow_sub_one]
      obtain ⟨a, rfl⟩ := Int.eq_ofNat_of_zero_le h0
      have ha : a < 2 ^ n := by exact_mod_cast h
      rw [Int.toNat_natCast] at hj
      by_cases hjn : j < n
      · simpa using hjn
      · have := Nat.testBit_lt_two_pow (Nat.lt_of_lt_of_le ha (Nat.pow_le_pow_right (by decide) (show n ≤ j by omega)))
        rw [this] at hj; cases hj
    rw [this]; rfl
theorem bit_lt {rows : List Int} (hr : U64s rows) (hs : ∀ i, i < rows.length → rd rows (i : Int) < 2 ^ rows.length) (a b : Nat) (ha : a < rows.length) (hb : (rd rows (a : Int)).toNat.testBit b = true) : leB rows a b = true := by
  rw [leB_iff hr]
  refine ⟨ha, ?_, hb⟩
  obtain ⟨h0, _⟩ := hr _ (rd_mem a ha)
  have h2 := hs a ha
  obtain ⟨x, hx⟩ := Int.eq_ofNat_of_zero_le h0
  rw [hx] at h2 hb
  have h3 : x < 2 ^ rows.length := by exact_mod_cast h2
  rw [Int.toNat_natCast] at hb
  rcases Nat.lt_or_ge b rows.length with h | h
  · exact h
  · rw [Nat.testBit_lt_two_pow (Nat.lt_of_lt_of_le h3 (Nat.pow_le_pow_right (by decide) h))] at hb
    cases hb
theorem ordered_iff {rows : List Int} (hr : U64s rows) (hs : ∀ i, i < rows.length → rd rows (i : Int) < 2 ^ rows.length) : orderedB rows = true ↔ (∀ i, i < rows.length → leB rows i i = true) ∧ (∀ i j, i < rows.length → j < rows.length → i ≠ j → leB rows i j = true → leB rows j i = false) ∧ ∀ i j k, leB rows i j = true → leB rows j k = true → leB rows i k = true := by
  constructor
  · intro h
    exact ⟨ordered_refl hr h, fun i j _ _ hne hij => (ordered_pair hr h i j hij (fun e => hne e.symm)).1, ordered_trans hr h⟩
  · rintro ⟨h1, h2, h3⟩
    have bit1 : ∀ i j, i < rows.length → (bitI (rd rows (i : Int)) j == 1) = (rd rows (i : Int)).toNat.testBit j := fun i j hi => by
      obtain ⟨h0, h1⟩ := hr _ (rd_mem i hi)
      rw [bitI_nat _ j h0 h1]
      cases (rd rows (i : Int)).toNat.testBit j <;> rfl
    have bit0 : ∀ i j, i < rows.length → (bitI (rd rows (i : Int)) j == 0) = !(rd rows (i : Int)).toNat.testBit j := fun i j hi => by
      obtain ⟨h0, h1⟩ := hr _ (rd_mem i hi)
      rw [bitI_nat _ j h0 h1]
      cases (rd rows (i : Int)).toNat.testBit j <;> rfl
    rw [orderedB, List.all_eq_true]
    intro i hi
    have hi := List.mem_range.1 hi
    rw [Bool.and_eq_true, bit0 i i hi, List.all_eq_true]
    refine ⟨by have := ((leB_iff hr i i).1 (h1 i hi)).2.2; simp [this], fun j hj => ?_⟩
    have hj := List.mem_range.1 hj
    rw [rowOk, bit1 i j hi, bit1 j i hj]
    by_cases hji : j = i
    · simp [hji]
    · cases hb : (rd rows (i : Int)).toNat.testBit j with
      | false => simp
      | true =>
        have hij := bit_lt hr hs i j hi hb
        have hn := h2 i j hi hj (fun e => hji e.symm) hij
        have hb2 : (rd rows (j : Int)).toNat.testBit i = false := by
          cases h : (rd rows (j : Int)).toNat.testBit i with
          | false => rfl
          | true => rw [bit_lt hr hs j i hj h] at hn; cases hn
        rw [hb2]
        obtain ⟨a0, a1⟩ := hr _ (rd_mem i hi)
        obtain ⟨b0, b1⟩ := hr _ (rd_mem j hj)
        have : lessI (rd rows (j : Int)) (rd rows (i : Int)) = 0 := (lessI_zero _ _ b0 b1 a0 a1).2 fun k hk => ((leB_iff hr i k).1 (h3 i j k hij (bit_lt hr hs j k hj hk))).2.2
        rw [this]
        simp
theorem and_bit (x y : Int) (hx : 0 ≤ x ∧ x < 2 ^ 64) (hy : 0 ≤ y ∧ y < 2 ^ 64) : (bits .and .u64 x y).toNat < 2 ^ 64 ∧ ∀ j, (bits .and .u64 x y).toNat.testBit j = (x.toNat.testBit j && y.toNat.testBit j) := by
  obtain ⟨a, rfl⟩ := Int.eq_ofNat_of_zero_le hx.1
  obtain ⟨b, rfl⟩ := Int.eq_ofNat_of_zero_le hy.1
  rw [bits_and_u64_nat a b (by omega) (by omega)]
  simp only [Int.toNat_natCast]
  exact ⟨Nat.and_lt_two_pow _ (by omega), fun j => Nat.testBit_and _ _ _⟩
theorem pair_up {rows : List Int} (hr : U64s rows) (hs : ∀ i, i < rows.length → rd rows (i : Int) < 2 ^ rows.length) (i j : Nat) (hi : i < rows.length) (hj : j < rows.length) : oneB (bits .and .u64 (rd rows (i : Int)) (rd rows (j : Int))).toNat rows = true ↔ upOk rows i j := by
  obtain ⟨hl, hb⟩ := and_bit _ _ (hr _ (rd_mem i hi)) (hr _ (rd_mem j hj))
  have key : ∀ k, (bits .and .u64 (rd rows (i : Int)) (rd rows (j : Int))).toNat.testBit k = true ↔ leB rows i k = true ∧ leB rows j k = true := fun k => by
    rw [hb k, Bool.and_eq_true]
    exact ⟨fun h => ⟨bit_lt hr hs i k hi h.1, bit_lt hr hs j k hj h.2⟩, fun h => ⟨((leB_iff hr i k).1 h.1).2.2, ((leB_iff hr j k).1 h.2).2.2⟩⟩
  rw [oneB_iff rows hr _ hl (fun k hk => ((leB_iff hr i k).1 ((key k).1 hk).1).2.1)]
  constructor
  · rintro ⟨k, hk, hp⟩
    have hk2 := (key k).1 hk
    exact ⟨k, hk2, fun y h1 h2 => bit_lt hr hs k y ((leB_iff hr i k).1 hk2.1).2.1 (hp y ((key y).2 ⟨h1, h2⟩))⟩
  · rintro ⟨k, hk, hp⟩
    exact ⟨k, (key k).2 hk, fun y hy => ((leB_iff hr k y).1 (hp y ((key y).1 hy).1 ((key y).1 hy).2)).2.2⟩
theorem turned_U64 {rows : List Int} (hr : U64s rows) (h64 : rows.length ≤ 64) : U64s (turnedR rows) := fun x hx => by
  obtain ⟨a, rfl, ha⟩ := tI_small rows rows.length h64 hr rfl rows.length (Nat.le_refl _) x hx
  have h2 : (2 : Nat) ^ rows.length ≤ 2 ^ 64 := Nat.pow_le_pow_right (by decide) h64
  omega
theorem turned_len (rows : List Int) : (turnedR rows).length = rows.length := tI_len _ _ _
theorem turned_le {rows : List Int} (hr : U64s rows) (h64 : rows.length ≤ 64) (a b : Nat) : leB (turnedR rows) a b = leB rows b a := by
  rw [Bool.eq_iff_iff, leB_iff (turned_U64 hr h64), leB_iff hr, turned_len]
  constructor
  · rintro ⟨h1, h2, h3⟩
    rw [turned_bit rows hr h64 a b h1] at h3
    simp only [Bool.and_eq_true] at h3
    exact ⟨h2, h1, h3.2⟩
  · rintro ⟨h1, h2, h3⟩
    refine ⟨h2, h1, ?_⟩
    rw [turned_bit rows hr h64 a b h2, h3]
    simpa using h1
theorem turned_small {rows : List Int} (hr : U64s rows) (h64 : rows.length ≤ 64) : ∀ i, i < (turnedR rows).length → rd (turnedR rows) (i : Int) < 2 ^ (turnedR rows).length := fun i hi => by
  obtain ⟨a, ha, hal⟩ := tI_small rows rows.length h64 hr rfl rows.length (Nat.le_refl _) _ (rd_mem i hi)
  rw [show turnedR rows = tI rows rows.length rows.length from rfl, ha, tI_len]
  exact_mod_cast hal
theorem pair_dn {rows : List Int} (hr : U64s rows) (h64 : rows.length ≤ 64) (i j : Nat) (hi : i < rows.length) (hj : j < rows.length) : oneB (bits .and .u64 (rd (turnedR rows) (i : Int)) (rd (turnedR rows) (j : Int))).toNat (turnedR rows) = true ↔ dnOk rows i j := by
  rw [pair_up (turned_U64 hr h64) (turned_small hr h64) i j (by rwa [turned_len]) (by rwa [turned_len])]
  simp only [upOk, dnOk, turned_le hr h64]
theorem up_symm {rows : List Int} {i j : Nat} (h : upOk rows i j) : upOk rows j i := by
  obtain ⟨x, h1, h2⟩ := h
  exact ⟨x, ⟨h1.2, h1.1⟩, fun y a b => h2 y b a⟩
theorem dn_symm {rows : List Int} {i j : Nat} (h : dnOk rows i j) : dnOk rows j i := by
  obtain ⟨x, h1, h2⟩ := h
  exact ⟨x, ⟨h1.2, h1.1⟩, fun y a b => h2 y b a⟩
theorem checkO_ref {rows : List Int} (hr : U64s rows) : checkO rows = 0 ↔ RefOk rows := by
  unfold checkO
  by_cases h1 : rows.length < 1 ∨ 64 < rows.length
  · rw [if_pos h1]
    exact ⟨fun h => by omega, fun h => by have := h.n1; have := h.n64; omega⟩
  rw [if_neg h1]
  have h64 : rows.length ≤ 64 := by omega
  have hsm : ((List.range rows.length).all fun i => lessI (rd rows i) (2 ^ rows.length - 1) == 0) = true ↔ ∀ i, i < rows.length → rd rows (i : Int) < 2 ^ rows.length := by
    rw [List.all_eq_true]
    exact ⟨fun h i hi => (small_iff _ h64 _ (hr _ (rd_mem i hi)).1 (hr _ (rd_mem i hi)).2).1 (h i (List.mem_range.2 hi)), fun h i hi => (small_iff _ h64 _ (hr _ (rd_mem i (List.mem_range.1 hi))).1 (hr _ (rd_mem i (List.mem_range.1 hi))).2).2 (h i (List.mem_range.1 hi))⟩
  by_cases h2 : ((List.range rows.length).all fun i => lessI (rd rows i) (2 ^ rows.length - 1) == 0) = false
  · rw [if_pos h2]
    exact ⟨fun h => by omega, fun h => by rw [hsm.2 h.small] at h2; cases h2⟩
  rw [if_neg h2]
  have hs := hsm.1 (by simpa using h2)
  by_cases h3 : orderedB rows = false
  · rw [if_pos h3]
    exact ⟨fun h => by omega, fun h => by rw [(ordered_iff hr hs).2 ⟨h.refl, h.anti, h.trans⟩] at h3; cases h3⟩
  rw [if_neg h3]
  obtain ⟨o1, o2, o3⟩ := (ordered_iff hr hs).1 (by simpa using h3)
  have hp : ((List.range rows.length).all fun i => (List.range i).all fun j => pairOk rows (turnedR rows) i j) = true ↔ ∀ i j, i < rows.length → j < i → upOk rows i j ∧ dnOk rows i j := by
    rw [List.all_eq_true]
    constructor
    · intro h i j hi hj
      have h4 := h i (List.mem_range.2 hi)
      rw [List.all_eq_true] at h4
      have h5 := h4 j (List.mem_range.2 hj)
      rw [pairOk, Bool.and_eq_true, pair_up hr hs i j hi (by omega), pair_dn hr h64 i j hi (by omega)] at h5
      exact h5
    · intro h i hi
      rw [List.all_eq_true]
      intro j hj
      have hi := List.mem_range.1 hi
      have hj := List.mem_range.1 hj
      rw [pairOk, Bool.and_eq_true, pair_up hr hs i j hi (by omega), pair_dn hr h64 i j hi (by omega)]
      exact h i j hi hj
  by_cases h4 : ((List.range rows.length).all fun i => (List.range i).all fun j => pairOk rows (turnedR rows) i j) = false
  · rw [if_pos h4]
    refine ⟨fun h => by omega, fun h => ?_⟩
    rw [hp.2 (fun i j hi hj => ⟨h.up i j hi (by omega), h.dn i j hi (by omega)⟩)] at h4
    cases h4
  · rw [if_neg h4]
    have hq := hp.1 (by simpa using h4)
    refine ⟨fun _ => ⟨by omega, h64, hs, o1, o2, o3, fun i j hi hj => ?_, fun i j hi hj => ?_⟩, fun _ => rfl⟩
    · rcases Nat.lt_trichotomy i j with h | h | h
      · exact up_symm (hq j i hj h).1
      · subst h; exact ⟨i, ⟨o1 i hi, o1 i hi⟩, fun y h _ => h⟩
      · exact (hq i j hi h).1
    · rcases Nat.lt_trichotomy i j with h | h | h
      · exact dn_symm (hq j i hj h).2
      · subst h; exact ⟨i, ⟨o1 i hi, o1 i hi⟩, fun y h _ => h⟩
      · exact (hq i j hi h).2
end Go.Proofs.YtdecijmncpbheaaGreatDoor

namespace Go.Proofs.YtdecijmncpbheaaGreatDoor
open Go.RowKit Go.Proofs.YtdecijmncpbheaaGreatDoorW.PrintWords Go.Proofs.YtdecijmncpbheaaGreatDoorW.PrintLast Go.Proofs.YtdecijmncpbheaaGreatDoorW.PrintMore
set_option linter.unusedVariables false
set_option linter.unusedSimpArgs false
namespace Ref04
def le4 (rows : List Int) (a b : Nat) : Bool := decide (a < 64) && (decide (b < 64) && leB rows a b)
set_option maxRecDepth 100000 in
set_option maxHeartbeats 4000000 in
theorem below4_calls (w : World) (A : Option Addr) (c n : Nat) (rows : List Int) (a b : Nat) (hn : n = rows.length) (hmax : n ≤ 9223372036854775807) (hr : (Kd.int .u64).C w A n rows) :
    Calls Tryz.prog 115 #[.slice A n c, .int .u64 (a : Int), .int .u64 (b : Int)] w fun e w' => e = .returned (.bool (le4 rows a b)) ∧ w = w' := by
  have HD : Aside0 (le4 rows a b = (decide (a < 64) && (decide (b < 64) && (decide (a < n) && decide (b < n) && (bitI (rd rows a) b == 1))))) := ⟨by rw [hn]; rfl⟩
  have hw : IntKind.u64.wrap (n : Int) = (n : Int) := wrap_u64 _ (by omega) (by omega)
  clear hn
  by_cases h1 : a < 64
  case neg =>
    have e1 : decide ((a : Int) < 64) = false := decide_eq_false (by omega)
    have HE : Aside0 (le4 rows a b = false) := ⟨by rw [HD.out, decide_eq_false h1]; rfl⟩
    rw [HE.out]
    clear HD HE
    go_enter Tryz.func115, Tryz.ntmps115
    go_wp2
    go_ret
    exact ⟨rfl, rfl⟩
  have e1 : decide ((a : Int) < 64) = true := decide_eq_true (by omega)
  by_cases h2 : b < 64
  case neg =>
    have e2 : decide ((b : Int) < 64) = false := decide_eq_false (by omega)
    have HE : Aside0 (le4 rows a b = false) := ⟨by rw [HD.out, decide_eq_false h2, Bool.false_and, Bool.and_false]⟩
    rw [HE.out]
    clear HD HE
    go_enter Tryz.func115, Tryz.ntmps115
    go_wp2
    go_ret
    exact ⟨rfl, rfl⟩
  have e2 : decide ((b : Int) < 64) = true := decide_eq_true (by omega)
  by_cases h3 : a < n
  case neg =>
    have e3 : decide (a < n) = false := decide_eq_false h3
    have HE : Aside0 (le4 rows a b = false) := ⟨by rw [HD.out, e3]; simp⟩
    rw [HE.out]
    clear HD HE
    go_enter Tryz.func115, Tryz.ntmps115
    go_wp2
    go_ret
    exact ⟨rfl, rfl⟩
  have e3 : decide (a < n) = true := decide_eq_true h3
  by_cases h4 : b < n
  case neg =>
    have e4 : decide (b < n) = false := decide_eq_false h4
    have HE : Aside0 (le4 rows a b = false) := ⟨by rw [HD.out, e4]; simp⟩
    rw [HE.out]
    clear HD HE
    go_enter Tryz.func115, Tryz.ntmps115
    go_wp2
    go_ret
    exact ⟨rfl, rfl⟩
  have e4 : decide (b < n) = true := decide_eq_true h4
  obtain ⟨ad, rfl, c0⟩ := C_rd hr a h3
  have HE : Aside0 (le4 rows a b = (bits .and .u64 (rd rows a / 2 ^ b) 1 == 1)) := ⟨by rw [HD.out, decide_eq_true h1, decide_eq_true h2, e3, e4]; rfl⟩
  rw [HE.out]
  clear HD HE
  go_enter Tryz.func115, Tryz.ntmps115
  go_wp2
  go_ret
  exact ⟨rfl, rfl⟩
/-- Those below n that two are below. -/
def ups4 (rows : List Int) (a b n : Nat) : List Nat := (List.range n).filter fun i => le4 rows a i && le4 rows b i
def uns4 (rows : List Int) (a b n : Nat) : List Nat := (List.range n).filter fun i => le4 rows i a && le4 rows i b
theorem filter_succ (p : Nat → Bool) (k : Nat) : (List.range (k + 1)).filter p = (List.range k).filter p ++ if p k then [k] else [] := by
  rw [List.range_succ, List.filter_append]
  congr 1
  cases h : p k <;> simp [h]
theorem filter_len (p : Nat → Bool) (k : Nat) : ((List.range k).filter p).length ≤ k := by
  have := List.length_filter_le p (List.range k)
  rwa [List.length_range] at this
def natsI (l : List Nat) : List Int := l.map fun (x : Nat) => (x : Int)
set_option maxRecDepth 100000 in
set_option maxHeartbeats 4000000 in
theorem above4_calls (w : World) (A : Option Addr) (c n : Nat) (rows : List Int) (a b : Nat) (hn : n = rows.length) (h64 : n ≤ 64) (hr : (Kd.int .u64).C w A n rows) :
    Calls Tryz.prog 117 #[.slice A n c, .int .u64 (a : Int), .int .u64 (b : Int)] w fun e w' => ∃ A1 c1, e = .returned (.slice A1 (ups4 rows a b n).length c1) ∧ Below w.heap.size w w' ∧ (Kd.int .u64).C w' A1 (ups4 rows a b n).length (natsI (ups4 rows a b n)) := by
  have hw : IntKind.u64.wrap (n : Int) = (n : Int) := wrap_u64 _ (by omega) (by omega)
  have HR := Aside0.mk hr
  have HN := Aside0.mk hn
  clear hr hn
  go_enter Tryz.func117, Tryz.ntmps117
  go_wp2
  go_loopg [7, 8] (n + 1) (fun gk l i W => ∃ (k m : Nat) (A1 : Option Addr) (c1 : Nat), i = .int .u64 (k : Int) ∧ l = .slice A1 m c1 ∧ k ≤ n ∧ n + 1 - k ≤ gk ∧ m ≤ k ∧ Aside0 ((Kd.int .u64).R 91 W w.heap.size (fun _ => True) (.slice A1 m c1) (natsI (ups4 rows a b k))) ∧ Aside0 (Below w.heap.size w W) ∧ Aside0 (m = (ups4 rows a b k).length))
  case atStart => exact ⟨0, 0, none, 0, rfl, rfl, by omega, by omega, by omega, ⟨Kd.R_nil _ _ _ _ _⟩, ⟨Below.refl _ _⟩, ⟨rfl⟩⟩
  case round =>
    obtain ⟨k, m, A1, c1, rfl, rfl, hk, hkg, hmk, HO, HB, HM⟩ := hrel
    rcases Nat.lt_or_ge k n with hlt | hge
    · have hd : decide (k < n) = true := decide_eq_true hlt
      have hsum : IntKind.u64.wrap ((k : Int) + 1) = (k : Int) + 1 := wrap_u64 _ (by omega) (by omega)
      have P : ∀ x y : Nat, Calls Tryz.prog 115 #[.slice A n c, .int .u64 (x : Int), .int .u64 (y : Int)] wr fun e w' => e = .returned (.bool (le4 rows x y)) ∧ wr = w' := fun x y => below4_calls wr A c n rows x y HN.out (by omega) (Kd.C_below HR.out HB.out)
      have HP1 := Aside0.mk (P a k)
      have HP2 := Aside0.mk (P b k)
      clear P
      have HS : Aside0 (ups4 rows a b (k + 1) = ups4 rows a b k ++ if le4 rows a k && le4 rows b k then [k] else []) := ⟨filter_succ _ k⟩
      have hno : (le4 rows a k && le4 rows b k) = false → Aside0 (ups4 rows a b (k + 1) = ups4 rows a b k) := fun h => ⟨by rw [HS.out, h]; simp⟩
      have hyes : (le4 rows a k && le4 rows b k) = true → Aside0 (ups4 rows a b (k + 1) = ups4 rows a b k ++ [k]) := fun h => ⟨by rw [HS.out, h]; rfl⟩
      cases h1 : le4 rows a k with
      | false =>
        have HQ := hno (by rw [h1]; rfl)
        have H1 := Aside0.mk h1
        clear h1 hno hyes HS
        go_wp2_with (go_at_call 115; (with_reducible refine HP1.out.mono ?_); rintro e W1 ⟨rfl, rfl⟩; rw [H1.out])
        go_roundg (gk - 1)
        case measure => omega
        case rel => exact ⟨k + 1, m, A1, c1, by go_num, rfl, by omega, by omega, by omega, ⟨by rw [HQ.out]; exact HO.out⟩, HB, ⟨by rw [HQ.out]; exact HM.out⟩⟩
      | true =>
        have H1 := Aside0.mk h1
        cases h2 : le4 rows b k with
        | false =>
          have HQ := hno (by rw [h1, h2]; rfl)
          have H2 := Aside0.mk h2
          clear h1 h2 hno hyes HS
          go_wp2_with (go_at_call 115; first | ((with_reducible refine HP1.out.mono ?_); rintro e W1 ⟨rfl, rfl⟩; rw [H1.out]) | ((with_reducible refine HP2.out.mono ?_); rintro e W1 ⟨rfl, rfl⟩; rw [H2.out]))
          go_roundg (gk - 1)
          case measure => omega
          case rel => exact ⟨k + 1, m, A1, c1, by go_num, rfl, by omega, by omega, by omega, ⟨by rw [HQ.out]; exact HO.out⟩, HB, ⟨by rw [HQ.out]; exact HM.out⟩⟩
        | true =>
          have HQ := hyes (by rw [h1, h2]; rfl)
          have H2 := Aside0.mk h2
          have HL : Aside0 (natsI (ups4 rows a b k) ++ [(k : Int)] = natsI (ups4 rows a b (k + 1))) := ⟨by rw [HQ.out]; simp [natsI]⟩
          have HLN : Aside0 ((natsI (ups4 rows a b k)).length = m) := ⟨by rw [HM.out]; simp [natsI]⟩
          have HLN2 : Aside0 ((natsI (ups4 rows a b (k + 1))).length = m + 1) := ⟨by rw [HQ.out, HM.out]; simp [natsI]⟩
          clear h1 h2 hno hyes HS
          go_wp2_with (first
            | (go_at_call 115; first | ((with_reducible refine HP1.out.mono ?_); rintro e W1 ⟨rfl, rfl⟩; rw [H1.out]) | ((with_reducible refine HP2.out.mono ?_); rintro e W1 ⟨rfl, rfl⟩; rw [H2.out]))
            | (at_builtin; refine wpList_append_R rfl (Kd.int .u64) w.heap.size (.tmp 26) (.tmp 28) 26 26 91 91 (.int .u64 0) 8 rfl (by kernel_rfl) (by kernel_rfl) infoU rfl (by decide) (by decide) (.slice A1 m c1) (natsI (ups4 rows a b k)) [(k : Int)] (some ⟨wr.heap.size, 0, none⟩) 1 1 (fun _ => True) (fun _ => False) rfl rfl (Kd.R_below HO.out (below_alloc (Below.refl _ _) _)) (C_one_new .u64 wr (k : Int) 91) (fun x cs h => h) (fun _ h => h.elim) (fun _ _ => trivial) (below_alloc HB.out _).size (by rw [HLN.out]; omega) ?_; intro v1 w1 HO1 hg1 hat; rw [HL.out] at HO1; obtain ⟨A2, c2, rfl⟩ := Kd.R_slice HO1; rw [HLN2.out] at HO1 ⊢; have HB1 := Aside0.mk ((below_alloc HB.out _).grown hg1 (below_alloc HB.out _).size (fun k hk => (Kd.R_bound HO.out).1 k hk |>.2.1)); have HO2 := Aside0.mk HO1; clear HO1 hg1 hat))
          go_roundg (gk - 1)
          case measure => omega
          case rel => exact ⟨k + 1, m + 1, A2, c2, by go_num, rfl, by omega, by omega, by omega, HO2, HB1, ⟨by rw [HQ.out, List.length_append, ← HM.out]; rfl⟩⟩
    · have hd : decide (k < n) = false := decide_eq_false (by omega)
      obtain rfl : k = n := by omega
      go_wp2
      go_ret
      exact ⟨A1, c1, by rw [← HM.out]; rfl, HB.out, by have := (Kd.R_reads' HO.out).2.2; rwa [show (natsI (ups4 rows a b k)).length = (ups4 rows a b k).length by simp [natsI]] at this⟩
set_option maxRecDepth 100000 in
set_option maxHeartbeats 4000000 in
theorem under4_calls (w : World) (A : Option Addr) (c n : Nat) (rows : List Int) (a b : Nat) (hn : n = rows.length) (h64 : n ≤ 64) (hr : (Kd.int .u64).C w A n rows) :
    Calls Tryz.prog 119 #[.slice A n c, .int .u64 (a : Int), .int .u64 (b : Int)] w fun e w' => ∃ A1 c1, e = .returned (.slice A1 (uns4 rows a b n).length c1) ∧ Below w.heap.size w w' ∧ (Kd.int .u64).C w' A1 (uns4 rows a b n).length (natsI (uns4 rows a b n)) := by
  have hw : IntKind.u64.wrap (n : Int) = (n : Int) := wrap_u64 _ (by omega) (by omega)
  have HR := Aside0.mk hr
  have HN := Aside0.mk hn
  clear hr hn
  go_enter Tryz.func119, Tryz.ntmps119
  go_wp2
  go_loopg [7, 8] (n + 1) (fun gk l i W => ∃ (k m : Nat) (A1 : Option Addr) (c1 : Nat), i = .int .u64 (k : Int) ∧ l = .slice A1 m c1 ∧ k ≤ n ∧ n + 1 - k ≤ gk ∧ m ≤ k ∧ Aside0 ((Kd.int .u64).R 91 W w.heap.size (fun _ => True) (.slice A1 m c1) (natsI (uns4 rows a b k))) ∧ Aside0 (Below w.heap.size w W) ∧ Aside0 (m = (uns4 rows a b k).length))
  case atStart => exact ⟨0, 0, none, 0, rfl, rfl, by omega, by omega, by omega, ⟨Kd.R_nil _ _ _ _ _⟩, ⟨Below.refl _ _⟩, ⟨rfl⟩⟩
  case round =>
    obtain ⟨k, m, A1, c1, rfl, rfl, hk, hkg, hmk, HO, HB, HM⟩ := hrel
    rcases Nat.lt_or_ge k n with hlt | hge
    · have hd : decide (k < n) = true := decide_eq_true hlt
      have hsum : IntKind.u64.wrap ((k : Int) + 1) = (k : Int) + 1 := wrap_u64 _ (by omega) (by omega)
      have P : ∀ x y : Nat, Calls Tryz.prog 115 #[.slice A n c, .int .u64 (x : Int), .int .u64 (y : Int)] wr fun e w' => e = .returned (.bool (le4 rows x y)) ∧ wr = w' := fun x y => below4_calls wr A c n rows x y HN.out (by omega) (Kd.C_below HR.out HB.out)
      have HP1 := Aside0.mk (P k a)
      have HP2 := Aside0.mk (P k b)
      clear P
      have HS : Aside0 (uns4 rows a b (k + 1) = uns4 rows a b k ++ if le4 rows k a && le4 rows k b then [k] else []) := ⟨filter_succ _ k⟩
      have hno : (le4 rows k a && le4 rows k b) = false → Aside0 (uns4 rows a b (k + 1) = uns4 rows a b k) := fun h => ⟨by rw [HS.out, h]; simp⟩
      have hyes : (le4 rows k a && le4 rows k b) = true → Aside0 (uns4 rows a b (k + 1) = uns4 rows a b k ++ [k]) := fun h => ⟨by rw [HS.out, h]; rfl⟩
      cases h1 : le4 rows k a with
      | false =>
        have HQ := hno (by rw [h1]; rfl)
        have H1 := Aside0.mk h1
        clear h1 hno hyes HS
        go_wp2_with (go_at_call 115; (with_reducible refine HP1.out.mono ?_); rintro e W1 ⟨rfl, rfl⟩; rw [H1.out])
        go_roundg (gk - 1)
        case measure => omega
        case rel => exact ⟨k + 1, m, A1, c1, by go_num, rfl, by omega, by omega, by omega, ⟨by rw [HQ.out]; exact HO.out⟩, HB, ⟨by rw [HQ.out]; exact HM.out⟩⟩
      | true =>
        have H1 := Aside0.mk h1
        cases h2 : le4 rows k b with
        | false =>
          have HQ := hno (by rw [h1, h2]; rfl)
          have H2 := Aside0.mk h2
          clear h1 h2 hno hyes HS
          go_wp2_with (go_at_call 115; first | ((with_reducible refine HP1.out.mono ?_); rintro e W1 ⟨rfl, rfl⟩; rw [H1.out]) | ((with_reducible refine HP2.out.mono ?_); rintro e W1 ⟨rfl, rfl⟩; rw [H2.out]))
          go_roundg (gk - 1)
          case measure => omega
          case rel => exact ⟨k + 1, m, A1, c1, by go_num, rfl, by omega, by omega, by omega, ⟨by rw [HQ.out]; exact HO.out⟩, HB, ⟨by rw [HQ.out]; exact HM.out⟩⟩
        | true =>
          have HQ := hyes (by rw [h1, h2]; rfl)
          have H2 := Aside0.mk h2
          have HL : Aside0 (natsI (uns4 rows a b k) ++ [(k : Int)] = natsI (uns4 rows a b (k + 1))) := ⟨by rw [HQ.out]; simp [natsI]⟩
          have HLN : Aside0 ((natsI (uns4 rows a b k)).length = m) := ⟨by rw [HM.out]; simp [natsI]⟩
          have HLN2 : Aside0 ((natsI (uns4 rows a b (k + 1))).length = m + 1) := ⟨by rw [HQ.out, HM.out]; simp [natsI]⟩
          clear h1 h2 hno hyes HS
          go_wp2_with (first
            | (go_at_call 115; first | ((with_reducible refine HP1.out.mono ?_); rintro e W1 ⟨rfl, rfl⟩; rw [H1.out]) | ((with_reducible refine HP2.out.mono ?_); rintro e W1 ⟨rfl, rfl⟩; rw [H2.out]))
            | (at_builtin; refine wpList_append_R rfl (Kd.int .u64) w.heap.size (.tmp 26) (.tmp 28) 26 26 91 91 (.int .u64 0) 8 rfl (by kernel_rfl) (by kernel_rfl) infoU rfl (by decide) (by decide) (.slice A1 m c1) (natsI (uns4 rows a b k)) [(k : Int)] (some ⟨wr.heap.size, 0, none⟩) 1 1 (fun _ => True) (fun _ => False) rfl rfl (Kd.R_below HO.out (below_alloc (Below.refl _ _) _)) (C_one_new .u64 wr (k : Int) 91) (fun x cs h => h) (fun _ h => h.elim) (fun _ _ => trivial) (below_alloc HB.out _).size (by rw [HLN.out]; omega) ?_; intro v1 w1 HO1 hg1 hat; rw [HL.out] at HO1; obtain ⟨A2, c2, rfl⟩ := Kd.R_slice HO1; rw [HLN2.out] at HO1 ⊢; have HB1 := Aside0.mk ((below_alloc HB.out _).grown hg1 (below_alloc HB.out _).size (fun k hk => (Kd.R_bound HO.out).1 k hk |>.2.1)); have HO2 := Aside0.mk HO1; clear HO1 hg1 hat))
          go_roundg (gk - 1)
          case measure => omega
          case rel => exact ⟨k + 1, m + 1, A2, c2, by go_num, rfl, by omega, by omega, by omega, HO2, HB1, ⟨by rw [HQ.out, List.length_append, ← HM.out]; rfl⟩⟩
    · have hd : decide (k < n) = false := decide_eq_false (by omega)
      obtain rfl : k = n := by omega
      go_wp2
      go_ret
      exact ⟨A1, c1, by rw [← HM.out]; rfl, HB.out, by have := (Kd.R_reads' HO.out).2.2; rwa [show (natsI (uns4 rows a b k)).length = (uns4 rows a b k).length by simp [natsI]] at this⟩
def least4 (rows : List Int) (l : List Nat) : Option Nat := l.find? fun x => l.all fun y => le4 rows x y
def great4 (rows : List Int) (l : List Nat) : Option Nat := l.find? fun x => l.all fun y => le4 rows y x
set_option maxRecDepth 100000 in
set_option maxHeartbeats 4000000 in
theorem least4_calls (w : World) (A : Option Addr) (c n : Nat) (rows : List Int) (B : Option Addr) (d m : Nat) (l : List Nat) (hn : n = rows.length) (hmax : n ≤ 64) (hm : m = l.length) (hmm : m ≤ 64) (hr : (Kd.int .u64).C w A n rows) (hl : (Kd.int .u64).C w B m (natsI l)) :
    Calls Tryz.prog 116 #[.slice A n c, .slice B m d] w fun e w' => e = .returned (.tuple #[.int .u64 (((least4 rows l).getD 0 : Nat) : Int), .bool (least4 rows l).isSome]) ∧ Below w.heap.size w w' := by
  have HR := Aside0.mk (And.intro hr hl)
  have HN := Aside0.mk (And.intro hn hm)
  clear hr hl hn hm
  go_enter Tryz.func116, Tryz.ntmps116
  go_wp2
  go_loopg [6] (m + 1) (fun gk i W => ∃ (k : Nat), i = .int .i64 (k : Int) ∧ k ≤ m ∧ m + 1 - k ≤ gk ∧ Aside0 (Below w.heap.size w W) ∧ Aside0 ((l.drop k).find? (fun x => l.all fun y => le4 rows x y) = least4 rows l))
  case atStart => exact ⟨0, rfl, by omega, by omega, ⟨Below.refl _ _⟩, ⟨rfl⟩⟩
  case round =>
    obtain ⟨k, rfl, hk, hkg, HB, HF⟩ := hrel
    rcases Nat.lt_or_ge k m with hlt | hge
    · have hd : decide (k < m) = true := decide_eq_true hlt
      have hkl : k < l.length := by rw [← HN.out.2]; exact hlt
      obtain ⟨x, hx⟩ : ∃ x, x = l[k] := ⟨_, rfl⟩
      have HX : Aside0 (l.drop k = x :: l.drop (k + 1)) := ⟨by rw [hx]; exact List.drop_eq_getElem_cons hkl⟩
      have HXE := Aside0.mk hx
      clear hx
      obtain ⟨g0, hg1, hg2⟩ : ∃ g0, g0 < gk ∧ m + 1 - (k + 1) ≤ g0 := ⟨gk - 1, by omega, by omega⟩
      go_wp2
      go_loopg [7, 8] (m + 1) (fun gk b i W => ∃ (j : Nat) (v : Bool), i = .int .i64 (j : Int) ∧ b = .bool v ∧ j ≤ m ∧ m + 1 - j ≤ gk ∧ Aside0 (Below w.heap.size w W) ∧ Aside0 (v = (l.take j).all fun y => le4 rows x y))
      case atStart => exact ⟨0, true, rfl, rfl, by omega, by omega, HB, ⟨rfl⟩⟩
      case round =>
        obtain ⟨j, v, rfl, rfl, hj, hjg, HB2, HV⟩ := hrel
        rcases Nat.lt_or_ge j m with hjlt | hjge
        · have hdj : decide (j < m) = true := decide_eq_true hjlt
          have hjl : j < l.length := by rw [← HN.out.2]; exact hjlt
          obtain ⟨y, hy⟩ : ∃ y, y = l[j] := ⟨_, rfl⟩
          have HT : Aside0 (∀ v', v' = (v && le4 rows x y) → v' = (l.take (j + 1)).all fun y => le4 rows x y) := ⟨fun v' h => by rw [h, HV.out, List.take_succ_eq_append_getElem hjl, List.all_append, ← hy]; simp⟩
          obtain ⟨bd, hae, q0⟩ := C_rd (Kd.C_below HR.out.2 HB2.out) k hlt
          subst hae
          obtain ⟨bd', hae, q1⟩ := C_rd (Kd.C_below HR.out.2 HB2.out) j hjlt
          cases hae
          have e0 : rd (natsI l) (k : Int) = (x : Int) := by rw [HXE.out]; simp [rd, natsI, List.getD_eq_getElem?_getD, hkl]
          have e1 : rd (natsI l) (j : Int) = (y : Int) := by rw [hy]; simp [rd, natsI, List.getD_eq_getElem?_getD, hjl]
          rw [e0] at q0
          rw [e1] at q1
          clear hy e0 e1
          have HP : Aside0 (∀ mm, Calls Tryz.prog 115 #[.slice A n c, .int .u64 (x : Int), .int .u64 (y : Int)] (wr.drewN mm) fun e w' => e = .returned (.bool (le4 rows x y)) ∧ ∃ m', w' = wr.drewN m') := ⟨fun mm => by
            refine (below4_calls _ A c n rows x y HN.out.1 (by omega) (Kd.C_below HR.out.1 (pw_below_drewN HB2.out mm))).mono ?_
            rintro e w' ⟨rfl, rfl⟩
            exact ⟨rfl, mm, rfl⟩⟩
          cases v with
          | false =>
            go_wp2
            go_quiet (fail)
            go_wp2
            go_roundg (gk - 1)
            case measure => omega
            case rel => exact ⟨j + 1, false, by go_num, rfl, by omega, by omega, ⟨pw_below_drewN HB2.out _⟩, ⟨HT.out _ rfl⟩⟩
          | true =>
            go_wp2
            go_quiet (with_reducible exact HP.out _)
            go_wp2
            go_roundg (gk - 1)
            case measure => omega
            case rel => exact ⟨j + 1, _, by go_num, rfl, by omega, by omega, ⟨pw_below_drewN HB2.out _⟩, ⟨HT.out _ (Bool.true_and _).symm⟩⟩
        · have hdj : decide (j < m) = false := decide_eq_false (by omega)
          have HV2 : Aside0 (v = l.all fun y => le4 rows x y) := ⟨by rw [HV.out, List.take_of_length_le (by have := HN.out.2; omega)]⟩
          have HF2 : Aside0 (least4 rows l = if v then some x else (l.drop (k + 1)).find? (fun x => l.all fun y => le4 rows x y)) := ⟨by
            rw [← HF.out, HX.out, List.find?_cons, ← HV2.out]
            cases v <;> rfl⟩
          clear HF HX HV
          cases v with
          | false =>
            go_wp2
            go_roundg g0
            case measure => omega
            case rel => exact ⟨k + 1, by go_num, by omega, by omega, HB2, ⟨HF2.out.symm⟩⟩
          | true =>
            obtain ⟨bd, hae, q0⟩ := C_rd (Kd.C_below HR.out.2 HB2.out) k hlt
            subst hae
            have e0 : rd (natsI l) (k : Int) = (x : Int) := by rw [HXE.out]; simp [rd, natsI, List.getD_eq_getElem?_getD, hkl]
            rw [e0] at q0
            clear e0
            go_wp2
            go_ret2
            rw [HF2.out]
            exact ⟨rfl, HB2.out⟩
    · have hd : decide (k < m) = false := decide_eq_false (by omega)
      have HE : Aside0 (least4 rows l = none) := ⟨by rw [← HF.out, List.drop_eq_nil_of_le (by have := HN.out.2; omega)]; rfl⟩
      go_wp2
      go_ret2
      rw [HE.out]
      exact ⟨rfl, HB.out⟩
set_option maxRecDepth 100000 in
set_option maxHeartbeats 4000000 in
theorem great4_calls (w : World) (A : Option Addr) (c n : Nat) (rows : List Int) (B : Option Addr) (d m : Nat) (l : List Nat) (hn : n = rows.length) (hmax : n ≤ 64) (hm : m = l.length) (hmm : m ≤ 64) (hr : (Kd.int .u64).C w A n rows) (hl : (Kd.int .u64).C w B m (natsI l)) :
    Calls Tryz.prog 118 #[.slice A n c, .slice B m d] w fun e w' => e = .returned (.tuple #[.int .u64 (((great4 rows l).getD 0 : Nat) : Int), .bool (great4 rows l).isSome]) ∧ Below w.heap.size w w' := by
  have HR := Aside0.mk (And.intro hr hl)
  have HN := Aside0.mk (And.intro hn hm)
  clear hr hl hn hm
  go_enter Tryz.func118, Tryz.ntmps118
  go_wp2
  go_loopg [6] (m + 1) (fun gk i W => ∃ (k : Nat), i = .int .i64 (k : Int) ∧ k ≤ m ∧ m + 1 - k ≤ gk ∧ Aside0 (Below w.heap.size w W) ∧ Aside0 ((l.drop k).find? (fun x => l.all fun y => le4 rows y x) = great4 rows l))
  case atStart => exact ⟨0, rfl, by omega, by omega, ⟨Below.refl _ _⟩, ⟨rfl⟩⟩
  case round =>
    obtain ⟨k, rfl, hk, hkg, HB, HF⟩ := hrel
    rcases Nat.lt_or_ge k m with hlt | hge
    · have hd : decide (k < m) = true := decide_eq_true hlt
      have hkl : k < l.length := by rw [← HN.out.2]; exact hlt
      obtain ⟨x, hx⟩ : ∃ x, x = l[k] := ⟨_, rfl⟩
      have HX : Aside0 (l.drop k = x :: l.drop (k + 1)) := ⟨by rw [hx]; exact List.drop_eq_getElem_cons hkl⟩
      have HXE := Aside0.mk hx
      clear hx
      obtain ⟨g0, hg1, hg2⟩ : ∃ g0, g0 < gk ∧ m + 1 - (k + 1) ≤ g0 := ⟨gk - 1, by omega, by omega⟩
      go_wp2
      go_loopg [7, 8] (m + 1) (fun gk b i W => ∃ (j : Nat) (v : Bool), i = .int .i64 (j : Int) ∧ b = .bool v ∧ j ≤ m ∧ m + 1 - j ≤ gk ∧ Aside0 (Below w.heap.size w W) ∧ Aside0 (v = (l.take j).all fun y => le4 rows y x))
      case atStart => exact ⟨0, true, rfl, rfl, by omega, by omega, HB, ⟨rfl⟩⟩
      case round =>
        obtain ⟨j, v, rfl, rfl, hj, hjg, HB2, HV⟩ := hrel
        rcases Nat.lt_or_ge j m with hjlt | hjge
        · have hdj : decide (j < m) = true := decide_eq_true hjlt
          have hjl : j < l.length := by rw [← HN.out.2]; exact hjlt
          obtain ⟨y, hy⟩ : ∃ y, y = l[j] := ⟨_, rfl⟩
          have HT : Aside0 (∀ v', v' = (v && le4 rows y x) → v' = (l.take (j + 1)).all fun y => le4 rows y x) := ⟨fun v' h => by rw [h, HV.out, List.take_succ_eq_append_getElem hjl, List.all_append, ← hy]; simp⟩
          obtain ⟨bd, hae, q0⟩ := C_rd (Kd.C_below HR.out.2 HB2.out) k hlt
          subst hae
          obtain ⟨bd', hae, q1⟩ := C_rd (Kd.C_below HR.out.2 HB2.out) j hjlt
          cases hae
          have e0 : rd (natsI l) (k : Int) = (x : Int) := by rw [HXE.out]; simp [rd, natsI, List.getD_eq_getElem?_getD, hkl]
          have e1 : rd (natsI l) (j : Int) = (y : Int) := by rw [hy]; simp [rd, natsI, List.getD_eq_getElem?_getD, hjl]
          rw [e0] at q0
          rw [e1] at q1
          clear hy e0 e1
          have HP : Aside0 (∀ mm, Calls Tryz.prog 115 #[.slice A n c, .int .u64 (y : Int), .int .u64 (x : Int)] (wr.drewN mm) fun e w' => e = .returned (.bool (le4 rows y x)) ∧ ∃ m', w' = wr.drewN m') := ⟨fun mm => by
            refine (below4_calls _ A c n rows y x HN.out.1 (by omega) (Kd.C_below HR.out.1 (pw_below_drewN HB2.out mm))).mono ?_
            rintro e w' ⟨rfl, rfl⟩
            exact ⟨rfl, mm, rfl⟩⟩
          cases v with
          | false =>
            go_wp2
            go_quiet (fail)
            go_wp2
            go_roundg (gk - 1)
            case measure => omega
            case rel => exact ⟨j + 1, false, by go_num, rfl, by omega, by omega, ⟨pw_below_drewN HB2.out _⟩, ⟨HT.out _ rfl⟩⟩
          | true =>
            go_wp2
            go_quiet (with_reducible exact HP.out _)
            go_wp2
            go_roundg (gk - 1)
            case measure => omega
            case rel => exact ⟨j + 1, _, by go_num, rfl, by omega, by omega, ⟨pw_below_drewN HB2.out _⟩, ⟨HT.out _ (Bool.true_and _).symm⟩⟩
        · have hdj : decide (j < m) = false := decide_eq_false (by omega)
          have HV2 : Aside0 (v = l.all fun y => le4 rows y x) := ⟨by rw [HV.out, List.take_of_length_le (by have := HN.out.2; omega)]⟩
          have HF2 : Aside0 (great4 rows l = if v then some x else (l.drop (k + 1)).find? (fun x => l.all fun y => le4 rows y x)) := ⟨by
            rw [← HF.out, HX.out, List.find?_cons, ← HV2.out]
            cases v <;> rfl⟩
          clear HF HX HV
          cases v with
          | false =>
            go_wp2
            go_roundg g0
            case measure => omega
            case rel => exact ⟨k + 1, by go_num, by omega, by omega, HB2, ⟨HF2.out.symm⟩⟩
          | true =>
            obtain ⟨bd, hae, q0⟩ := C_rd (Kd.C_below HR.out.2 HB2.out) k hlt
            subst hae
            have e0 : rd (natsI l) (k : Int) = (x : Int) := by rw [HXE.out]; simp [rd, natsI, List.getD_eq_getElem?_getD, hkl]
            rw [e0] at q0
            clear e0
            go_wp2
            go_ret2
            rw [HF2.out]
            exact ⟨rfl, HB2.out⟩
    · have hd : decide (k < m) = false := decide_eq_false (by omega)
      have HE : Aside0 (great4 rows l = none) := ⟨by rw [← HF.out, List.drop_eq_nil_of_le (by have := HN.out.2; omega)]; rfl⟩
      go_wp2
      go_ret2
      rw [HE.out]
      exact ⟨rfl, HB.out⟩
end Ref04
end Go.Proofs.YtdecijmncpbheaaGreatDoor

namespace Go.Proofs.YtdecijmncpbheaaGreatDoor
open Go.RowKit Go.Proofs.YtdecijmncpbheaaGreatDoorW.PrintWords Go.Proofs.YtdecijmncpbheaaGreatDoorW.PrintLast Go.Proofs.YtdecijmncpbheaaGreatDoorW.PrintMore
set_option linter.unusedVariables false
set_option linter.unusedSimpArgs false
namespace Ref04
def AnsZ (p : Prop) (e : Ending) : Prop := ∃ z : Int, e = .returned (.int .i64 z) ∧ (z = 0 ↔ p)
theorem AnsZ.no {p : Prop} {z : Int} (h : ¬ p) (hz : z ≠ 0) : AnsZ p (.returned (.int .i64 z)) := ⟨z, rfl, fun e => absurd e hz, fun e => absurd e h⟩
theorem AnsZ.yes {p : Prop} (h : p) : AnsZ p (.returned (.int .i64 0)) := ⟨0, rfl, fun _ => h, fun _ => rfl⟩
theorem le4_eq {rows : List Int} {a b : Nat} (ha : a < 64) (hb : b < 64) : le4 rows a b = leB rows a b := by rw [le4, decide_eq_true ha, decide_eq_true hb]; rfl
theorem le4_leB {rows : List Int} (h64 : rows.length ≤ 64) (a b : Nat) : le4 rows a b = leB rows a b := by
  by_cases ha : a < rows.length
  · by_cases hb : b < rows.length
    · exact le4_eq (by omega) (by omega)
    · have e : leB rows a b = false := by rw [leB, decide_eq_false hb]; simp
      rw [le4, e]; simp
  · have e : leB rows a b = false := by rw [leB, decide_eq_false ha]; simp
    rw [le4, e]; simp
theorem ups_iff {rows : List Int} (hU : U64s rows) (h64 : rows.length ≤ 64) (i j : Nat) : (least4 rows (ups4 rows i j rows.length)).isSome = true ↔ upOk rows i j := by
  rw [least4, List.find?_isSome]
  have hm : ∀ x, x ∈ ups4 rows i j rows.length ↔ leB rows i x = true ∧ leB rows j x = true := fun x => by
    rw [ups4, List.mem_filter, List.mem_range, le4_leB h64, le4_leB h64, Bool.and_eq_true]
    exact ⟨fun h => h.2, fun h => ⟨((leB_iff hU i x).1 h.1).2.1, h⟩⟩
  constructor
  · rintro ⟨x, hx, h⟩
    rw [List.all_eq_true] at h
    exact ⟨x, (hm x).1 hx, fun y h1 h2 => by rw [← le4_leB h64]; exact h y ((hm y).2 ⟨h1, h2⟩)⟩
  · rintro ⟨x, hx, h⟩
    refine ⟨x, (hm x).2 hx, ?_⟩
    rw [List.all_eq_true]
    intro y hy
    rw [le4_leB h64]
    exact h y ((hm y).1 hy).1 ((hm y).1 hy).2
theorem uns_iff {rows : List Int} (hU : U64s rows) (h64 : rows.length ≤ 64) (i j : Nat) : (great4 rows (uns4 rows i j rows.length)).isSome = true ↔ dnOk rows i j := by
  rw [great4, List.find?_isSome]
  have hm : ∀ x, x ∈ uns4 rows i j rows.length ↔ leB rows x i = true ∧ leB rows x j = true := fun x => by
    rw [uns4, List.mem_filter, List.mem_range, le4_leB h64, le4_leB h64, Bool.and_eq_true]
    exact ⟨fun h => h.2, fun h => ⟨((leB_iff hU x i).1 h.1).1, h⟩⟩
  constructor
  · rintro ⟨x, hx, h⟩
    rw [List.all_eq_true] at h
    exact ⟨x, (hm x).1 hx, fun y h1 h2 => by rw [← le4_leB h64]; exact h y ((hm y).2 ⟨h1, h2⟩)⟩
  · rintro ⟨x, hx, h⟩
    refine ⟨x, (hm x).2 hx, ?_⟩
    rw [List.all_eq_true]
    intro y hy
    rw [le4_leB h64]
    exact h y ((hm y).1 hy).1 ((hm y).1 hy).2
theorem shr_small (r : Int) (n : Nat) (h0 : 0 ≤ r) : ((r / 2 ^ n != 0) = false ↔ r < 2 ^ n) := by
  have hp : (0 : Int) < 2 ^ n := by exact_mod_cast Nat.two_pow_pos n
  constructor
  · intro h
    have h1 : r / 2 ^ n = 0 := by simpa using h
    have := Int.emod_add_mul_ediv r (2 ^ n)
    rw [h1] at this
    have := Int.emod_lt_of_pos r hp
    omega
  · intro h
    simp [Int.ediv_eq_zero_of_lt h0 h]
structure Upto (rows : List Int) (n k : Nat) : Prop where
  refl : ∀ i, i < k → leB rows i i = true
  anti : ∀ i, i < k → ∀ j, j < n → i ≠ j → leB rows i j = true → leB rows j i = false
  trans : ∀ i, i < k → ∀ j, j < n → ∀ l, l < n → leB rows i j = true → leB rows j l = true → leB rows i l = true
set_option maxRecDepth 200000 in
set_option maxHeartbeats 16000000 in
theorem check4_calls (w : World) (A : Option Addr) (c n : Nat) (rows : List Int) (hn : n = rows.length) (hmax : n ≤ 9223372036854775807) (hr : (Kd.int .u64).C w A n rows) (hU : U64s rows) :
    Calls Tryz.prog 46 #[.slice A n c] w fun e w' => AnsZ (RefOk rows) e ∧ Below w.heap.size w w' := by
  have HR := Aside0.mk hr
  have HU := Aside0.mk hU
  have HN := Aside0.mk hn
  have hw : IntKind.u64.wrap (n : Int) = (n : Int) := wrap_u64 _ (by omega) (by omega)
  clear hr hU hn
  go_enter Tryz.func46, Tryz.ntmps46
  rcases Nat.lt_or_ge n 1 with h1 | h1
  · have hd1 : decide ((n : Int) < 1) = true := decide_eq_true (by omega)
    have HE : Aside0 (¬ RefOk rows) := ⟨fun h => by have := h.n1; have := HN.out; omega⟩
    go_wp2
    go_ret
    exact ⟨AnsZ.no HE.out (by decide), Below.refl _ _⟩
  have hd1 : decide ((n : Int) < 1) = false := decide_eq_false (by omega)
  rcases Nat.lt_or_ge 64 n with h2 | h64
  · have hd2 : decide ((64 : Int) < n) = true := decide_eq_true (by omega)
    have HE : Aside0 (¬ RefOk rows) := ⟨fun h => by have := h.n64; have := HN.out; omega⟩
    go_wp2
    go_ret
    exact ⟨AnsZ.no HE.out (by decide), Below.refl _ _⟩
  have hd2 : decide ((64 : Int) < n) = false := decide_eq_false (by omega)
  go_wp2
  go_loopg [4] (n + 1) (fun g i W => ∃ k : Nat, i = .int .i64 (k : Int) ∧ W = w ∧ k ≤ n ∧ n + 1 - k ≤ g ∧ Aside0 (∀ i, i < k → rd rows (i : Int) < 2 ^ n))
  case atStart => exact ⟨0, rfl, rfl, by omega, by omega, ⟨fun i hi => by omega⟩⟩
  case round =>
    obtain ⟨k, rfl, hW, hk, hkg, HK⟩ := hrel
    have hW2 := hW.symm; clear hW; subst hW2
    rcases Nat.lt_or_ge k n with hlt | hge
    · have hd : decide (k < n) = true := decide_eq_true hlt
      have hnext : rd rows (k : Int) < 2 ^ n → Aside0 (∀ i, i < k + 1 → rd rows (i : Int) < 2 ^ n) := fun h => ⟨fun i hi => by
        rcases Nat.lt_or_ge i k with g | g
        · exact HK.out i g
        · obtain rfl : i = k := by omega
          exact h⟩
      rcases Nat.lt_or_ge n 64 with h63 | h63
      · have hd3 : decide ((n : Int) < 64) = true := decide_eq_true (by omega)
        obtain ⟨ad, hae, c0⟩ := C_rd HR.out k hlt
        subst hae
        obtain ⟨r, hrr⟩ : ∃ r, r = rd rows (k : Int) := ⟨_, rfl⟩
        have hr0 : 0 ≤ r := by rw [hrr]; exact (HU.out _ (rd_mem k (by rw [← HN.out]; exact hlt))).1
        rw [← hrr] at c0 hnext
        have HRR := Aside0.mk hrr
        clear hrr
        cases e5 : (r / 2 ^ n != 0) with
        | true =>
          have HE : Aside0 (¬ RefOk rows) := ⟨fun h => by
            have := h.small k (by rw [← HN.out]; exact hlt)
            rw [← HRR.out, ← HN.out] at this
            rw [(shr_small r n hr0).2 this] at e5
            cases e5⟩
          clear hnext
          go_wp2
          go_ret
          exact ⟨AnsZ.no HE.out (by decide), Below.refl _ _⟩
        | false =>
          have HK2 := hnext ((shr_small r n hr0).1 e5)
          clear hnext
          go_wp2
          go_roundg (gk - 1)
          case measure => omega
          case rel => exact ⟨k + 1, by go_num, rfl, by omega, by omega, HK2⟩
      · have hd3 : decide ((n : Int) < 64) = false := decide_eq_false (by omega)
        have HK2 := hnext (by obtain rfl : n = 64 := (by omega); exact (HU.out _ (rd_mem k (by rw [← HN.out]; exact hlt))).2)
        clear hnext
        go_wp2
        go_roundg (gk - 1)
        case measure => omega
        case rel => exact ⟨k + 1, by go_num, rfl, by omega, by omega, HK2⟩
    · have hd : decide (k < n) = false := decide_eq_false (by omega)
      obtain rfl : k = n := by omega
      have HBW : Aside0 (∀ W, Below w.heap.size w W → ∀ x y : Nat, Calls Tryz.prog 115 #[.slice A k c, .int .u64 (x : Int), .int .u64 (y : Int)] W fun e w' => e = .returned (.bool (leB rows x y)) ∧ W = w') := ⟨fun W hb x y => by
        rw [← le4_leB (by rw [← HN.out]; exact h64)]
        exact below4_calls W A c k rows x y HN.out (by omega) (Kd.C_below HR.out hb)⟩
      clear hd1 hd2 hk hkg hge
      go_wp2
      go_loopg [5] (k + 1) (fun g i W => ∃ i0 : Nat, i = .int .u64 (i0 : Int) ∧ W = w ∧ i0 ≤ k ∧ k + 1 - i0 ≤ g ∧ Aside0 (Upto rows k i0))
      case atStart => exact ⟨0, rfl, rfl, by omega, by omega, ⟨⟨fun i hi => by omega, fun i hi => by omega, fun i hi => by omega⟩⟩⟩
      case round =>
        obtain ⟨i, rfl, hW, hi, hig, HUP⟩ := hrel
        have hW2 := hW.symm; clear hW; subst hW2
        rcases Nat.lt_or_ge i k with hil | hige
        · have hdi : decide (i < k) = true := decide_eq_true hil
          have hsum : IntKind.u64.wrap ((i : Int) + 1) = (i : Int) + 1 := wrap_u64 _ (by omega) (by omega)
          have HII := Aside0.mk (HBW.out _ (Below.refl _ _) i i)
          cases ei : leB rows i i with
          | false =>
            have HE : Aside0 (¬ RefOk rows) := ⟨fun h => by rw [h.refl i (by rw [← HN.out]; exact hil)] at ei; cases ei⟩
            have EI := Aside0.mk ei
            clear ei
            go_wp2_with (go_at_call 115; (with_reducible refine HII.out.mono ?_); rintro e W1 ⟨rfl, rfl⟩; rw [EI.out])
            go_ret
            exact ⟨AnsZ.no HE.out (by decide), Below.refl _ _⟩
          | true =>
            have EI := Aside0.mk ei
            clear ei
            obtain ⟨g0, hg1, hg2⟩ : ∃ g0, g0 < gk ∧ k + 1 - (i + 1) ≤ g0 := ⟨gk - 1, by omega, by omega⟩
            go_wp2_with (go_at_call 115; (with_reducible refine HII.out.mono ?_); rintro e W1 ⟨rfl, rfl⟩; rw [EI.out])
            go_loopg [6] (k + 1) (fun g i9 W => ∃ j : Nat, i9 = .int .u64 (j : Int) ∧ W = w ∧ j ≤ k ∧ k + 1 - j ≤ g ∧ Aside0 ((∀ j', j' < j → i ≠ j' → leB rows i j' = true → leB rows j' i = false) ∧ ∀ j', j' < j → ∀ l, l < k → leB rows i j' = true → leB rows j' l = true → leB rows i l = true))
            case atStart => exact ⟨0, rfl, rfl, by omega, by omega, ⟨⟨fun i hi => by omega, fun i hi => by omega⟩⟩⟩
            case round =>
              obtain ⟨j, rfl, hW, hj, hjg, HJ⟩ := hrel
              have hW2 := hW.symm; clear hW; subst hW2
              rcases Nat.lt_or_ge j k with hjl | hjge
              · have hdj : decide (j < k) = true := decide_eq_true hjl
                have hsumj : IntKind.u64.wrap ((j : Int) + 1) = (j : Int) + 1 := wrap_u64 _ (by omega) (by omega)
                have HIJ := Aside0.mk (HBW.out _ (Below.refl _ _) i j)
                have HJI := Aside0.mk (HBW.out _ (Below.refl _ _) j i)
                obtain ⟨g1, hg3, hg4⟩ : ∃ g1, g1 < gk ∧ k + 1 - (j + 1) ≤ g1 := ⟨gk - 1, by omega, by omega⟩
                have hcase : ∃ q : Bool, q = (decide (i ≠ j) && (leB rows i j && leB rows j i)) := ⟨_, rfl⟩
                obtain ⟨q, hq⟩ := hcase
                cases q with
                | true =>
                  have hq2 := hq.symm
                  simp only [Bool.and_eq_true, decide_eq_true_eq] at hq2
                  have HE : Aside0 (¬ RefOk rows) := ⟨fun h => by
                    have := h.anti i j (by rw [← HN.out]; exact hil) (by rw [← HN.out]; exact hjl) hq2.1 hq2.2.1
                    rw [hq2.2.2] at this
                    cases this⟩
                  have e1 : ((i : Int) != (j : Int)) = true := by have := hq2.1; simp; omega
                  have E1 := Aside0.mk hq2.2.1
                  have E2 := Aside0.mk hq2.2.2
                  clear hq hq2
                  go_wp2_with (go_at_call 115; first | ((with_reducible refine HIJ.out.mono ?_); rintro e W1 ⟨rfl, rfl⟩; rw [E1.out]) | ((with_reducible refine HJI.out.mono ?_); rintro e W1 ⟨rfl, rfl⟩; rw [E2.out]))
                  go_ret
                  exact ⟨AnsZ.no HE.out (by decide), Below.refl _ _⟩
                | false =>
                  have HQ : Aside0 (i ≠ j → leB rows i j = true → leB rows j i = false) := ⟨fun h1 h2 => by
                    rw [decide_eq_true h1, h2] at hq
                    simpa using hq.symm⟩
                  clear hq
                  have hthree : (((i : Int) != (j : Int)) = false ∧ True) ∨ (((i : Int) != (j : Int)) = true ∧ leB rows i j = false) ∨ (((i : Int) != (j : Int)) = true ∧ leB rows i j = true ∧ leB rows j i = false) := by
                    by_cases hij : i = j
                    · left; subst hij; simp
                    · right
                      have e1 : ((i : Int) != (j : Int)) = true := by simp; omega
                      cases h : leB rows i j with
                      | false => left; exact ⟨e1, rfl⟩
                      | true => right; exact ⟨e1, rfl, HQ.out hij h⟩
                  have E1 : Aside0 (((i : Int) != (j : Int)) = true → True) := ⟨fun _ => trivial⟩
                  rcases hthree with ⟨e1, -⟩ | ⟨e1, e2⟩ | ⟨e1, e2, e3⟩
                  · go_wp2
                    go_loopg [7] (k + 1) (fun g i9 W => ∃ l : Nat, i9 = .int .u64 (l : Int) ∧ W = w ∧ l ≤ k ∧ k + 1 - l ≤ g ∧ Aside0 (∀ l', l' < l → leB rows i j = true → leB rows j l' = true → leB rows i l' = true))
                    case atStart => exact ⟨0, rfl, rfl, by omega, by omega, ⟨fun i hi => by omega⟩⟩
                    case round =>
                      obtain ⟨l, rfl, hW, hl, hlg, HLL⟩ := hrel
                      have hW2 := hW.symm; clear hW; subst hW2
                      rcases Nat.lt_or_ge l k with hll | hlge
                      · have hdl : decide (l < k) = true := decide_eq_true hll
                        have hsuml : IntKind.u64.wrap ((l : Int) + 1) = (l : Int) + 1 := wrap_u64 _ (by omega) (by omega)
                        have HJL := Aside0.mk (HBW.out _ (Below.refl _ _) j l)
                        have HIL := Aside0.mk (HBW.out _ (Below.refl _ _) i l)
                        have hnext : (leB rows i j = true → leB rows j l = true → leB rows i l = true) → Aside0 (∀ l', l' < l + 1 → leB rows i j = true → leB rows j l' = true → leB rows i l' = true) := fun h => ⟨fun l' hl' => by
                          rcases Nat.lt_or_ge l' l with g | g
                          · exact HLL.out l' g
                          · obtain rfl : l' = l := by omega
                            exact h⟩
                        have hout : leB rows i j = true → leB rows j l = true → leB rows i l = false → Aside0 (¬ RefOk rows) := fun h1 h2 h3 => ⟨fun h => by rw [h.trans i j l h1 h2] at h3; cases h3⟩
                        clear e1
                        have h4 : leB rows i j = false ∨ (leB rows i j = true ∧ leB rows j l = false) ∨ (leB rows i j = true ∧ leB rows j l = true ∧ leB rows i l = false) ∨ (leB rows i j = true ∧ leB rows j l = true ∧ leB rows i l = true) := by
                          cases leB rows i j <;> cases leB rows j l <;> cases leB rows i l <;> simp
                        rcases h4 with x1 | ⟨x1, x2⟩ | ⟨x1, x2, x3⟩ | ⟨x1, x2, x3⟩
                        · have HX := hnext (fun h => by rw [x1] at h; cases h)
                          have X1 := Aside0.mk x1
                          clear x1 hnext hout
                          go_wp2_with (go_at_call 115; first | ((with_reducible refine HIJ.out.mono ?_); rintro e W1 ⟨rfl, rfl⟩; rw [X1.out]))
                          go_roundg (gk - 1)
                          case measure => omega
                          case rel => exact ⟨l + 1, by go_num, rfl, by omega, by omega, HX⟩
                        · have HX := hnext (fun _ h => by rw [x2] at h; cases h)
                          have X1 := Aside0.mk x1
                          have X2 := Aside0.mk x2
                          clear x1 x2 hnext hout
                          go_wp2_with (go_at_call 115; first | ((with_reducible refine HIJ.out.mono ?_); rintro e W1 ⟨rfl, rfl⟩; rw [X1.out]) | ((with_reducible refine HJL.out.mono ?_); rintro e W1 ⟨rfl, rfl⟩; rw [X2.out]))
                          go_roundg (gk - 1)
                          case measure => omega
                          case rel => exact ⟨l + 1, by go_num, rfl, by omega, by omega, HX⟩
                        · have HX := hout x1 x2 x3
                          have X1 := Aside0.mk x1
                          have X2 := Aside0.mk x2
                          have X3 := Aside0.mk x3
                          clear x1 x2 x3 hnext hout
                          go_wp2_with (go_at_call 115; first | ((with_reducible refine HIJ.out.mono ?_); rintro e W1 ⟨rfl, rfl⟩; rw [X1.out]) | ((with_reducible refine HJL.out.mono ?_); rintro e W1 ⟨rfl, rfl⟩; rw [X2.out]) | ((with_reducible refine HIL.out.mono ?_); rintro e W1 ⟨rfl, rfl⟩; rw [X3.out]))
                          go_ret
                          exact ⟨AnsZ.no HX.out (by decide), Below.refl _ _⟩
                        · have HX := hnext (fun _ _ => x3)
                          have X1 := Aside0.mk x1
                          have X2 := Aside0.mk x2
                          have X3 := Aside0.mk x3
                          clear x1 x2 x3 hnext hout
                          go_wp2_with (go_at_call 115; first | ((with_reducible refine HIJ.out.mono ?_); rintro e W1 ⟨rfl, rfl⟩; rw [X1.out]) | ((with_reducible refine HJL.out.mono ?_); rintro e W1 ⟨rfl, rfl⟩; rw [X2.out]) | ((with_reducible refine HIL.out.mono ?_); rintro e W1 ⟨rfl, rfl⟩; rw [X3.out]))
                          go_roundg (gk - 1)
                          case measure => omega
                          case rel => exact ⟨l + 1, by go_num, rfl, by omega, by omega, HX⟩
                      · have hdl : decide (l < k) = false := decide_eq_false (by omega)
                        obtain rfl : l = k := by omega
                        have HX : Aside0 ((∀ j', j' < j + 1 → i ≠ j' → leB rows i j' = true → leB rows j' i = false) ∧ ∀ j', j' < j + 1 → ∀ l', l' < l → leB rows i j' = true → leB rows j' l' = true → leB rows i l' = true) := ⟨by
                          have hJ := HJ.out
                          have hQ := HQ.out
                          have hL := HLL.out
                          constructor
                          · intro j' hj'
                            rcases Nat.lt_or_ge j' j with g | g
                            · exact hJ.1 j' g
                            · obtain rfl : j' = j := by omega
                              exact hQ
                          · intro j' hj' l' hl' a1 a2
                            rcases Nat.lt_or_ge j' j with g | g
                            · exact hJ.2 j' g l' hl' a1 a2
                            · obtain rfl : j' = j := by omega
                              exact hL l' hl' a1 a2⟩
                        clear e1 HJ HQ HLL
                        go_wp2
                        go_roundg g1
                        case measure => omega
                        case rel => exact ⟨j + 1, by go_num, rfl, by omega, by omega, HX⟩
                  · have E2 := Aside0.mk e2
                    clear e2
                    go_wp2_with (go_at_call 115; (with_reducible refine HIJ.out.mono ?_); rintro e W1 ⟨rfl, rfl⟩; rw [E2.out])
                    go_loopg [7] (k + 1) (fun g i9 W => ∃ l : Nat, i9 = .int .u64 (l : Int) ∧ W = w ∧ l ≤ k ∧ k + 1 - l ≤ g ∧ Aside0 (∀ l', l' < l → leB rows i j = true → leB rows j l' = true → leB rows i l' = true))
                    case atStart => exact ⟨0, rfl, rfl, by omega, by omega, ⟨fun i hi => by omega⟩⟩
                    case round =>
                      obtain ⟨l, rfl, hW, hl, hlg, HLL⟩ := hrel
                      have hW2 := hW.symm; clear hW; subst hW2
                      rcases Nat.lt_or_ge l k with hll | hlge
                      · have hdl : decide (l < k) = true := decide_eq_true hll
                        have hsuml : IntKind.u64.wrap ((l : Int) + 1) = (l : Int) + 1 := wrap_u64 _ (by omega) (by omega)
                        have HJL := Aside0.mk (HBW.out _ (Below.refl _ _) j l)
                        have HIL := Aside0.mk (HBW.out _ (Below.refl _ _) i l)
                        have hnext : (leB rows i j = true → leB rows j l = true → leB rows i l = true) → Aside0 (∀ l', l' < l + 1 → leB rows i j = true → leB rows j l' = true → leB rows i l' = true) := fun h => ⟨fun l' hl' => by
                          rcases Nat.lt_or_ge l' l with g | g
                          · exact HLL.out l' g
                          · obtain rfl : l' = l := by omega
                            exact h⟩
                        have hout : leB rows i j = true → leB rows j l = true → leB rows i l = false → Aside0 (¬ RefOk rows) := fun h1 h2 h3 => ⟨fun h => by rw [h.trans i j l h1 h2] at h3; cases h3⟩
                        clear e1
                        have h4 : leB rows i j = false ∨ (leB rows i j = true ∧ leB rows j l = false) ∨ (leB rows i j = true ∧ leB rows j l = true ∧ leB rows i l = false) ∨ (leB rows i j = true ∧ leB rows j l = true ∧ leB rows i l = true) := by
                          cases leB rows i j <;> cases leB rows j l <;> cases leB rows i l <;> simp
                        rcases h4 with x1 | ⟨x1, x2⟩ | ⟨x1, x2, x3⟩ | ⟨x1, x2, x3⟩
                        · have HX := hnext (fun h => by rw [x1] at h; cases h)
                          have X1 := Aside0.mk x1
                          clear x1 hnext hout
                          go_wp2_with (go_at_call 115; first | ((with_reducible refine HIJ.out.mono ?_); rintro e W1 ⟨rfl, rfl⟩; rw [X1.out]))
                          go_roundg (gk - 1)
                          case measure => omega
                          case rel => exact ⟨l + 1, by go_num, rfl, by omega, by omega, HX⟩
                        · have HX := hnext (fun _ h => by rw [x2] at h; cases h)
                          have X1 := Aside0.mk x1
                          have X2 := Aside0.mk x2
                          clear x1 x2 hnext hout
                          go_wp2_with (go_at_call 115; first | ((with_reducible refine HIJ.out.mono ?_); rintro e W1 ⟨rfl, rfl⟩; rw [X1.out]) | ((with_reducible refine HJL.out.mono ?_); rintro e W1 ⟨rfl, rfl⟩; rw [X2.out]))
                          go_roundg (gk - 1)
                          case measure => omega
                          case rel => exact ⟨l + 1, by go_num, rfl, by omega, by omega, HX⟩
                        · have HX := hout x1 x2 x3
                          have X1 := Aside0.mk x1
                          have X2 := Aside0.mk x2
                          have X3 := Aside0.mk x3
                          clear x1 x2 x3 hnext hout
                          go_wp2_with (go_at_call 115; first | ((with_reducible refine HIJ.out.mono ?_); rintro e W1 ⟨rfl, rfl⟩; rw [X1.out]) | ((with_reducible refine HJL.out.mono ?_); rintro e W1 ⟨rfl, rfl⟩; rw [X2.out]) | ((with_reducible refine HIL.out.mono ?_); rintro e W1 ⟨rfl, rfl⟩; rw [X3.out]))
                          go_ret
                          exact ⟨AnsZ.no HX.out (by decide), Below.refl _ _⟩
                        · have HX := hnext (fun _ _ => x3)
                          have X1 := Aside0.mk x1
                          have X2 := Aside0.mk x2
                          have X3 := Aside0.mk x3
                          clear x1 x2 x3 hnext hout
                          go_wp2_with (go_at_call 115; first | ((with_reducible refine HIJ.out.mono ?_); rintro e W1 ⟨rfl, rfl⟩; rw [X1.out]) | ((with_reducible refine HJL.out.mono ?_); rintro e W1 ⟨rfl, rfl⟩; rw [X2.out]) | ((with_reducible refine HIL.out.mono ?_); rintro e W1 ⟨rfl, rfl⟩; rw [X3.out]))
                          go_roundg (gk - 1)
                          case measure => omega
                          case rel => exact ⟨l + 1, by go_num, rfl, by omega, by omega, HX⟩
                      · have hdl : decide (l < k) = false := decide_eq_false (by omega)
                        obtain rfl : l = k := by omega
                        have HX : Aside0 ((∀ j', j' < j + 1 → i ≠ j' → leB rows i j' = true → leB rows j' i = false) ∧ ∀ j', j' < j + 1 → ∀ l', l' < l → leB rows i j' = true → leB rows j' l' = true → leB rows i l' = true) := ⟨by
                          have hJ := HJ.out
                          have hQ := HQ.out
                          have hL := HLL.out
                          constructor
                          · intro j' hj'
                            rcases Nat.lt_or_ge j' j with g | g
                            · exact hJ.1 j' g
                            · obtain rfl : j' = j := by omega
                              exact hQ
                          · intro j' hj' l' hl' a1 a2
                            rcases Nat.lt_or_ge j' j with g | g
                            · exact hJ.2 j' g l' hl' a1 a2
                            · obtain rfl : j' = j := by omega
                              exact hL l' hl' a1 a2⟩
                        clear e1 HJ HQ HLL
                        go_wp2
                        go_roundg g1
                        case measure => omega
                        case rel => exact ⟨j + 1, by go_num, rfl, by omega, by omega, HX⟩
                  · have E2 := Aside0.mk e2
                    have E3 := Aside0.mk e3
                    clear e2 e3
                    go_wp2_with (go_at_call 115; first | ((with_reducible refine HIJ.out.mono ?_); rintro e W1 ⟨rfl, rfl⟩; rw [E2.out]) | ((with_reducible refine HJI.out.mono ?_); rintro e W1 ⟨rfl, rfl⟩; rw [E3.out]))
                    go_loopg [7] (k + 1) (fun g i9 W => ∃ l : Nat, i9 = .int .u64 (l : Int) ∧ W = w ∧ l ≤ k ∧ k + 1 - l ≤ g ∧ Aside0 (∀ l', l' < l → leB rows i j = true → leB rows j l' = true → leB rows i l' = true))
                    case atStart => exact ⟨0, rfl, rfl, by omega, by omega, ⟨fun i hi => by omega⟩⟩
                    case round =>
                      obtain ⟨l, rfl, hW, hl, hlg, HLL⟩ := hrel
                      have hW2 := hW.symm; clear hW; subst hW2
                      rcases Nat.lt_or_ge l k with hll | hlge
                      · have hdl : decide (l < k) = true := decide_eq_true hll
                        have hsuml : IntKind.u64.wrap ((l : Int) + 1) = (l : Int) + 1 := wrap_u64 _ (by omega) (by omega)
                        have HJL := Aside0.mk (HBW.out _ (Below.refl _ _) j l)
                        have HIL := Aside0.mk (HBW.out _ (Below.refl _ _) i l)
                        have hnext : (leB rows i j = true → leB rows j l = true → leB rows i l = true) → Aside0 (∀ l', l' < l + 1 → leB rows i j = true → leB rows j l' = true → leB rows i l' = true) := fun h => ⟨fun l' hl' => by
                          rcases Nat.lt_or_ge l' l with g | g
                          · exact HLL.out l' g
                          · obtain rfl : l' = l := by omega
                            exact h⟩
                        have hout : leB rows i j = true → leB rows j l = true → leB rows i l = false → Aside0 (¬ RefOk rows) := fun h1 h2 h3 => ⟨fun h => by rw [h.trans i j l h1 h2] at h3; cases h3⟩
                        clear e1
                        have h4 : leB rows i j = false ∨ (leB rows i j = true ∧ leB rows j l = false) ∨ (leB rows i j = true ∧ leB rows j l = true ∧ leB rows i l = false) ∨ (leB rows i j = true ∧ leB rows j l = true ∧ leB rows i l = true) := by
                          cases leB rows i j <;> cases leB rows j l <;> cases leB rows i l <;> simp
                        rcases h4 with x1 | ⟨x1, x2⟩ | ⟨x1, x2, x3⟩ | ⟨x1, x2, x3⟩
                        · have HX := hnext (fun h => by rw [x1] at h; cases h)
                          have X1 := Aside0.mk x1
                          clear x1 hnext hout
                          go_wp2_with (go_at_call 115; first | ((with_reducible refine HIJ.out.mono ?_); rintro e W1 ⟨rfl, rfl⟩; rw [X1.out]))
                          go_roundg (gk - 1)
                          case measure => omega
                          case rel => exact ⟨l + 1, by go_num, rfl, by omega, by omega, HX⟩
                        · have HX := hnext (fun _ h => by rw [x2] at h; cases h)
                          have X1 := Aside0.mk x1
                          have X2 := Aside0.mk x2
                          clear x1 x2 hnext hout
                          go_wp2_with (go_at_call 115; first | ((with_reducible refine HIJ.out.mono ?_); rintro e W1 ⟨rfl, rfl⟩; rw [X1.out]) | ((with_reducible refine HJL.out.mono ?_); rintro e W1 ⟨rfl, rfl⟩; rw [X2.out]))
                          go_roundg (gk - 1)
                          case measure => omega
                          case rel => exact ⟨l + 1, by go_num, rfl, by omega, by omega, HX⟩
                        · have HX := hout x1 x2 x3
                          have X1 := Aside0.mk x1
                          have X2 := Aside0.mk x2
                          have X3 := Aside0.mk x3
                          clear x1 x2 x3 hnext hout
                          go_wp2_with (go_at_call 115; first | ((with_reducible refine HIJ.out.mono ?_); rintro e W1 ⟨rfl, rfl⟩; rw [X1.out]) | ((with_reducible refine HJL.out.mono ?_); rintro e W1 ⟨rfl, rfl⟩; rw [X2.out]) | ((with_reducible refine HIL.out.mono ?_); rintro e W1 ⟨rfl, rfl⟩; rw [X3.out]))
                          go_ret
                          exact ⟨AnsZ.no HX.out (by decide), Below.refl _ _⟩
                        · have HX := hnext (fun _ _ => x3)
                          have X1 := Aside0.mk x1
                          have X2 := Aside0.mk x2
                          have X3 := Aside0.mk x3
                          clear x1 x2 x3 hnext hout
                          go_wp2_with (go_at_call 115; first | ((with_reducible refine HIJ.out.mono ?_); rintro e W1 ⟨rfl, rfl⟩; rw [X1.out]) | ((with_reducible refine HJL.out.mono ?_); rintro e W1 ⟨rfl, rfl⟩; rw [X2.out]) | ((with_reducible refine HIL.out.mono ?_); rintro e W1 ⟨rfl, rfl⟩; rw [X3.out]))
                          go_roundg (gk - 1)
                          case measure => omega
                          case rel => exact ⟨l + 1, by go_num, rfl, by omega, by omega, HX⟩
                      · have hdl : decide (l < k) = false := decide_eq_false (by omega)
                        obtain rfl : l = k := by omega
                        have HX : Aside0 ((∀ j', j' < j + 1 → i ≠ j' → leB rows i j' = true → leB rows j' i = false) ∧ ∀ j', j' < j + 1 → ∀ l', l' < l → leB rows i j' = true → leB rows j' l' = true → leB rows i l' = true) := ⟨by
                          have hJ := HJ.out
                          have hQ := HQ.out
                          have hL := HLL.out
                          constructor
                          · intro j' hj'
                            rcases Nat.lt_or_ge j' j with g | g
                            · exact hJ.1 j' g
                            · obtain rfl : j' = j := by omega
                              exact hQ
                          · intro j' hj' l' hl' a1 a2
                            rcases Nat.lt_or_ge j' j with g | g
                            · exact hJ.2 j' g l' hl' a1 a2
                            · obtain rfl : j' = j := by omega
                              exact hL l' hl' a1 a2⟩
                        clear e1 HJ HQ HLL
                        go_wp2
                        go_roundg g1
                        case measure => omega
                        case rel => exact ⟨j + 1, by go_num, rfl, by omega, by omega, HX⟩
              · have hdj : decide (j < k) = false := decide_eq_false (by omega)
                obtain rfl : j = k := by omega
                have HN2 : Aside0 (Upto rows j (i + 1)) := ⟨by
                  have up := HUP.out
                  have hJ := HJ.out
                  refine ⟨fun i' hi' => ?_, fun i' hi' => ?_, fun i' hi' => ?_⟩
                  all_goals
                    rcases Nat.lt_or_ge i' i with g | g
                    first | exact up.refl i' g | exact up.anti i' g | exact up.trans i' g
                    obtain rfl : i' = i := by omega
                    first | exact EI.out | exact hJ.1 | exact hJ.2⟩
                clear HJ HUP
                go_wp2
                go_roundg g0
                case measure => omega
                case rel => exact ⟨i + 1, by go_num, rfl, by omega, by omega, HN2⟩
        · have hdi : decide (i < k) = false := decide_eq_false (by omega)
          obtain rfl : i = k := by omega
          clear hi hig hige
          go_wp2
          go_loopg [8] (i + 1) (fun g i9 W => ∃ i0 : Nat, i9 = .int .u64 (i0 : Int) ∧ i0 ≤ i ∧ i + 1 - i0 ≤ g ∧ Aside0 (Below w.heap.size w W) ∧ Aside0 (∀ i', i' < i0 → ∀ j, j < i → upOk rows i' j ∧ dnOk rows i' j))
          case atStart => exact ⟨0, rfl, by omega, by omega, ⟨Below.refl _ _⟩, ⟨fun i hi => by omega⟩⟩
          case round =>
            obtain ⟨a, rfl, ha, hag, HB, HAK⟩ := hrel
            rcases Nat.lt_or_ge a i with hal | hage
            · have hda : decide (a < i) = true := decide_eq_true hal
              have hsum : IntKind.u64.wrap ((a : Int) + 1) = (a : Int) + 1 := wrap_u64 _ (by omega) (by omega)
              obtain ⟨g0, hg1, hg2⟩ : ∃ g0, g0 < gk ∧ i + 1 - (a + 1) ≤ g0 := ⟨gk - 1, by omega, by omega⟩
              go_wp2
              go_loopg [9] (i + 1) (fun g i9 W => ∃ j : Nat, i9 = .int .u64 (j : Int) ∧ j ≤ i ∧ i + 1 - j ≤ g ∧ Aside0 (Below w.heap.size w W) ∧ Aside0 (∀ j', j' < j → upOk rows a j' ∧ dnOk rows a j'))
              case atStart => exact ⟨0, rfl, by omega, by omega, HB, ⟨fun i hi => by omega⟩⟩
              case round =>
                clear HB
                obtain ⟨j, rfl, hj, hjg, HB, HJ⟩ := hrel
                rcases Nat.lt_or_ge j i with hjl | hjge
                · have hdj : decide (j < i) = true := decide_eq_true hjl
                  have hsumj : IntKind.u64.wrap ((j : Int) + 1) = (j : Int) + 1 := wrap_u64 _ (by omega) (by omega)
                  have H1 : Aside0 (∀ W, Below w.heap.size w W → Calls Tryz.prog 117 #[.slice A i c, .int .u64 (a : Int), .int .u64 (j : Int)] W fun e w' => ∃ A1 c1, e = .returned (.slice A1 (ups4 rows a j i).length c1) ∧ Below W.heap.size W w' ∧ (Kd.int .u64).C w' A1 (ups4 rows a j i).length (natsI (ups4 rows a j i))) := ⟨fun W hb => above4_calls W A c i rows a j HN.out h64 (Kd.C_below HR.out hb)⟩
                  have H2 : Aside0 (∀ W, Below w.heap.size w W → Calls Tryz.prog 119 #[.slice A i c, .int .u64 (a : Int), .int .u64 (j : Int)] W fun e w' => ∃ A1 c1, e = .returned (.slice A1 (uns4 rows a j i).length c1) ∧ Below W.heap.size W w' ∧ (Kd.int .u64).C w' A1 (uns4 rows a j i).length (natsI (uns4 rows a j i))) := ⟨fun W hb => under4_calls W A c i rows a j HN.out h64 (Kd.C_below HR.out hb)⟩
                  obtain ⟨l1, hl1⟩ : ∃ l, l = ups4 rows a j i := ⟨_, rfl⟩
                  obtain ⟨l2, hl2⟩ : ∃ l, l = uns4 rows a j i := ⟨_, rfl⟩
                  have hm1 : l1.length ≤ i := by rw [hl1]; exact filter_len _ _
                  have hm2 : l2.length ≤ i := by rw [hl2]; exact filter_len _ _
                  rw [← hl1] at H1
                  rw [← hl2] at H2
                  have U1 : Aside0 ((least4 rows l1).isSome = true ↔ upOk rows a j) := ⟨by rw [hl1, HN.out]; exact ups_iff HU.out (by rw [← HN.out]; exact h64) a j⟩
                  have U2 : Aside0 ((great4 rows l2).isSome = true ↔ dnOk rows a j) := ⟨by rw [hl2, HN.out]; exact uns_iff HU.out (by rw [← HN.out]; exact h64) a j⟩
                  clear hl1 hl2
                  obtain ⟨m1, hmm1⟩ : ∃ m, m = l1.length := ⟨_, rfl⟩
                  obtain ⟨m2, hmm2⟩ : ∃ m, m = l2.length := ⟨_, rfl⟩
                  rw [← hmm1] at H1 hm1
                  rw [← hmm2] at H2 hm2
                  have HM := Aside0.mk (And.intro hmm1 hmm2)
                  clear hmm1 hmm2
                  have H3 : Aside0 (∀ W A1 c1, Below w.heap.size w W → (Kd.int .u64).C W A1 m1 (natsI l1) → Calls Tryz.prog 116 #[.slice A i c, .slice A1 m1 c1] W fun e w' => e = .returned (.tuple #[.int .u64 (((least4 rows l1).getD 0 : Nat) : Int), .bool (least4 rows l1).isSome]) ∧ Below W.heap.size W w') := ⟨fun W A1 c1 hb hc => least4_calls W A c i rows A1 c1 m1 l1 HN.out h64 HM.out.1 (by omega) (Kd.C_below HR.out hb) hc⟩
                  have H4 : Aside0 (∀ W A1 c1, Below w.heap.size w W → (Kd.int .u64).C W A1 m2 (natsI l2) → Calls Tryz.prog 118 #[.slice A i c, .slice A1 m2 c1] W fun e w' => e = .returned (.tuple #[.int .u64 (((great4 rows l2).getD 0 : Nat) : Int), .bool (great4 rows l2).isSome]) ∧ Below W.heap.size W w') := ⟨fun W A1 c1 hb hc => great4_calls W A c i rows A1 c1 m2 l2 HN.out h64 HM.out.2 (by omega) (Kd.C_below HR.out hb) hc⟩
                  obtain ⟨x1, hx1⟩ : ∃ x : Int, x = (((least4 rows l1).getD 0 : Nat) : Int) := ⟨_, rfl⟩
                  obtain ⟨x2, hx2⟩ : ∃ x : Int, x = (((great4 rows l2).getD 0 : Nat) : Int) := ⟨_, rfl⟩
                  rw [← hx1] at H3
                  rw [← hx2] at H4
                  clear hx1 hx2
                  obtain ⟨b1, hb1⟩ : ∃ x : Bool, x = (least4 rows l1).isSome := ⟨_, rfl⟩
                  obtain ⟨b2, hb2⟩ : ∃ x : Bool, x = (great4 rows l2).isSome := ⟨_, rfl⟩
                  rw [← hb1] at H3 U1
                  rw [← hb2] at H4 U2
                  clear hb1 hb2
                  have hnot : (b1 && b2) = false → Aside0 (¬ RefOk rows) := fun h => ⟨fun r => by
                    have h1 := U1.out.2 (r.up a j (by rw [← HN.out]; exact hal) (by rw [← HN.out]; exact hjl))
                    have h2 := U2.out.2 (r.dn a j (by rw [← HN.out]; exact hal) (by rw [← HN.out]; exact hjl))
                    rw [h1, h2] at h
                    cases h⟩
                  cases b1 with
                  | false =>
                    have HE := hnot rfl
                    clear hnot
                    go_wp2_with (first
                      | (go_at_call 117; (with_reducible refine (H1.out _ HB.out).mono ?_); rintro e W1 ⟨A1, c1, rfl, hb', hc'⟩; have HC1 := Aside0.mk hc'; have HB' := Aside0.mk (below_step HB.out hb'); clear HB hb' hc'; have HB := HB'; clear HB')
                      | (go_at_call 116; (with_reducible refine (H3.out _ _ _ HB.out HC1.out).mono ?_); rintro e W2 ⟨rfl, hb'⟩; have HB' := Aside0.mk (below_step HB.out hb'); clear HB hb'; have HB := HB'; clear HB')
                      | (go_at_call 119; (with_reducible refine (H2.out _ HB.out).mono ?_); rintro e W3 ⟨A2, c2, rfl, hb', hc'⟩; have HC2 := Aside0.mk hc'; have HB' := Aside0.mk (below_step HB.out hb'); clear HB hb' hc'; have HB := HB'; clear HB')
                      | (go_at_call 118; (with_reducible refine (H4.out _ _ _ HB.out HC2.out).mono ?_); rintro e W4 ⟨rfl, hb'⟩; have HB' := Aside0.mk (below_step HB.out hb'); clear HB hb'; have HB := HB'; clear HB'))
                    go_ret
                    exact ⟨AnsZ.no HE.out (by decide), HB.out⟩
                  | true =>
                   cases b2 with
                   | false =>
                    have HE := hnot rfl
                    clear hnot
                    go_wp2_with (first
                      | (go_at_call 117; (with_reducible refine (H1.out _ HB.out).mono ?_); rintro e W1 ⟨A1, c1, rfl, hb', hc'⟩; have HC1 := Aside0.mk hc'; have HB' := Aside0.mk (below_step HB.out hb'); clear HB hb' hc'; have HB := HB'; clear HB')
                      | (go_at_call 116; (with_reducible refine (H3.out _ _ _ HB.out HC1.out).mono ?_); rintro e W2 ⟨rfl, hb'⟩; have HB' := Aside0.mk (below_step HB.out hb'); clear HB hb'; have HB := HB'; clear HB')
                      | (go_at_call 119; (with_reducible refine (H2.out _ HB.out).mono ?_); rintro e W3 ⟨A2, c2, rfl, hb', hc'⟩; have HC2 := Aside0.mk hc'; have HB' := Aside0.mk (below_step HB.out hb'); clear HB hb' hc'; have HB := HB'; clear HB')
                      | (go_at_call 118; (with_reducible refine (H4.out _ _ _ HB.out HC2.out).mono ?_); rintro e W4 ⟨rfl, hb'⟩; have HB' := Aside0.mk (below_step HB.out hb'); clear HB hb'; have HB := HB'; clear HB'))
                    go_ret
                    exact ⟨AnsZ.no HE.out (by decide), HB.out⟩
                   | true =>
                    have HE : Aside0 (∀ j', j' < j + 1 → upOk rows a j' ∧ dnOk rows a j') := ⟨fun j' hj' => by
                      rcases Nat.lt_or_ge j' j with g | g
                      · exact HJ.out j' g
                      · obtain rfl : j' = j := by omega
                        exact ⟨U1.out.1 rfl, U2.out.1 rfl⟩⟩
                    clear hnot
                    go_wp2_with (first
                      | (go_at_call 117; (with_reducible refine (H1.out _ HB.out).mono ?_); rintro e W1 ⟨A1, c1, rfl, hb', hc'⟩; have HC1 := Aside0.mk hc'; have HB' := Aside0.mk (below_step HB.out hb'); clear HB hb' hc'; have HB := HB'; clear HB')
                      | (go_at_call 116; (with_reducible refine (H3.out _ _ _ HB.out HC1.out).mono ?_); rintro e W2 ⟨rfl, hb'⟩; have HB' := Aside0.mk (below_step HB.out hb'); clear HB hb'; have HB := HB'; clear HB')
                      | (go_at_call 119; (with_reducible refine (H2.out _ HB.out).mono ?_); rintro e W3 ⟨A2, c2, rfl, hb', hc'⟩; have HC2 := Aside0.mk hc'; have HB' := Aside0.mk (below_step HB.out hb'); clear HB hb' hc'; have HB := HB'; clear HB')
                      | (go_at_call 118; (with_reducible refine (H4.out _ _ _ HB.out HC2.out).mono ?_); rintro e W4 ⟨rfl, hb'⟩; have HB' := Aside0.mk (below_step HB.out hb'); clear HB hb'; have HB := HB'; clear HB'))
                    go_roundg (gk - 1)
                    case measure => omega
                    case rel => exact ⟨j + 1, by go_num, by omega, by omega, HB, HE⟩
                · have hdj : decide (j < i) = false := decide_eq_false (by omega)
                  obtain rfl : j = i := by omega
                  have HAK2 : Aside0 (∀ i', i' < a + 1 → ∀ j', j' < j → upOk rows i' j' ∧ dnOk rows i' j') := ⟨fun i' hi' => by
                    rcases Nat.lt_or_ge i' a with g | g
                    · exact HAK.out i' g
                    · obtain rfl : i' = a := by omega
                      exact HJ.out⟩
                  clear HAK HJ
                  go_wp2
                  go_roundg g0
                  case measure => omega
                  case rel => exact ⟨a + 1, by go_num, by omega, by omega, HB, HAK2⟩
            · have hda : decide (a < i) = false := decide_eq_false (by omega)
              obtain rfl : a = i := by omega
              have HE : Aside0 (RefOk rows) := ⟨by
                have hl := HN.out
                have u := HUP.out
                have r := HAK.out
                have lt : ∀ i j, leB rows i j = true → i < a ∧ j < a := fun i j h => by
                  have := (leB_iff HU.out i j).1 h
                  omega
                exact ⟨by omega, by omega, fun x hx => by rw [← hl] at hx ⊢; exact HK.out x hx, fun x hx => u.refl x (by omega), fun x y hx hy => u.anti x (by omega) y (by omega), fun x y z h1 h2 => u.trans x (lt x y h1).1 y (lt x y h1).2 z (lt y z h2).2 h1 h2, fun x y hx hy => (r x (by omega) y (by omega)).1, fun x y hx hy => (r x (by omega) y (by omega)).2⟩⟩
              go_wp2
              go_ret
              exact ⟨AnsZ.yes HE.out, HB.out⟩
end Ref04
end Go.Proofs.YtdecijmncpbheaaGreatDoor
