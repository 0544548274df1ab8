/- Orders, plain: orders.Check answers OK just where the rows are an order of so many labels in which each two have a least one above, and a greatest one below. -/
import Derived.Test.YtbdecnagdnancaaGreatDoorLtA
import Derived.Test.YtbdecnagdnancaaGreatDoorMC

namespace Go.Proofs.YtbdecnagdnancaaGreatDoor
open Go.RowKit Go.Proofs.YtbdecnagdnancaaGreatDoorW.PrintWords Go.Proofs.YtbdecnagdnancaaGreatDoorW.PrintLast Go.Proofs.YtbdecnagdnancaaGreatDoorW.PrintMore
set_option linter.unusedVariables false
set_option linter.unusedSimpArgs false
def upOk (rows : List Int) (i j : Nat) : Prop := ∃ x, (leB rows i x = true ∧ leB rows j x = true) ∧ ∀ y, leB rows i y = true → leB rows j y = true → leB rows x y = true
def dnOk (rows : List Int) (i j : Nat) : Prop := ∃ x, (leB rows x i = true ∧ leB rows x j = true) ∧ ∀ y, leB rows y i = true → leB rows y j = true → leB rows y x = true
/-- The document's order. -/
structure RefOk (rows : List Int) : Prop where
  n1 : 1 ≤ rows.length
  n64 : rows.length ≤ 64
  small : ∀ i, i < rows.length → rd rows (i : Int) < 2 ^ rows.length
  refl : ∀ i, i < rows.length → leB rows i i = true
  anti : ∀ i j, i < rows.length → j < rows.length → i ≠ j → leB rows i j = true → leB rows j i = false
  trans : ∀ i j k, leB rows i j = true → leB rows j k = true → leB rows i k = true
  up : ∀ i j, i < rows.length → j < rows.length → upOk rows i j
  dn : ∀ i j, i < rows.length → j < rows.length → dnOk rows i j
theorem pow_int (n : Nat) : ((2 : Int) ^ n - 1).toNat = 2 ^ n - 1 := by
  have : ((2 : Int) ^ n - 1) = ((2 ^ n - 1 : Nat) : Int) := by
    have := Nat.one_le_two_pow (n := n)
    rw [Int.ofNat_sub this]
    simp
  rw [this, Int.toNat_natCast]
theorem small_iff (n : Nat) (h64 : n ≤ 64) (x : Int) (h0 : 0 ≤ x) (h1 : x < 2 ^ 64) : (lessI x (2 ^ n - 1) == 0) = true ↔ x < 2 ^ n := by
  have hp : (2 : Int) ^ n ≤ 2 ^ 64 := by exact_mod_cast Nat.pow_le_pow_right (n := 2) (by decide) h64
  have h3 : (1 : Int) ≤ 2 ^ n := by exact_mod_cast Nat.one_le_two_pow
  constructor
  · intro h
    obtain ⟨a, rfl, ha⟩ := less_small n h64 x h0 h1 (by simpa using h)
    exact_mod_cast ha
  · intro h
    have : lessI x (2 ^ n - 1) = 0 := (lessI_zero x (2 ^ n - 1) h0 h1 (by omega) (by omega)).2 fun j hj => by
      rw [pow_int, Nat.testBit_two_pow_sub_one]
      obtain ⟨a, rfl⟩ := Int.eq_ofNat_of_zero_le h0
      have ha : a < 2 ^ n := by exact_mod_cast h
      rw [Int.toNat_natCast] at hj
      by_cases hjn : j < n
      · simpa using hjn
      · have := Nat.testBit_lt_two_pow (Nat.lt_of_lt_of_le ha (Nat.pow_le_pow_right (by decide) (show n ≤ j by omega)))
        rw [this] at hj; cases hj
    rw [this]; rfl
theorem bit_lt {rows : List Int} (hr : U64s rows) (hs : ∀ i, i < rows.length → rd rows (i : Int) < 2 ^ rows.length) (a b : Nat) (ha : a < rows.length) (hb : (rd rows (a : Int)).toNat.testBit b = true) : leB rows a b = true := by
  rw [leB_iff hr]
  refine ⟨ha, ?_, hb⟩
  obtain ⟨h0, _⟩ := hr _ (rd_mem a ha)
  have h2 := hs a ha
  obtain ⟨x, hx⟩ := Int.eq_ofNat_of_zero_le h0
  rw [hx] at h2 hb
  have h3 : x < 2 ^ rows.length := by exact_mod_cast h2
  rw [Int.toNat_natCast] at hb
  rcases Nat.lt_or_ge b rows.length with h | h
  · exact h
  · rw [Nat.testBit_lt_two_pow (Nat.lt_of_lt_of_le h3 (Nat.pow_le_pow_right (by decide) h))] at hb
    cases hb
theorem ordered_iff {rows : List Int} (hr : U64s rows) (hs : ∀ i, i < rows.length → rd rows (i : Int) < 2 ^ rows.length) : orderedB rows = true ↔ (∀ i, i < rows.length → leB rows i i = true) ∧ (∀ i j, i < rows.length → j < rows.length → i ≠ j → leB rows i j = true → leB rows j i = false) ∧ ∀ i j k, leB rows i j = true → leB rows j k = true → leB rows i k = true := by
  constructor
  · intro h
    exact ⟨ordered_refl hr h, fun i j _ _ hne hij => (ordered_pair hr h i j hij (fun e => hne e.symm)).1, ordered_trans hr h⟩
  · rintro ⟨h1, h2, h3⟩
    have bit1 : ∀ i j, i < rows.length → (bitI (rd rows (i : Int)) j == 1) = (rd rows (i : Int)).toNat.testBit j := fun i j hi => by
      obtain ⟨h0, h1⟩ := hr _ (rd_mem i hi)
      rw [bitI_nat _ j h0 h1]
      cases (rd rows (i : Int)).toNat.testBit j <;> rfl
    have bit0 : ∀ i j, i < rows.length → (bitI (rd rows (i : Int)) j == 0) = !(rd rows (i : Int)).toNat.testBit j := fun i j hi => by
      obtain ⟨h0, h1⟩ := hr _ (rd_mem i hi)
      rw [bitI_nat _ j h0 h1]
      cases (rd rows (i : Int)).toNat.testBit j <;> rfl
    rw [orderedB, List.all_eq_true]
    intro i hi
    have hi := List.mem_range.1 hi
    rw [Bool.and_eq_true, bit0 i i hi, List.all_eq_true]
    refine ⟨by have := ((leB_iff hr i i).1 (h1 i hi)).2.2; simp [this], fun j hj => ?_⟩
    have hj := List.mem_range.1 hj
    rw [rowOk, bit1 i j hi, bit1 j i hj]
    by_cases hji : j = i
    · simp [hji]
    · cases hb : (rd rows (i : Int)).toNat.testBit j with
      | false => simp
      | true =>
        have hij := bit_lt hr hs i j hi hb
        have hn := h2 i j hi hj (fun e => hji e.symm) hij
        have hb2 : (rd rows (j : Int)).toNat.testBit i = false := by
          cases h : (rd rows (j : Int)).toNat.testBit i with
          | false => rfl
          | true => rw [bit_lt hr hs j i hj h] at hn; cases hn
        rw [hb2]
        obtain ⟨a0, a1⟩ := hr _ (rd_mem i hi)
        obtain ⟨b0, b1⟩ := hr _ (rd_mem j hj)
        have : lessI (rd rows (j : Int)) (rd rows (i : Int)) = 0 := (lessI_zero _ _ b0 b1 a0 a1).2 fun k hk => ((leB_iff hr i k).1 (h3 i j k hij (bit_lt hr hs j k hj hk))).2.2
        rw [this]
        simp
theorem and_bit (x y : Int) (hx : 0 ≤ x ∧ x < 2 ^ 64) (hy : 0 ≤ y ∧ y < 2 ^ 64) : (bits .and .u64 x y).toNat < 2 ^ 64 ∧ ∀ j, (bits .and .u64 x y).toNat.testBit j = (x.toNat.testBit j && y.toNat.testBit j) := by
  obtain ⟨a, rfl⟩ := Int.eq_ofNat_of_zero_le hx.1
  obtain ⟨b, rfl⟩ := Int.eq_ofNat_of_zero_le hy.1
  rw [bits_and_u64_nat a b (by omega) (by omega)]
  simp only [Int.toNat_natCast]
  exact ⟨Nat.and_lt_two_pow _ (by omega), fun j => Nat.testBit_and _ _ _⟩
theorem pair_up {rows : List Int} (hr : U64s rows) (hs : ∀ i, i < rows.length → rd rows (i : Int) < 2 ^ rows.length) (i j : Nat) (hi : i < rows.length) (hj : j < rows.length) : oneB (bits .and .u64 (rd rows (i : Int)) (rd rows (j : Int))).toNat rows = true ↔ upOk rows i j := by
  obtain ⟨hl, hb⟩ := and_bit _ _ (hr _ (rd_mem i hi)) (hr _ (rd_mem j hj))
  have key : ∀ k, (bits .and .u64 (rd rows (i : Int)) (rd rows (j : Int))).toNat.testBit k = true ↔ leB rows i k = true ∧ leB rows j k = true := fun k => by
    rw [hb k, Bool.and_eq_true]
    exact ⟨fun h => ⟨bit_lt hr hs i k hi h.1, bit_lt hr hs j k hj h.2⟩, fun h => ⟨((leB_iff hr i k).1 h.1).2.2, ((leB_iff hr j k).1 h.2).2.2⟩⟩
  rw [oneB_iff rows hr _ hl (fun k hk => ((leB_iff hr i k).1 ((key k).1 hk).1).2.1)]
  constructor
  · rintro ⟨k, hk, hp⟩
    have hk2 := (key k).1 hk
    exact ⟨k, hk2, fun y h1 h2 => bit_lt hr hs k y ((leB_iff hr i k).1 hk2.1).2.1 (hp y ((key y).2 ⟨h1, h2⟩))⟩
  · rintro ⟨k, hk, hp⟩
    exact ⟨k, (key k).2 hk, fun y hy => ((leB_iff hr k y).1 (hp y ((key y).1 hy).1 ((key y).1 hy).2)).2.2⟩
theorem turned_U64 {rows : List Int} (hr : U64s rows) (h64 : rows.length ≤ 64) : U64s (turnedR rows) := fun x hx => by
  obtain ⟨a, rfl, ha⟩ := tI_small rows rows.length h64 hr rfl rows.length (Nat.le_refl _) x hx
  have h2 : (2 : Nat) ^ rows.length ≤ 2 ^ 64 := Nat.pow_le_pow_right (by decide) h64
  omega
theorem turned_len (rows : List Int) : (turnedR rows).length = rows.length := tI_len _ _ _
theorem turned_le {rows : List Int} (hr : U64s rows) (h64 : rows.length ≤ 64) (a b : Nat) : leB (turnedR rows) a b = leB rows b a := by
  rw [Bool.eq_iff_iff, leB_iff (turned_U64 hr h64), leB_iff hr, turned_len]
  constructor
  · rintro ⟨h1, h2, h3⟩
    rw [turned_bit rows hr h64 a b h1] at h3
    simp only [Bool.and_eq_true] at h3
    exact ⟨h2, h1, h3.2⟩
  · rintro ⟨h1, h2, h3⟩
    refine ⟨h2, h1, ?_⟩
    rw [turned_bit rows hr h64 a b h2, h3]
    simpa using h1
theorem turned_small {rows : List Int} (hr : U64s rows) (h64 : rows.length ≤ 64) : ∀ i, i < (turnedR rows).length → rd (turnedR rows) (i : Int) < 2 ^ (turnedR rows).length := fun i hi => by
  obtain ⟨a, ha, hal⟩ := tI_small rows rows.length h64 hr rfl rows.length (Nat.le_refl _) _ (rd_mem i hi)
  rw [show turnedR rows = tI rows rows.length rows.length from rfl, ha, tI_len]
  exact_mod_cast hal
theorem pair_dn {rows : List Int} (hr : U64s rows) (h64 : rows.length ≤ 64) (i j : Nat) (hi : i < rows.length) (hj : j < rows.length) : oneB (bits .and .u64 (rd (turnedR rows) (i : Int)) (rd (turnedR rows) (j : Int))).toNat (turnedR rows) = true ↔ dnOk rows i j := by
  rw [pair_up (turned_U64 hr h64) (turned_small hr h64) i j (by rwa [turned_len]) (by rwa [turned_len])]
  simp only [upOk, dnOk, turned_le hr h64]
theorem up_symm {rows : List Int} {i j : Nat} (h : upOk rows i j) : upOk rows j i := by
  obtain ⟨x, h1, h2⟩ := h
  exact ⟨x, ⟨h1.2, h1.1⟩, fun y a b => h2 y b a⟩
theorem dn_symm {rows : List Int} {i j : Nat} (h : dnOk rows i j) : dnOk rows j i := by
  obtain ⟨x, h1, h2⟩ := h
  exact ⟨x, ⟨h1.2, h1.1⟩, fun y a b => h2 y b a⟩
theorem checkO_ref {rows : List Int} (hr : U64s rows) : checkO rows = 0 ↔ RefOk rows := by
  unfold checkO
  by_cases h1 : rows.length < 1 ∨ 64 < rows.length
  · rw [if_pos h1]
    exact ⟨fun h => by omega, fun h => by have := h.n1; have := h.n64; omega⟩
  rw [if_neg h1]
  have h64 : rows.length ≤ 64 := by omega
  have hsm : ((List.range rows.length).all fun i => lessI (rd rows i) (2 ^ rows.length - 1) == 0) = true ↔ ∀ i, i < rows.length → rd rows (i : Int) < 2 ^ rows.length := by
    rw [List.all_eq_true]
    exact ⟨fun h i hi => (small_iff _ h64 _ (hr _ (rd_mem i hi)).1 (hr _ (rd_mem i hi)).2).1 (h i (List.mem_range.2 hi)), fun h i hi => (small_iff _ h64 _ (hr _ (rd_mem i (List.mem_range.1 hi))).1 (hr _ (rd_mem i (List.mem_range.1 hi))).2).2 (h i (List.mem_range.1 hi))⟩
  by_cases h2 : ((List.range rows.length).all fun i => lessI (rd rows i) (2 ^ rows.length - 1) == 0) = false
  · rw [if_pos h2]
    exact ⟨fun h => by omega, fun h => by rw [hsm.2 h.small] at h2; cases h2⟩
  rw [if_neg h2]
  have hs := hsm.1 (by simpa using h2)
  by_cases h3 : orderedB rows = false
  · rw [if_pos h3]
    exact ⟨fun h => by omega, fun h => by rw [(ordered_iff hr hs).2 ⟨h.refl, h.anti, h.trans⟩] at h3; cases h3⟩
  rw [if_neg h3]
  obtain ⟨o1, o2, o3⟩ := (ordered_iff hr hs).1 (by simpa using h3)
  have hp : ((List.range rows.length).all fun i => (List.range i).all fun j => pairOk rows (turnedR rows) i j) = true ↔ ∀ i j, i < rows.length → j < i → upOk rows i j ∧ dnOk rows i j := by
    rw [List.all_eq_true]
    constructor
    · intro h i j hi hj
      have h4 := h i (List.mem_range.2 hi)
      rw [List.all_eq_true] at h4
      have h5 := h4 j (List.mem_range.2 hj)
      rw [pairOk, Bool.and_eq_true, pair_up hr hs i j hi (by omega), pair_dn hr h64 i j hi (by omega)] at h5
      exact h5
    · intro h i hi
      rw [List.all_eq_true]
      intro j hj
      have hi := List.mem_range.1 hi
      have hj := List.mem_range.1 hj
      rw [pairOk, Bool.and_eq_true, pair_up hr hs i j hi (by omega), pair_dn hr h64 i j hi (by omega)]
      exact h i j hi hj
  by_cases h4 : ((List.range rows.length).all fun i => (List.range i).all fun j => pairOk rows (turnedR rows) i j) = false
  · rw [if_pos h4]
    refine ⟨fun h => by omega, fun h => ?_⟩
    rw [hp.2 (fun i j hi hj => ⟨h.up i j hi (by omega), h.dn i j hi (by omega)⟩)] at h4
    cases h4
  · rw [if_neg h4]
    have hq := hp.1 (by simpa using h4)
    refine ⟨fun _ => ⟨by omega, h64, hs, o1, o2, o3, fun i j hi hj => ?_, fun i j hi hj => ?_⟩, fun _ => rfl⟩
    · rcases Nat.lt_trichotomy i j with h | h | h
      · exact up_symm (hq j i hj h).1
      · subst h; exact ⟨i, ⟨o1 i hi, o1 i hi⟩, fun y h _ => h⟩
      · exact (hq i j hi h).1
    · rcases Nat.lt_trichotomy i j with h | h | h
      · exact dn_symm (hq j i hj h).2
      · subst h; exact ⟨i, ⟨o1 i hi, o1 i hi⟩, fun y h _ => h⟩
      · exact (hq i j hi h).2
end Go.Proofs.YtbdecnagdnancaaGreatDoor
