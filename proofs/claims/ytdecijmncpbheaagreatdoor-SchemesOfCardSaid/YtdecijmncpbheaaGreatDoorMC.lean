
/- Several texts as one: OrA, OrB, OrC, OrD, OrE, LaA, LaB, LaC. -/
import Derived.Test.YtdecijmncpbheaaGreatDoorB
import Derived.Laws.BitsLemmas
import Derived.Test.YtdecijmncpbheaaGreatDoorMA
import Derived.Shelf.Spec.TrailingZeros
import Derived.Test.YtdecijmncpbheaaGreatDoorMB
import Derived.Deep.QuietTactic
import Derived.BigQuiet

namespace Go.Proofs.YtdecijmncpbheaaGreatDoor
open Go.RowKit Go.Proofs.YtdecijmncpbheaaGreatDoorW.PrintWords Go.Proofs.YtdecijmncpbheaaGreatDoorW.PrintLast Go.Proofs.YtdecijmncpbheaaGreatDoorW.PrintMore
set_option linter.unusedVariables false
set_option linter.unusedSimpArgs false
/-- A bit, as the code asks for it: 'r >> j & 1'. -/
def bitI (r : Int) (j : Nat) : Int := bits .and .u64 (r / 2 ^ j) 1
/-- 'o &^ r'. -/
def lessI (o r : Int) : Int := bits .andNot .u64 o r
theorem wrap_u64 (n : Int) (h0 : 0 ≤ n) (h1 : n < 2 ^ 64) : IntKind.u64.wrap n = n := by
  simp only [IntKind.wrap, IntKind.bits, IntKind.signed]
  simp
  omega
theorem bitI_nat (r : Int) (j : Nat) (h0 : 0 ≤ r) (h1 : r < 2 ^ 64) : bitI r j = if r.toNat.testBit j then 1 else 0 := by
  obtain ⟨a, rfl⟩ := Int.eq_ofNat_of_zero_le h0
  have ha : a < 2 ^ 64 := by exact_mod_cast h1
  have e : ((a : Int) / 2 ^ j) = ((a / 2 ^ j : Nat) : Int) := by simp
  have hb : a / 2 ^ j < 2 ^ 64 := Nat.lt_of_le_of_lt (Nat.div_le_self _ _) ha
  have h := (bits_nat .u64 64 (by decide) (fun n h0 h1 => wrap_u64 n h0 h1) (a / 2 ^ j) 1 hb (by decide)).1
  unfold bitI
  rw [e]
  have h2 : bits .and .u64 ((a / 2 ^ j : Nat) : Int) 1 = ((a / 2 ^ j &&& 1 : Nat) : Int) := h
  rw [h2, Nat.and_one_is_mod, Int.toNat_natCast, Nat.testBit_eq_decide_div_mod_eq]
  by_cases hm : a / 2 ^ j % 2 = 1
  · simp [hm]
  · have : a / 2 ^ j % 2 = 0 := by omega
    simp [this]
/-- One row's bits are all in another one. -/
theorem lessI_zero (o r : Int) (h0 : 0 ≤ o) (h1 : o < 2 ^ 64) (g0 : 0 ≤ r) (g1 : r < 2 ^ 64) : lessI o r = 0 ↔ ∀ j, o.toNat.testBit j = true → r.toNat.testBit j = true := by
  obtain ⟨a, rfl⟩ := Int.eq_ofNat_of_zero_le h0
  obtain ⟨b, rfl⟩ := Int.eq_ofNat_of_zero_le g0
  have ha : a < 2 ^ 64 := by exact_mod_cast h1
  have hb : b < 2 ^ 64 := by exact_mod_cast g1
  have e : lessI (a : Int) (b : Int) = (((BitVec.ofNat 64 a) &&& ~~~(BitVec.ofNat 64 b)).toNat : Int) := by
    unfold lessI bits
    simp only [IntKind.bits, BitVec.ofInt_natCast]
    exact wrap_u64 _ (Int.natCast_nonneg _) (by exact_mod_cast BitVec.isLt _)
  rw [e]
  simp only [Int.toNat_natCast]
  constructor
  · intro h j hj
    have h2 : ((BitVec.ofNat 64 a) &&& ~~~(BitVec.ofNat 64 b)) = 0#64 := BitVec.eq_of_toNat_eq (by simpa using h)
    have hj64 : j < 64 := by
      rcases Nat.lt_or_ge j 64 with h | h
      · exact h
      · rw [Nat.testBit_lt_two_pow (Nat.lt_of_lt_of_le ha (Nat.pow_le_pow_right (by decide) h))] at hj
        cases hj
    have h3 := congrArg (fun v => v.getLsbD j) h2
    simp [BitVec.getLsbD_ofNat, hj64, hj] at h3
    have h4 : (BitVec.ofNat 64 b).getLsbD j = true := by rw [BitVec.getLsbD_eq_getElem hj64]; exact h3
    rw [BitVec.getLsbD_ofNat] at h4
    simpa [hj64] using h4
  · intro h
    have h2 : ((BitVec.ofNat 64 a) &&& ~~~(BitVec.ofNat 64 b)) = 0#64 := by
      apply BitVec.eq_of_getLsbD_eq
      intro j hj
      simp only [BitVec.getLsbD_and, BitVec.getLsbD_not, BitVec.getLsbD_ofNat, BitVec.getLsbD_zero, hj, decide_true, Bool.true_and]
      cases hx : a.testBit j with
      | false => simp
      | true => rw [h j hx]; simp
    rw [h2]
    rfl
/-- What 'ordered' asks, row by row. -/
def rowOk (rows : List Int) (i j : Nat) : Bool := !(decide (j ≠ i) && (bitI (rd rows i) j == 1) && ((bitI (rd rows j) i == 1) || !(lessI (rd rows j) (rd rows i) == 0)))
def orderedB (rows : List Int) : Bool := (List.range rows.length).all fun i => !(bitI (rd rows i) i == 0) && (List.range rows.length).all fun j => rowOk rows i j
/-- A label below another one, or the same. -/
def leB (rows : List Int) (a b : Nat) : Bool := decide (a < rows.length) && decide (b < rows.length) && (bitI (rd rows a) b == 1)
def U64s (rows : List Int) : Prop := ∀ r ∈ rows, 0 ≤ r ∧ r < 2 ^ 64
theorem rd_mem {rows : List Int} (i : Nat) (h : i < rows.length) : rd rows (i : Int) ∈ rows := by
  unfold rd
  rw [Int.toNat_natCast, List.getD_eq_getElem?_getD, List.getElem?_eq_getElem h]
  exact List.getElem_mem _
theorem leB_iff {rows : List Int} (hr : U64s rows) (a b : Nat) : leB rows a b = true ↔ a < rows.length ∧ b < rows.length ∧ (rd rows (a : Int)).toNat.testBit b = true := by
  unfold leB
  simp only [Bool.and_eq_true, decide_eq_true_eq, beq_iff_eq]
  constructor
  · rintro ⟨⟨h1, h2⟩, h3⟩
    obtain ⟨h4, h5⟩ := hr _ (rd_mem a h1)
    rw [bitI_nat _ _ h4 h5] at h3
    refine ⟨h1, h2, ?_⟩
    split at h3
    · assumption
    · cases h3
  · rintro ⟨h1, h2, h3⟩
    obtain ⟨h4, h5⟩ := hr _ (rd_mem a h1)
    rw [bitI_nat _ _ h4 h5, if_pos h3]
    exact ⟨⟨h1, h2⟩, rfl⟩
theorem ordered_refl {rows : List Int} (hr : U64s rows) (h : orderedB rows = true) (a : Nat) (ha : a < rows.length) : leB rows a a = true := by
  unfold orderedB at h
  rw [List.all_eq_true] at h
  have h1 := h a (List.mem_range.2 ha)
  simp only [Bool.and_eq_true, Bool.not_eq_true', beq_eq_false_iff_ne, ne_eq] at h1
  obtain ⟨h4, h5⟩ := hr _ (rd_mem a ha)
  have h2 := h1.1
  rw [bitI_nat _ _ h4 h5] at h2
  rw [leB_iff hr]
  refine ⟨ha, ha, ?_⟩
  cases hb : (rd rows (a : Int)).toNat.testBit a with
  | true => rfl
  | false => rw [hb] at h2; simp at h2
theorem ordered_pair {rows : List Int} (hr : U64s rows) (h : orderedB rows = true) (a b : Nat) (hab : leB rows a b = true) (hne : b ≠ a) : leB rows b a = false ∧ ∀ c, leB rows b c = true → leB rows a c = true := by
  obtain ⟨ha, hb, ht⟩ := (leB_iff hr a b).1 hab
  unfold orderedB at h
  rw [List.all_eq_true] at h
  have h1 := h a (List.mem_range.2 ha)
  rw [Bool.and_eq_true, List.all_eq_true] at h1
  have h2 := h1.2 b (List.mem_range.2 hb)
  obtain ⟨h4, h5⟩ := hr _ (rd_mem a ha)
  obtain ⟨h6, h7⟩ := hr _ (rd_mem b hb)
  have e1 : (bitI (rd rows (a : Int)) b == 1) = true := by rw [bitI_nat _ _ h4 h5, if_pos ht]; rfl
  unfold rowOk at h2
  rw [e1] at h2
  simp only [hne, ne_eq, not_false_eq_true, decide_true, Bool.true_and, Bool.not_eq_true', Bool.or_eq_false_iff, Bool.not_eq_false', beq_iff_eq] at h2
  refine ⟨?_, fun c hc => ?_⟩
  · cases hx : leB rows b a with
    | false => rfl
    | true =>
      have := ((leB_iff hr b a).1 hx).2.2
      have h3 := h2.1
      rw [bitI_nat _ _ h6 h7, if_pos this] at h3
      simp at h3
  · obtain ⟨_, h8, h9⟩ := (leB_iff hr b c).1 hc
    exact (leB_iff hr a c).2 ⟨ha, h8, (lessI_zero _ _ h6 h7 h4 h5).1 h2.2 c h9⟩
theorem ordered_trans {rows : List Int} (hr : U64s rows) (h : orderedB rows = true) (a b c : Nat) (hab : leB rows a b = true) (hbc : leB rows b c = true) : leB rows a c = true := by
  by_cases e : b = a
  · rw [← e]; exact hbc
  · exact (ordered_pair hr h a b hab e).2 c hbc
end Go.Proofs.YtdecijmncpbheaaGreatDoor

namespace Go.Proofs.YtdecijmncpbheaaGreatDoor
open Go.RowKit Go.Proofs.YtdecijmncpbheaaGreatDoorW.PrintWords Go.Proofs.YtdecijmncpbheaaGreatDoorW.PrintLast Go.Proofs.YtdecijmncpbheaaGreatDoorW.PrintMore
set_option linter.unusedVariables false
set_option linter.unusedSimpArgs false
/-- Element j of a row of numbers that is read, as 'rd' tells it. -/
theorem C_rd {k : IntKind} {w : World} {A : Option Addr} {n : Nat} {xs : List Int} (h : (Kd.int k).C w A n xs) (j : Nat) (hj : j < n) : ∃ ad, A = some ad ∧ w.cell? (ad.add j) = some (.int k (rd xs (j : Int))) := by
  obtain rfl := h.1
  obtain ⟨ad, e, hc⟩ := C_intN h j hj
  refine ⟨ad, e, ?_⟩
  rw [hc, rd, Int.toNat_natCast, List.getD_eq_getElem?_getD, List.getElem?_eq_getElem hj]
  rfl
set_option maxRecDepth 100000 in
set_option maxHeartbeats 4000000 in
theorem ordered_calls (w : World) (A : Option Addr) (c n : Nat) (rows : List Int) (hn : n = rows.length) (h64 : n ≤ 64) (hr : (Kd.int .u64).C w A n rows) :
    Calls Tryz.prog 168 #[.slice A n c] w fun e w' => e = .returned (.bool (orderedB rows)) ∧ w = w' := by
  have HN := Aside0.mk hn
  have HB := Aside0.mk (show orderedB rows = (List.range n).all (fun i => !(bitI (rd rows i) i == 0) && (List.range n).all fun j => rowOk rows i j) by rw [hn]; rfl)
  clear hn
  go_enter Tryz.func168, Tryz.ntmps168
  go_wp2
  go_loopg [9] (n + 1) (fun g i W => ∃ k : Nat, i = .int .i64 (k : Int) ∧ W = w ∧ k ≤ n ∧ n + 1 - k ≤ g ∧ Aside0 (∀ i, i < k → (!(bitI (rd rows i) i == 0) && (List.range n).all fun j => rowOk rows i j) = true))
  case atStart => exact ⟨0, rfl, rfl, by omega, by omega, ⟨fun i hi => by omega⟩⟩
  case round =>
    obtain ⟨k, rfl, hW, hk, hkg, HK⟩ := hrel
    subst hW
    rcases Nat.lt_or_ge k n with hlt | hge
    · have hd : decide (k < n) = true := decide_eq_true hlt
      obtain ⟨ad, rfl, c0⟩ := C_rd hr k hlt
      obtain ⟨r, hrr⟩ : ∃ r, r = rd rows (k : Int) := ⟨_, rfl⟩
      rw [← hrr] at c0
      have HR := Aside0.mk hrr
      have HBI := Aside0.mk (show bits .and .u64 (r / 2 ^ k) 1 = bitI r k from rfl)
      clear hrr
      have hcol : ∀ b, bitI r k = b → Aside0 ((bits .and .u64 (r / 2 ^ k) 1 == 0) = (b == 0)) := fun b hb => ⟨by rw [show bits .and .u64 (r / 2 ^ k) 1 = bitI r k from rfl, hb]⟩
      cases hb0 : (bitI r k == 0) with
      | true =>
        have hbt : (bits .and .u64 (r / 2 ^ k) 1 == 0) = true := hb0
        have HF : Aside0 (orderedB rows = false) := ⟨by
          rw [HB.out, List.all_eq_false]
          refine ⟨k, List.mem_range.2 hlt, ?_⟩
          rw [← HR.out, hb0]
          simp⟩
        clear hcol
        go_wp2
        go_ret
        rw [HF.out]
        exact ⟨rfl, rfl⟩
      | false =>
        have hbf : (bits .and .u64 (r / 2 ^ k) 1 == 0) = false := hb0
        have HB0 := Aside0.mk hb0
        clear hb0 hcol
        obtain ⟨g0, hg1, hg2⟩ : ∃ g0, g0 < gk ∧ n + 1 - (k + 1) ≤ g0 := ⟨gk - 1, by omega, by omega⟩
        go_wp2
        go_loopg [21] (n + 1) (fun g i W => ∃ j : Nat, i = .int .i64 (j : Int) ∧ W = wr ∧ j ≤ n ∧ n + 1 - j ≤ g ∧ Aside0 (∀ i, i < j → rowOk rows k i = true))
        case atStart => exact ⟨0, rfl, rfl, by omega, by omega, ⟨fun i hi => by omega⟩⟩
        case round =>
          obtain ⟨j, rfl, hW, hj, hjg, HJ⟩ := hrel
          subst hW
          rcases Nat.lt_or_ge j n with hjlt | hjge
          · have hdj : decide (j < n) = true := decide_eq_true hjlt
            obtain ⟨ad2, hae, c1⟩ := C_rd hr j hjlt
            cases hae
            obtain ⟨o, hoo⟩ : ∃ o, o = rd rows (j : Int) := ⟨_, rfl⟩
            rw [← hoo] at c1
            have HO := Aside0.mk hoo
            clear hoo
            have hnext : rowOk rows k j = true → Aside0 (∀ i, i < j + 1 → rowOk rows k i = true) := fun h => ⟨by
              intro i hi
              rcases Nat.lt_or_ge i j with g | g
              · exact HJ.out i g
              · obtain rfl : i = j := by omega
                exact h⟩
            have hbad : rowOk rows k j = false → Aside0 (orderedB rows = false) := fun h => ⟨by
              rw [HB.out, List.all_eq_false]
              refine ⟨k, List.mem_range.2 hlt, ?_⟩
              rw [Bool.and_eq_true, not_and]
              intro _ hx
              rw [List.all_eq_true] at hx
              rw [hx j (List.mem_range.2 hjlt)] at h
              cases h⟩
            have hrow : Aside0 (rowOk rows k j = !(decide (j ≠ k) && (bitI r j == 1) && ((bitI o k == 1) || !(lessI o r == 0)))) := ⟨by rw [HR.out, HO.out]; rfl⟩
            by_cases hjk : j = k
            · have e1 : ((j : Int) != (k : Int)) = false := by rw [hjk]; exact bne_self_eq_false _
              have HN2 := hnext (by rw [hrow.out]; simp [hjk])
              clear hnext hbad hrow hjk
              go_wp2
              go_roundg (gk - 1)
              case measure => omega
              case rel => exact ⟨j + 1, by go_num, rfl, by omega, by omega, HN2⟩
            · have e1 : ((j : Int) != (k : Int)) = true := by simp; omega
              cases e2 : (bits .and .u64 (r / 2 ^ j) 1 == 1) with
              | false =>
                have HN2 := hnext (by rw [hrow.out, show (bitI r j == 1) = false from e2]; simp)
                clear hnext hbad hrow hjk
                go_wp2
                go_roundg (gk - 1)
                case measure => omega
                case rel => exact ⟨j + 1, by go_num, rfl, by omega, by omega, HN2⟩
              | true =>
                cases e3 : (bits .and .u64 (o / 2 ^ k) 1 == 1) with
                | true =>
                  have HF := hbad (by rw [hrow.out, show (bitI r j == 1) = true from e2, show (bitI o k == 1) = true from e3]; simp [hjk])
                  clear hnext hbad hrow hjk
                  go_wp2
                  go_ret
                  rw [HF.out]
                  exact ⟨rfl, rfl⟩
                | false =>
                  cases e4 : (bits .andNot .u64 o r == 0) with
                  | true =>
                    have e5 : (bits .andNot .u64 o r != 0) = false := by unfold bne; rw [e4]; rfl
                    have HN2 := hnext (by rw [hrow.out, show (bitI r j == 1) = true from e2, show (bitI o k == 1) = false from e3, show (lessI o r == 0) = true from e4]; simp)
                    clear hnext hbad hrow hjk
                    go_wp2
                    go_roundg (gk - 1)
                    case measure => omega
                    case rel => exact ⟨j + 1, by go_num, rfl, by omega, by omega, HN2⟩
                  | false =>
                    have e5 : (bits .andNot .u64 o r != 0) = true := by unfold bne; rw [e4]; rfl
                    have HF := hbad (by rw [hrow.out, show (bitI r j == 1) = true from e2, show (bitI o k == 1) = false from e3, show (lessI o r == 0) = false from e4]; simp [hjk])
                    clear hnext hbad hrow hjk
                    go_wp2
                    go_ret
                    rw [HF.out]
                    exact ⟨rfl, rfl⟩
          · have hdj : decide (j < n) = false := decide_eq_false (by omega)
            have HK2 : Aside0 (∀ i, i < k + 1 → (!(bitI (rd rows i) i == 0) && (List.range n).all fun j => rowOk rows i j) = true) := ⟨by
              intro i hi
              rcases Nat.lt_or_ge i k with h | h
              · exact HK.out i h
              · obtain rfl : i = k := by omega
                rw [← HR.out, HB0.out, List.all_eq_true.2]
                · rfl
                · intro x hx
                  exact HJ.out x (by have := List.mem_range.1 hx; omega)⟩
            go_wp2
            go_roundg g0
            case measure => omega
            case rel => exact ⟨k + 1, by go_num, rfl, by omega, by omega, HK2⟩
    · have hd : decide (k < n) = false := decide_eq_false (by omega)
      have HE : Aside0 (orderedB rows = true) := ⟨by
        rw [HB.out, List.all_eq_true]
        intro i hi
        exact HK.out i (by have := List.mem_range.1 hi; omega)⟩
      go_wp2
      go_ret
      rw [HE.out]
      exact ⟨rfl, rfl⟩
end Go.Proofs.YtdecijmncpbheaaGreatDoor

namespace Go.Proofs.YtdecijmncpbheaaGreatDoor
open Go.RowKit Go.Proofs.YtdecijmncpbheaaGreatDoorW.PrintWords Go.Proofs.YtdecijmncpbheaaGreatDoorW.PrintLast Go.Proofs.YtdecijmncpbheaaGreatDoorW.PrintMore
set_option linter.unusedVariables false
set_option linter.unusedSimpArgs false
theorem u64_pow (n : Nat) (h : n ≤ 64) : IntKind.u64.wrap (IntKind.u64.wrap (2 ^ n) - 1) = 2 ^ n - 1 := by
  have hp : (2 : Int) ^ n ≤ 2 ^ 64 := by exact_mod_cast Nat.pow_le_pow_right (n := 2) (by decide) h
  have h1 : (1 : Int) ≤ 2 ^ n := by exact_mod_cast Nat.one_le_two_pow
  rcases Nat.lt_or_ge n 64 with g | g
  · have hq : (2 : Int) ^ n < 2 ^ 64 := by exact_mod_cast Nat.pow_lt_pow_right (by decide : 1 < 2) g
    rw [wrap_u64 (2 ^ n) (by omega) hq, wrap_u64 _ (by omega) (by omega)]
  · obtain rfl : n = 64 := by omega
    decide
set_option maxRecDepth 100000 in
set_option maxHeartbeats 4000000 in
theorem ordAll_calls (w : World) (n : Nat) (h64 : n ≤ 64) :
    Calls Tryz.prog 167 #[.int .i64 (n : Int)] w fun e w' => e = .returned (.int .u64 (2 ^ n - 1)) ∧ w = w' := by
  rw [← u64_pow n h64]
  go_enter Tryz.func167, Tryz.ntmps167
  go_wp2
  go_ret
  exact ⟨rfl, rfl⟩
set_option maxRecDepth 100000 in
set_option maxHeartbeats 4000000 in
theorem tz_core (x k idx : Nat) (w : World) (hx0 : ((x : Int) == 0) = false)
    (key : IntKind.u64.wrap (bits BinOp.and IntKind.u64 (x : Int) (IntKind.u64.wrap (-(x : Int))) * 285870213051353865) / 288230376151711744 = (idx : Int))
    (hi : idx < 64) (hk : k < 64) (hcell : w.cell? ⟨1, idx, none⟩ = some (.int .u8 k)) :
    Calls Tryz.prog 204 #[.int .u64 x] w fun e w' => e = .returned (.int .i64 k) ∧ w = w' := by
  go_enter Tryz.func204, Tryz.ntmps204
  go_wp2_with (simp only [key])
  go_ret
  exact ⟨rfl, rfl⟩
theorem tz_calls (x : Nat) (hx0 : x ≠ 0) (hx : x < 18446744073709551616) (w : World) (hT : TabAt 1 Lib.deBruijn64tab w) :
    Calls Tryz.prog 204 #[.int .u64 x] w fun e w' => e = .returned (.int .i64 (Lib.ctz 64 x)) ∧ w = w' := by
  obtain ⟨hlow, hk⟩ := Lib.lowest_bit 64 x hx0 hx
  obtain ⟨hi, htab⟩ := Lib.deBruijn64_at _ hk
  have hcell := hT _ hi
  rw [htab] at hcell
  exact tz_core x _ _ w (by simp; omega) (tz64_key x _ hx hx0 hlow) hi hk hcell
/-- The loop of 'one', by fuel. -/
def oneL (s : Nat) (rows : List Int) : Nat → Nat → Bool
  | 0, _ => false
  | f + 1, l => if l = 0 then false else if bits .and .u64 (rd rows ((Lib.ctz 64 l : Nat) : Int)) (s : Int) == (s : Int) then true else oneL s rows f (l &&& (l - 1))
def oneB (s : Nat) (rows : List Int) : Bool := oneL s rows s s
theorem and_pred_lt (l : Nat) (h : l ≠ 0) : l &&& (l - 1) < l := Nat.lt_of_le_of_lt Nat.and_le_right (by omega)
set_option maxRecDepth 100000 in
set_option maxHeartbeats 4000000 in
theorem one_calls (w : World) (A : Option Addr) (c n : Nat) (rows : List Int) (s : Nat) (hs : s < 2 ^ n) (h64 : n ≤ 64) (hr : (Kd.int .u64).C w A n rows) (HT : Aside0 (TabAt 1 Lib.deBruijn64tab w)) :
    Calls Tryz.prog 170 #[.int .u64 (s : Int), .slice A n c] w fun e w' => e = .returned (.bool (oneB s rows)) ∧ w = w' := by
  have hp : 2 ^ n ≤ 2 ^ 64 := Nat.pow_le_pow_right (by decide) h64
  have HR := Aside0.mk hr
  have HP := Aside0.mk hp
  have HS := Aside0.mk hs
  clear hr hp hs
  go_enter Tryz.func170, Tryz.ntmps170
  go_wp2
  go_loopg [5] (s + 1) (fun g i W => ∃ l : Nat, i = .int .u64 (l : Int) ∧ W = w ∧ l + 1 ≤ g ∧ Aside0 (l < 2 ^ n) ∧ Aside0 (∃ f, l ≤ f ∧ oneL s rows f l = oneB s rows))
  case atStart => exact ⟨s, rfl, rfl, by omega, HS, ⟨s, Nat.le_refl _, rfl⟩⟩
  case round =>
    obtain ⟨l, rfl, hW, hg, HL, HF⟩ := hrel
    subst hW
    rcases Nat.eq_zero_or_pos l with h0 | h0
    · subst h0
      have HE : Aside0 (oneB s rows = false) := ⟨by
        obtain ⟨f, _, hf⟩ := HF.out
        rw [← hf]
        cases f <;> rfl⟩
      go_wp2
      go_ret
      rw [HE.out]
      exact ⟨rfl, rfl⟩
    · have hne : ((l : Int) != 0) = true := by simp; omega
      have hl0 : l ≠ 0 := by omega
      have hl64 : Aside0 (l < 18446744073709551616) := ⟨Nat.lt_of_lt_of_le HL.out HP.out⟩
      have hk : Lib.ctz 64 l < n := by
        obtain ⟨m, hm, _⟩ := Lib.ctzFrom_spec 64 l (by omega) hl64.out
        have he : Lib.ctz 64 l = Lib.ctzFrom 64 l := by simp [Lib.ctz, hl0]
        rw [he]
        have h1 : 2 ^ Lib.ctzFrom 64 l ≤ l := by
          have h2 : 2 ^ Lib.ctzFrom 64 l ≤ 2 ^ Lib.ctzFrom 64 l * (2 * m + 1) := Nat.le_mul_of_pos_right _ (by omega)
          omega
        exact (Nat.pow_lt_pow_iff_right (by decide : 1 < 2)).1 (Nat.lt_of_le_of_lt h1 HL.out)
      obtain ⟨k, hkk⟩ : ∃ k, k = Lib.ctz 64 l := ⟨_, rfl⟩
      rw [← hkk] at hk
      have HK := Aside0.mk hkk
      clear hkk
      obtain ⟨ad, rfl, c0⟩ := C_rd HR.out k hk
      obtain ⟨r, hrr⟩ : ∃ r, r = rd rows (k : Int) := ⟨_, rfl⟩
      rw [← hrr] at c0
      have HRR := Aside0.mk hrr
      clear hrr
      obtain ⟨m, hm⟩ : ∃ m, m = l &&& (l - 1) := ⟨_, rfl⟩
      have hml : m < l := by rw [hm]; exact and_pred_lt l hl0
      have HM := Aside0.mk hm
      have hand : bits .and .u64 (l : Int) (IntKind.u64.wrap ((l : Int) - 1)) = (m : Int) := by
        rw [wrap_u64 _ (by omega) (by have := hl64.out; omega), show (l : Int) - 1 = ((l - 1 : Nat) : Int) by omega, bits_and_u64_nat l (l - 1) (by have := hl64.out; omega) (by have := hl64.out; omega), ← hm]
      clear hm
      have HSTEP : Aside0 (oneB s rows = if bits .and .u64 r (s : Int) == (s : Int) then true else oneB s rows) := ⟨by
        obtain ⟨f, hlf, hf⟩ := HF.out
        obtain ⟨f', rfl⟩ : ∃ f', f = f' + 1 := ⟨f - 1, by omega⟩
        split
        · rename_i ht
          rw [← hf, oneL, if_neg hl0, ← HK.out, ← HRR.out, if_pos ht]
        · rfl⟩
      cases ht : (bits .and .u64 r (s : Int) == (s : Int)) with
      | true =>
        have HE : Aside0 (oneB s rows = true) := ⟨by rw [HSTEP.out, ht]; rfl⟩
        go_wp2_with (go_at_call 204; (with_reducible refine (tz_calls l hl0 hl64.out _ HT.out).mono ?_); rintro e W1 ⟨rfl, rfl⟩; rw [← HK.out])
        go_ret
        rw [HE.out]
        exact ⟨rfl, rfl⟩
      | false =>
        have HN : Aside0 (∃ f, m ≤ f ∧ oneL s rows f m = oneB s rows) := ⟨by
          obtain ⟨f, hlf, hf⟩ := HF.out
          obtain ⟨f', rfl⟩ : ∃ f', f = f' + 1 := ⟨f - 1, by omega⟩
          refine ⟨f', by omega, ?_⟩
          rw [← hf, oneL, if_neg hl0, ← HK.out, ← HRR.out, ht, HM.out]
          rfl⟩
        go_wp2_with (go_at_call 204; (with_reducible refine (tz_calls l hl0 hl64.out _ HT.out).mono ?_); rintro e W1 ⟨rfl, rfl⟩; rw [← HK.out])
        go_roundg (gk - 1)
        case measure => omega
        case rel => exact ⟨m, rfl, rfl, by omega, ⟨Nat.lt_trans hml HL.out⟩, HN⟩
end Go.Proofs.YtdecijmncpbheaaGreatDoor

namespace Go.Proofs.YtdecijmncpbheaaGreatDoor
open Go.RowKit Go.Shelf Go.Proofs.YtdecijmncpbheaaGreatDoorW.PrintWords Go.Proofs.YtdecijmncpbheaaGreatDoorW.PrintLast Go.Proofs.YtdecijmncpbheaaGreatDoorW.PrintMore
set_option linter.unusedVariables false
set_option linter.unusedSimpArgs false
/-- The rows turned, as the code turns them: entry by entry. -/
def tJ (r : Int) (i : Nat) (out : List Int) : Nat → List Int
  | 0 => out
  | j + 1 => (tJ r i out j).set j (bits .or .u64 (rd (tJ r i out j) (j : Int)) (IntKind.u64.wrap (bits .and .u64 (r / 2 ^ j) 1 * 2 ^ i)))
def tI (rows : List Int) (n : Nat) : Nat → List Int
  | 0 => List.replicate n 0
  | i + 1 => tJ (rd rows (i : Int)) i (tI rows n i) n
def turnedR (rows : List Int) : List Int := tI rows rows.length rows.length
theorem tJ_len (r : Int) (i : Nat) (out : List Int) : ∀ j, (tJ r i out j).length = out.length
  | 0 => rfl
  | j + 1 => by rw [tJ, List.length_set, tJ_len r i out j]
theorem tI_len (rows : List Int) (n : Nat) : ∀ i, (tI rows n i).length = n
  | 0 => by simp [tI]
  | i + 1 => by rw [tI, tJ_len, tI_len rows n i]
/-- Each entry has the bits of n rows alone. -/
def Small (n : Nat) (l : List Int) : Prop := ∀ x ∈ l, ∃ a : Nat, x = (a : Int) ∧ a < 2 ^ n
theorem tJ_small (n : Nat) (h64 : n ≤ 64) (r : Int) (hr0 : 0 ≤ r) (hr1 : r < 2 ^ 64) (i : Nat) (hi : i < n) (out : List Int) (ho : Small n out) (hl : out.length = n) : ∀ j, j ≤ n → Small n (tJ r i out j)
  | 0, _ => ho
  | j + 1, hj => by
    have ih := tJ_small n h64 r hr0 hr1 i hi out ho hl j (by omega)
    intro x hx
    rw [tJ] at hx
    rcases List.mem_or_eq_of_mem_set hx with h | h
    · exact ih x h
    · subst h
      have hjl : j < (tJ r i out j).length := by rw [tJ_len, hl]; omega
      obtain ⟨a, ha, hal⟩ := ih _ (rd_mem j hjl)
      have hb : bits .and .u64 (r / 2 ^ j) 1 = bitI r j := rfl
      have h2 : (2 : Nat) ^ n ≤ 2 ^ 64 := Nat.pow_le_pow_right (by decide) h64
      have h3 : (2 : Nat) ^ i < 2 ^ n := Nat.pow_lt_pow_right (by decide) hi
      obtain ⟨b, hbe, hbl⟩ : ∃ b : Nat, IntKind.u64.wrap (bitI r j * 2 ^ i) = (b : Int) ∧ b < 2 ^ n := by
        rw [bitI_nat r j hr0 hr1]
        split
        · refine ⟨2 ^ i, ?_, h3⟩
          rw [Int.one_mul, wrap_u64 _ (by exact_mod_cast Nat.zero_le _) (by exact_mod_cast Nat.lt_of_lt_of_le h3 h2)]
          simp
        · refine ⟨0, ?_, Nat.two_pow_pos n⟩
          rw [Int.zero_mul]
          rfl
      rw [ha, hb, hbe, bits_or_u64_nat a b (by omega) (by omega)]
      exact ⟨a ||| b, rfl, Nat.or_lt_two_pow hal hbl⟩
theorem tI_small (rows : List Int) (n : Nat) (h64 : n ≤ 64) (hr : U64s rows) (hn : n = rows.length) : ∀ i, i ≤ n → Small n (tI rows n i)
  | 0, _ => by
    intro x hx
    rw [tI] at hx
    rw [(List.mem_replicate.1 hx).2]
    exact ⟨0, rfl, Nat.two_pow_pos n⟩
  | i + 1, hi => by
    obtain ⟨h0, h1⟩ := hr _ (rd_mem i (show i < rows.length by omega))
    exact tJ_small n h64 _ h0 h1 i (by omega) _ (tI_small rows n h64 hr hn i (by omega)) (tI_len _ _ _) n (Nat.le_refl _)
theorem R_cellU {W : World} {e base g n cap : Nat} {ok : Nat → Prop} {xs : List Int} (h : (Kd.int .u64).R e W base ok (.slice (some ⟨g, 0, none⟩) n cap) xs) (i : Nat) (hi : i < n) : W.cell? ⟨g, i, none⟩ = some (.int .u64 (rd xs (i : Int))) ∧ W.frozen? ⟨g, i, none⟩ = false := by
  have := Kd.R_celln 0 h (i : Int) (by omega) (by omega)
  rw [Int.toNat_natCast] at this
  exact this
theorem u64_flat : Flat (Kd.int .u64) (fun x => [.int .u64 x]) := fun _ _ _ _ _ => Iff.rfl
theorem edit_u {e base g n cap : Nat} {W : World} {ok : Nat → Prop} {xs : List Int} (h : (Kd.int .u64).R e W base ok (.slice (some ⟨g, 0, none⟩) n cap) xs) (i : Nat) (hi : i < xs.length) (x : Int) :
    (Kd.int .u64).R e (W.setCell ⟨g, i, none⟩ (.int .u64 x)) base ok (.slice (some ⟨g, 0, none⟩) n cap) (xs.set i x) := by
  have := R_edit u64_flat h i 0 hi (by decide) x (.int .u64 x) rfl
  simpa [Kd.int, Kd.scalar] using this
theorem infoU : (Tryz.prog.info? 91).map (fun i => (i.zero, i.size, i.bytes)) = some (some (.int .u64 0), 1, 8) := by kernel_rfl
theorem R_zerosU {W : World} {base n : Nat} (hn : n ≤ 64) (hb : base ≤ W.heap.size) : (Kd.int .u64).R 91 (W.alloc (.cells (Array.replicate n (.int .u64 0)) 91)) base (fun _ => True) (.slice (some ⟨W.heap.size, 0, none⟩) n n) (List.replicate n 0) := by
  have h := R_block (d := Kd.int .u64) (W := W.alloc (.cells (Array.replicate n (.int .u64 0)) 91)) (g := W.heap.size) (base := base) (cells := List.replicate n (.int .u64 0)) (t := 91) (xs := List.replicate n (0 : Int)) (ok := fun _ => True) (by rw [List.toArray_replicate]; exact blk_new W _) hb trivial ⟨by simp [Kd.int, Kd.scalar], fun i x hx => ?_⟩ (by simp [maxLen]; omega)
  · simpa using h
  · obtain ⟨hi, hxx⟩ := List.getElem?_eq_some_iff.1 hx
    rw [List.getElem_replicate] at hxx
    subst hxx
    have hi' : i < n := by simpa using hi
    show ((List.replicate n (Value.int .u64 0)).drop (i * 1)).take 1 = [.int .u64 0]
    rw [Nat.mul_one, List.drop_replicate, List.take_replicate]
    rw [show min 1 (n - i) = 1 by omega]
    rfl
set_option maxRecDepth 100000 in
set_option maxHeartbeats 4000000 in
theorem turned_walk (w : World) (A : Option Addr) (c n : Nat) (rows : List Int) (hn : n = rows.length) (h64 : n ≤ 64) (hr : (Kd.int .u64).C w A n rows) :
    Calls Tryz.prog 169 #[.slice A n c] w fun e w' => e = .returned (.slice (some ⟨w.heap.size, 0, none⟩) n n) ∧ Below w.heap.size w w' ∧ (Kd.int .u64).R 91 w' w.heap.size (fun _ => True) (.slice (some ⟨w.heap.size, 0, none⟩) n n) (tI rows n n) := by
  have HR := Aside0.mk hr
  clear hr hn
  go_enter Tryz.func169, Tryz.ntmps169
  go_wp2_with (first
    | (at_make; refine wpList_make1 rfl 91 26 _ _ rfl n rfl rfl (by kernel_rfl) (.int .u64 0) 8 infoU rfl (by decide) (by omega) ?_; have HG := Aside0.mk (R_zerosU (W := w) (base := w.heap.size) h64 (Nat.le_refl _)); have HB := Aside0.mk (below_alloc (Below.refl w.heap.size w) (.cells (Array.replicate n (.int .u64 0)) 91)))
    | fail)
  go_loopg [12] (n + 1) (fun g i W => ∃ k : Nat, i = .int .i64 (k : Int) ∧ k ≤ n ∧ n + 1 - k ≤ g ∧ Aside0 (Below w.heap.size w W) ∧ Aside0 ((Kd.int .u64).R 91 W w.heap.size (fun _ => True) (.slice (some ⟨w.heap.size, 0, none⟩) n n) (tI rows n k)))
  case atStart => exact ⟨0, rfl, by omega, by omega, HB, HG⟩
  case round =>
    obtain ⟨k, rfl, hk, hkg, HB1, HG1⟩ := hrel
    clear HB HG
    rcases Nat.lt_or_ge k n with hlt | hge
    · have hd : decide (k < n) = true := decide_eq_true hlt
      obtain ⟨ad, rfl, c0⟩ := C_rd (Kd.C_below HR.out HB1.out) k hlt
      obtain ⟨r, hrr⟩ : ∃ r, r = rd rows (k : Int) := ⟨_, rfl⟩
      rw [← hrr] at c0
      have HRR := Aside0.mk hrr
      clear hrr
      obtain ⟨g0, hg1, hg2⟩ : ∃ g0, g0 < gk ∧ n + 1 - (k + 1) ≤ g0 := ⟨gk - 1, by omega, by omega⟩
      go_wp2
      go_loopg [19] (n + 1) (fun g i W => ∃ j : Nat, i = .int .i64 (j : Int) ∧ j ≤ n ∧ n + 1 - j ≤ g ∧ Aside0 (Below w.heap.size w W) ∧ Aside0 ((Kd.int .u64).R 91 W w.heap.size (fun _ => True) (.slice (some ⟨w.heap.size, 0, none⟩) n n) (tJ r k (tI rows n k) j)))
      case atStart => exact ⟨0, rfl, by omega, by omega, HB1, HG1⟩
      case round =>
        obtain ⟨j, rfl, hj, hjg, HB2, HG2⟩ := hrel
        rcases Nat.lt_or_ge j n with hjlt | hjge
        · have hdj : decide (j < n) = true := decide_eq_true hjlt
          obtain ⟨o, hoo⟩ : ∃ o, o = rd (tJ r k (tI rows n k) j) (j : Int) := ⟨_, rfl⟩
          obtain ⟨c1, f1⟩ := R_cellU HG2.out j hjlt
          rw [← hoo] at c1
          have HO := Aside0.mk hoo
          clear hoo
          have hlen : (tJ r k (tI rows n k) j).length = n := by rw [tJ_len, tI_len]
          have HL := Aside0.mk hlen
          clear hlen c0
          go_wp2
          go_region
          have HE := Aside0.mk (edit_u HG2.out j (by rw [HL.out]; exact hjlt) (bits .or .u64 o (IntKind.u64.wrap (bits .and .u64 (r / 2 ^ j) 1 * 2 ^ k))))
          have HB3 := Aside0.mk (HB2.out.setCell (p := ⟨w.heap.size, j, none⟩) (Nat.le_refl _) (.int .u64 (bits .or .u64 o (IntKind.u64.wrap (bits .and .u64 (r / 2 ^ j) 1 * 2 ^ k)))))
          clear c1 f1
          go_wp2
          go_roundg (gk - 1)
          case measure => omega
          case rel =>
            refine ⟨j + 1, by go_num, by omega, by omega, ⟨HB3.out.drew⟩, ⟨?_⟩⟩
            rw [tJ, ← HO.out]
            exact Kd.R_drewN HE.out 1
        · have hdj : decide (j < n) = false := decide_eq_false (by omega)
          obtain rfl : j = n := by omega
          have HN : Aside0 ((Kd.int .u64).R 91 wr w.heap.size (fun _ => True) (.slice (some ⟨w.heap.size, 0, none⟩) j j) (tI rows j (k + 1))) := ⟨by
            have := HG2.out
            rw [HRR.out] at this
            exact this⟩
          clear HG2 HG1
          go_wp2
          go_roundg g0
          case measure => omega
          case rel => exact ⟨k + 1, by go_num, by omega, by omega, HB2, HN⟩
    · have hd : decide (k < n) = false := decide_eq_false (by omega)
      obtain rfl : k = n := by omega
      go_wp2
      go_ret
      exact ⟨rfl, HB1.out, HG1.out⟩
end Go.Proofs.YtdecijmncpbheaaGreatDoor

namespace Go.Proofs.YtdecijmncpbheaaGreatDoor
open Go.RowKit Go.Proofs.YtdecijmncpbheaaGreatDoorW.PrintWords Go.Proofs.YtdecijmncpbheaaGreatDoorW.PrintLast Go.Proofs.YtdecijmncpbheaaGreatDoorW.PrintMore
set_option linter.unusedVariables false
set_option linter.unusedSimpArgs false
theorem tab_below {w w1 : World} (hb : Below w.heap.size w w1) (h : TabAt 1 Lib.deBruijn64tab w) : TabAt 1 Lib.deBruijn64tab w1 := fun j hj => pw_cell_below hb (h j hj)
def pairOk (rows tr : List Int) (i j : Nat) : Bool := oneB (bits .and .u64 (rd rows i) (rd rows j)).toNat rows && oneB (bits .and .u64 (rd tr i) (rd tr j)).toNat tr
/-- What orders.Check answers. -/
def checkO (rows : List Int) : Int :=
  if rows.length < 1 ∨ 64 < rows.length then 1
  else if ((List.range rows.length).all fun i => lessI (rd rows i) (2 ^ rows.length - 1) == 0) = false then 1
  else if orderedB rows = false then 9
  else if ((List.range rows.length).all fun i => (List.range i).all fun j => pairOk rows (turnedR rows) i j) = false then 7 else 0
theorem and_small (n : Nat) (h64 : n ≤ 64) (x y : Int) (hx : ∃ a : Nat, x = (a : Int) ∧ a < 2 ^ n) (hy : ∃ a : Nat, y = (a : Int) ∧ a < 2 ^ n) : ∃ a : Nat, bits .and .u64 x y = (a : Int) ∧ a < 2 ^ n := by
  obtain ⟨a, rfl, ha⟩ := hx
  obtain ⟨b, rfl, hb⟩ := hy
  have h2 : (2 : Nat) ^ n ≤ 2 ^ 64 := Nat.pow_le_pow_right (by decide) h64
  exact ⟨a &&& b, bits_and_u64_nat a b (by omega) (by omega), Nat.and_lt_two_pow _ hb⟩
theorem less_small (n : Nat) (h64 : n ≤ 64) (x : Int) (h0 : 0 ≤ x) (h1 : x < 2 ^ 64) (h : lessI x (2 ^ n - 1) = 0) : ∃ a : Nat, x = (a : Int) ∧ a < 2 ^ n := by
  have hp : (2 : Int) ^ n ≤ 2 ^ 64 := by exact_mod_cast Nat.pow_le_pow_right (n := 2) (by decide) h64
  have h3 : (1 : Int) ≤ 2 ^ n := by exact_mod_cast Nat.one_le_two_pow
  have h2 := (lessI_zero x (2 ^ n - 1) h0 h1 (by omega) (by omega)).1 h
  obtain ⟨a, rfl⟩ := Int.eq_ofNat_of_zero_le h0
  refine ⟨a, rfl, Nat.lt_pow_two_of_testBit _ fun j hj => ?_⟩
  cases hb : a.testBit j with
  | false => rfl
  | true =>
    have h4 := h2 j (by simpa using hb)
    have e : ((2 : Int) ^ n - 1).toNat = 2 ^ n - 1 := by
      have : ((2 : Int) ^ n - 1) = ((2 ^ n - 1 : Nat) : Int) := by
        have := Nat.one_le_two_pow (n := n)
        rw [Int.ofNat_sub this]
        simp
      rw [this, Int.toNat_natCast]
    rw [e, Nat.testBit_two_pow_sub_one] at h4
    simp at h4
    omega
set_option maxRecDepth 100000 in
set_option maxHeartbeats 8000000 in
theorem checkO_calls (w : World) (A : Option Addr) (c n : Nat) (rows : List Int) (hn : n = rows.length) (hmax : n ≤ 9223372036854775807) (hr : (Kd.int .u64).C w A n rows) (hU : U64s rows) (HT : Aside0 (TabAt 1 Lib.deBruijn64tab w)) :
    Calls Tryz.prog 104 #[.slice A n c] w fun e w' => e = .returned (.int .i64 (checkO rows)) ∧ Below w.heap.size w w' := by
  have HR := Aside0.mk hr
  have HU := Aside0.mk hU
  have HN := Aside0.mk hn
  have HD : Aside0 (checkO rows = if n < 1 ∨ 64 < n then 1
    else if ((List.range n).all fun i => lessI (rd rows i) (2 ^ n - 1) == 0) = false then 1
    else if orderedB rows = false then 9
    else if ((List.range n).all fun i => (List.range i).all fun j => pairOk rows (turnedR rows) i j) = false then 7 else 0) := ⟨by rw [hn]; rfl⟩
  clear hr hU hn
  go_enter Tryz.func104, Tryz.ntmps104
  rcases Nat.lt_or_ge n 1 with h1 | h1
  · have hd1 : decide ((n : Int) < 1) = true := decide_eq_true (by omega)
    have HE : Aside0 (checkO rows = 1) := ⟨by rw [HD.out, if_pos (Or.inl h1)]⟩
    go_wp2
    go_ret
    rw [HE.out]
    exact ⟨rfl, Below.refl _ _⟩
  have hd1 : decide ((n : Int) < 1) = false := decide_eq_false (by omega)
  rcases Nat.lt_or_ge 64 n with h2 | h64
  · have hd2 : decide ((64 : Int) < n) = true := decide_eq_true (by omega)
    have HE : Aside0 (checkO rows = 1) := ⟨by rw [HD.out, if_pos (Or.inr h2)]⟩
    go_wp2
    go_ret
    rw [HE.out]
    exact ⟨rfl, Below.refl _ _⟩
  have hd2 : decide ((64 : Int) < n) = false := decide_eq_false (by omega)
  have HD1 : Aside0 (checkO rows = if ((List.range n).all fun i => lessI (rd rows i) (2 ^ n - 1) == 0) = false then 1
    else if orderedB rows = false then 9
    else if ((List.range n).all fun i => (List.range i).all fun j => pairOk rows (turnedR rows) i j) = false then 7 else 0) := ⟨by rw [HD.out, if_neg (by omega)]⟩
  clear HD
  go_wp2
  go_loopg [19] (n + 1) (fun g i W => ∃ k : Nat, i = .int .i64 (k : Int) ∧ W = w ∧ k ≤ n ∧ n + 1 - k ≤ g ∧ Aside0 (∀ i, i < k → (lessI (rd rows i) (2 ^ n - 1) == 0) = true))
  case atStart => exact ⟨0, rfl, rfl, by omega, by omega, ⟨fun i hi => by omega⟩⟩
  case round =>
    obtain ⟨k, rfl, hW, hk, hkg, HK⟩ := hrel
    have hW2 := hW.symm; clear hW; subst hW2
    rcases Nat.lt_or_ge k n with hlt | hge
    · have hd : decide (k < n) = true := decide_eq_true hlt
      obtain ⟨ad, hae, c0⟩ := C_rd HR.out k hlt
      subst hae
      obtain ⟨r, hrr⟩ : ∃ r, r = rd rows (k : Int) := ⟨_, rfl⟩
      rw [← hrr] at c0
      have HRR := Aside0.mk hrr
      clear hrr
      cases e4 : (bits .andNot .u64 r (2 ^ n - 1) == 0) with
      | false =>
        have e5 : (bits .andNot .u64 r (2 ^ n - 1) != 0) = true := by unfold bne; rw [e4]; rfl
        have HE : Aside0 (checkO rows = 1) := ⟨by
          rw [HD1.out, if_pos]
          rw [List.all_eq_false]
          refine ⟨k, List.mem_range.2 hlt, ?_⟩
          rw [← HRR.out, show (lessI r (2 ^ n - 1) == 0) = false from e4]
          simp⟩
        go_wp2_with (go_at_call 167; (with_reducible refine (ordAll_calls _ n h64).mono ?_); rintro e W1 ⟨rfl, rfl⟩)
        go_ret
        rw [HE.out]
        exact ⟨rfl, Below.refl _ _⟩
      | true =>
        have e5 : (bits .andNot .u64 r (2 ^ n - 1) != 0) = false := by unfold bne; rw [e4]; rfl
        have HK2 : Aside0 (∀ i, i < k + 1 → (lessI (rd rows i) (2 ^ n - 1) == 0) = true) := ⟨by
          intro i hi
          rcases Nat.lt_or_ge i k with h | h
          · exact HK.out i h
          · obtain rfl : i = k := by omega
            rw [← HRR.out]
            exact e4⟩
        go_wp2_with (go_at_call 167; (with_reducible refine (ordAll_calls _ n h64).mono ?_); rintro e W1 ⟨rfl, rfl⟩)
        go_roundg (gk - 1)
        case measure => omega
        case rel => exact ⟨k + 1, by go_num, rfl, by omega, by omega, HK2⟩
    · have hd : decide (k < n) = false := decide_eq_false (by omega)
      obtain rfl : k = n := by omega
      have HALL : Aside0 (((List.range k).all fun i => lessI (rd rows i) (2 ^ k - 1) == 0) = true) := ⟨by
        rw [List.all_eq_true]
        intro x hx
        exact HK.out x (List.mem_range.1 hx)⟩
      have HSM : Aside0 (∀ i, i < k → ∃ a : Nat, rd rows (i : Int) = (a : Int) ∧ a < 2 ^ k) := ⟨fun i hi => by
        obtain ⟨h0, h1⟩ := HU.out _ (rd_mem i (by rw [← HN.out]; exact hi))
        exact less_small k h64 _ h0 h1 (by have := HK.out i hi; simpa using this)⟩
      cases ho : orderedB rows with
      | false =>
        have HE : Aside0 (checkO rows = 9) := ⟨by rw [HD1.out, HALL.out, if_neg (by simp), if_pos ho]⟩
        have HO := Aside0.mk ho
        clear ho
        go_wp2_with (go_at_call 168; (with_reducible refine (ordered_calls _ _ _ _ rows HN.out h64 HR.out).mono ?_); rintro e W1 ⟨rfl, rfl⟩; rw [HO.out])
        go_ret
        rw [HE.out]
        exact ⟨rfl, Below.refl _ _⟩
      | true =>
        have HD2 : Aside0 (checkO rows = if ((List.range k).all fun i => (List.range i).all fun j => pairOk rows (turnedR rows) i j) = false then 7 else 0) := ⟨by rw [HD1.out, HALL.out, if_neg (by simp), if_neg (by simp [ho])]⟩
        have HO := Aside0.mk ho
        clear ho
        go_wp2_with (first
          | (go_at_call 168; (with_reducible refine (ordered_calls _ _ _ _ rows HN.out h64 HR.out).mono ?_); rintro e W1 ⟨rfl, rfl⟩; rw [HO.out])
          | (go_at_call 169; (with_reducible refine (turned_walk _ _ _ _ rows HN.out h64 HR.out).mono ?_); rintro e W1 ⟨rfl, hb1, hr1⟩; have HB1 := Aside0.mk hb1; have HR1 := Aside0.mk hr1; clear hb1 hr1))
        have HTR : Aside0 (turnedR rows = tI rows k k) := ⟨by rw [turnedR, ← HN.out]⟩
        have HTS : Aside0 (∀ i, i < k → ∃ a : Nat, rd (tI rows k k) (i : Int) = (a : Int) ∧ a < 2 ^ k) := ⟨fun i hi => tI_small rows k h64 HU.out HN.out k (Nat.le_refl _) _ (rd_mem i (by rw [tI_len]; exact hi))⟩
        have HR2 : Aside0 ((Kd.int .u64).C W1 (some ⟨w.heap.size, 0, none⟩) k (tI rows k k)) := ⟨by have := (Kd.R_reads' HR1.out).2.2; rwa [tI_len] at this⟩
        have HRW : Aside0 ((Kd.int .u64).C W1 A k rows) := ⟨Kd.C_below HR.out HB1.out⟩
        have HTW : Aside0 (TabAt 1 Lib.deBruijn64tab W1) := ⟨tab_below HB1.out HT.out⟩
        clear HR HR1 HK HALL HT
        go_loopg [35] (k + 1) (fun g i W => ∃ i0 : Nat, i = .int .i64 (i0 : Int) ∧ i0 ≤ k ∧ k + 1 - i0 ≤ g ∧ Aside0 (Below W1.heap.size W1 W) ∧ Aside0 (∀ i, i < i0 → ∀ j, j < i → pairOk rows (tI rows k k) i j = true))
        case atStart => exact ⟨0, rfl, by omega, by omega, ⟨Below.refl _ _⟩, ⟨fun i hi => by omega⟩⟩
        case round =>
          obtain ⟨i0, rfl, hi0, hig, HB2, HK⟩ := hrel
          rcases Nat.lt_or_ge i0 k with hilt | hige
          · have hdi : decide (i0 < k) = true := decide_eq_true hilt
            obtain ⟨g0, hg1, hg2⟩ : ∃ g0, g0 < gk ∧ k + 1 - (i0 + 1) ≤ g0 := ⟨gk - 1, by omega, by omega⟩
            go_wp2
            go_loopg [39] (i0 + 1) (fun g i W => ∃ j : Nat, i = .int .i64 (j : Int) ∧ j ≤ i0 ∧ i0 + 1 - j ≤ g ∧ Aside0 (Below W1.heap.size W1 W) ∧ Aside0 (∀ i, i < j → pairOk rows (tI rows k k) i0 i = true))
            case atStart => exact ⟨0, rfl, by omega, by omega, HB2, ⟨fun i hi => by omega⟩⟩
            case round =>
              obtain ⟨j, rfl, hj, hjg, HB3, HJ⟩ := hrel
              rcases Nat.lt_or_ge j i0 with hjlt | hjge
              · have hdj : decide (j < i0) = true := decide_eq_true hjlt
                have HC1 := Aside0.mk (Kd.C_below HRW.out HB3.out)
                have HC2 := Aside0.mk (Kd.C_below HR2.out HB3.out)
                have HT3 := Aside0.mk (tab_below HB3.out HTW.out)
                obtain ⟨ad, hae, c0⟩ := C_rd HC1.out i0 hilt
                subst hae
                obtain ⟨ad', hae, c1⟩ := C_rd HC1.out j (by omega)
                cases hae
                obtain ⟨ad', hae, c2⟩ := C_rd HC2.out i0 hilt
                cases hae
                obtain ⟨ad', hae, c3⟩ := C_rd HC2.out j (by omega)
                cases hae
                obtain ⟨a, hab, hal⟩ := and_small k h64 _ _ (HSM.out i0 hilt) (HSM.out j (by omega))
                obtain ⟨b, hbb, hbl⟩ := and_small k h64 _ _ (HTS.out i0 hilt) (HTS.out j (by omega))
                have HP : Aside0 (pairOk rows (tI rows k k) i0 j = (oneB a rows && oneB b (tI rows k k))) := ⟨by rw [pairOk, hab, hbb, Int.toNat_natCast, Int.toNat_natCast]⟩
                have HAL := Aside0.mk hal
                have HBL := Aside0.mk hbl
                obtain ⟨x0, hx0⟩ : ∃ x, x = rd rows (i0 : Int) := ⟨_, rfl⟩
                obtain ⟨x1, hx1⟩ : ∃ x, x = rd rows (j : Int) := ⟨_, rfl⟩
                obtain ⟨y0, hy0⟩ : ∃ x, x = rd (tI rows k k) (i0 : Int) := ⟨_, rfl⟩
                obtain ⟨y1, hy1⟩ : ∃ x, x = rd (tI rows k k) (j : Int) := ⟨_, rfl⟩
                rw [← hx0] at c0 hab
                rw [← hx1] at c1 hab
                rw [← hy0] at c2 hbb
                rw [← hy1] at c3 hbb
                rw [add_plain] at c2 c3
                clear hx0 hx1 hy0 hy1 hal hbl
                have Q1 : ∀ v, oneB a rows = v → Aside0 (∀ m, Calls Tryz.prog 170 #[.int .u64 (a : Int), .slice (some ad) k c] (wr.drewN m) fun e w' => e = .returned (.bool v) ∧ ∃ m', w' = wr.drewN m') := fun v hv => ⟨fun m => by
                  refine (one_calls _ _ c k rows a HAL.out h64 (Kd.C_below HC1.out (pw_below_drewN (Below.refl _ _) m)) ⟨tab_below (pw_below_drewN (Below.refl _ _) m) HT3.out⟩).mono ?_
                  rintro e w' ⟨rfl, rfl⟩
                  exact ⟨by rw [hv], m, rfl⟩⟩
                have Q2 : ∀ v, oneB b (tI rows k k) = v → Aside0 (∀ m, Calls Tryz.prog 170 #[.int .u64 (b : Int), .slice (some ⟨w.heap.size, 0, none⟩) k k] (wr.drewN m) fun e w' => e = .returned (.bool v) ∧ ∃ m', w' = wr.drewN m') := fun v hv => ⟨fun m => by
                  refine (one_calls _ _ k k (tI rows k k) b HBL.out h64 (Kd.C_below HC2.out (pw_below_drewN (Below.refl _ _) m)) ⟨tab_below (pw_below_drewN (Below.refl _ _) m) HT3.out⟩).mono ?_
                  rintro e w' ⟨rfl, rfl⟩
                  exact ⟨by rw [hv], m, rfl⟩⟩
                have hj1 : (j : Int) < (k : Int) := by omega
                have hi1 : (i0 : Int) < (k : Int) := by omega
                have hbad : pairOk rows (tI rows k k) i0 j = false → Aside0 (checkO rows = 7) := fun h => ⟨by
                  rw [HD2.out, if_pos]
                  rw [List.all_eq_false]
                  refine ⟨i0, List.mem_range.2 hilt, ?_⟩
                  intro hx
                  rw [List.all_eq_true] at hx
                  have := hx j (List.mem_range.2 hjlt)
                  rw [HTR.out, h] at this
                  cases this⟩
                have hgood : pairOk rows (tI rows k k) i0 j = true → Aside0 (∀ i, i < j + 1 → pairOk rows (tI rows k k) i0 i = true) := fun h => ⟨by
                  intro i hi
                  rcases Nat.lt_or_ge i j with g | g
                  · exact HJ.out i g
                  · obtain rfl : i = j := by omega
                    exact h⟩
                cases o1 : oneB a rows with
                | false =>
                  have HE := hbad (by rw [HP.out, o1]; rfl)
                  have P1 := Q1 _ o1
                  clear o1 hbad hgood Q1 Q2
                  go_wp2
                  go_quiet (with_reducible exact P1.out _)
                  go_wp2
                  go_ret
                  rw [HE.out]
                  exact ⟨rfl, HB1.out.trans ((pw_below_drewN HB3.out _).mono HB1.out.size)⟩
                | true =>
                  cases o2 : oneB b (tI rows k k) with
                  | false =>
                    have HE := hbad (by rw [HP.out, o1, o2]; rfl)
                    have P1 := Q1 _ o1
                    have P2 := Q2 _ o2
                    clear o1 o2 hbad hgood Q1 Q2
                    go_wp2
                    go_quiet (first | (with_reducible exact P1.out _) | (with_reducible exact P2.out _))
                    go_wp2
                    go_ret
                    rw [HE.out]
                    exact ⟨rfl, HB1.out.trans ((pw_below_drewN HB3.out _).mono HB1.out.size)⟩
                  | true =>
                    have HE := hgood (by rw [HP.out, o1, o2]; rfl)
                    have P1 := Q1 _ o1
                    have P2 := Q2 _ o2
                    clear o1 o2 hbad hgood Q1 Q2
                    go_wp2
                    go_quiet (first | (with_reducible exact P1.out _) | (with_reducible exact P2.out _))
                    go_wp2
                    go_roundg (gk - 1)
                    case measure => omega
                    case rel => exact ⟨j + 1, by go_num, by omega, by omega, ⟨pw_below_drewN HB3.out _⟩, HE⟩
              · have hdj : decide (j < i0) = false := decide_eq_false (by omega)
                obtain rfl : j = i0 := by omega
                have HK2 : Aside0 (∀ i, i < j + 1 → ∀ l, l < i → pairOk rows (tI rows k k) i l = true) := ⟨by
                  intro i hi
                  rcases Nat.lt_or_ge i j with h | h
                  · exact HK.out i h
                  · obtain rfl : i = j := by omega
                    exact HJ.out⟩
                clear HK HJ
                go_wp2
                go_roundg g0
                case measure => omega
                case rel => exact ⟨j + 1, by go_num, by omega, by omega, HB3, HK2⟩
          · have hdi : decide (i0 < k) = false := decide_eq_false (by omega)
            obtain rfl : i0 = k := by omega
            have HE : Aside0 (checkO rows = 0) := ⟨by
              rw [HD2.out, if_neg]
              rw [HTR.out]
              simp only [Bool.not_eq_false]
              rw [List.all_eq_true]
              intro x hx
              rw [List.all_eq_true]
              intro y hy
              exact HK.out x (List.mem_range.1 hx) y (List.mem_range.1 hy)⟩
            go_wp2
            go_ret
            rw [HE.out]
            exact ⟨rfl, HB1.out.trans (HB2.out.mono HB1.out.size)⟩
end Go.Proofs.YtdecijmncpbheaaGreatDoor

namespace Go.Proofs.YtdecijmncpbheaaGreatDoor
open Go.RowKit Go.Proofs.YtdecijmncpbheaaGreatDoorW.PrintWords Go.Proofs.YtdecijmncpbheaaGreatDoorW.PrintLast Go.Proofs.YtdecijmncpbheaaGreatDoorW.PrintMore
set_option linter.unusedVariables false
set_option linter.unusedSimpArgs false
/-- A lattice's block: how many labels there are, the rows, and 64 more words. -/
def LatB (W : World) (g : Nat) (n : Nat) (up : Nat → Int) : Prop :=
  ∃ cs : Array Value, W.heap[g]? = some (.cells cs 142 (0, 0)) ∧ cs.size = 129 ∧ cs[0]? = some (.int .i64 (n : Int)) ∧ (∀ j, j < 64 → cs[1 + j]? = some (.int .u64 (up j))) ∧ ∀ j, j < 64 → ∃ x, cs[65 + j]? = some (.int .u64 x)
theorem LatB.kept {W W1 : World} {g n : Nat} {up : Nat → Int} (h : LatB W g n up) (hb : Below W.heap.size W W1) : LatB W1 g n up := by
  obtain ⟨cs, h1, h2⟩ := h
  exact ⟨cs, (hb.block g (blk_lt h1)).trans h1, h2⟩
theorem LatB.up {W : World} {g n : Nat} {up : Nat → Int} (h : LatB W g n up) (i : Nat) (hi : i < 64) : W.cell? ⟨g, 1 + i, none⟩ = some (.int .u64 (up i)) := by
  obtain ⟨cs, h1, _, _, h4, _⟩ := h
  rw [blk_cell h1]
  exact h4 i hi
theorem LatB.down {W : World} {g n : Nat} {up : Nat → Int} (h : LatB W g n up) (i : Nat) (hi : i < 64) : ∃ x, W.cell? ⟨g, 65 + i, none⟩ = some (.int .u64 x) := by
  obtain ⟨cs, h1, _, _, _, h5⟩ := h
  rw [blk_cell h1]
  exact h5 i hi
theorem LatB.n0 {W : World} {g n : Nat} {up : Nat → Int} (h : LatB W g n up) : W.cell? ⟨g, 0, none⟩ = some (.int .i64 (n : Int)) := by
  obtain ⟨cs, h1, _, h3, _⟩ := h
  rw [blk_cell h1]
  exact h3
theorem LatB.thaw {W : World} {g n : Nat} {up : Nat → Int} (h : LatB W g n up) (i : Nat) : W.frozen? ⟨g, i, none⟩ = false := by
  obtain ⟨cs, h1, _⟩ := h
  exact blk_frozen h1 i
theorem LatB.set_up {W : World} {g n : Nat} {up : Nat → Int} (h : LatB W g n up) (i : Nat) (hi : i < 64) (x : Int) : LatB (W.setCell ⟨g, 1 + i, none⟩ (.int .u64 x)) g n (fun j => if j = i then x else up j) := by
  obtain ⟨cs, h1, h2, h3, h4, h5⟩ := h
  refine ⟨_, blk_set h1 (1 + i) _, by simpa using h2, ?_, fun j hj => ?_, fun j hj => ?_⟩
  · rw [Array.getElem?_setIfInBounds]
    rw [if_neg (by omega)]
    exact h3
  · rw [Array.getElem?_setIfInBounds]
    by_cases e : j = i
    · subst e
      simp [h2]
      omega
    · rw [if_neg (by omega), h4 j hj]
      simp [e]
  · obtain ⟨y, hy⟩ := h5 j hj
    refine ⟨y, ?_⟩
    rw [Array.getElem?_setIfInBounds, if_neg (by omega)]
    exact hy
theorem LatB.set_down {W : World} {g n : Nat} {up : Nat → Int} (h : LatB W g n up) (i : Nat) (hi : i < 64) (x : Int) : LatB (W.setCell ⟨g, 65 + i, none⟩ (.int .u64 x)) g n up := by
  obtain ⟨cs, h1, h2, h3, h4, h5⟩ := h
  refine ⟨_, blk_set h1 (65 + i) _, by simpa using h2, ?_, fun j hj => ?_, fun j hj => ?_⟩
  · rw [Array.getElem?_setIfInBounds, if_neg (by omega)]
    exact h3
  · rw [Array.getElem?_setIfInBounds, if_neg (by omega)]
    exact h4 j hj
  · rw [Array.getElem?_setIfInBounds]
    by_cases e : j = i
    · subst e
      exact ⟨x, by simp [h2]; omega⟩
    · rw [if_neg (by omega)]
      exact h5 j hj
theorem zero113 : Tryz.zeroCells142 = #[.int .i64 0] ++ Array.replicate 128 (.int .u64 0) := by kernel_rfl
theorem LatB.new (W : World) (n : Nat) : LatB (W.alloc (.cells (Tryz.zeroCells142.setIfInBounds 0 (.int .i64 (n : Int))) 142)) W.heap.size n (fun _ => 0) := by
  refine ⟨_, blk_new W _, ?_, ?_, fun j hj => ?_, fun j hj => ⟨0, ?_⟩⟩
  · rw [zero113]
    simp
  · rw [zero113]
    simp
  · rw [zero113, Array.getElem?_setIfInBounds, if_neg (by omega), Array.getElem?_append_right (by simp), Array.getElem?_replicate, if_pos (by simp; omega)]
  · rw [zero113, Array.getElem?_setIfInBounds, if_neg (by omega), Array.getElem?_append_right (by simp; omega), Array.getElem?_replicate, if_pos (by simp; omega)]
/-- A lattice of these rows. -/
def Lat (W : World) (g : Nat) (rows : List Int) : Prop := LatB W g rows.length (fun j => rd rows (j : Int))
set_option maxRecDepth 100000 in
set_option maxHeartbeats 8000000 in
theorem new_ok (w : World) (A : Option Addr) (c n : Nat) (rows : List Int) (hn : n = rows.length) (hmax : n ≤ 9223372036854775807) (hr : (Kd.int .u64).C w A n rows) (hU : U64s rows) (HT : Aside0 (TabAt 1 Lib.deBruijn64tab w)) (h0 : checkO rows = 0) (h64 : n ≤ 64) :
    Calls Tryz.prog 27 #[.slice A n c] w fun e w' => Below w.heap.size w w' ∧ ∃ g, e = .returned (.tuple #[.pointer (some ⟨g, 0, none⟩), .int .i64 0]) ∧ Lat w' g rows := by
  have HR := Aside0.mk hr
  have HU := Aside0.mk hU
  have HN := Aside0.mk hn
  have H0 := Aside0.mk h0
  clear hr hU hn h0
  go_enter Tryz.func27, Tryz.ntmps27
  go_wp2_with (go_at_call 104; (with_reducible refine (checkO_calls _ _ _ _ rows HN.out hmax HR.out HU.out HT).mono ?_); rintro e W1 ⟨rfl, hb1⟩; rw [H0.out]; have HB1 := Aside0.mk hb1; clear hb1)
  have HB0 := Aside0.mk (below_alloc (Below.refl W1.heap.size W1) (.cells (Tryz.zeroCells142.setIfInBounds 0 (.int .i64 (n : Int))) 142))
  have HL0 := Aside0.mk (LatB.new W1 n)
  obtain ⟨g, hg⟩ : ∃ g, g = W1.heap.size := ⟨_, rfl⟩
  rw [← hg] at HL0 HB0 ⊢
  have HG := Aside0.mk hg
  clear hg
  generalize (W1.alloc (.cells (Tryz.zeroCells142.setIfInBounds 0 (.int .i64 (n : Int))) 142)) = w7 at *
  go_loopg [20] (n + 1) (fun gk i W => ∃ k : Nat, i = .int .i64 (k : Int) ∧ k ≤ n ∧ n + 1 - k ≤ gk ∧ Aside0 (Below g W1 W) ∧ Aside0 (LatB W g n (fun j => if j < k then rd rows (j : Int) else 0)))
  case atStart => exact ⟨0, rfl, by omega, by omega, HB0, ⟨by simpa using HL0.out⟩⟩
  case round =>
    obtain ⟨k, rfl, hk, hkg, HB2, HL⟩ := hrel
    clear HB0 HL0
    rcases Nat.lt_or_ge k n with hlt | hge
    · have hd : decide (k < n) = true := decide_eq_true hlt
      have HW : Aside0 (Below w.heap.size w wr) := ⟨HB1.out.trans (HB2.out.mono (by rw [HG.out]; exact HB1.out.size))⟩
      obtain ⟨ad, hae, c0⟩ := C_rd (Kd.C_below HR.out HW.out) k hlt
      subst hae
      obtain ⟨r, hrr⟩ : ∃ r, r = rd rows (k : Int) := ⟨_, rfl⟩
      rw [← hrr] at c0
      have HRR := Aside0.mk hrr
      clear hrr
      obtain ⟨g0, hg1, hg2⟩ : ∃ g0, g0 < gk ∧ n + 1 - (k + 1) ≤ g0 := ⟨gk - 1, by omega, by omega⟩
      have f1 := HL.out.thaw (1 + k)
      have c1 := HL.out.up k (by omega)
      have hk64 : (k : Int) < 64 := by omega
      go_wp2
      have HLU := Aside0.mk (HL.out.set_up k (by omega) r)
      have HBU := Aside0.mk (HB2.out.setCell (p := ⟨g, 1 + k, none⟩) (Nat.le_refl _) (.int .u64 r))
      have HLV : Aside0 (LatB (wr.setCell ⟨g, 1 + k, none⟩ (.int .u64 r)) g n (fun j => if j < k + 1 then rd rows (j : Int) else 0)) := ⟨by
        refine cast ?_ HLU.out
        congr 1
        funext j
        by_cases e : j = k
        · subst e
          simp [HRR.out]
        · rw [if_neg e]
          by_cases e2 : j < k
          · rw [if_pos e2, if_pos (by omega)]
          · rw [if_neg e2, if_neg (by omega)]⟩
      clear HLU HL HB2 HW f1 c1 c0
      generalize (wr.setCell ⟨g, 1 + k, none⟩ (.int .u64 r)) = w8 at *
      go_loopg [33] (n + 1) (fun gk i W => ∃ j : Nat, i = .int .i64 (j : Int) ∧ j ≤ n ∧ n + 1 - j ≤ gk ∧ Aside0 (Below g W1 W) ∧ Aside0 (LatB W g n (fun j => if j < k + 1 then rd rows (j : Int) else 0)))
      case atStart => exact ⟨0, rfl, by omega, by omega, HBU, HLV⟩
      case round =>
        obtain ⟨j, rfl, hj, hjg, HB3, HL3⟩ := hrel
        clear HBU HLV
        rcases Nat.lt_or_ge j n with hjlt | hjge
        · have hdj : decide (j < n) = true := decide_eq_true hjlt
          obtain ⟨o, c2⟩ := HL3.out.down j (by omega)
          have f2 := HL3.out.thaw (65 + j)
          have hj64 : (j : Int) < 64 := by omega
          go_wp2
          go_region
          go_wp2
          go_roundg (gk - 1)
          case measure => omega
          case rel => exact ⟨j + 1, by go_num, by omega, by omega, ⟨(HB3.out.setCell (p := ⟨g, 65 + j, none⟩) (Nat.le_refl _) _).drew⟩, ⟨(HL3.out.set_down j (by omega) _).kept ((Below.refl _ _).drew)⟩⟩
        · have hdj : decide (j < n) = false := decide_eq_false (by omega)
          go_wp2
          go_roundg g0
          case measure => omega
          case rel => exact ⟨k + 1, by go_num, by omega, by omega, HB3, HL3⟩
    · have hd : decide (k < n) = false := decide_eq_false (by omega)
      obtain rfl : k = n := by omega
      go_wp2
      go_ret2
      refine ⟨HB1.out.trans (HB2.out.mono (by rw [HG.out]; exact HB1.out.size)), g, rfl, ?_⟩
      unfold Lat
      rw [← HN.out]
      refine cast ?_ HL.out
      congr 1
      funext j
      by_cases e : j < k
      · rw [if_pos e]
      · rw [if_neg e, rd, Int.toNat_natCast, List.getD_eq_getElem?_getD, List.getElem?_eq_none (by rw [← HN.out]; omega)]
        rfl
set_option maxRecDepth 100000 in
set_option maxHeartbeats 4000000 in
theorem new_bad (w : World) (A : Option Addr) (c n : Nat) (rows : List Int) (hn : n = rows.length) (hmax : n ≤ 9223372036854775807) (hr : (Kd.int .u64).C w A n rows) (hU : U64s rows) (HT : Aside0 (TabAt 1 Lib.deBruijn64tab w)) (h0 : (checkO rows != 0) = true) :
    Calls Tryz.prog 27 #[.slice A n c] w fun e w' => Below w.heap.size w w' ∧ e = .returned (.tuple #[.pointer none, .int .i64 (checkO rows)]) := by
  have HR := Aside0.mk hr
  have HU := Aside0.mk hU
  have HN := Aside0.mk hn
  obtain ⟨z, hz⟩ : ∃ z, z = checkO rows := ⟨_, rfl⟩
  have HZ := Aside0.mk hz
  rw [← hz] at h0 ⊢
  clear hr hU hn hz
  go_enter Tryz.func27, Tryz.ntmps27
  go_wp2_with (go_at_call 104; (with_reducible refine (checkO_calls _ _ _ _ rows HN.out hmax HR.out HU.out HT).mono ?_); rintro e W1 ⟨rfl, hb1⟩; rw [← HZ.out]; have HB1 := Aside0.mk hb1; clear hb1)
  go_ret2
  exact ⟨HB1.out, rfl⟩
end Go.Proofs.YtdecijmncpbheaaGreatDoor

namespace Go.Proofs.YtdecijmncpbheaaGreatDoor
open Go.RowKit Go.Proofs.YtdecijmncpbheaaGreatDoorW.PrintWords Go.Proofs.YtdecijmncpbheaaGreatDoorW.PrintLast Go.Proofs.YtdecijmncpbheaaGreatDoorW.PrintMore
set_option linter.unusedVariables false
set_option linter.unusedSimpArgs false
def hasLat : Option (List Int) → Int → Bool
  | none, _ => false
  | some rows, a => decide (a < (rows.length : Int))
def leLat : Option (List Int) → Int → Int → Bool
  | none, _, _ => false
  | some rows, a, b => decide (a < (rows.length : Int)) && decide (b < (rows.length : Int)) && (bitI (rd rows a) b.toNat == 1)
def hasEff : Option Int → Int → Bool
  | none, _ => false
  | some t, a => lessI a t == 0
def leEff : Option Int → Int → Int → Bool
  | none, _, _ => false
  | some t, a, b => (lessI a t == 0) && (lessI b t == 0) && (lessI a b == 0)
def LatV (W : World) (v : Value) : Option (List Int) → Prop
  | none => v = .pointer none
  | some rows => ∃ g, v = .pointer (some ⟨g, 0, none⟩) ∧ Lat W g rows ∧ rows.length ≤ 64
def EffV (W : World) (v : Value) : Option Int → Prop
  | none => v = .pointer none
  | some t => ∃ g, v = .pointer (some ⟨g, 0, none⟩) ∧ W.heap[g]? = some (.cells #[.bool true, .int .u64 t] 144 (0, 0))
theorem LatV.kept {W W1 : World} {v : Value} {o : Option (List Int)} (h : LatV W v o) (hb : Below W.heap.size W W1) : LatV W1 v o := by
  cases o with
  | none => exact h
  | some rows =>
    obtain ⟨g, h1, h2, h3⟩ := h
    exact ⟨g, h1, LatB.kept h2 hb, h3⟩
theorem EffV.kept {W W1 : World} {v : Value} {o : Option Int} (h : EffV W v o) (hb : Below W.heap.size W W1) : EffV W1 v o := by
  cases o with
  | none => exact h
  | some t =>
    obtain ⟨g, h1, h2⟩ := h
    exact ⟨g, h1, (hb.block g (blk_lt h2)).trans h2⟩
set_option maxRecDepth 100000 in
set_option maxHeartbeats 4000000 in
theorem has_calls (w : World) (v : Value) (o : Option (List Int)) (a : Int) (ha : 0 ≤ a) (hv : LatV w v o) :
    Calls Tryz.prog 301 #[v, .int .u64 a] w fun e w' => e = .returned (.bool (hasLat o a)) ∧ w = w' := by
  cases o with
  | none =>
    cases hv
    go_enter Tryz.func301, Tryz.ntmps301
    go_wp2
    go_ret
    exact ⟨rfl, rfl⟩
  | some rows =>
    obtain ⟨g, rfl, hl, hn⟩ := hv
    have c0 := LatB.n0 hl
    have hw : IntKind.u64.wrap (rows.length : Int) = (rows.length : Int) := wrap_u64 _ (by omega) (by omega)
    obtain ⟨n, hnn⟩ : ∃ n, n = rows.length := ⟨_, rfl⟩
    have HH : Aside0 (hasLat (some rows) a = decide (a < (n : Int))) := ⟨by rw [hnn]; rfl⟩
    rw [← hnn] at c0 hw
    clear hnn hn hl
    rw [HH.out]
    go_enter Tryz.func301, Tryz.ntmps301
    go_wp2
    go_ret
    exact ⟨rfl, rfl⟩
end Go.Proofs.YtdecijmncpbheaaGreatDoor

namespace Go.Proofs.YtdecijmncpbheaaGreatDoor
open Go.RowKit Go.Proofs.YtdecijmncpbheaaGreatDoorW.PrintWords Go.Proofs.YtdecijmncpbheaaGreatDoorW.PrintLast Go.Proofs.YtdecijmncpbheaaGreatDoorW.PrintMore
set_option linter.unusedVariables false
set_option linter.unusedSimpArgs false
set_option maxRecDepth 100000 in
set_option maxHeartbeats 4000000 in
theorem there_calls (w : World) (v : Value) (o : Option Int) (hv : EffV w v o) :
    Calls Tryz.prog 312 #[v] w fun e w' => e = .returned (.bool o.isSome) ∧ w = w' := by
  cases o with
  | none =>
    cases hv
    go_enter Tryz.func312, Tryz.ntmps312
    go_wp2
    go_ret
    exact ⟨rfl, rfl⟩
  | some t =>
    obtain ⟨g, rfl, hb⟩ := hv
    have c0 : w.cell? ⟨g, 0, none⟩ = some (.bool true) := blk_cell hb 0
    clear hb
    go_enter Tryz.func312, Tryz.ntmps312
    go_wp2
    go_ret
    exact ⟨rfl, rfl⟩
set_option maxRecDepth 100000 in
set_option maxHeartbeats 4000000 in
theorem sets_calls (w : World) (v : Value) (o : Option Int) (A : Option Addr) (c n : Nat) (xs : List Int) (hn : n = xs.length) (h1 : 0 < n) (hr : (Kd.int .u64).C w A n xs) (hv : EffV w v o) :
    Calls Tryz.prog 311 #[v, .slice A n c] w fun e w' => e = .returned (.bool (xs.all (hasEff o))) ∧ w = w' := by
  have hmax : n ≤ 9223372036854775807 := hr.2.1
  have HR := Aside0.mk hr
  have HN := Aside0.mk hn
  have HV := Aside0.mk hv
  clear hr hn
  cases o with
  | none =>
    have HE : Aside0 (xs.all (hasEff none) = false) := ⟨by
      rw [List.all_eq_false]
      exact ⟨xs[0]'(by rw [← HN.out]; exact h1), List.getElem_mem _, by simp [hasEff]⟩⟩
    clear hv
    go_enter Tryz.func311, Tryz.ntmps311
    go_wp2
    go_loopg [9] 2 (fun gk i W => ∃ k : Nat, i = .int .i64 (k : Int) ∧ W = w ∧ k < n)
    case atStart => exact ⟨0, rfl, rfl, h1⟩
    case round =>
      obtain ⟨k, rfl, hW, hlt⟩ := hrel
      have hW2 := hW.symm
      clear hW
      subst hW2
      have hd : decide (k < n) = true := decide_eq_true hlt
      obtain ⟨ad, rfl, c0⟩ := C_rd HR.out k hlt
      go_wp2_with (go_at_call 312; (with_reducible refine (there_calls _ _ none HV.out).mono ?_); rintro e W1 ⟨rfl, rfl⟩)
      go_ret
      rw [HE.out]
      exact ⟨rfl, rfl⟩
  | some t =>
    obtain ⟨g, rfl, hb⟩ := hv
    have c1 : w.cell? ⟨g, 1, none⟩ = some (.int .u64 t) := blk_cell hb 1
    clear hb
    go_enter Tryz.func311, Tryz.ntmps311
    go_wp2
    go_loopg [9] (n + 1) (fun gk i W => ∃ k : Nat, i = .int .i64 (k : Int) ∧ W = w ∧ k ≤ n ∧ n + 1 - k ≤ gk ∧ Aside0 (∀ i (h : i < xs.length), i < k → hasEff (some t) xs[i] = true))
    case atStart => exact ⟨0, rfl, rfl, by omega, by omega, ⟨fun i h hi => by omega⟩⟩
    case round =>
      obtain ⟨k, rfl, hW, hk, hkg, HK⟩ := hrel
      have hW2 := hW.symm
      clear hW
      subst hW2
      rcases Nat.lt_or_ge k n with hlt | hge
      · have hd : decide (k < n) = true := decide_eq_true hlt
        obtain ⟨ad, rfl, c0⟩ := C_rd HR.out k hlt
        obtain ⟨a, ha⟩ : ∃ a, a = rd xs (k : Int) := ⟨_, rfl⟩
        rw [← ha] at c0
        have HA : Aside0 (a = xs[k]'(by rw [← HN.out]; exact hlt)) := ⟨by
          rw [ha, rd, Int.toNat_natCast, List.getD_eq_getElem?_getD, List.getElem?_eq_getElem (by rw [← HN.out]; exact hlt)]
          rfl⟩
        clear ha
        cases e4 : (bits .andNot .u64 a t == 0) with
        | true =>
          have e5 : (bits .andNot .u64 a t != 0) = false := by unfold bne; rw [e4]; rfl
          have HK2 : Aside0 (∀ i (h : i < xs.length), i < k + 1 → hasEff (some t) xs[i] = true) := ⟨by
            intro i h hi
            rcases Nat.lt_or_ge i k with hh | hh
            · exact HK.out i h hh
            · obtain rfl : i = k := by omega
              rw [← HA.out]
              exact e4⟩
          go_wp2_with (go_at_call 312; (with_reducible refine (there_calls _ _ _ HV.out).mono ?_); rintro e W1 ⟨rfl, rfl⟩)
          go_roundg (gk - 1)
          case measure => omega
          case rel => exact ⟨k + 1, by go_num, rfl, by omega, by omega, HK2⟩
        | false =>
          have e5 : (bits .andNot .u64 a t != 0) = true := by unfold bne; rw [e4]; rfl
          have HE : Aside0 (xs.all (hasEff (some t)) = false) := ⟨by
            rw [List.all_eq_false]
            refine ⟨a, by rw [HA.out]; exact List.getElem_mem _, ?_⟩
            rw [show hasEff (some t) a = false from e4]
            simp⟩
          go_wp2_with (go_at_call 312; (with_reducible refine (there_calls _ _ _ HV.out).mono ?_); rintro e W1 ⟨rfl, rfl⟩)
          go_ret
          rw [HE.out]
          exact ⟨rfl, rfl⟩
      · have hd : decide (k < n) = false := decide_eq_false (by omega)
        have HE : Aside0 (xs.all (hasEff (some t)) = true) := ⟨by
          rw [List.all_eq_true]
          intro x hx
          obtain ⟨i, hi, rfl⟩ := List.getElem_of_mem hx
          exact HK.out i hi (by have := HN.out; omega)⟩
        go_wp2
        go_ret
        rw [HE.out]
        exact ⟨rfl, rfl⟩
theorem litU (W : World) (xs : List Int) (h : xs.length ≤ 9) : (Kd.int .u64).C (W.alloc (.cells (xs.map (Value.int .u64)).toArray 91)) (some ⟨W.heap.size, 0, none⟩) xs.length xs := by
  refine (Kd.R_reads' (R_block (d := Kd.int .u64) (W := W.alloc (.cells (xs.map (Value.int .u64)).toArray 91)) (g := W.heap.size) (base := 0) (cells := xs.map (Value.int .u64)) (t := 91) (xs := xs) (ok := fun _ => True) (blk_new W _) (Nat.zero_le _) trivial ⟨by simp [Kd.int, Kd.scalar], fun i x hx => ?_⟩ (by simp [maxLen]; omega))).2.2
  obtain ⟨hi, rfl⟩ := List.getElem?_eq_some_iff.1 hx
  show ((xs.map (Value.int .u64)).drop (i * 1)).take 1 = [.int .u64 xs[i]]
  rw [Nat.mul_one, List.drop_eq_getElem_cons (by simpa using hi)]
  simp
set_option maxRecDepth 100000 in
set_option maxHeartbeats 4000000 in
theorem hasE_calls (w : World) (v : Value) (o : Option Int) (a : Int) (hv : EffV w v o) :
    Calls Tryz.prog 307 #[v, .int .u64 a] w fun e w' => e = .returned (.bool (hasEff o a)) ∧ Below w.heap.size w w' := by
  have HV : Aside0 (EffV (w.alloc (.cells #[.int .u64 a] 91)) v o) := ⟨hv.kept (below_alloc (Below.refl _ _) _)⟩
  have HC : Aside0 ((Kd.int .u64).C (w.alloc (.cells #[.int .u64 a] 91)) (some ⟨w.heap.size, 0, none⟩) 1 [a]) := ⟨litU w [a] (by simp)⟩
  have HB : Aside0 (Below w.heap.size w (w.alloc (.cells #[.int .u64 a] 91))) := ⟨below_alloc (Below.refl _ _) _⟩
  have HE : Aside0 ([a].all (hasEff o) = hasEff o a) := ⟨by simp⟩
  clear hv
  go_enter Tryz.func307, Tryz.ntmps307
  go_wp2_with (go_at_call 311; (with_reducible refine (sets_calls _ _ o _ _ _ [a] (by simp) (by simp) HC.out HV.out).mono ?_); rintro e W1 ⟨rfl, rfl⟩; rw [HE.out])
  go_ret
  exact ⟨rfl, HB.out⟩
def effO (n : Int) : Option Int := if n < 0 ∨ 64 < n then none else some (2 ^ n.toNat - 1)
set_option maxRecDepth 100000 in
set_option maxHeartbeats 4000000 in
theorem effNew_calls (w : World) (n : Int) :
    Calls Tryz.prog 28 #[.int .i64 n] w fun e w' => Below w.heap.size w w' ∧ ∃ v z, e = .returned (.tuple #[v, .int .i64 z]) ∧ EffV w' v (effO n) := by
  rcases Int.lt_or_le n 0 with h1 | h1
  · have hd1 : decide (n < 0) = true := decide_eq_true h1
    have HE : Aside0 (effO n = none) := ⟨if_pos (.inl h1)⟩
    go_enter Tryz.func28, Tryz.ntmps28
    go_wp2
    go_ret2
    rw [HE.out]
    exact ⟨Below.refl _ _, _, _, rfl, rfl⟩
  have hd1 : decide (n < 0) = false := decide_eq_false (by omega)
  rcases Int.lt_or_le 64 n with h2 | h2
  · have hd2 : decide (64 < n) = true := decide_eq_true h2
    have HE : Aside0 (effO n = none) := ⟨if_pos (.inr h2)⟩
    go_enter Tryz.func28, Tryz.ntmps28
    go_wp2
    go_ret2
    rw [HE.out]
    exact ⟨Below.refl _ _, _, _, rfl, rfl⟩
  obtain ⟨k, rfl⟩ := Int.eq_ofNat_of_zero_le h1
  have hd2 : decide (64 < (k : Int)) = false := decide_eq_false (by omega)
  have hp := u64_pow k (by omega)
  have HE : Aside0 (effO (k : Int) = some (2 ^ k - 1)) := ⟨by rw [effO, if_neg (by omega), Int.toNat_natCast]⟩
  go_enter Tryz.func28, Tryz.ntmps28
  go_wp2
  go_ret2
  rw [HE.out]
  refine ⟨?_, _, _, rfl, _, rfl, ?_⟩
  · exact below_alloc (Below.refl _ _) _
  · exact blk_new w _
end Go.Proofs.YtdecijmncpbheaaGreatDoor
