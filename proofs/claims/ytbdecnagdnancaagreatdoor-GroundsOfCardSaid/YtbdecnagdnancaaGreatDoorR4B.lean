/- The document's orders: may rows be one, by a walk through its code. -/
import Derived.Test.YtbdecnagdnancaaGreatDoorR4A

namespace Go.Proofs.YtbdecnagdnancaaGreatDoor
open Go.RowKit Go.Proofs.YtbdecnagdnancaaGreatDoorW.PrintWords Go.Proofs.YtbdecnagdnancaaGreatDoorW.PrintLast Go.Proofs.YtbdecnagdnancaaGreatDoorW.PrintMore
set_option linter.unusedVariables false
set_option linter.unusedSimpArgs false
namespace Ref04
def AnsZ (p : Prop) (e : Ending) : Prop := ∃ z : Int, e = .returned (.int .i64 z) ∧ (z = 0 ↔ p)
theorem AnsZ.no {p : Prop} {z : Int} (h : ¬ p) (hz : z ≠ 0) : AnsZ p (.returned (.int .i64 z)) := ⟨z, rfl, fun e => absurd e hz, fun e => absurd e h⟩
theorem AnsZ.yes {p : Prop} (h : p) : AnsZ p (.returned (.int .i64 0)) := ⟨0, rfl, fun _ => h, fun _ => rfl⟩
theorem le4_eq {rows : List Int} {a b : Nat} (ha : a < 64) (hb : b < 64) : le4 rows a b = leB rows a b := by rw [le4, decide_eq_true ha, decide_eq_true hb]; rfl
theorem le4_leB {rows : List Int} (h64 : rows.length ≤ 64) (a b : Nat) : le4 rows a b = leB rows a b := by
  by_cases ha : a < rows.length
  · by_cases hb : b < rows.length
    · exact le4_eq (by omega) (by omega)
    · have e : leB rows a b = false := by rw [leB, decide_eq_false hb]; simp
      rw [le4, e]; simp
  · have e : leB rows a b = false := by rw [leB, decide_eq_false ha]; simp
    rw [le4, e]; simp
theorem ups_iff {rows : List Int} (hU : U64s rows) (h64 : rows.length ≤ 64) (i j : Nat) : (least4 rows (ups4 rows i j rows.length)).isSome = true ↔ upOk rows i j := by
  rw [least4, List.find?_isSome]
  have hm : ∀ x, x ∈ ups4 rows i j rows.length ↔ leB rows i x = true ∧ leB rows j x = true := fun x => by
    rw [ups4, List.mem_filter, List.mem_range, le4_leB h64, le4_leB h64, Bool.and_eq_true]
    exact ⟨fun h => h.2, fun h => ⟨((leB_iff hU i x).1 h.1).2.1, h⟩⟩
  constructor
  · rintro ⟨x, hx, h⟩
    rw [List.all_eq_true] at h
    exact ⟨x, (hm x).1 hx, fun y h1 h2 => by rw [← le4_leB h64]; exact h y ((hm y).2 ⟨h1, h2⟩)⟩
  · rintro ⟨x, hx, h⟩
    refine ⟨x, (hm x).2 hx, ?_⟩
    rw [List.all_eq_true]
    intro y hy
    rw [le4_leB h64]
    exact h y ((hm y).1 hy).1 ((hm y).1 hy).2
theorem uns_iff {rows : List Int} (hU : U64s rows) (h64 : rows.length ≤ 64) (i j : Nat) : (great4 rows (uns4 rows i j rows.length)).isSome = true ↔ dnOk rows i j := by
  rw [great4, List.find?_isSome]
  have hm : ∀ x, x ∈ uns4 rows i j rows.length ↔ leB rows x i = true ∧ leB rows x j = true := fun x => by
    rw [uns4, List.mem_filter, List.mem_range, le4_leB h64, le4_leB h64, Bool.and_eq_true]
    exact ⟨fun h => h.2, fun h => ⟨((leB_iff hU x i).1 h.1).1, h⟩⟩
  constructor
  · rintro ⟨x, hx, h⟩
    rw [List.all_eq_true] at h
    exact ⟨x, (hm x).1 hx, fun y h1 h2 => by rw [← le4_leB h64]; exact h y ((hm y).2 ⟨h1, h2⟩)⟩
  · rintro ⟨x, hx, h⟩
    refine ⟨x, (hm x).2 hx, ?_⟩
    rw [List.all_eq_true]
    intro y hy
    rw [le4_leB h64]
    exact h y ((hm y).1 hy).1 ((hm y).1 hy).2
theorem shr_small (r : Int) (n : Nat) (h0 : 0 ≤ r) : ((r / 2 ^ n != 0) = false ↔ r < 2 ^ n) := by
  have hp : (0 : Int) < 2 ^ n := by exact_mod_cast Nat.two_pow_pos n
  constructor
  · intro h
    have h1 : r / 2 ^ n = 0 := by simpa using h
    have := Int.emod_add_mul_ediv r (2 ^ n)
    rw [h1] at this
    have := Int.emod_lt_of_pos r hp
    omega
  · intro h
    simp [Int.ediv_eq_zero_of_lt h0 h]
structure Upto (rows : List Int) (n k : Nat) : Prop where
  refl : ∀ i, i < k → leB rows i i = true
  anti : ∀ i, i < k → ∀ j, j < n → i ≠ j → leB rows i j = true → leB rows j i = false
  trans : ∀ i, i < k → ∀ j, j < n → ∀ l, l < n → leB rows i j = true → leB rows j l = true → leB rows i l = true
set_option maxRecDepth 200000 in
set_option maxHeartbeats 16000000 in
theorem check4_calls (w : World) (A : Option Addr) (c n : Nat) (rows : List Int) (hn : n = rows.length) (hmax : n ≤ 9223372036854775807) (hr : (Kd.int .u64).C w A n rows) (hU : U64s rows) :
    Calls Tryz.prog 126 #[.slice A n c] w fun e w' => AnsZ (RefOk rows) e ∧ Below w.heap.size w w' := by
  have HR := Aside0.mk hr
  have HU := Aside0.mk hU
  have HN := Aside0.mk hn
  have hw : IntKind.u64.wrap (n : Int) = (n : Int) := wrap_u64 _ (by omega) (by omega)
  clear hr hU hn
  go_enter Tryz.func126, Tryz.ntmps126
  rcases Nat.lt_or_ge n 1 with h1 | h1
  · have hd1 : decide ((n : Int) < 1) = true := decide_eq_true (by omega)
    have HE : Aside0 (¬ RefOk rows) := ⟨fun h => by have := h.n1; have := HN.out; omega⟩
    go_wp2
    go_ret
    exact ⟨AnsZ.no HE.out (by decide), Below.refl _ _⟩
  have hd1 : decide ((n : Int) < 1) = false := decide_eq_false (by omega)
  rcases Nat.lt_or_ge 64 n with h2 | h64
  · have hd2 : decide ((64 : Int) < n) = true := decide_eq_true (by omega)
    have HE : Aside0 (¬ RefOk rows) := ⟨fun h => by have := h.n64; have := HN.out; omega⟩
    go_wp2
    go_ret
    exact ⟨AnsZ.no HE.out (by decide), Below.refl _ _⟩
  have hd2 : decide ((64 : Int) < n) = false := decide_eq_false (by omega)
  go_wp2
  go_loopg [4] (n + 1) (fun g i W => ∃ k : Nat, i = .int .i64 (k : Int) ∧ W = w ∧ k ≤ n ∧ n + 1 - k ≤ g ∧ Aside0 (∀ i, i < k → rd rows (i : Int) < 2 ^ n))
  case atStart => exact ⟨0, rfl, rfl, by omega, by omega, ⟨fun i hi => by omega⟩⟩
  case round =>
    obtain ⟨k, rfl, hW, hk, hkg, HK⟩ := hrel
    have hW2 := hW.symm; clear hW; subst hW2
    rcases Nat.lt_or_ge k n with hlt | hge
    · have hd : decide (k < n) = true := decide_eq_true hlt
      have hnext : rd rows (k : Int) < 2 ^ n → Aside0 (∀ i, i < k + 1 → rd rows (i : Int) < 2 ^ n) := fun h => ⟨fun i hi => by
        rcases Nat.lt_or_ge i k with g | g
        · exact HK.out i g
        · obtain rfl : i = k := by omega
          exact h⟩
      rcases Nat.lt_or_ge n 64 with h63 | h63
      · have hd3 : decide ((n : Int) < 64) = true := decide_eq_true (by omega)
        obtain ⟨ad, hae, c0⟩ := C_rd HR.out k hlt
        subst hae
        obtain ⟨r, hrr⟩ : ∃ r, r = rd rows (k : Int) := ⟨_, rfl⟩
        have hr0 : 0 ≤ r := by rw [hrr]; exact (HU.out _ (rd_mem k (by rw [← HN.out]; exact hlt))).1
        rw [← hrr] at c0 hnext
        have HRR := Aside0.mk hrr
        clear hrr
        cases e5 : (r / 2 ^ n != 0) with
        | true =>
          have HE : Aside0 (¬ RefOk rows) := ⟨fun h => by
            have := h.small k (by rw [← HN.out]; exact hlt)
            rw [← HRR.out, ← HN.out] at this
            rw [(shr_small r n hr0).2 this] at e5
            cases e5⟩
          clear hnext
          go_wp2
          go_ret
          exact ⟨AnsZ.no HE.out (by decide), Below.refl _ _⟩
        | false =>
          have HK2 := hnext ((shr_small r n hr0).1 e5)
          clear hnext
          go_wp2
          go_roundg (gk - 1)
          case measure => omega
          case rel => exact ⟨k + 1, by go_num, rfl, by omega, by omega, HK2⟩
      · have hd3 : decide ((n : Int) < 64) = false := decide_eq_false (by omega)
        have HK2 := hnext (by obtain rfl : n = 64 := (by omega); exact (HU.out _ (rd_mem k (by rw [← HN.out]; exact hlt))).2)
        clear hnext
        go_wp2
        go_roundg (gk - 1)
        case measure => omega
        case rel => exact ⟨k + 1, by go_num, rfl, by omega, by omega, HK2⟩
    · have hd : decide (k < n) = false := decide_eq_false (by omega)
      obtain rfl : k = n := by omega
      have HBW : Aside0 (∀ W, Below w.heap.size w W → ∀ x y : Nat, Calls Tryz.prog 105 #[.slice A k c, .int .u64 (x : Int), .int .u64 (y : Int)] W fun e w' => e = .returned (.bool (leB rows x y)) ∧ W = w') := ⟨fun W hb x y => by
        rw [← le4_leB (by rw [← HN.out]; exact h64)]
        exact below4_calls W A c k rows x y HN.out (by omega) (Kd.C_below HR.out hb)⟩
      clear hd1 hd2 hk hkg hge
      go_wp2
      go_loopg [5] (k + 1) (fun g i W => ∃ i0 : Nat, i = .int .u64 (i0 : Int) ∧ W = w ∧ i0 ≤ k ∧ k + 1 - i0 ≤ g ∧ Aside0 (Upto rows k i0))
      case atStart => exact ⟨0, rfl, rfl, by omega, by omega, ⟨⟨fun i hi => by omega, fun i hi => by omega, fun i hi => by omega⟩⟩⟩
      case round =>
        obtain ⟨i, rfl, hW, hi, hig, HUP⟩ := hrel
        have hW2 := hW.symm; clear hW; subst hW2
        rcases Nat.lt_or_ge i k with hil | hige
        · have hdi : decide (i < k) = true := decide_eq_true hil
          have hsum : IntKind.u64.wrap ((i : Int) + 1) = (i : Int) + 1 := wrap_u64 _ (by omega) (by omega)
          have HII := Aside0.mk (HBW.out _ (Below.refl _ _) i i)
          cases ei : leB rows i i with
          | false =>
            have HE : Aside0 (¬ RefOk rows) := ⟨fun h => by rw [h.refl i (by rw [← HN.out]; exact hil)] at ei; cases ei⟩
            have EI := Aside0.mk ei
            clear ei
            go_wp2_with (go_at_call 105; (with_reducible refine HII.out.mono ?_); rintro e W1 ⟨rfl, rfl⟩; rw [EI.out])
            go_ret
            exact ⟨AnsZ.no HE.out (by decide), Below.refl _ _⟩
          | true =>
            have EI := Aside0.mk ei
            clear ei
            obtain ⟨g0, hg1, hg2⟩ : ∃ g0, g0 < gk ∧ k + 1 - (i + 1) ≤ g0 := ⟨gk - 1, by omega, by omega⟩
            go_wp2_with (go_at_call 105; (with_reducible refine HII.out.mono ?_); rintro e W1 ⟨rfl, rfl⟩; rw [EI.out])
            go_loopg [6] (k + 1) (fun g i9 W => ∃ j : Nat, i9 = .int .u64 (j : Int) ∧ W = w ∧ j ≤ k ∧ k + 1 - j ≤ g ∧ Aside0 ((∀ j', j' < j → i ≠ j' → leB rows i j' = true → leB rows j' i = false) ∧ ∀ j', j' < j → ∀ l, l < k → leB rows i j' = true → leB rows j' l = true → leB rows i l = true))
            case atStart => exact ⟨0, rfl, rfl, by omega, by omega, ⟨⟨fun i hi => by omega, fun i hi => by omega⟩⟩⟩
            case round =>
              obtain ⟨j, rfl, hW, hj, hjg, HJ⟩ := hrel
              have hW2 := hW.symm; clear hW; subst hW2
              rcases Nat.lt_or_ge j k with hjl | hjge
              · have hdj : decide (j < k) = true := decide_eq_true hjl
                have hsumj : IntKind.u64.wrap ((j : Int) + 1) = (j : Int) + 1 := wrap_u64 _ (by omega) (by omega)
                have HIJ := Aside0.mk (HBW.out _ (Below.refl _ _) i j)
                have HJI := Aside0.mk (HBW.out _ (Below.refl _ _) j i)
                obtain ⟨g1, hg3, hg4⟩ : ∃ g1, g1 < gk ∧ k + 1 - (j + 1) ≤ g1 := ⟨gk - 1, by omega, by omega⟩
                have hcase : ∃ q : Bool, q = (decide (i ≠ j) && (leB rows i j && leB rows j i)) := ⟨_, rfl⟩
                obtain ⟨q, hq⟩ := hcase
                cases q with
                | true =>
                  have hq2 := hq.symm
                  simp only [Bool.and_eq_true, decide_eq_true_eq] at hq2
                  have HE : Aside0 (¬ RefOk rows) := ⟨fun h => by
                    have := h.anti i j (by rw [← HN.out]; exact hil) (by rw [← HN.out]; exact hjl) hq2.1 hq2.2.1
                    rw [hq2.2.2] at this
                    cases this⟩
                  have e1 : ((i : Int) != (j : Int)) = true := by have := hq2.1; simp; omega
                  have E1 := Aside0.mk hq2.2.1
                  have E2 := Aside0.mk hq2.2.2
                  clear hq hq2
                  go_wp2_with (go_at_call 105; first | ((with_reducible refine HIJ.out.mono ?_); rintro e W1 ⟨rfl, rfl⟩; rw [E1.out]) | ((with_reducible refine HJI.out.mono ?_); rintro e W1 ⟨rfl, rfl⟩; rw [E2.out]))
                  go_ret
                  exact ⟨AnsZ.no HE.out (by decide), Below.refl _ _⟩
                | false =>
                  have HQ : Aside0 (i ≠ j → leB rows i j = true → leB rows j i = false) := ⟨fun h1 h2 => by
                    rw [decide_eq_true h1, h2] at hq
                    simpa using hq.symm⟩
                  clear hq
                  have hthree : (((i : Int) != (j : Int)) = false ∧ True) ∨ (((i : Int) != (j : Int)) = true ∧ leB rows i j = false) ∨ (((i : Int) != (j : Int)) = true ∧ leB rows i j = true ∧ leB rows j i = false) := by
                    by_cases hij : i = j
                    · left; subst hij; simp
                    · right
                      have e1 : ((i : Int) != (j : Int)) = true := by simp; omega
                      cases h : leB rows i j with
                      | false => left; exact ⟨e1, rfl⟩
                      | true => right; exact ⟨e1, rfl, HQ.out hij h⟩
                  have E1 : Aside0 (((i : Int) != (j : Int)) = true → True) := ⟨fun _ => trivial⟩
                  rcases hthree with ⟨e1, -⟩ | ⟨e1, e2⟩ | ⟨e1, e2, e3⟩
                  · go_wp2
                    go_loopg [7] (k + 1) (fun g i9 W => ∃ l : Nat, i9 = .int .u64 (l : Int) ∧ W = w ∧ l ≤ k ∧ k + 1 - l ≤ g ∧ Aside0 (∀ l', l' < l → leB rows i j = true → leB rows j l' = true → leB rows i l' = true))
                    case atStart => exact ⟨0, rfl, rfl, by omega, by omega, ⟨fun i hi => by omega⟩⟩
                    case round =>
                      obtain ⟨l, rfl, hW, hl, hlg, HLL⟩ := hrel
                      have hW2 := hW.symm; clear hW; subst hW2
                      rcases Nat.lt_or_ge l k with hll | hlge
                      · have hdl : decide (l < k) = true := decide_eq_true hll
                        have hsuml : IntKind.u64.wrap ((l : Int) + 1) = (l : Int) + 1 := wrap_u64 _ (by omega) (by omega)
                        have HJL := Aside0.mk (HBW.out _ (Below.refl _ _) j l)
                        have HIL := Aside0.mk (HBW.out _ (Below.refl _ _) i l)
                        have hnext : (leB rows i j = true → leB rows j l = true → leB rows i l = true) → Aside0 (∀ l', l' < l + 1 → leB rows i j = true → leB rows j l' = true → leB rows i l' = true) := fun h => ⟨fun l' hl' => by
                          rcases Nat.lt_or_ge l' l with g | g
                          · exact HLL.out l' g
                          · obtain rfl : l' = l := by omega
                            exact h⟩
                        have hout : leB rows i j = true → leB rows j l = true → leB rows i l = false → Aside0 (¬ RefOk rows) := fun h1 h2 h3 => ⟨fun h => by rw [h.trans i j l h1 h2] at h3; cases h3⟩
                        clear e1
                        have h4 : leB rows i j = false ∨ (leB rows i j = true ∧ leB rows j l = false) ∨ (leB rows i j = true ∧ leB rows j l = true ∧ leB rows i l = false) ∨ (leB rows i j = true ∧ leB rows j l = true ∧ leB rows i l = true) := by
                          cases leB rows i j <;> cases leB rows j l <;> cases leB rows i l <;> simp
                        rcases h4 with x1 | ⟨x1, x2⟩ | ⟨x1, x2, x3⟩ | ⟨x1, x2, x3⟩
                        · have HX := hnext (fun h => by rw [x1] at h; cases h)
                          have X1 := Aside0.mk x1
                          clear x1 hnext hout
                          go_wp2_with (go_at_call 105; first | ((with_reducible refine HIJ.out.mono ?_); rintro e W1 ⟨rfl, rfl⟩; rw [X1.out]))
                          go_roundg (gk - 1)
                          case measure => omega
                          case rel => exact ⟨l + 1, by go_num, rfl, by omega, by omega, HX⟩
                        · have HX := hnext (fun _ h => by rw [x2] at h; cases h)
                          have X1 := Aside0.mk x1
                          have X2 := Aside0.mk x2
                          clear x1 x2 hnext hout
                          go_wp2_with (go_at_call 105; first | ((with_reducible refine HIJ.out.mono ?_); rintro e W1 ⟨rfl, rfl⟩; rw [X1.out]) | ((with_reducible refine HJL.out.mono ?_); rintro e W1 ⟨rfl, rfl⟩; rw [X2.out]))
                          go_roundg (gk - 1)
                          case measure => omega
                          case rel => exact ⟨l + 1, by go_num, rfl, by omega, by omega, HX⟩
                        · have HX := hout x1 x2 x3
                          have X1 := Aside0.mk x1
                          have X2 := Aside0.mk x2
                          have X3 := Aside0.mk x3
                          clear x1 x2 x3 hnext hout
                          go_wp2_with (go_at_call 105; first | ((with_reducible refine HIJ.out.mono ?_); rintro e W1 ⟨rfl, rfl⟩; rw [X1.out]) | ((with_reducible refine HJL.out.mono ?_); rintro e W1 ⟨rfl, rfl⟩; rw [X2.out]) | ((with_reducible refine HIL.out.mono ?_); rintro e W1 ⟨rfl, rfl⟩; rw [X3.out]))
                          go_ret
                          exact ⟨AnsZ.no HX.out (by decide), Below.refl _ _⟩
                        · have HX := hnext (fun _ _ => x3)
                          have X1 := Aside0.mk x1
                          have X2 := Aside0.mk x2
                          have X3 := Aside0.mk x3
                          clear x1 x2 x3 hnext hout
                          go_wp2_with (go_at_call 105; first | ((with_reducible refine HIJ.out.mono ?_); rintro e W1 ⟨rfl, rfl⟩; rw [X1.out]) | ((with_reducible refine HJL.out.mono ?_); rintro e W1 ⟨rfl, rfl⟩; rw [X2.out]) | ((with_reducible refine HIL.out.mono ?_); rintro e W1 ⟨rfl, rfl⟩; rw [X3.out]))
                          go_roundg (gk - 1)
                          case measure => omega
                          case rel => exact ⟨l + 1, by go_num, rfl, by omega, by omega, HX⟩
                      · have hdl : decide (l < k) = false := decide_eq_false (by omega)
                        obtain rfl : l = k := by omega
                        have HX : Aside0 ((∀ j', j' < j + 1 → i ≠ j' → leB rows i j' = true → leB rows j' i = false) ∧ ∀ j', j' < j + 1 → ∀ l', l' < l → leB rows i j' = true → leB rows j' l' = true → leB rows i l' = true) := ⟨by
                          have hJ := HJ.out
                          have hQ := HQ.out
                          have hL := HLL.out
                          constructor
                          · intro j' hj'
                            rcases Nat.lt_or_ge j' j with g | g
                            · exact hJ.1 j' g
                            · obtain rfl : j' = j := by omega
                              exact hQ
                          · intro j' hj' l' hl' a1 a2
                            rcases Nat.lt_or_ge j' j with g | g
                            · exact hJ.2 j' g l' hl' a1 a2
                            · obtain rfl : j' = j := by omega
                              exact hL l' hl' a1 a2⟩
                        clear e1 HJ HQ HLL
                        go_wp2
                        go_roundg g1
                        case measure => omega
                        case rel => exact ⟨j + 1, by go_num, rfl, by omega, by omega, HX⟩
                  · have E2 := Aside0.mk e2
                    clear e2
                    go_wp2_with (go_at_call 105; (with_reducible refine HIJ.out.mono ?_); rintro e W1 ⟨rfl, rfl⟩; rw [E2.out])
                    go_loopg [7] (k + 1) (fun g i9 W => ∃ l : Nat, i9 = .int .u64 (l : Int) ∧ W = w ∧ l ≤ k ∧ k + 1 - l ≤ g ∧ Aside0 (∀ l', l' < l → leB rows i j = true → leB rows j l' = true → leB rows i l' = true))
                    case atStart => exact ⟨0, rfl, rfl, by omega, by omega, ⟨fun i hi => by omega⟩⟩
                    case round =>
                      obtain ⟨l, rfl, hW, hl, hlg, HLL⟩ := hrel
                      have hW2 := hW.symm; clear hW; subst hW2
                      rcases Nat.lt_or_ge l k with hll | hlge
                      · have hdl : decide (l < k) = true := decide_eq_true hll
                        have hsuml : IntKind.u64.wrap ((l : Int) + 1) = (l : Int) + 1 := wrap_u64 _ (by omega) (by omega)
                        have HJL := Aside0.mk (HBW.out _ (Below.refl _ _) j l)
                        have HIL := Aside0.mk (HBW.out _ (Below.refl _ _) i l)
                        have hnext : (leB rows i j = true → leB rows j l = true → leB rows i l = true) → Aside0 (∀ l', l' < l + 1 → leB rows i j = true → leB rows j l' = true → leB rows i l' = true) := fun h => ⟨fun l' hl' => by
                          rcases Nat.lt_or_ge l' l with g | g
                          · exact HLL.out l' g
                          · obtain rfl : l' = l := by omega
                            exact h⟩
                        have hout : leB rows i j = true → leB rows j l = true → leB rows i l = false → Aside0 (¬ RefOk rows) := fun h1 h2 h3 => ⟨fun h => by rw [h.trans i j l h1 h2] at h3; cases h3⟩
                        clear e1
                        have h4 : leB rows i j = false ∨ (leB rows i j = true ∧ leB rows j l = false) ∨ (leB rows i j = true ∧ leB rows j l = true ∧ leB rows i l = false) ∨ (leB rows i j = true ∧ leB rows j l = true ∧ leB rows i l = true) := by
                          cases leB rows i j <;> cases leB rows j l <;> cases leB rows i l <;> simp
                        rcases h4 with x1 | ⟨x1, x2⟩ | ⟨x1, x2, x3⟩ | ⟨x1, x2, x3⟩
                        · have HX := hnext (fun h => by rw [x1] at h; cases h)
                          have X1 := Aside0.mk x1
                          clear x1 hnext hout
                          go_wp2_with (go_at_call 105; first | ((with_reducible refine HIJ.out.mono ?_); rintro e W1 ⟨rfl, rfl⟩; rw [X1.out]))
                          go_roundg (gk - 1)
                          case measure => omega
                          case rel => exact ⟨l + 1, by go_num, rfl, by omega, by omega, HX⟩
                        · have HX := hnext (fun _ h => by rw [x2] at h; cases h)
                          have X1 := Aside0.mk x1
                          have X2 := Aside0.mk x2
                          clear x1 x2 hnext hout
                          go_wp2_with (go_at_call 105; first | ((with_reducible refine HIJ.out.mono ?_); rintro e W1 ⟨rfl, rfl⟩; rw [X1.out]) | ((with_reducible refine HJL.out.mono ?_); rintro e W1 ⟨rfl, rfl⟩; rw [X2.out]))
                          go_roundg (gk - 1)
                          case measure => omega
                          case rel => exact ⟨l + 1, by go_num, rfl, by omega, by omega, HX⟩
                        · have HX := hout x1 x2 x3
                          have X1 := Aside0.mk x1
                          have X2 := Aside0.mk x2
                          have X3 := Aside0.mk x3
                          clear x1 x2 x3 hnext hout
                          go_wp2_with (go_at_call 105; first | ((with_reducible refine HIJ.out.mono ?_); rintro e W1 ⟨rfl, rfl⟩; rw [X1.out]) | ((with_reducible refine HJL.out.mono ?_); rintro e W1 ⟨rfl, rfl⟩; rw [X2.out]) | ((with_reducible refine HIL.out.mono ?_); rintro e W1 ⟨rfl, rfl⟩; rw [X3.out]))
                          go_ret
                          exact ⟨AnsZ.no HX.out (by decide), Below.refl _ _⟩
                        · have HX := hnext (fun _ _ => x3)
                          have X1 := Aside0.mk x1
                          have X2 := Aside0.mk x2
                          have X3 := Aside0.mk x3
                          clear x1 x2 x3 hnext hout
                          go_wp2_with (go_at_call 105; first | ((with_reducible refine HIJ.out.mono ?_); rintro e W1 ⟨rfl, rfl⟩; rw [X1.out]) | ((with_reducible refine HJL.out.mono ?_); rintro e W1 ⟨rfl, rfl⟩; rw [X2.out]) | ((with_reducible refine HIL.out.mono ?_); rintro e W1 ⟨rfl, rfl⟩; rw [X3.out]))
                          go_roundg (gk - 1)
                          case measure => omega
                          case rel => exact ⟨l + 1, by go_num, rfl, by omega, by omega, HX⟩
                      · have hdl : decide (l < k) = false := decide_eq_false (by omega)
                        obtain rfl : l = k := by omega
                        have HX : Aside0 ((∀ j', j' < j + 1 → i ≠ j' → leB rows i j' = true → leB rows j' i = false) ∧ ∀ j', j' < j + 1 → ∀ l', l' < l → leB rows i j' = true → leB rows j' l' = true → leB rows i l' = true) := ⟨by
                          have hJ := HJ.out
                          have hQ := HQ.out
                          have hL := HLL.out
                          constructor
                          · intro j' hj'
                            rcases Nat.lt_or_ge j' j with g | g
                            · exact hJ.1 j' g
                            · obtain rfl : j' = j := by omega
                              exact hQ
                          · intro j' hj' l' hl' a1 a2
                            rcases Nat.lt_or_ge j' j with g | g
                            · exact hJ.2 j' g l' hl' a1 a2
                            · obtain rfl : j' = j := by omega
                              exact hL l' hl' a1 a2⟩
                        clear e1 HJ HQ HLL
                        go_wp2
                        go_roundg g1
                        case measure => omega
                        case rel => exact ⟨j + 1, by go_num, rfl, by omega, by omega, HX⟩
                  · have E2 := Aside0.mk e2
                    have E3 := Aside0.mk e3
                    clear e2 e3
                    go_wp2_with (go_at_call 105; first | ((with_reducible refine HIJ.out.mono ?_); rintro e W1 ⟨rfl, rfl⟩; rw [E2.out]) | ((with_reducible refine HJI.out.mono ?_); rintro e W1 ⟨rfl, rfl⟩; rw [E3.out]))
                    go_loopg [7] (k + 1) (fun g i9 W => ∃ l : Nat, i9 = .int .u64 (l : Int) ∧ W = w ∧ l ≤ k ∧ k + 1 - l ≤ g ∧ Aside0 (∀ l', l' < l → leB rows i j = true → leB rows j l' = true → leB rows i l' = true))
                    case atStart => exact ⟨0, rfl, rfl, by omega, by omega, ⟨fun i hi => by omega⟩⟩
                    case round =>
                      obtain ⟨l, rfl, hW, hl, hlg, HLL⟩ := hrel
                      have hW2 := hW.symm; clear hW; subst hW2
                      rcases Nat.lt_or_ge l k with hll | hlge
                      · have hdl : decide (l < k) = true := decide_eq_true hll
                        have hsuml : IntKind.u64.wrap ((l : Int) + 1) = (l : Int) + 1 := wrap_u64 _ (by omega) (by omega)
                        have HJL := Aside0.mk (HBW.out _ (Below.refl _ _) j l)
                        have HIL := Aside0.mk (HBW.out _ (Below.refl _ _) i l)
                        have hnext : (leB rows i j = true → leB rows j l = true → leB rows i l = true) → Aside0 (∀ l', l' < l + 1 → leB rows i j = true → leB rows j l' = true → leB rows i l' = true) := fun h => ⟨fun l' hl' => by
                          rcases Nat.lt_or_ge l' l with g | g
                          · exact HLL.out l' g
                          · obtain rfl : l' = l := by omega
                            exact h⟩
                        have hout : leB rows i j = true → leB rows j l = true → leB rows i l = false → Aside0 (¬ RefOk rows) := fun h1 h2 h3 => ⟨fun h => by rw [h.trans i j l h1 h2] at h3; cases h3⟩
                        clear e1
                        have h4 : leB rows i j = false ∨ (leB rows i j = true ∧ leB rows j l = false) ∨ (leB rows i j = true ∧ leB rows j l = true ∧ leB rows i l = false) ∨ (leB rows i j = true ∧ leB rows j l = true ∧ leB rows i l = true) := by
                          cases leB rows i j <;> cases leB rows j l <;> cases leB rows i l <;> simp
                        rcases h4 with x1 | ⟨x1, x2⟩ | ⟨x1, x2, x3⟩ | ⟨x1, x2, x3⟩
                        · have HX := hnext (fun h => by rw [x1] at h; cases h)
                          have X1 := Aside0.mk x1
                          clear x1 hnext hout
                          go_wp2_with (go_at_call 105; first | ((with_reducible refine HIJ.out.mono ?_); rintro e W1 ⟨rfl, rfl⟩; rw [X1.out]))
                          go_roundg (gk - 1)
                          case measure => omega
                          case rel => exact ⟨l + 1, by go_num, rfl, by omega, by omega, HX⟩
                        · have HX := hnext (fun _ h => by rw [x2] at h; cases h)
                          have X1 := Aside0.mk x1
                          have X2 := Aside0.mk x2
                          clear x1 x2 hnext hout
                          go_wp2_with (go_at_call 105; first | ((with_reducible refine HIJ.out.mono ?_); rintro e W1 ⟨rfl, rfl⟩; rw [X1.out]) | ((with_reducible refine HJL.out.mono ?_); rintro e W1 ⟨rfl, rfl⟩; rw [X2.out]))
                          go_roundg (gk - 1)
                          case measure => omega
                          case rel => exact ⟨l + 1, by go_num, rfl, by omega, by omega, HX⟩
                        · have HX := hout x1 x2 x3
                          have X1 := Aside0.mk x1
                          have X2 := Aside0.mk x2
                          have X3 := Aside0.mk x3
                          clear x1 x2 x3 hnext hout
                          go_wp2_with (go_at_call 105; first | ((with_reducible refine HIJ.out.mono ?_); rintro e W1 ⟨rfl, rfl⟩; rw [X1.out]) | ((with_reducible refine HJL.out.mono ?_); rintro e W1 ⟨rfl, rfl⟩; rw [X2.out]) | ((with_reducible refine HIL.out.mono ?_); rintro e W1 ⟨rfl, rfl⟩; rw [X3.out]))
                          go_ret
                          exact ⟨AnsZ.no HX.out (by decide), Below.refl _ _⟩
                        · have HX := hnext (fun _ _ => x3)
                          have X1 := Aside0.mk x1
                          have X2 := Aside0.mk x2
                          have X3 := Aside0.mk x3
                          clear x1 x2 x3 hnext hout
                          go_wp2_with (go_at_call 105; first | ((with_reducible refine HIJ.out.mono ?_); rintro e W1 ⟨rfl, rfl⟩; rw [X1.out]) | ((with_reducible refine HJL.out.mono ?_); rintro e W1 ⟨rfl, rfl⟩; rw [X2.out]) | ((with_reducible refine HIL.out.mono ?_); rintro e W1 ⟨rfl, rfl⟩; rw [X3.out]))
                          go_roundg (gk - 1)
                          case measure => omega
                          case rel => exact ⟨l + 1, by go_num, rfl, by omega, by omega, HX⟩
                      · have hdl : decide (l < k) = false := decide_eq_false (by omega)
                        obtain rfl : l = k := by omega
                        have HX : Aside0 ((∀ j', j' < j + 1 → i ≠ j' → leB rows i j' = true → leB rows j' i = false) ∧ ∀ j', j' < j + 1 → ∀ l', l' < l → leB rows i j' = true → leB rows j' l' = true → leB rows i l' = true) := ⟨by
                          have hJ := HJ.out
                          have hQ := HQ.out
                          have hL := HLL.out
                          constructor
                          · intro j' hj'
                            rcases Nat.lt_or_ge j' j with g | g
                            · exact hJ.1 j' g
                            · obtain rfl : j' = j := by omega
                              exact hQ
                          · intro j' hj' l' hl' a1 a2
                            rcases Nat.lt_or_ge j' j with g | g
                            · exact hJ.2 j' g l' hl' a1 a2
                            · obtain rfl : j' = j := by omega
                              exact hL l' hl' a1 a2⟩
                        clear e1 HJ HQ HLL
                        go_wp2
                        go_roundg g1
                        case measure => omega
                        case rel => exact ⟨j + 1, by go_num, rfl, by omega, by omega, HX⟩
              · have hdj : decide (j < k) = false := decide_eq_false (by omega)
                obtain rfl : j = k := by omega
                have HN2 : Aside0 (Upto rows j (i + 1)) := ⟨by
                  have up := HUP.out
                  have hJ := HJ.out
                  refine ⟨fun i' hi' => ?_, fun i' hi' => ?_, fun i' hi' => ?_⟩
                  all_goals
                    rcases Nat.lt_or_ge i' i with g | g
                    first | exact up.refl i' g | exact up.anti i' g | exact up.trans i' g
                    obtain rfl : i' = i := by omega
                    first | exact EI.out | exact hJ.1 | exact hJ.2⟩
                clear HJ HUP
                go_wp2
                go_roundg g0
                case measure => omega
                case rel => exact ⟨i + 1, by go_num, rfl, by omega, by omega, HN2⟩
        · have hdi : decide (i < k) = false := decide_eq_false (by omega)
          obtain rfl : i = k := by omega
          clear hi hig hige
          go_wp2
          go_loopg [8] (i + 1) (fun g i9 W => ∃ i0 : Nat, i9 = .int .u64 (i0 : Int) ∧ i0 ≤ i ∧ i + 1 - i0 ≤ g ∧ Aside0 (Below w.heap.size w W) ∧ Aside0 (∀ i', i' < i0 → ∀ j, j < i → upOk rows i' j ∧ dnOk rows i' j))
          case atStart => exact ⟨0, rfl, by omega, by omega, ⟨Below.refl _ _⟩, ⟨fun i hi => by omega⟩⟩
          case round =>
            obtain ⟨a, rfl, ha, hag, HB, HAK⟩ := hrel
            rcases Nat.lt_or_ge a i with hal | hage
            · have hda : decide (a < i) = true := decide_eq_true hal
              have hsum : IntKind.u64.wrap ((a : Int) + 1) = (a : Int) + 1 := wrap_u64 _ (by omega) (by omega)
              obtain ⟨g0, hg1, hg2⟩ : ∃ g0, g0 < gk ∧ i + 1 - (a + 1) ≤ g0 := ⟨gk - 1, by omega, by omega⟩
              go_wp2
              go_loopg [9] (i + 1) (fun g i9 W => ∃ j : Nat, i9 = .int .u64 (j : Int) ∧ j ≤ i ∧ i + 1 - j ≤ g ∧ Aside0 (Below w.heap.size w W) ∧ Aside0 (∀ j', j' < j → upOk rows a j' ∧ dnOk rows a j'))
              case atStart => exact ⟨0, rfl, by omega, by omega, HB, ⟨fun i hi => by omega⟩⟩
              case round =>
                clear HB
                obtain ⟨j, rfl, hj, hjg, HB, HJ⟩ := hrel
                rcases Nat.lt_or_ge j i with hjl | hjge
                · have hdj : decide (j < i) = true := decide_eq_true hjl
                  have hsumj : IntKind.u64.wrap ((j : Int) + 1) = (j : Int) + 1 := wrap_u64 _ (by omega) (by omega)
                  have H1 : Aside0 (∀ W, Below w.heap.size w W → Calls Tryz.prog 195 #[.slice A i c, .int .u64 (a : Int), .int .u64 (j : Int)] W fun e w' => ∃ A1 c1, e = .returned (.slice A1 (ups4 rows a j i).length c1) ∧ Below W.heap.size W w' ∧ (Kd.int .u64).C w' A1 (ups4 rows a j i).length (natsI (ups4 rows a j i))) := ⟨fun W hb => above4_calls W A c i rows a j HN.out h64 (Kd.C_below HR.out hb)⟩
                  have H2 : Aside0 (∀ W, Below w.heap.size w W → Calls Tryz.prog 197 #[.slice A i c, .int .u64 (a : Int), .int .u64 (j : Int)] W fun e w' => ∃ A1 c1, e = .returned (.slice A1 (uns4 rows a j i).length c1) ∧ Below W.heap.size W w' ∧ (Kd.int .u64).C w' A1 (uns4 rows a j i).length (natsI (uns4 rows a j i))) := ⟨fun W hb => under4_calls W A c i rows a j HN.out h64 (Kd.C_below HR.out hb)⟩
                  obtain ⟨l1, hl1⟩ : ∃ l, l = ups4 rows a j i := ⟨_, rfl⟩
                  obtain ⟨l2, hl2⟩ : ∃ l, l = uns4 rows a j i := ⟨_, rfl⟩
                  have hm1 : l1.length ≤ i := by rw [hl1]; exact filter_len _ _
                  have hm2 : l2.length ≤ i := by rw [hl2]; exact filter_len _ _
                  rw [← hl1] at H1
                  rw [← hl2] at H2
                  have U1 : Aside0 ((least4 rows l1).isSome = true ↔ upOk rows a j) := ⟨by rw [hl1, HN.out]; exact ups_iff HU.out (by rw [← HN.out]; exact h64) a j⟩
                  have U2 : Aside0 ((great4 rows l2).isSome = true ↔ dnOk rows a j) := ⟨by rw [hl2, HN.out]; exact uns_iff HU.out (by rw [← HN.out]; exact h64) a j⟩
                  clear hl1 hl2
                  obtain ⟨m1, hmm1⟩ : ∃ m, m = l1.length := ⟨_, rfl⟩
                  obtain ⟨m2, hmm2⟩ : ∃ m, m = l2.length := ⟨_, rfl⟩
                  rw [← hmm1] at H1 hm1
                  rw [← hmm2] at H2 hm2
                  have HM := Aside0.mk (And.intro hmm1 hmm2)
                  clear hmm1 hmm2
                  have H3 : Aside0 (∀ W A1 c1, Below w.heap.size w W → (Kd.int .u64).C W A1 m1 (natsI l1) → Calls Tryz.prog 194 #[.slice A i c, .slice A1 m1 c1] W fun e w' => e = .returned (.tuple #[.int .u64 (((least4 rows l1).getD 0 : Nat) : Int), .bool (least4 rows l1).isSome]) ∧ Below W.heap.size W w') := ⟨fun W A1 c1 hb hc => least4_calls W A c i rows A1 c1 m1 l1 HN.out h64 HM.out.1 (by omega) (Kd.C_below HR.out hb) hc⟩
                  have H4 : Aside0 (∀ W A1 c1, Below w.heap.size w W → (Kd.int .u64).C W A1 m2 (natsI l2) → Calls Tryz.prog 196 #[.slice A i c, .slice A1 m2 c1] W fun e w' => e = .returned (.tuple #[.int .u64 (((great4 rows l2).getD 0 : Nat) : Int), .bool (great4 rows l2).isSome]) ∧ Below W.heap.size W w') := ⟨fun W A1 c1 hb hc => great4_calls W A c i rows A1 c1 m2 l2 HN.out h64 HM.out.2 (by omega) (Kd.C_below HR.out hb) hc⟩
                  obtain ⟨x1, hx1⟩ : ∃ x : Int, x = (((least4 rows l1).getD 0 : Nat) : Int) := ⟨_, rfl⟩
                  obtain ⟨x2, hx2⟩ : ∃ x : Int, x = (((great4 rows l2).getD 0 : Nat) : Int) := ⟨_, rfl⟩
                  rw [← hx1] at H3
                  rw [← hx2] at H4
                  clear hx1 hx2
                  obtain ⟨b1, hb1⟩ : ∃ x : Bool, x = (least4 rows l1).isSome := ⟨_, rfl⟩
                  obtain ⟨b2, hb2⟩ : ∃ x : Bool, x = (great4 rows l2).isSome := ⟨_, rfl⟩
                  rw [← hb1] at H3 U1
                  rw [← hb2] at H4 U2
                  clear hb1 hb2
                  have hnot : (b1 && b2) = false → Aside0 (¬ RefOk rows) := fun h => ⟨fun r => by
                    have h1 := U1.out.2 (r.up a j (by rw [← HN.out]; exact hal) (by rw [← HN.out]; exact hjl))
                    have h2 := U2.out.2 (r.dn a j (by rw [← HN.out]; exact hal) (by rw [← HN.out]; exact hjl))
                    rw [h1, h2] at h
                    cases h⟩
                  cases b1 with
                  | false =>
                    have HE := hnot rfl
                    clear hnot
                    go_wp2_with (first
                      | (go_at_call 195; (with_reducible refine (H1.out _ HB.out).mono ?_); rintro e W1 ⟨A1, c1, rfl, hb', hc'⟩; have HC1 := Aside0.mk hc'; have HB' := Aside0.mk (below_step HB.out hb'); clear HB hb' hc'; have HB := HB'; clear HB')
                      | (go_at_call 194; (with_reducible refine (H3.out _ _ _ HB.out HC1.out).mono ?_); rintro e W2 ⟨rfl, hb'⟩; have HB' := Aside0.mk (below_step HB.out hb'); clear HB hb'; have HB := HB'; clear HB')
                      | (go_at_call 197; (with_reducible refine (H2.out _ HB.out).mono ?_); rintro e W3 ⟨A2, c2, rfl, hb', hc'⟩; have HC2 := Aside0.mk hc'; have HB' := Aside0.mk (below_step HB.out hb'); clear HB hb' hc'; have HB := HB'; clear HB')
                      | (go_at_call 196; (with_reducible refine (H4.out _ _ _ HB.out HC2.out).mono ?_); rintro e W4 ⟨rfl, hb'⟩; have HB' := Aside0.mk (below_step HB.out hb'); clear HB hb'; have HB := HB'; clear HB'))
                    go_ret
                    exact ⟨AnsZ.no HE.out (by decide), HB.out⟩
                  | true =>
                   cases b2 with
                   | false =>
                    have HE := hnot rfl
                    clear hnot
                    go_wp2_with (first
                      | (go_at_call 195; (with_reducible refine (H1.out _ HB.out).mono ?_); rintro e W1 ⟨A1, c1, rfl, hb', hc'⟩; have HC1 := Aside0.mk hc'; have HB' := Aside0.mk (below_step HB.out hb'); clear HB hb' hc'; have HB := HB'; clear HB')
                      | (go_at_call 194; (with_reducible refine (H3.out _ _ _ HB.out HC1.out).mono ?_); rintro e W2 ⟨rfl, hb'⟩; have HB' := Aside0.mk (below_step HB.out hb'); clear HB hb'; have HB := HB'; clear HB')
                      | (go_at_call 197; (with_reducible refine (H2.out _ HB.out).mono ?_); rintro e W3 ⟨A2, c2, rfl, hb', hc'⟩; have HC2 := Aside0.mk hc'; have HB' := Aside0.mk (below_step HB.out hb'); clear HB hb' hc'; have HB := HB'; clear HB')
                      | (go_at_call 196; (with_reducible refine (H4.out _ _ _ HB.out HC2.out).mono ?_); rintro e W4 ⟨rfl, hb'⟩; have HB' := Aside0.mk (below_step HB.out hb'); clear HB hb'; have HB := HB'; clear HB'))
                    go_ret
                    exact ⟨AnsZ.no HE.out (by decide), HB.out⟩
                   | true =>
                    have HE : Aside0 (∀ j', j' < j + 1 → upOk rows a j' ∧ dnOk rows a j') := ⟨fun j' hj' => by
                      rcases Nat.lt_or_ge j' j with g | g
                      · exact HJ.out j' g
                      · obtain rfl : j' = j := by omega
                        exact ⟨U1.out.1 rfl, U2.out.1 rfl⟩⟩
                    clear hnot
                    go_wp2_with (first
                      | (go_at_call 195; (with_reducible refine (H1.out _ HB.out).mono ?_); rintro e W1 ⟨A1, c1, rfl, hb', hc'⟩; have HC1 := Aside0.mk hc'; have HB' := Aside0.mk (below_step HB.out hb'); clear HB hb' hc'; have HB := HB'; clear HB')
                      | (go_at_call 194; (with_reducible refine (H3.out _ _ _ HB.out HC1.out).mono ?_); rintro e W2 ⟨rfl, hb'⟩; have HB' := Aside0.mk (below_step HB.out hb'); clear HB hb'; have HB := HB'; clear HB')
                      | (go_at_call 197; (with_reducible refine (H2.out _ HB.out).mono ?_); rintro e W3 ⟨A2, c2, rfl, hb', hc'⟩; have HC2 := Aside0.mk hc'; have HB' := Aside0.mk (below_step HB.out hb'); clear HB hb' hc'; have HB := HB'; clear HB')
                      | (go_at_call 196; (with_reducible refine (H4.out _ _ _ HB.out HC2.out).mono ?_); rintro e W4 ⟨rfl, hb'⟩; have HB' := Aside0.mk (below_step HB.out hb'); clear HB hb'; have HB := HB'; clear HB'))
                    go_roundg (gk - 1)
                    case measure => omega
                    case rel => exact ⟨j + 1, by go_num, by omega, by omega, HB, HE⟩
                · have hdj : decide (j < i) = false := decide_eq_false (by omega)
                  obtain rfl : j = i := by omega
                  have HAK2 : Aside0 (∀ i', i' < a + 1 → ∀ j', j' < j → upOk rows i' j' ∧ dnOk rows i' j') := ⟨fun i' hi' => by
                    rcases Nat.lt_or_ge i' a with g | g
                    · exact HAK.out i' g
                    · obtain rfl : i' = a := by omega
                      exact HJ.out⟩
                  clear HAK HJ
                  go_wp2
                  go_roundg g0
                  case measure => omega
                  case rel => exact ⟨a + 1, by go_num, by omega, by omega, HB, HAK2⟩
            · have hda : decide (a < i) = false := decide_eq_false (by omega)
              obtain rfl : a = i := by omega
              have HE : Aside0 (RefOk rows) := ⟨by
                have hl := HN.out
                have u := HUP.out
                have r := HAK.out
                have lt : ∀ i j, leB rows i j = true → i < a ∧ j < a := fun i j h => by
                  have := (leB_iff HU.out i j).1 h
                  omega
                exact ⟨by omega, by omega, fun x hx => by rw [← hl] at hx ⊢; exact HK.out x hx, fun x hx => u.refl x (by omega), fun x y hx hy => u.anti x (by omega) y (by omega), fun x y z h1 h2 => u.trans x (lt x y h1).1 y (lt x y h1).2 z (lt y z h2).2 h1 h2, fun x y hx hy => (r x (by omega) y (by omega)).1, fun x y hx hy => (r x (by omega) y (by omega)).2⟩⟩
              go_wp2
              go_ret
              exact ⟨AnsZ.yes HE.out, HB.out⟩
end Ref04
end Go.Proofs.YtbdecnagdnancaaGreatDoor
