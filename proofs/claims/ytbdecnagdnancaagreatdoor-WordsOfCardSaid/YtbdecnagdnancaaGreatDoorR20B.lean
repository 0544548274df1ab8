/- The document's words: word, by a walk through its code. -/
import Derived.Test.YtbdecnagdnancaaGreatDoorR20A
import Derived.Test.YtbdecnagdnancaaGreatDoorWw

namespace Go.Proofs.YtbdecnagdnancaaGreatDoor
open Go.RowKit Go.Proofs.YtbdecnagdnancaaGreatDoorW.PrintWords Go.Proofs.YtbdecnagdnancaaGreatDoorW.PrintLast Go.Proofs.YtbdecnagdnancaaGreatDoorW.PrintMore
set_option linter.unusedVariables false
set_option linter.unusedSimpArgs false
open Go.Shelf
namespace Wd
theorem val_ge (r : List B) : ∀ acc : Nat, acc * 10 ^ r.length ≤ r.foldl (fun n (c : B) => 10 * n + (c.toNat - 48)) acc := by
  induction r with
  | nil => intro acc; simp
  | cons c r ih =>
    intro acc
    rw [List.foldl_cons, List.length_cons]
    refine Nat.le_trans ?_ (ih _)
    rw [Nat.pow_succ, Nat.mul_comm (10 ^ r.length) 10, ← Nat.mul_assoc]
    exact Nat.mul_le_mul_right _ (by omega)
theorem num_long (c : B) (r : List B) (hc : digit c = true) (hl : 20 ≤ r.length) : numOk (c :: r) = false := by
  by_cases h : c = 48
  · subst h
    rw [numOk]
    have : decide ((48 :: r).length ≤ 1) = false := decide_eq_false (by rw [List.length_cons]; omega)
    rw [this]
    simp
  · rw [numOk]
    have hv : ¬ valOf (c :: r) < 18446744073709551616 := by
      have hd := dig_val hc
      have h1 : 1 ≤ c.toNat - 48 := by
        have : c.toNat ≠ 48 := fun e => h (UInt8.toNat_inj.1 e)
        omega
      have h2 := val_ge r (c.toNat - 48)
      have h3 : 10 ^ 20 ≤ 10 ^ r.length := Nat.pow_le_pow_right (by decide) hl
      have h4 : 1 * 10 ^ r.length ≤ (c.toNat - 48) * 10 ^ r.length := Nat.mul_le_mul_right _ h1
      have h5 : valOf (c :: r) = r.foldl (fun n (c : B) => 10 * n + (c.toNat - 48)) (10 * 0 + (c.toNat - 48)) := rfl
      rw [h5, Nat.mul_zero, Nat.zero_add]
      omega
    rw [decide_eq_false hv, Bool.and_false]
theorem take_while (p : B → Bool) : ∀ (n : Nat) (l : List B), (l.take n).takeWhile p = (l.takeWhile p).take n
  | 0, l => by simp
  | n + 1, [] => by simp
  | n + 1, c :: r => by
    rw [List.take_succ_cons, List.takeWhile_cons, List.takeWhile_cons]
    split
    · rw [List.take_succ_cons, take_while p n r]
    · simp
theorem letter_N (c : B) : letter c = letN c.toNat := rfl
theorem digit_N (c : B) : digit c = digN c.toNat := rfl
theorem wordN_take (l : List B) : wordN (l.take 42) = wordN l := by
  cases l with
  | nil => rfl
  | cons c r =>
    rw [List.take_succ_cons]
    have ht : ∀ p : B → Bool, (r.take 41).takeWhile p = (r.takeWhile p).take 41 := fun p => take_while p 41 r
    by_cases h1 : letter c = true
    · rw [wordN_name h1, wordN_name h1, ht, List.length_take]
      by_cases h : 32 < (r.takeWhile inName).length + 1
      · rw [if_pos h, if_pos (by omega)]
      · rw [if_neg h, if_neg (by omega), Nat.min_eq_right (by omega)]
    · have h1 : letter c = false := by simpa using h1
      by_cases h2 : digit c = true
      · rw [wordN_num h1 h2, wordN_num h1 h2, ht, List.length_take]
        by_cases h : (r.takeWhile digit).length ≤ 41
        · rw [List.take_of_length_le h, Nat.min_eq_right h]
        · rw [num_long c _ h2 (by rw [List.length_take]; omega), num_long c _ h2 (by omega)]
          rfl
      · have h2 : digit c = false := by simpa using h2
        by_cases h3 : isMark c = true
        · rw [wordN_mark h1 h2 h3, wordN_mark h1 h2 h3]
          have : (r.take 41).head? = r.head? := by cases r <;> rfl
          rw [this]
        · have h3 : isMark c = false := by simpa using h3
          rw [wordN_none h1 h2 h3, wordN_none h1 h2 h3]
set_option maxRecDepth 200000 in
set_option maxHeartbeats 8000000 in
theorem word20_calls (w : World) (s : ByteArray) (h0 : 0 < s.size) (hs : s.size ≤ 42) : Calls Tryz.prog 48 #[.string s] w fun e w' => e = .returned (.tuple #[.int .i64 ((wordN s.data.toList).1 : Int), .int .u8 (wordN s.data.toList).2]) ∧ w = w' := by
  obtain ⟨l, hl⟩ : ∃ l, l = s.data.toList := ⟨_, rfl⟩
  have hlen : l.length = s.size := by rw [hl]; exact Array.length_toList
  have HAT : Aside0 (∀ k (h : k < s.size), s[k] = l[k]'(by rw [hlen]; exact h)) := ⟨fun k h => by simp only [hl, Array.getElem_toList]; rfl⟩
  obtain ⟨c, r, hcr⟩ : ∃ c r, l = c :: r := by
    cases l with
    | nil => simp at hlen; omega
    | cons c r => exact ⟨c, r, rfl⟩
  have hc : s[0] = c := by rw [HAT.out 0 h0]; simp only [hcr, List.getElem_cons_zero]
  have HAR : Aside0 (∀ k (h : k + 1 < s.size), r[k]? = some (s[k + 1])) := ⟨fun k h => by
    rw [HAT.out (k + 1) h]
    have : l[k + 1]? = some (l[k + 1]'(by rw [hlen]; exact h)) := List.getElem?_eq_getElem _
    rw [← this, hcr, List.getElem?_cons_succ]⟩
  have HRL : Aside0 (r.length + 1 = s.size) := ⟨by rw [← hlen, hcr]; rfl⟩
  have HLX := Aside0.mk hl
  rw [← hl, hcr]
  obtain ⟨m, hm⟩ : ∃ m : Nat, m = c.toNat := ⟨_, rfl⟩
  have hm256 : m < 256 := by rw [hm]; exact c.toNat_lt
  have q0 : ((s[0]).toNat : Int) = (m : Int) := by rw [hc, hm]
  have LT : Aside0 (∀ n : Nat, n < 256 → Calls Tryz.prog 141 #[.int .u8 (n : Int)] w fun e w' => e = .returned (.bool (letN n)) ∧ w = w') := ⟨fun n hn => let20_calls w n hn⟩
  have DG : Aside0 (∀ n : Nat, n < 256 → Calls Tryz.prog 142 #[.int .u8 (n : Int)] w fun e w' => e = .returned (.bool (digN n)) ∧ w = w') := ⟨fun n hn => dig20_calls w n hn⟩
  have SG : Aside0 (Calls Tryz.prog 144 #[.int .u8 (m : Int)] w fun e w' => e = .returned (.bool (isMark c)) ∧ w = w') := ⟨by rw [hm]; exact single20_calls w c⟩
  have HCM := Aside0.mk hm
  have HCR := Aside0.mk hcr
  clear HAT hl hlen hcr hm hc
  cases hlet : letN m with
  | true =>
    have L0 := Aside0.mk hlet
    have HW : Aside0 (wordN (c :: r) = (if 32 < (r.takeWhile inName).length + 1 then 0 else (r.takeWhile inName).length + 1, 0)) := ⟨wordN_name (by rw [letter_N, ← HCM.out]; exact hlet)⟩
    clear hlet
    go_enter Tryz.func48, Tryz.ntmps48
    go_wp2_with (go_at_call 141; (with_reducible refine (LT.out m hm256).mono ?_); rintro e W1 ⟨rfl, rfl⟩; rw [L0.out])
    go_loopg [4] (s.size + 1) (fun g i W => ∃ j : Nat, i = .int .i64 ((j + 1 : Nat) : Int) ∧ W = w ∧ j + 1 ≤ s.size ∧ s.size + 1 - j ≤ g + 1 ∧ Aside0 (∀ i (h : i < r.length), i < j → inName r[i] = true))
    case atStart => exact ⟨0, rfl, rfl, by omega, by omega, ⟨fun i h hi => by omega⟩⟩
    case round =>
      obtain ⟨j, rfl, hW, hj, hjg, HJ⟩ := hrel
      have hW2 := hW.symm; clear hW; subst hW2
      obtain ⟨k, hk⟩ : ∃ k, k = j + 1 := ⟨_, rfl⟩
      have HK := Aside0.mk hk
      have hkj : j < k := by omega
      rw [← hk] at hj ⊢
      rcases Nat.lt_or_ge k s.size with hlt | hge
      · have hd : decide (k < s.size) = true := decide_eq_true hlt
        have hjr : j < r.length := by have := HRL.out; omega
        obtain ⟨x, hx⟩ : ∃ x : Nat, x = (s[k]).toNat := ⟨_, rfl⟩
        have hxr : r[j] = s[k] := by
          have := HAR.out j (by omega)
          rw [List.getElem?_eq_getElem hjr] at this
          injection this with this
          rw [this]
          simp only [hk]
        have hx256 : x < 256 := by rw [hx]; exact (s[k]).toNat_lt
        have HIN : Aside0 (inName r[j] = (letN x || digN x || (x == 95))) := ⟨by
          rw [hxr, inName, letter_N, digit_N, ← hx]
          congr 1
          rw [hx, Bool.eq_iff_iff, beq_iff_eq, beq_iff_eq]
          exact ⟨fun h => by rw [h]; rfl, fun h => UInt8.toNat_inj.1 h⟩⟩
        have q1 : ((s[k]).toNat : Int) = (x : Int) := by rw [hx]
        have LX := Aside0.mk (LT.out x hx256)
        have DX := Aside0.mk (DG.out x hx256)
        clear hx hxr hk hkj
        have hnext : inName r[j] = true → Aside0 (∀ i (h : i < r.length), i < j + 1 → inName r[i] = true) := fun h => ⟨fun i hi hij => by
          rcases Nat.lt_or_ge i j with g | g
          · exact HJ.out i hi g
          · obtain rfl : i = j := by omega
            exact h⟩
        have hstop : inName r[j] = false → Aside0 ((r.takeWhile inName).length + 1 = k) := fun h => ⟨by rw [tw_len inName r j (by omega) HJ.out (fun _ => h), HK.out]⟩
        cases h1 : letN x with
        | true =>
          have HN2 := hnext (by rw [HIN.out, h1]; rfl)
          have L1 := Aside0.mk h1
          clear h1 hnext hstop
          go_wp2_with (go_at_call 141; (with_reducible refine LX.out.mono ?_); rintro e W1 ⟨rfl, rfl⟩; rw [L1.out])
          go_roundg (gk - 1)
          case measure => have := HK.out; omega
          case rel => exact ⟨j + 1, by rw [HK.out]; go_num, rfl, by have := HK.out; omega, by omega, HN2⟩
        | false =>
          have L1 := Aside0.mk h1
          cases h2 : digN x with
          | true =>
            have HN2 := hnext (by rw [HIN.out, h1, h2]; rfl)
            have D1 := Aside0.mk h2
            clear h1 h2 hnext hstop
            go_wp2_with (first | (go_at_call 141; (with_reducible refine LX.out.mono ?_); rintro e W1 ⟨rfl, rfl⟩; rw [L1.out]) | (go_at_call 142; (with_reducible refine DX.out.mono ?_); rintro e W1 ⟨rfl, rfl⟩; rw [D1.out]))
            go_roundg (gk - 1)
            case measure => have := HK.out; omega
            case rel => exact ⟨j + 1, by rw [HK.out]; go_num, rfl, by have := HK.out; omega, by omega, HN2⟩
          | false =>
            have D1 := Aside0.mk h2
            by_cases h3 : x = 95
            · have e3 : ((x : Int) == 95) = true := by rw [h3]; rfl
              have HN2 := hnext (by rw [HIN.out, h1, h2, h3]; rfl)
              clear h1 h2 h3 hnext hstop
              go_wp2_with (first | (go_at_call 141; (with_reducible refine LX.out.mono ?_); rintro e W1 ⟨rfl, rfl⟩; rw [L1.out]) | (go_at_call 142; (with_reducible refine DX.out.mono ?_); rintro e W1 ⟨rfl, rfl⟩; rw [D1.out]))
              go_roundg (gk - 1)
              case measure => have := HK.out; omega
              case rel => exact ⟨j + 1, by rw [HK.out]; go_num, rfl, by have := HK.out; omega, by omega, HN2⟩
            · have e3 : ((x : Int) == 95) = false := beq_eq_false_iff_ne.2 (by omega)
              have HE := hstop (by rw [HIN.out, h1, h2, beq_eq_false_iff_ne.2 h3]; rfl)
              clear h1 h2 h3 hnext hstop
              by_cases hbig : 32 < k
              · have e4 : decide (32 < (k : Int)) = true := decide_eq_true (by omega)
                go_wp2_with (first | (go_at_call 141; (with_reducible refine LX.out.mono ?_); rintro e W1 ⟨rfl, rfl⟩; rw [L1.out]) | (go_at_call 142; (with_reducible refine DX.out.mono ?_); rintro e W1 ⟨rfl, rfl⟩; rw [D1.out]))
                go_ret2
                rw [HW.out, HE.out, if_pos hbig]
                exact ⟨rfl, rfl⟩
              · have e4 : decide (32 < (k : Int)) = false := decide_eq_false (by omega)
                go_wp2_with (first | (go_at_call 141; (with_reducible refine LX.out.mono ?_); rintro e W1 ⟨rfl, rfl⟩; rw [L1.out]) | (go_at_call 142; (with_reducible refine DX.out.mono ?_); rintro e W1 ⟨rfl, rfl⟩; rw [D1.out]))
                go_ret2
                rw [HW.out, HE.out, if_neg hbig]
                exact ⟨rfl, rfl⟩
      · have hd : decide (k < s.size) = false := decide_eq_false (by omega)
        have HE : Aside0 ((r.takeWhile inName).length + 1 = k) := ⟨by rw [tw_len inName r j (by have := HRL.out; omega) HJ.out (fun h => absurd h (by have := HRL.out; omega)), HK.out]⟩
        clear hk hkj
        by_cases hbig : 32 < k
        · have e4 : decide (32 < (k : Int)) = true := decide_eq_true (by omega)
          go_wp2
          go_ret2
          rw [HW.out, HE.out, if_pos hbig]
          exact ⟨rfl, rfl⟩
        · have e4 : decide (32 < (k : Int)) = false := decide_eq_false (by omega)
          go_wp2
          go_ret2
          rw [HW.out, HE.out, if_neg hbig]
          exact ⟨rfl, rfl⟩
  | false =>
    have L0 := Aside0.mk hlet
    have HL0 : Aside0 (letter c = false) := ⟨by rw [letter_N, ← HCM.out]; exact hlet⟩
    clear hlet
    cases hdig : digN m with
    | true =>
      have D0 := Aside0.mk hdig
      have HD0 : Aside0 (digit c = true) := ⟨by rw [digit_N, ← HCM.out]; exact hdig⟩
      have HW : Aside0 (wordN (c :: r) = (if numOk (c :: r.takeWhile digit) then (r.takeWhile digit).length + 1 else 0, 1)) := ⟨wordN_num HL0.out HD0.out⟩
      clear hdig
      go_enter Tryz.func48, Tryz.ntmps48
      go_wp2_with (first | (go_at_call 141; (with_reducible refine (LT.out m hm256).mono ?_); rintro e W1 ⟨rfl, rfl⟩; rw [L0.out]) | (go_at_call 142; (with_reducible refine (DG.out m hm256).mono ?_); rintro e W1 ⟨rfl, rfl⟩; rw [D0.out]))
      go_loopg [4] (s.size + 1) (fun g i W => ∃ j : Nat, i = .int .i64 ((j + 1 : Nat) : Int) ∧ W = w ∧ j + 1 ≤ s.size ∧ s.size + 1 - j ≤ g + 1 ∧ Aside0 (∀ i (h : i < r.length), i < j → digit r[i] = true))
      case atStart => exact ⟨0, rfl, rfl, by omega, by omega, ⟨fun i h hi => by omega⟩⟩
      case round =>
        obtain ⟨j, rfl, hW, hj, hjg, HJ⟩ := hrel
        have hW2 := hW.symm; clear hW; subst hW2
        obtain ⟨k, hk⟩ : ∃ k, k = j + 1 := ⟨_, rfl⟩
        have HK := Aside0.mk hk
        have hk1 : 1 ≤ k := by omega
        rw [← hk] at hj ⊢
        have hend : (r.takeWhile digit).length + 1 = k → Aside0 (∀ e : Ending, ((1 < k ∧ m = 48) ∨ 20 < k → e = .returned (.tuple #[.int .i64 0, .int .u8 1]) → e = .returned (.tuple #[.int .i64 ((wordN (c :: r)).1 : Int), .int .u8 (wordN (c :: r)).2])) ∧ (¬((1 < k ∧ m = 48) ∨ 20 < k) → (decide (valOf (c :: r.takeWhile digit) < 18446744073709551616) = false → e = .returned (.tuple #[.int .i64 0, .int .u8 1]) → e = .returned (.tuple #[.int .i64 ((wordN (c :: r)).1 : Int), .int .u8 (wordN (c :: r)).2])) ∧ (decide (valOf (c :: r.takeWhile digit) < 18446744073709551616) = true → e = .returned (.tuple #[.int .i64 (k : Int), .int .u8 1]) → e = .returned (.tuple #[.int .i64 ((wordN (c :: r)).1 : Int), .int .u8 (wordN (c :: r)).2])))) := fun h => ⟨fun e => by
          rw [HW.out, h]
          have hnum : numOk (c :: r.takeWhile digit) = ((decide (k ≤ 1) || (decide (m ≠ 48))) && decide (valOf (c :: r.takeWhile digit) < 18446744073709551616)) := by
            rw [numOk, List.length_cons, h]
            congr 2
            rw [Bool.eq_iff_iff, HCM.out]
            simp only [List.head?_cons, bne_iff_ne, ne_eq, Option.some.injEq, decide_eq_true_eq]
            exact ⟨fun g e => g (UInt8.toNat_inj.1 e), fun g e => g (by rw [e]; rfl)⟩
          refine ⟨fun hb he => ?_, fun hb => ⟨fun hv he => ?_, fun hv he => ?_⟩⟩
          · rw [he]
            have : numOk (c :: r.takeWhile digit) = false := by
              rcases hb with ⟨b1, b2⟩ | b
              · rw [hnum, decide_eq_false (show ¬ k ≤ 1 by omega), b2]; rfl
              · exact num_long c _ HD0.out (by omega)
            rw [this]; rfl
          · rw [he, hnum, hv, Bool.and_false]; rfl
          · have : (decide (k ≤ 1) || decide (m ≠ 48)) = true := by
              by_cases b : k ≤ 1
              · rw [decide_eq_true b]; rfl
              · rw [decide_eq_true (show m ≠ 48 from fun e => hb (.inl ⟨by omega, e⟩)), Bool.or_true]
            rw [he, hnum, hv, this]; rfl⟩
        have HNUM : Aside0 ((r.takeWhile digit).length + 1 = k → k ≤ 40 → ∀ W, Calls Tryz.prog 143 #[.string (s.extract 0 k)] W fun e w' => ∃ v : Int, e = .returned (.tuple #[.int .u64 v, .bool (decide (valOf (c :: r.takeWhile digit) < 18446744073709551616))]) ∧ W = w') := ⟨fun h h40 W => by
          have e1 : (s.extract 0 k).data.toList = c :: r.takeWhile digit := by
            rw [ext_list, List.drop_zero, ← HLX.out, HCR.out, ← h, List.take_succ_cons, take_tw]
          have := number20_calls W (s.extract 0 k) (by rw [ByteArray.size_extract]; omega) (by rw [e1]; intro x hx; rcases List.mem_cons.1 hx with rfl | hx; exact HD0.out; exact tw_all digit r x hx)
          rw [e1] at this
          exact this⟩
        rcases Nat.lt_or_ge k s.size with hlt | hge
        · have hd : decide (k < s.size) = true := decide_eq_true hlt
          have hjr : j < r.length := by have := HRL.out; omega
          obtain ⟨x, hx⟩ : ∃ x : Nat, x = (s[k]).toNat := ⟨_, rfl⟩
          have hxr : r[j] = s[k] := by
            have := HAR.out j (by omega)
            rw [List.getElem?_eq_getElem hjr] at this
            injection this with this
            rw [this]
            simp only [hk]
          have hx256 : x < 256 := by rw [hx]; exact (s[k]).toNat_lt
          have HIN : Aside0 (digit r[j] = digN x) := ⟨by rw [hxr, digit_N, ← hx]⟩
          have q1 : ((s[k]).toNat : Int) = (x : Int) := by rw [hx]
          have DX := Aside0.mk (DG.out x hx256)
          clear hx hxr
          cases h2 : digN x with
          | true =>
            have HN2 : Aside0 (∀ i (h : i < r.length), i < j + 1 → digit r[i] = true) := ⟨fun i hi hij => by
              rcases Nat.lt_or_ge i j with g | g
              · exact HJ.out i hi g
              · obtain rfl : i = j := by omega
                rw [HIN.out, h2]⟩
            have D1 := Aside0.mk h2
            clear h2 hend hk
            go_wp2_with (go_at_call 142; (with_reducible refine DX.out.mono ?_); rintro e W1 ⟨rfl, rfl⟩; rw [D1.out])
            go_roundg (gk - 1)
            case measure => have := HK.out; omega
            case rel => exact ⟨j + 1, by rw [HK.out]; go_num, rfl, by have := HK.out; omega, by omega, HN2⟩
          | false =>
            have HE : Aside0 ((r.takeWhile digit).length + 1 = k) := ⟨by rw [tw_len digit r j (by omega) HJ.out (fun _ => by rw [HIN.out, h2]), HK.out]⟩
            have D1 := Aside0.mk h2
            clear h2
            have HEN := hend HE.out
            clear hend hk
            by_cases hb1 : 1 < k ∧ m = 48
            · have e1 : decide (1 < (k : Int)) = true := decide_eq_true (by omega)
              have e2 : ((m : Int) == 48) = true := beq_iff_eq.2 (by omega)
              go_wp2_with (first | (go_at_call 142; (with_reducible refine DX.out.mono ?_); rintro e W1 ⟨rfl, rfl⟩; rw [D1.out]))
              go_ret2
              exact ⟨(HEN.out _).1 (.inl hb1) rfl, rfl⟩
            have hor : (decide (1 < (k : Int)) = false ∧ True) ∨ (decide (1 < (k : Int)) = true ∧ ((m : Int) == 48) = false) := by
              by_cases h : 1 < k
              · exact .inr ⟨decide_eq_true (by omega), beq_eq_false_iff_ne.2 (by intro h2; exact hb1 ⟨h, by omega⟩)⟩
              · exact .inl ⟨decide_eq_false (by omega), trivial⟩
            by_cases hb2 : 20 < k
            · have e3 : decide (20 < (k : Int)) = true := decide_eq_true (by omega)
              rcases hor with ⟨e1, e2⟩ | ⟨e1, e2⟩
              all_goals (
                go_wp2_with (first | (go_at_call 142; (with_reducible refine DX.out.mono ?_); rintro e W1 ⟨rfl, rfl⟩; rw [D1.out]))
                go_ret2
                exact ⟨(HEN.out _).1 (.inr hb2) rfl, rfl⟩)
            have e3 : decide (20 < (k : Int)) = false := decide_eq_false (by omega)
            have HNO := (fun e => (HEN.out e).2 (fun h => h.elim hb1 hb2))
            have hk40 : k ≤ 40 := by omega
            obtain ⟨vb, hvb⟩ : ∃ v, v = decide (valOf (c :: r.takeWhile digit) < 18446744073709551616) := ⟨_, rfl⟩
            rw [← hvb] at HNUM HNO
            have HNO2 := Aside0.mk HNO
            clear hvb HNO hb1 hb2
            cases vb with
            | false =>
              have V0 : Aside0 ((.returned (.tuple #[.int .u64 0, .bool false]) : Ending) = .returned (.tuple #[.int .u64 0, .bool false])) := ⟨rfl⟩
              rcases hor with ⟨e1, e2⟩ | ⟨e1, e2⟩
              all_goals (
                go_wp2_with (first | (go_at_call 142; (with_reducible refine DX.out.mono ?_); rintro e W1 ⟨rfl, rfl⟩; rw [D1.out]) | (go_at_call 143; (with_reducible refine (HNUM.out HE.out hk40 _).mono ?_); rintro e W1 ⟨v, rfl, rfl⟩))
                go_ret2
                exact ⟨(HNO2.out _).1 (by first | trivial | rfl) rfl, rfl⟩)
            | true =>
              rcases hor with ⟨e1, e2⟩ | ⟨e1, e2⟩
              all_goals (
                go_wp2_with (first | (go_at_call 142; (with_reducible refine DX.out.mono ?_); rintro e W1 ⟨rfl, rfl⟩; rw [D1.out]) | (go_at_call 143; (with_reducible refine (HNUM.out HE.out hk40 _).mono ?_); rintro e W1 ⟨v, rfl, rfl⟩))
                go_ret2
                exact ⟨(HNO2.out _).2 (by first | trivial | rfl) rfl, rfl⟩)
        · have hd : decide (k < s.size) = false := decide_eq_false (by omega)
          have HE : Aside0 ((r.takeWhile digit).length + 1 = k) := ⟨by rw [tw_len digit r j (by have := HRL.out; omega) HJ.out (fun h => absurd h (by have := HRL.out; omega)), HK.out]⟩
          have HEN := hend HE.out
          clear hend hk
          by_cases hb1 : 1 < k ∧ m = 48
          · have e1 : decide (1 < (k : Int)) = true := decide_eq_true (by omega)
            have e2 : ((m : Int) == 48) = true := beq_iff_eq.2 (by omega)
            go_wp2
            go_ret2
            exact ⟨(HEN.out _).1 (.inl hb1) rfl, rfl⟩
          have hor : (decide (1 < (k : Int)) = false ∧ True) ∨ (decide (1 < (k : Int)) = true ∧ ((m : Int) == 48) = false) := by
            by_cases h : 1 < k
            · exact .inr ⟨decide_eq_true (by omega), beq_eq_false_iff_ne.2 (by intro h2; exact hb1 ⟨h, by omega⟩)⟩
            · exact .inl ⟨decide_eq_false (by omega), trivial⟩
          by_cases hb2 : 20 < k
          · have e3 : decide (20 < (k : Int)) = true := decide_eq_true (by omega)
            rcases hor with ⟨e1, e2⟩ | ⟨e1, e2⟩
            all_goals (
              go_wp2
              go_ret2
              exact ⟨(HEN.out _).1 (.inr hb2) rfl, rfl⟩)
          have e3 : decide (20 < (k : Int)) = false := decide_eq_false (by omega)
          have HNO := (fun e => (HEN.out e).2 (fun h => h.elim hb1 hb2))
          have hk40 : k ≤ 40 := by omega
          obtain ⟨vb, hvb⟩ : ∃ v, v = decide (valOf (c :: r.takeWhile digit) < 18446744073709551616) := ⟨_, rfl⟩
          rw [← hvb] at HNUM HNO
          have HNO2 := Aside0.mk HNO
          clear hvb HNO hb1 hb2
          cases vb with
          | false =>
            have V0 : Aside0 ((.returned (.tuple #[.int .u64 0, .bool false]) : Ending) = .returned (.tuple #[.int .u64 0, .bool false])) := ⟨rfl⟩
            rcases hor with ⟨e1, e2⟩ | ⟨e1, e2⟩
            all_goals (
              go_wp2_with (first | (go_at_call 143; (with_reducible refine (HNUM.out HE.out hk40 _).mono ?_); rintro e W1 ⟨v, rfl, rfl⟩))
              go_ret2
              exact ⟨(HNO2.out _).1 (by first | trivial | rfl) rfl, rfl⟩)
          | true =>
            rcases hor with ⟨e1, e2⟩ | ⟨e1, e2⟩
            all_goals (
              go_wp2_with (first | (go_at_call 143; (with_reducible refine (HNUM.out HE.out hk40 _).mono ?_); rintro e W1 ⟨v, rfl, rfl⟩))
              go_ret2
              exact ⟨(HNO2.out _).2 (by first | trivial | rfl) rfl, rfl⟩)
    | false =>
      have D0 := Aside0.mk hdig
      have HD0 : Aside0 (digit c = false) := ⟨by rw [digit_N, ← HCM.out]; exact hdig⟩
      clear hdig
      cases hmk : isMark c with
      | false =>
        have M0 := Aside0.mk hmk
        have HW : Aside0 (wordN (c :: r) = (0, 2)) := ⟨wordN_none HL0.out HD0.out hmk⟩
        have e0 : ((m : Int) == 60) = false := beq_eq_false_iff_ne.2 (fun h => by
          have : c = 60 := UInt8.toNat_inj.1 (by have := HCM.out; show c.toNat = 60; omega)
          rw [this] at hmk
          cases hmk)
        clear hmk
        go_enter Tryz.func48, Tryz.ntmps48
        go_wp2_with (first | (go_at_call 141; (with_reducible refine (LT.out m hm256).mono ?_); rintro e W1 ⟨rfl, rfl⟩; rw [L0.out]) | (go_at_call 142; (with_reducible refine (DG.out m hm256).mono ?_); rintro e W1 ⟨rfl, rfl⟩; rw [D0.out]) | (go_at_call 144; (with_reducible refine SG.out.mono ?_); rintro e W1 ⟨rfl, rfl⟩; rw [M0.out]))
        go_ret2
        rw [HW.out]
        exact ⟨rfl, rfl⟩
      | true =>
        have M0 := Aside0.mk hmk
        have HW : Aside0 (wordN (c :: r) = (if c = 60 ∧ r.head? = some 61 then 2 else 1, 2)) := ⟨wordN_mark HL0.out HD0.out hmk⟩
        clear hmk
        by_cases h60 : m = 60
        · have e0 : ((m : Int) == 60) = true := beq_iff_eq.2 (by omega)
          have HC60 : Aside0 (c = 60) := ⟨UInt8.toNat_inj.1 (by have := HCM.out; show c.toNat = 60; omega)⟩
          clear h60
          by_cases hsz : 1 < s.size
          · have e1 : decide (1 < (s.size : Int)) = true := decide_eq_true (by omega)
            obtain ⟨x, hx⟩ : ∃ x : Nat, x = (s[1]).toNat := ⟨_, rfl⟩
            have q1 : ((s[1]).toNat : Int) = (x : Int) := by rw [hx]
            have HH : Aside0 (r.head? = some (s[1])) := ⟨by rw [List.head?_eq_getElem?]; exact HAR.out 0 hsz⟩
            by_cases h61 : x = 61
            · have e2 : ((x : Int) == 61) = true := beq_iff_eq.2 (by omega)
              have HE : Aside0 (wordN (c :: r) = (2, 2)) := ⟨by
                rw [HW.out, if_pos ⟨HC60.out, by rw [HH.out]; congr 1; exact UInt8.toNat_inj.1 (by rw [← hx, h61]; rfl)⟩]⟩
              clear hx h61
              go_enter Tryz.func48, Tryz.ntmps48
              go_wp2_with (first | (go_at_call 141; (with_reducible refine (LT.out m hm256).mono ?_); rintro e W1 ⟨rfl, rfl⟩; rw [L0.out]) | (go_at_call 142; (with_reducible refine (DG.out m hm256).mono ?_); rintro e W1 ⟨rfl, rfl⟩; rw [D0.out]) | (go_at_call 144; (with_reducible refine SG.out.mono ?_); rintro e W1 ⟨rfl, rfl⟩; rw [M0.out]))
              go_ret2
              rw [HE.out]
              exact ⟨rfl, rfl⟩
            · have e2 : ((x : Int) == 61) = false := beq_eq_false_iff_ne.2 (by omega)
              have HE : Aside0 (wordN (c :: r) = (1, 2)) := ⟨by
                rw [HW.out, if_neg (fun h => h61 (by
                  have h2 := h.2
                  rw [HH.out] at h2
                  injection h2 with h2
                  rw [hx, h2]; rfl))]⟩
              clear hx h61
              go_enter Tryz.func48, Tryz.ntmps48
              go_wp2_with (first | (go_at_call 141; (with_reducible refine (LT.out m hm256).mono ?_); rintro e W1 ⟨rfl, rfl⟩; rw [L0.out]) | (go_at_call 142; (with_reducible refine (DG.out m hm256).mono ?_); rintro e W1 ⟨rfl, rfl⟩; rw [D0.out]) | (go_at_call 144; (with_reducible refine SG.out.mono ?_); rintro e W1 ⟨rfl, rfl⟩; rw [M0.out]))
              go_ret2
              rw [HE.out]
              exact ⟨rfl, rfl⟩
          · have e1 : decide (1 < (s.size : Int)) = false := decide_eq_false (by omega)
            have HE : Aside0 (wordN (c :: r) = (1, 2)) := ⟨by
              have hr0 : r = [] := List.eq_nil_of_length_eq_zero (by have := HRL.out; omega)
              rw [HW.out, hr0]
              simp⟩
            go_enter Tryz.func48, Tryz.ntmps48
            go_wp2_with (first | (go_at_call 141; (with_reducible refine (LT.out m hm256).mono ?_); rintro e W1 ⟨rfl, rfl⟩; rw [L0.out]) | (go_at_call 142; (with_reducible refine (DG.out m hm256).mono ?_); rintro e W1 ⟨rfl, rfl⟩; rw [D0.out]) | (go_at_call 144; (with_reducible refine SG.out.mono ?_); rintro e W1 ⟨rfl, rfl⟩; rw [M0.out]))
            go_ret2
            rw [HE.out]
            exact ⟨rfl, rfl⟩
        · have e0 : ((m : Int) == 60) = false := beq_eq_false_iff_ne.2 (by omega)
          have HE : Aside0 (wordN (c :: r) = (1, 2)) := ⟨by rw [HW.out, if_neg (fun h => h60 (by rw [HCM.out, h.1]; rfl))]⟩
          clear h60
          go_enter Tryz.func48, Tryz.ntmps48
          go_wp2_with (first | (go_at_call 141; (with_reducible refine (LT.out m hm256).mono ?_); rintro e W1 ⟨rfl, rfl⟩; rw [L0.out]) | (go_at_call 142; (with_reducible refine (DG.out m hm256).mono ?_); rintro e W1 ⟨rfl, rfl⟩; rw [D0.out]) | (go_at_call 144; (with_reducible refine SG.out.mono ?_); rintro e W1 ⟨rfl, rfl⟩; rw [M0.out]))
          go_ret2
          rw [HE.out]
          exact ⟨rfl, rfl⟩
end Wd
end Go.Proofs.YtbdecnagdnancaaGreatDoor
