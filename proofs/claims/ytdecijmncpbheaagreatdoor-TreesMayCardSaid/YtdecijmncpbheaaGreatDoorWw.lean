/- words.word: how many bytes the word has with which a text begins, and its kind. -/
import Derived.Test.YtdecijmncpbheaaGreatDoorMWo
import Derived.Shelf.Strings.Prefix
import Derived.Deep.RegionWith
import Derived.WalkSpells

namespace Go.Proofs.YtdecijmncpbheaaGreatDoor
open Go.RowKit Go.Proofs.YtdecijmncpbheaaGreatDoorW.PrintWords Go.Proofs.YtdecijmncpbheaaGreatDoorW.PrintLast Go.Proofs.YtdecijmncpbheaaGreatDoorW.PrintMore
set_option linter.unusedVariables false
set_option linter.unusedSimpArgs false
open Go.Shelf
namespace Wd
theorem ext_list (s : ByteArray) (i j : Nat) : (s.extract i j).data.toList = (s.data.toList.take j).drop i := by
  rw [ByteArray.data_extract, Array.toList_extract, List.extract_eq_drop_take', List.drop_take]
theorem wordN_at (s : ByteArray) (h : 0 < s.size) : ∃ c r, s.data.toList = c :: r ∧ s[0]'h = c := by
  cases hl : s.data.toList with
  | nil =>
    have := congrArg List.length hl
    rw [Array.length_toList] at this
    exact absurd this (by simpa using Nat.pos_iff_ne_zero.1 h)
  | cons c r =>
    refine ⟨c, r, rfl, ?_⟩
    have h2 : s.data.toList[0]? = some c := by rw [hl]; rfl
    rw [Array.getElem?_toList, Array.getElem?_eq_getElem h] at h2
    exact Option.some.inj h2
set_option maxRecDepth 100000 in
set_option maxHeartbeats 4000000 in
theorem word_calls (w : World) (s : ByteArray) (h0 : 0 < s.size) (hs : s.size ≤ 281474976710656) (HR : Aside0 (RangesAt w)) (HN : Aside0 (NumsAt w)) :
    Calls Tryz.prog 156 #[.string s] w fun e w' => e = .returned (.tuple #[.int .i64 ((wordN s.data.toList).1 : Int), .int .u8 (wordN s.data.toList).2]) ∧ Below w.heap.size w w' := by
  obtain ⟨c, r, hl, hc⟩ := wordN_at s h0
  have HL := Aside0.mk hl
  have HC := Aside0.mk hc
  have HB := Aside0.mk (Below.refl w.heap.size w)
  have hcs := sort_cases c
  obtain ⟨z, hz⟩ : ∃ z, z = sortOf c.toNat := ⟨_, rfl⟩
  have HO : Aside0 (Calls Tryz.prog 181 #[.int .u8 (c.toNat : Int)] w fun e w' => e = .returned (.int .u8 z) ∧ Below w.heap.size w w') := ⟨by rw [hz]; exact wof_calls w c.toNat c.toNat_lt HR⟩
  rw [← hz] at hcs
  obtain ⟨N, hN⟩ : ∃ N, N = (wordN s.data.toList).1 := ⟨_, rfl⟩
  obtain ⟨K, hK⟩ : ∃ K, K = (wordN s.data.toList).2 := ⟨_, rfl⟩
  rw [← hN, ← hK]
  have HW : Aside0 (wordN (c :: r) = (N, K)) := ⟨by rw [hN, hK, hl]⟩
  have HS := Aside0.mk hcs
  clear hl hcs hz hN hK
  cases h1 : letter c with
  | true =>
    obtain rfl : z = 2 := HS.out.1.2 h1
    obtain ⟨t, ht⟩ : ∃ t, t = (s.data.toList.takeWhile inName).length := ⟨_, rfl⟩
    have HT : Aside0 (t = (r.takeWhile inName).length + 1) := ⟨by rw [ht, HL.out, List.takeWhile_cons, if_pos (by simp [inName, h1])]; rfl⟩
    have HWH : Aside0 (∀ W, Below w.heap.size w W → Calls Tryz.prog 183 #[.string s, .func (.func 184) #[] #[]] W fun e w' => e = .returned (.int .i64 (t : Int)) ∧ Below W.heap.size W w') := ⟨fun W hb => by rw [ht]; exact while1_calls W s ⟨HR.out.below hb⟩ (by omega)⟩
    clear ht
    have HE : Aside0 (N = (if 32 < t then 0 else t) ∧ K = 0) := ⟨by
      have := HW.out
      rw [wordN_name h1, ← HT.out] at this
      exact ⟨(Prod.mk.inj this).1.symm, (Prod.mk.inj this).2.symm⟩⟩
    clear h1
    by_cases h : 32 < t
    · have d1 : decide (32 < (t : Int)) = true := decide_eq_true (by omega)
      obtain ⟨rfl, rfl⟩ : N = 0 ∧ K = 0 := ⟨by rw [HE.out.1, if_pos h], HE.out.2⟩
      clear h
      go_enter Tryz.func156, Tryz.ntmps156
      go_wp2_with (first | (go_at_call 181; (with_reducible refine HO.out.mono ?_); rintro e W1 ⟨rfl, hb'⟩; have HB1 := Aside0.mk hb'; clear hb') | (go_at_call 183; (with_reducible refine (HWH.out _ HB1.out).mono ?_); rintro e W2 ⟨rfl, hb'⟩; have HB2 := Aside0.mk (below_step HB1.out hb'); clear hb'))
      go_ret2
      exact ⟨rfl, HB2.out⟩
    · have d1 : decide (32 < (t : Int)) = false := decide_eq_false (by omega)
      obtain ⟨rfl, rfl⟩ : N = t ∧ K = 0 := ⟨by rw [HE.out.1, if_neg h], HE.out.2⟩
      clear h
      go_enter Tryz.func156, Tryz.ntmps156
      go_wp2_with (first | (go_at_call 181; (with_reducible refine HO.out.mono ?_); rintro e W1 ⟨rfl, hb'⟩; have HB1 := Aside0.mk hb'; clear hb') | (go_at_call 183; (with_reducible refine (HWH.out _ HB1.out).mono ?_); rintro e W2 ⟨rfl, hb'⟩; have HB2 := Aside0.mk (below_step HB1.out hb'); clear hb'))
      go_ret2
      exact ⟨rfl, HB2.out⟩
  | false =>
    cases h2 : digit c with
    | true =>
      obtain rfl : z = 3 := HS.out.2.1.2 h2
      obtain ⟨ds, hds⟩ : ∃ ds, ds = c :: r.takeWhile digit := ⟨_, rfl⟩
      have htw : s.data.toList.takeWhile digit = ds := by rw [hds, HL.out, List.takeWhile_cons, if_pos h2]
      obtain ⟨t, ht⟩ : ∃ t, t = ds.length := ⟨_, rfl⟩
      have hle : t ≤ s.size := by
        have := tw_le digit s.data.toList
        rw [htw, ← ht, Array.length_toList] at this
        exact this
      have HDS : Aside0 (ds ≠ [] ∧ (∀ x ∈ ds, digit x = true) ∧ (s.extract 0 t).data.toList = ds) := ⟨by
        refine ⟨by rw [hds]; simp, by rw [← htw]; exact tw_all _ _, ?_⟩
        rw [ext_list, List.drop_zero, ht, ← htw]
        exact take_tw _ _⟩
      have HWH : Aside0 (∀ W, Below w.heap.size w W → Calls Tryz.prog 183 #[.string s, .func (.func 186) #[] #[]] W fun e w' => e = .returned (.int .i64 (t : Int)) ∧ Below W.heap.size W w') := ⟨fun W hb => by rw [ht, ← htw]; exact while2_calls W s ⟨HR.out.below hb⟩ (by omega)⟩
      have HE : Aside0 (N = (if numOk ds then t else 0) ∧ K = 1) := ⟨by
        have := HW.out
        rw [wordN_num h1 h2, ← hds] at this
        have e : (r.takeWhile digit).length + 1 = t := by rw [ht, hds]; rfl
        rw [e] at this
        exact ⟨(Prod.mk.inj this).1.symm, (Prod.mk.inj this).2.symm⟩⟩
      have xs : (s.extract 0 t).size ≤ 281474976710656 := by rw [ByteArray.size_extract]; omega
      obtain ⟨u, hu⟩ : ∃ u, u = valOf ds := ⟨_, rfl⟩
      have HU := Aside0.mk hu
      clear htw ht hds h1 h2 hu
      by_cases hbig : 18446744073709551616 ≤ u
      · have HPR : Aside0 (∀ W, Below w.heap.size w W → Calls Tryz.prog 187 #[.string (s.extract 0 t), .int .i64 10, .int .i64 64] W fun e w' => ∃ t N, e = .returned (.tuple #[.int .u64 18446744073709551615, .iface t (.pointer (some ⟨N, 0, none⟩))]) ∧ Below W.heap.size W w') := ⟨fun W hb => parse_range W (s.extract 0 t) xs (by rw [HDS.out.2.2, parse_digits ds HDS.out.1 HDS.out.2.1, if_pos (by rw [← HU.out]; exact hbig)]) ⟨HN.out.below hb⟩⟩
        obtain ⟨rfl, rfl⟩ : N = 0 ∧ K = 1 := ⟨by
          have : numOk ds = false := by rw [numOk_iff ds HDS.out.1 HDS.out.2.1, decide_eq_false (by rw [← HU.out]; omega), Bool.false_and]
          rw [HE.out.1, this]; rfl, HE.out.2⟩
        clear hbig
        go_enter Tryz.func156, Tryz.ntmps156
        go_wp2_with (first | (go_at_call 181; (with_reducible refine HO.out.mono ?_); rintro e W1 ⟨rfl, hb'⟩; have HB1 := Aside0.mk hb'; clear hb') | (go_at_call 183; (with_reducible refine (HWH.out _ HB1.out).mono ?_); rintro e W2 ⟨rfl, hb'⟩; have HB2 := Aside0.mk (below_step HB1.out hb'); clear hb') | (go_at_call 187; (with_reducible refine (HPR.out _ HB2.out).mono ?_); rintro e W3 ⟨tt, NN, rfl, hb'⟩; have HB3 := Aside0.mk (below_step HB2.out hb'); clear hb'))
        go_quiet (fail)
        go_wp2
        go_ret2
        exact ⟨rfl, pw_below_drewN HB3.out _⟩
      · have hlt : u < 18446744073709551616 := by omega
        have HPR : Aside0 (∀ W, Calls Tryz.prog 187 #[.string (s.extract 0 t), .int .i64 10, .int .i64 64] W fun e w' => e = .returned (.tuple #[.int .u64 (u : Int), .nilIface]) ∧ Below W.heap.size W w') := ⟨fun W => parse_ok W (s.extract 0 t) xs u (by rw [HDS.out.2.2, parse_digits ds HDS.out.1 HDS.out.2.1, if_neg (by rw [← HU.out]; exact hbig), ← HU.out])⟩
        have HFM : Aside0 (∀ W, Below w.heap.size w W → Calls Tryz.prog 188 #[.int .u64 (u : Int), .int .i64 10] W fun e w' => e = .returned (.string ⟨(Lib.decDigits u).toArray⟩) ∧ Below W.heap.size W w') := ⟨fun W hb => format_calls W u hlt ⟨HN.out.below hb⟩⟩
        have HNK : Aside0 (numOk ds = decide (Lib.decDigits u = ds)) := ⟨by rw [numOk_iff ds HDS.out.1 HDS.out.2.1, decide_eq_true (by rw [← HU.out]; exact hlt), Bool.true_and, HU.out]⟩
        clear hbig
        cases hq : decide (Lib.decDigits u = ds) with
        | true =>
          have d2 : (Lib.decDigits u == (s.extract 0 t).toList) = true := by rw [ByteArray.toList_eq, HDS.out.2.2]; simpa using hq
          obtain ⟨rfl, rfl⟩ : N = t ∧ K = 1 := ⟨by rw [HE.out.1, HNK.out, hq]; rfl, HE.out.2⟩
          clear hq
          go_enter Tryz.func156, Tryz.ntmps156
          go_wp2_with (first | (go_at_call 181; (with_reducible refine HO.out.mono ?_); rintro e W1 ⟨rfl, hb'⟩; have HB1 := Aside0.mk hb'; clear hb') | (go_at_call 183; (with_reducible refine (HWH.out _ HB1.out).mono ?_); rintro e W2 ⟨rfl, hb'⟩; have HB2 := Aside0.mk (below_step HB1.out hb'); clear hb') | (go_at_call 187; (with_reducible refine (HPR.out _).mono ?_); rintro e W3 ⟨rfl, hb'⟩; have HB3 := Aside0.mk (below_step HB2.out hb'); clear hb'))
          have HBD := Aside0.mk HB3.out.drew
          clear HPR
          go_region_with ((go_at_call 188; (with_reducible refine (HFM.out _ HBD.out).mono ?_); rintro e W4 ⟨rfl, hb'⟩; have HB4 := Aside0.mk (below_step HBD.out hb'); clear hb'))
          all_goals (go_wp2; go_ret2; exact ⟨rfl, HB4.out⟩)
        | false =>
          have d2 : (Lib.decDigits u == (s.extract 0 t).toList) = false := by rw [ByteArray.toList_eq, HDS.out.2.2]; simpa using hq
          obtain ⟨rfl, rfl⟩ : N = 0 ∧ K = 1 := ⟨by rw [HE.out.1, HNK.out, hq]; rfl, HE.out.2⟩
          clear hq
          go_enter Tryz.func156, Tryz.ntmps156
          go_wp2_with (first | (go_at_call 181; (with_reducible refine HO.out.mono ?_); rintro e W1 ⟨rfl, hb'⟩; have HB1 := Aside0.mk hb'; clear hb') | (go_at_call 183; (with_reducible refine (HWH.out _ HB1.out).mono ?_); rintro e W2 ⟨rfl, hb'⟩; have HB2 := Aside0.mk (below_step HB1.out hb'); clear hb') | (go_at_call 187; (with_reducible refine (HPR.out _).mono ?_); rintro e W3 ⟨rfl, hb'⟩; have HB3 := Aside0.mk (below_step HB2.out hb'); clear hb'))
          have HBD := Aside0.mk HB3.out.drew
          clear HPR
          go_region_with ((go_at_call 188; (with_reducible refine (HFM.out _ HBD.out).mono ?_); rintro e W4 ⟨rfl, hb'⟩; have HB4 := Aside0.mk (below_step HBD.out hb'); clear hb'))
          all_goals (go_wp2; go_ret2; exact ⟨rfl, HB4.out⟩)
    | false =>
      cases h3 : isMark c with
      | true =>
        obtain rfl : z = 4 := HS.out.2.2.2.2.2 h3
        have HE : Aside0 (N = (if c = 60 ∧ r.head? = some 61 then 2 else 1) ∧ K = 2) := ⟨by
          have := HW.out
          rw [wordN_mark h1 h2 h3] at this
          exact ⟨(Prod.mk.inj this).1.symm, (Prod.mk.inj this).2.symm⟩⟩
        have HP0 := Any.strings_HasPrefix Tryz.lays99 s ⟨#[60, 61]⟩
        have hpre : Lib.hasPrefix s.data.toList [60, 61] = decide (c = 60 ∧ r.head? = some 61) := by
          rw [HL.out]
          cases r with
          | nil => simp [Lib.hasPrefix, List.isPrefixOf]
          | cons d r =>
            simp only [Lib.hasPrefix, List.isPrefixOf, Bool.and_true, List.head?_cons, Option.some.injEq]
            rw [Bool.eq_iff_iff]
            simp only [Bool.and_eq_true, beq_iff_eq, decide_eq_true_eq]
            exact ⟨fun h => ⟨h.1.symm, h.2.symm⟩, fun h => ⟨h.1.symm, h.2.symm⟩⟩
        clear h1 h2 h3
        cases hq : decide (c = 60 ∧ r.head? = some 61) with
        | true =>
          obtain ⟨rfl, rfl⟩ : N = 2 ∧ K = 2 := ⟨by rw [HE.out.1, if_pos (of_decide_eq_true hq)], HE.out.2⟩
          have HP : Aside0 (∀ W, Calls Tryz.prog 189 #[.string s, .string ⟨#[60, 61]⟩] W fun e w' => e = .returned (.bool true) ∧ w' = W) := ⟨fun W => by have := HP0 W; rw [← hq, ← hpre]; exact this⟩
          clear hq hpre HP0
          go_enter Tryz.func156, Tryz.ntmps156
          go_wp2_with (first | (go_at_call 181; (with_reducible refine HO.out.mono ?_); rintro e W1 ⟨rfl, hb'⟩; have HB1 := Aside0.mk hb'; clear hb') | (go_at_call 189; (with_reducible refine (HP.out _).mono ?_); rintro e W2 ⟨rfl, rfl⟩))
          go_ret2
          exact ⟨rfl, HB1.out⟩
        | false =>
          obtain ⟨rfl, rfl⟩ : N = 1 ∧ K = 2 := ⟨by rw [HE.out.1, if_neg (of_decide_eq_false hq)], HE.out.2⟩
          have HP : Aside0 (∀ W, Calls Tryz.prog 189 #[.string s, .string ⟨#[60, 61]⟩] W fun e w' => e = .returned (.bool false) ∧ w' = W) := ⟨fun W => by have := HP0 W; rw [← hq, ← hpre]; exact this⟩
          clear hq hpre HP0
          go_enter Tryz.func156, Tryz.ntmps156
          go_wp2_with (first | (go_at_call 181; (with_reducible refine HO.out.mono ?_); rintro e W1 ⟨rfl, hb'⟩; have HB1 := Aside0.mk hb'; clear hb') | (go_at_call 189; (with_reducible refine (HP.out _).mono ?_); rintro e W2 ⟨rfl, rfl⟩))
          go_ret2
          exact ⟨rfl, HB1.out⟩
      | false =>
        have z1 : (z == 2) = false := beq_eq_false_iff_ne.2 (fun e => by have := HS.out.1.1 e; rw [h1] at this; cases this)
        have z2 : (z == 3) = false := beq_eq_false_iff_ne.2 (fun e => by have := HS.out.2.1.1 e; rw [h2] at this; cases this)
        have z3 : (z == 4) = false := beq_eq_false_iff_ne.2 (fun e => by have := HS.out.2.2.2.2.1 e; rw [h3] at this; cases this)
        obtain ⟨rfl, rfl⟩ : N = 0 ∧ K = 2 := by
          have := HW.out
          rw [wordN_none h1 h2 h3] at this
          exact ⟨(Prod.mk.inj this).1.symm, (Prod.mk.inj this).2.symm⟩
        clear h1 h2 h3
        go_enter Tryz.func156, Tryz.ntmps156
        go_wp2_with (go_at_call 181; (with_reducible refine HO.out.mono ?_); rintro e W1 ⟨rfl, hb'⟩; have HB1 := Aside0.mk hb'; clear hb')
        go_ret2
        exact ⟨rfl, HB1.out⟩
end Wd
end Go.Proofs.YtdecijmncpbheaaGreatDoor
