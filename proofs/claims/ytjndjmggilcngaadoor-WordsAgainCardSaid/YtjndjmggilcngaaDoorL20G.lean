/- WordsAgain: a walk through its code at every input. -/
import Derived.Test.YtjndjmggilcngaaDoorL20S

namespace Go.Proofs.YtjndjmggilcngaaDoor
open Go.RowKit Go.Proofs.YtjndjmggilcngaaDoorW.PrintWords Go.Proofs.YtjndjmggilcngaaDoorW.PrintLast Go.Proofs.YtjndjmggilcngaaDoorW.PrintMore
set_option linter.unusedVariables false
set_option linter.unusedSimpArgs false
namespace L20
open Wd
def noteL (r : List B) : List B := 35 :: r.filter notNl
theorem scanK_sum (l : List B) (w : List (Int × List B)) (h : scanK l = some w) : (w.map (fun x => x.2.length)).sum ≤ l.length := by
  induction hn : l.length using Nat.strongRecOn generalizing l w with
  | ind n ih =>
    subst hn
    cases l with
    | nil => rw [scanK] at h; cases h; simp
    | cons c r =>
      have hd : (r.dropWhile notNl).length ≤ r.length := (List.dropWhile_sublist (l := r) notNl).length_le
      rw [scanK] at h
      split at h
      · have := ih _ (by simp) r w h rfl
        simp; omega
      split at h
      · have := ih _ (by simp; omega) _ w h rfl
        simp; omega
      split at h
      · cases h
      rename_i h3
      obtain ⟨w1, h1, rfl⟩ := Option.map_eq_some_iff.1 h
      have := ih _ (by simp; omega) _ w1 h1 rfl
      have hle := (word_is c r h3).2
      rw [List.length_drop] at this
      rw [List.length_cons] at hle
      simp only [List.map_cons, List.sum_cons, List.length_take, List.length_cons]
      omega
theorem flat_len (q : List B) (w : List Wd.Tok) : (w.flatMap (fun t => t.text ++ q)).length = (w.map (fun t => t.text.length)).sum + w.length * q.length := by
  induction w with
  | nil => simp
  | cons t w ih => simp only [List.flatMap_cons, List.length_append, List.map_cons, List.sum_cons, List.length_cons, ih, Nat.succ_mul]; omega
theorem flat_take (q : List B) (w : List Wd.Tok) (k : Nat) : ((w.take k).flatMap (fun t => t.text ++ q)).length ≤ (w.flatMap (fun t => t.text ++ q)).length := by
  conv => rhs; rw [← List.take_append_drop k w]
  rw [List.flatMap_append, List.length_append]
  omega
theorem flat_kt (q : List B) (w : List Wd.Tok) : w.flatMap (fun t => t.text ++ q) = (w.map kt).flatMap (fun x : Int × List B => x.2 ++ q) := by
  rw [List.flatMap_map]
  rfl
theorem note_ok (r : List B) : ∀ x ∈ r.filter notNl, x ≠ 10 := by
  intro x hx
  have := (List.mem_filter.1 hx).2
  simpa [notNl] using this
/-- Both texts have the same words. -/
theorem again_one {l : List B} {ts : List Wd.Tok} (h : scanK l = some (ts.map kt)) : scanK (ts.flatMap (fun t => t.text ++ [32])) = some (ts.map kt) := by
  obtain ⟨w', hw, hh⟩ := scanK_words l _ h
  rw [flat_kt, hw]
  exact scanK_again [32] ⟨_, _, rfl, .inr (.inl rfl)⟩ (fun s => scanK_blank s (.inr (.inl rfl))) w' hh
theorem again_two {l r : List B} {ts : List Wd.Tok} (h : scanK l = some (ts.map kt)) : scanK (noteL r ++ [10] ++ ts.flatMap (fun t => t.text ++ 9 :: (noteL r ++ [10]))) = some (ts.map kt) := by
  obtain ⟨w', hw, hh⟩ := scanK_words l _ h
  rw [flat_kt, hw]
  have hs : ∀ s, scanK (noteL r ++ [10] ++ s) = scanK s := fun s => by
    rw [noteL, List.cons_append, List.cons_append, List.append_assoc, List.singleton_append]
    exact scanK_remark _ s (note_ok r)
  rw [hs]
  refine scanK_again _ ⟨_, _, rfl, .inr (.inr rfl)⟩ (fun s => ?_) w' hh
  rw [List.cons_append, scanK_blank _ (.inr (.inr rfl))]
  exact hs s
set_option maxRecDepth 100000 in
set_option maxHeartbeats 8000000 in
theorem again_walk (w : World) (HT : Aside0 (RangesAt w ∧ NumsAt w)) (a : ByteArray) (ha : a.size ≤ reachBytes) (r : ByteArray) (hr : r.size ≤ reachBytes) : Calls Tryd.prog 3 #[.string a, .string r] w fun e w' => e = .returned (.bool true) ∧ Below w.heap.size w w' := by
  have HB := Aside0.mk (Below.refl w.heap.size w)
  by_cases hbig : 4000 < a.size
  · have d1 : decide (4000 < (a.size : Int)) = true := decide_eq_true (by omega)
    clear hbig
    go_enter Tryd.func3, Tryd.ntmps3
    go_wp2_with (go_at_call 8; (with_reducible refine (lives_calls _ (tabs_below HT.out HB.out)).mono ?_); rintro e W' ⟨rfl, hb'⟩; have HBL := Aside0.mk (below_step HB.out hb'); clear hb')
    go_ret
    exact ⟨rfl, HBL.out⟩
  have d1 : decide (4000 < (a.size : Int)) = false := decide_eq_false (by omega)
  by_cases hbig2 : 100 < r.size
  · have d2 : decide (100 < (r.size : Int)) = true := decide_eq_true (by omega)
    clear hbig hbig2
    go_enter Tryd.func3, Tryd.ntmps3
    go_wp2_with (go_at_call 8; (with_reducible refine (lives_calls _ (tabs_below HT.out HB.out)).mono ?_); rintro e W' ⟨rfl, hb'⟩; have HBL := Aside0.mk (below_step HB.out hb'); clear hb')
    go_ret
    exact ⟨rfl, HBL.out⟩
  have d2 : decide (100 < (r.size : Int)) = false := decide_eq_false (by omega)
  have hla : a.data.toList.length ≤ 1048576 := by rw [Array.length_toList]; show a.size ≤ _; omega
  have ka := ofW_K _ hla
  have hca := ofW_count a.data.toList
  rw [Array.length_toList] at hca
  obtain ⟨la, pa, qa, ea, hfa⟩ : ∃ l line col er, ofW a.data.toList = (l, line, col, er) := ⟨_, _, _, _, rfl⟩
  rw [hfa] at ka hca
  simp only at ka hca
  obtain ⟨na, hna⟩ : ∃ m, m = la.length := ⟨_, rfl⟩
  have HFA := Aside0.mk (words_named w a HT hfa hna (rfl : la.map wordV = la.map wordV))
  have HN := Aside0.mk hna
  have hn1 : na ≤ 4001 := by rw [hna]; have : la.length ≤ a.size + 1 := hca; omega
  have hrs : r.size ≤ 100 := by omega
  have HSUM : Aside0 (∀ wk, scanK a.data.toList = some wk → (wk.map (fun x => x.2.length)).sum ≤ 4000) := ⟨fun wk h => by
    have := scanK_sum _ _ h
    rw [Array.length_toList] at this
    have h2 : a.size ≤ 4000 := by omega
    exact Nat.le_trans this h2⟩
  have HKA := Aside0.mk ka
  clear hbig hbig2 hla ka hca hfa hna ha hr
  have HCASE : Aside0 ((ea = 11 ∧ na = 0) ∨ (ea = 0 ∧ scanK a.data.toList = some (la.map kt))) := ⟨by
    rcases HKA.out with ⟨s1, e1, m1⟩ | ⟨wa, s1, e1, m1⟩
    · left; exact ⟨e1, by rw [HN.out, m1]; rfl⟩
    · right; exact ⟨e1, by rw [s1, m1]⟩⟩
  clear HKA
  go_enter Tryd.func3, Tryd.ntmps3
  go_wp2_with fail
  refine HFA.out.mono ?_
  rintro e W1 ⟨A1, c1, rfl, hr1, hb1⟩
  have HB1 := Aside0.mk (below_alloc hb1 (.cells #[.int .i64 pa, .int .i64 qa] 25))
  have hcc := Kd.C_below (Kd.R_reads' hr1).2.2 (below_alloc (Below.refl _ _) (.cells #[.int .i64 pa, .int .i64 qa] 25))
  have HC1 := Aside0.mk hcc
  clear hr1 hb1 hcc HFA
  rcases HCASE.out with ⟨rfl, rfl⟩ | ⟨rfl, hsc⟩
  · go_wp2_with (go_at_call 8; (with_reducible refine (lives_calls _ (tabs_below HT.out HB1.out)).mono ?_); rintro e W' ⟨rfl, hb'⟩; have HBL := Aside0.mk (below_step HB1.out hb'); clear hb')
    go_ret
    exact ⟨rfl, HBL.out⟩
  have HSC := Aside0.mk hsc
  have HTOT : Aside0 ((la.map (fun t => t.text.length)).sum ≤ 4000) := ⟨by
    have := HSUM.out _ hsc
    rw [List.map_map] at this
    exact this⟩
  clear hsc HCASE HSUM
  go_wp2
  obtain ⟨W2, hW2⟩ : ∃ W, W = W1.alloc (.cells #[.int .i64 pa, .int .i64 qa] 25) := ⟨_, rfl⟩
  rw [← hW2] at HB1 HC1
  try rw [← hW2]
  clear hW2
  go_loopg [8, 9] (r.size + 1) (fun g b8 b W => ∃ (j : Nat) (nt : ByteArray), b8 = .string nt ∧ b = .int .i64 (j : Int) ∧ j ≤ r.size ∧ r.size + 1 - j ≤ g ∧ nt.size ≤ j + 1 ∧ Aside0 (nt.data.toList = 35 :: (r.data.toList.take j).filter notNl) ∧ Aside0 (W = W2))
  case atStart => exact ⟨0, ⟨#[35]⟩, rfl, rfl, by omega, by omega, by decide, ⟨rfl⟩, ⟨rfl⟩⟩
  case round =>
    obtain ⟨j, nt, rfl, rfl, hj, hjg, hns, HNT, HW⟩ := hrel
    obtain ⟨HW⟩ := HW
    subst HW
    rcases Nat.lt_or_ge j r.size with hlt | hge
    · have hd : decide (j < r.size) = true := decide_eq_true (by omega)
      obtain ⟨cj, hcj⟩ : ∃ c, r[j]'hlt = c := ⟨_, rfl⟩
      have hjl : j < r.data.toList.length := by rw [Array.length_toList]; exact hlt
      have HTK : Aside0 ((r.data.toList.take (j + 1)).filter notNl = (r.data.toList.take j).filter notNl ++ (if notNl cj then [cj] else [])) := ⟨by
        rw [List.take_succ_eq_append_getElem hjl, List.filter_append]
        have : r.data.toList[j] = cj := by rw [← hcj, Array.getElem_toList]; rfl
        rw [this]
        cases h : notNl cj <;> simp [h]⟩
      have hjr : (r.extract j (j + 1)).data.toList = [cj] := by
        rw [ext_list, List.take_succ_eq_append_getElem hjl, List.drop_left' (by rw [List.length_take]; omega)]
        rw [← hcj, Array.getElem_toList]
        rfl
      have hjs : (r.extract j (j + 1)).size = 1 := by rw [ByteArray.size_extract]; omega
      by_cases h10 : cj = 10
      · have q1 : ((cj.toNat : Int) == 10) = true := by rw [h10]; rfl
        have q2 : ((cj.toNat : Int) != 10) = false := by rw [h10]; rfl
        have HNT2 : Aside0 (nt.data.toList = 35 :: (r.data.toList.take (j + 1)).filter notNl) := ⟨by rw [HTK.out, h10]; simp [notNl]; exact HNT.out⟩
        clear h10 hjr hjs
        go_wp2
        go_roundg (gk - 1)
        case measure => omega
        case rel => exact ⟨j + 1, nt, rfl, by go_num, by omega, by omega, by omega, HNT2, ⟨rfl⟩⟩
      · have q1 : ((cj.toNat : Int) == 10) = false := beq_eq_false_iff_ne.2 (fun e => h10 (UInt8.toNat_inj.1 (show cj.toNat = (10 : UInt8).toNat by show cj.toNat = 10; omega)))
        have q2 : ((cj.toNat : Int) != 10) = true := by rw [bne, q1]; rfl
        have HNT2 : Aside0 ((nt ++ r.extract j (j + 1)).data.toList = 35 :: (r.data.toList.take (j + 1)).filter notNl ∧ (nt ++ r.extract j (j + 1)).size ≤ j + 1 + 1) := ⟨by
          have hn : notNl cj = true := by simp [notNl, h10]
          refine ⟨?_, by rw [ByteArray.size_append]; omega⟩
          rw [HTK.out, hn, if_pos rfl, ByteArray.data_append, Array.toList_append, HNT.out, hjr]
          rfl⟩
        clear h10 hjr
        go_wp2
        go_roundg (gk - 1)
        case measure => omega
        case rel => exact ⟨j + 1, nt ++ r.extract j (j + 1), rfl, by go_num, by omega, by omega, HNT2.out.2, ⟨HNT2.out.1⟩, ⟨rfl⟩⟩
    · have hd : decide (j < r.size) = false := decide_eq_false (by omega)
      have HNL : Aside0 (nt.data.toList = noteL r.data.toList) := ⟨by
        rw [HNT.out, List.take_of_length_le (by rw [Array.length_toList]; exact hge)]
        rfl⟩
      have hns2 : nt.size ≤ 101 := by omega
      have HNZ : Aside0 ((noteL r.data.toList).length = nt.size) := ⟨by rw [← HNL.out]; exact Array.length_toList⟩
      obtain ⟨f1, hf1⟩ : ∃ f : Wd.Tok → List B, f = fun t => t.text ++ [32] := ⟨_, rfl⟩
      obtain ⟨f2, hf2⟩ : ∃ f : Wd.Tok → List B, f = fun t => t.text ++ 9 :: (noteL r.data.toList ++ [10]) := ⟨_, rfl⟩
      have HB1F : Aside0 (∀ k, ((la.take k).flatMap f1).length ≤ 8001) := ⟨fun k => by
        rw [hf1]
        refine Nat.le_trans (flat_take [32] la k) ?_
        rw [flat_len]
        have := HTOT.out
        have := HN.out
        simp only [List.length_cons, List.length_nil]
        omega⟩
      have HB2F : Aside0 (∀ k, ((la.take k).flatMap f2).length ≤ 416103) := ⟨fun k => by
        rw [hf2]
        refine Nat.le_trans (flat_take (9 :: (noteL r.data.toList ++ [10])) la k) ?_
        rw [flat_len]
        have h1 := HTOT.out
        have h2 := HN.out
        have h3 : (9 :: (noteL r.data.toList ++ [10])).length ≤ 103 := by rw [List.length_cons, List.length_append, HNZ.out, List.length_singleton]; omega
        have h4 : la.length * (9 :: (noteL r.data.toList ++ [10])).length ≤ 4001 * 103 := Nat.mul_le_mul (by omega) h3
        omega⟩
      clear hjg hge hj
      go_wp2
      clear hd
      go_loopg [10, 11, 12] (na + 1) (fun g b10 b11 b W => ∃ (k : Nat) (o t2 : ByteArray), b10 = .string o ∧ b11 = .string t2 ∧ b = .int .i64 (k : Int) ∧ k ≤ na ∧ na + 1 - k ≤ g ∧ o.size ≤ 8001 ∧ t2.size ≤ 416205 ∧ Aside0 (o.data.toList = (la.take k).flatMap f1 ∧ t2.data.toList = noteL r.data.toList ++ [10] ++ (la.take k).flatMap f2) ∧ Aside0 (W = wr))
      case atStart => exact ⟨0, ⟨#[]⟩, nt ++ ⟨#[10]⟩, rfl, rfl, rfl, by omega, by omega, by decide, by rw [ByteArray.size_append]; have : (⟨#[10]⟩ : ByteArray).size = 1 := rfl; omega, ⟨by simp, by rw [List.take_zero, List.flatMap_nil, List.append_nil, ByteArray.data_append, Array.toList_append, HNL.out]⟩, ⟨rfl⟩⟩
      case round =>
        obtain ⟨k, o, t2, rfl, rfl, rfl, hk, hkg, hos, hts, HO, HW⟩ := hrel
        obtain ⟨HW⟩ := HW
        subst HW
        rcases Nat.lt_or_ge k na with hlt2 | hge2
        · have hd : decide (k < na) = true := decide_eq_true hlt2
          have hkl : k < la.length := by rw [← HN.out]; exact hlt2
          obtain ⟨ad, rfl, -, x1, -, -⟩ := C_wordN HC1.out k (by rw [List.length_map]; exact hkl)
          obtain ⟨t, ht⟩ : ∃ t, t = la[k] := ⟨_, rfl⟩
          rw [List.getElem_map, ← ht] at x1
          change wr.cell? _ = some (.string ⟨t.text.toArray⟩) at x1
          obtain ⟨s1, hs1⟩ : ∃ s1, s1 = (⟨t.text.toArray⟩ : ByteArray) := ⟨_, rfl⟩
          have hs1l : s1.data.toList = t.text := by rw [hs1]
          rw [← hs1] at x1
          have HO2 : Aside0 ((o ++ s1 ++ ⟨#[32]⟩).data.toList = (la.take (k + 1)).flatMap f1 ∧ (t2 ++ s1 ++ ⟨#[9]⟩ ++ nt ++ ⟨#[10]⟩).data.toList = noteL r.data.toList ++ [10] ++ (la.take (k + 1)).flatMap f2) := ⟨by
            rw [List.take_succ_eq_append_getElem hkl, ← ht, List.flatMap_append, List.flatMap_append, List.flatMap_singleton, List.flatMap_singleton, ← List.append_assoc, ← HO.out.1, ← HO.out.2, hf1, hf2]
            simp only [ByteArray.data_append, Array.toList_append, hs1l, HNL.out, List.append_assoc, List.cons_append, List.nil_append, and_self]⟩
          have HSZ : Aside0 ((o ++ s1 ++ ⟨#[32]⟩).size ≤ 8001 ∧ (t2 ++ s1 ++ ⟨#[9]⟩ ++ nt ++ ⟨#[10]⟩).size ≤ 416205) := ⟨by
            have e1 := congrArg List.length HO2.out.1
            have e2 := congrArg List.length HO2.out.2
            rw [Array.length_toList] at e1 e2
            have b1 := HB1F.out (k + 1)
            have b2 := HB2F.out (k + 1)
            rw [List.length_append, List.length_append, HNZ.out, List.length_singleton] at e2
            exact ⟨by show (o ++ s1 ++ ⟨#[32]⟩ : ByteArray).data.size ≤ _; omega, by show (t2 ++ s1 ++ ⟨#[9]⟩ ++ nt ++ ⟨#[10]⟩ : ByteArray).data.size ≤ _; omega⟩⟩
          have hs1z : s1.size ≤ 8001 := by
            have := HSZ.out.1
            rw [ByteArray.size_append, ByteArray.size_append] at this
            omega
          clear ht hs1 hs1l hkl hk
          go_wp2
          go_roundg (gk - 1)
          case measure => omega
          case rel => exact ⟨k + 1, o ++ s1 ++ ⟨#[32]⟩, t2 ++ s1 ++ ⟨#[9]⟩ ++ nt ++ ⟨#[10]⟩, rfl, rfl, by go_num, by omega, by omega, HSZ.out.1, HSZ.out.2, HO2, ⟨rfl⟩⟩
        · have hd : decide (k < na) = false := decide_eq_false (by omega)
          obtain rfl : k = na := by omega
          have HOL : Aside0 (o.data.toList = la.flatMap (fun t => t.text ++ [32]) ∧ t2.data.toList = noteL r.data.toList ++ [10] ++ la.flatMap (fun t => t.text ++ 9 :: (noteL r.data.toList ++ [10]))) := ⟨by
            rw [HO.out.1, HO.out.2, List.take_of_length_le (by rw [← HN.out]; exact Nat.le_refl _), hf1, hf2]
            exact ⟨rfl, rfl⟩⟩
          have k5 := ofW_K o.data.toList (by rw [Array.length_toList]; show o.size ≤ _; omega)
          have k6 := ofW_K t2.data.toList (by rw [Array.length_toList]; show t2.size ≤ _; omega)
          obtain ⟨l5, p5, q5, e5, h5⟩ : ∃ l line col er, ofW o.data.toList = (l, line, col, er) := ⟨_, _, _, _, rfl⟩
          obtain ⟨l6, p6, q6, e6, h6⟩ : ∃ l line col er, ofW t2.data.toList = (l, line, col, er) := ⟨_, _, _, _, rfl⟩
          rw [h5] at k5
          rw [h6] at k6
          obtain ⟨n5, hn5⟩ : ∃ m, m = l5.length := ⟨_, rfl⟩
          obtain ⟨n6, hn6⟩ : ∃ m, m = l6.length := ⟨_, rfl⟩
          simp only at k5 k6
          rcases k5 with ⟨s5, -, -⟩ | ⟨w5, s5, rfl, m5⟩
          · rw [HOL.out.1, again_one HSC.out] at s5; cases s5
          rcases k6 with ⟨s6, -, -⟩ | ⟨w6, s6, rfl, m6⟩
          · rw [HOL.out.2, again_two HSC.out] at s6; cases s6
          rw [HOL.out.1, again_one HSC.out] at s5
          rw [HOL.out.2, again_two HSC.out] at s6
          have E5 : la.map kt = l5.map kt := by rw [m5]; exact Option.some.inj s5
          have E6 : la.map kt = l6.map kt := by rw [m6]; exact Option.some.inj s6
          have HS5 := Aside0.mk (kt_wordV _ _ E5)
          have HS6 := Aside0.mk (kt_wordV _ _ E6)
          have HLN : Aside0 (k = (la.map wordV).length ∧ n5 = (l5.map wordV).length ∧ k = n5 ∧ n6 = (l6.map wordV).length ∧ k = n6) := ⟨by
            have e5 := congrArg List.length E5
            have e6 := congrArg List.length E6
            rw [List.length_map, List.length_map] at e5 e6
            have := HN.out
            refine ⟨by rw [List.length_map]; exact HN.out, by rw [List.length_map]; exact hn5, by omega, by rw [List.length_map]; exact hn6, by omega⟩⟩
          have HA1 : Aside0 (∀ W, Below wr.heap.size wr W → kWord.C W A1 k (la.map wordV)) := ⟨fun W hb => by
            have := Kd.C_below HC1.out hb
            rwa [List.length_map, ← HN.out] at this⟩
          have HF5 : Aside0 (∀ W, Below w.heap.size w W → Calls Tryd.prog 9 #[.string o] W fun e w' => ∃ A c, e = .returned (.tuple #[.slice A n5 c, .agg #[.int .i64 p5, .int .i64 q5], .int .i64 0]) ∧ kWord.R 31 w' W.heap.size (fun _ => True) (.slice A n5 c) (l5.map wordV) ∧ Below W.heap.size W w') := ⟨fun W h => words_named W o (tabs_below HT.out h) h5 hn5 rfl⟩
          have HF6 : Aside0 (∀ W, Below w.heap.size w W → Calls Tryd.prog 9 #[.string t2] W fun e w' => ∃ A c, e = .returned (.tuple #[.slice A n6 c, .agg #[.int .i64 p6, .int .i64 q6], .int .i64 0]) ∧ kWord.R 31 w' W.heap.size (fun _ => True) (.slice A n6 c) (l6.map wordV) ∧ Below W.heap.size W w') := ⟨fun W h => words_named W t2 (tabs_below HT.out h) h6 hn6 rfl⟩
          clear h5 h6 hn5 hn6 m5 m6 s5 s6 E5 E6 hf1 hf2 HO hk hge2
          go_wp2_with fail
          refine (HF5.out _ HB1.out).mono ?_
          rintro e W5 ⟨A5, c5, rfl, hr5, hb5⟩
          have HBV := Aside0.mk (below_alloc hb5 (.cells #[.int .i64 p5, .int .i64 q5] 25))
          have hc5 := Kd.C_below (Kd.R_reads' hr5).2.2 (below_alloc (Below.refl _ _) (.cells #[.int .i64 p5, .int .i64 q5] 25))
          rw [← HLN.out.2.1] at hc5
          have HC5' := Aside0.mk hc5
          clear hr5 hb5 hc5
          go_wp2_with fail
          refine (HF6.out _ (HB1.out.trans (HBV.out.mono HB1.out.size))).mono ?_
          rintro e W6 ⟨A6, c6, rfl, hr6, hb6⟩
          have HBW := Aside0.mk (below_alloc (below_step HBV.out hb6) (.cells #[.int .i64 p6, .int .i64 q6] 25))
          have hc6 := Kd.C_below (Kd.R_reads' hr6).2.2 (below_alloc (Below.refl _ _) (.cells #[.int .i64 p6, .int .i64 q6] 25))
          rw [← HLN.out.2.2.2.1] at hc6
          have HC6 := Aside0.mk hc6
          have HC5 := Aside0.mk (Kd.C_below (Kd.C_below HC5'.out hb6) (below_alloc (Below.refl _ _) (.cells #[.int .i64 p6, .int .i64 q6] 25)))
          clear hr6 hb6 hc6
          go_wp2_with (first | (go_at_call 10; (with_reducible refine (same20_calls _ A1 A5 c1 c5 k n5 _ _ HLN.out.1 HLN.out.2.1 HLN.out.2.2.1 (HA1.out _ HBW.out) HC5.out HS5.out).mono ?_); rintro e W9 ⟨rfl, hb'⟩; have HBX := Aside0.mk (HBW.out.trans (hb'.mono HBW.out.size)); have HC6' := Aside0.mk (Kd.C_below HC6.out hb'); clear hb') | (go_at_call 10; (with_reducible refine (same20_calls _ A1 A6 c1 c6 k n6 _ _ HLN.out.1 HLN.out.2.2.2.1 HLN.out.2.2.2.2 (HA1.out _ HBX.out) HC6'.out HS6.out).mono ?_); rintro e W10 ⟨rfl, hb'⟩; have HBY := Aside0.mk (HBX.out.trans (hb'.mono HBX.out.size)); clear hb') | (go_at_call 8; (with_reducible refine (lives_calls _ (tabs_below HT.out (HB1.out.trans (HBY.out.mono HB1.out.size)))).mono ?_); rintro e W' ⟨rfl, hb'⟩; have HBL := Aside0.mk (below_step (HB1.out.trans (HBY.out.mono HB1.out.size)) hb'); clear hb'))
          go_ret
          exact ⟨rfl, HBL.out⟩
end L20
end Go.Proofs.YtjndjmggilcngaaDoor
