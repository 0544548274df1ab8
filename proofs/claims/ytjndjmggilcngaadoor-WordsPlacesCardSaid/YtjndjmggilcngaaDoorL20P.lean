/- WordsPlaces: a walk through its code at every input. -/
import Derived.Test.YtjndjmggilcngaaDoorL20S
import Derived.Deep.Cut
import Derived.Test.YtjndjmggilcngaaDoorQu

namespace Go.Proofs.YtjndjmggilcngaaDoor
open Go.RowKit Go.Proofs.YtjndjmggilcngaaDoorW.PrintWords Go.Proofs.YtjndjmggilcngaaDoorW.PrintLast Go.Proofs.YtjndjmggilcngaaDoorW.PrintMore
set_option linter.unusedVariables false
set_option linter.unusedSimpArgs false
namespace L20
open Wd
theorem place_snoc (l : List B) (j : Nat) (hj : j < l.length) : placeOf (l.take (j + 1)) = adv (placeOf (l.take j)) l[j] := by
  rw [List.take_succ_eq_append_getElem hj, placeOf, List.foldl_append]
  rfl
set_option maxRecDepth 100000 in
set_option maxHeartbeats 4000000 in
theorem index20_calls (w : World) (s : ByteArray) (hs : s.size ≤ 100000) (k : Nat) (line col : Int) (hk : k ≤ s.size) (hp : (line, col) = placeOf (s.data.toList.take k)) :
    Calls Tryd.prog 11 #[.string s, .agg #[.int .i64 line, .int .i64 col]] w fun e w' => e = .returned (.int .i64 (k : Int)) ∧ Below w.heap.size w w' := by
  have HB := Aside0.mk (below_alloc (Below.refl w.heap.size w) (.cells #[.int .i64 line, .int .i64 col] 25))
  have g := blk_new w (.cells #[.int .i64 line, .int .i64 col] 25)
  have HC : Aside0 ((w.alloc (.cells #[.int .i64 line, .int .i64 col] 25)).cell? ⟨w.heap.size, 0, none⟩ = some (.int .i64 line) ∧ (w.alloc (.cells #[.int .i64 line, .int .i64 col] 25)).cell? ⟨w.heap.size, 1, none⟩ = some (.int .i64 col)) := ⟨⟨blk_cell g 0, blk_cell g 1⟩⟩
  have HP := Aside0.mk hp
  have hlen : s.data.toList.length = s.size := Array.length_toList
  clear hp g
  go_enter Tryd.func11, Tryd.ntmps11
  go_wp2
  obtain ⟨W2, hW2⟩ : ∃ W, W = w.alloc (.cells #[.int .i64 line, .int .i64 col] 25) := ⟨_, rfl⟩
  rw [← hW2] at HB HC
  try rw [← hW2]
  clear hW2
  go_loopg [5, 6, 7] (s.size + 1) (fun g b5 b6 b W => ∃ (j : Nat) (l1 c1 : Int), b5 = .int .i64 l1 ∧ b6 = .int .i64 c1 ∧ b = .int .i64 (j : Int) ∧ j ≤ k ∧ s.size + 1 - j ≤ g ∧ 0 ≤ l1 ∧ l1 ≤ (j : Int) + 1 ∧ 0 ≤ c1 ∧ c1 ≤ (j : Int) + 1 ∧ Aside0 ((l1, c1) = placeOf (s.data.toList.take j)) ∧ Aside0 (W = W2))
  case atStart => exact ⟨0, 1, 1, rfl, rfl, rfl, by omega, by omega, by omega, by omega, by omega, by omega, ⟨rfl⟩, ⟨rfl⟩⟩
  case round =>
    obtain ⟨j, l1, c1, rfl, rfl, rfl, hj, hjg, hl0, hl1, hc0, hc1, HPJ, HW⟩ := hrel
    obtain ⟨HW⟩ := HW
    subst HW
    obtain ⟨x0, x1⟩ := HC.out
    rcases Nat.lt_or_ge j s.size with hlt | hge
    · have hd : decide (j < s.size) = true := decide_eq_true (by omega)
      by_cases hjk : j = k
      · subst hjk
        obtain ⟨rfl, rfl⟩ := Prod.mk.inj (HP.out.trans HPJ.out.symm)
        go_wp2
        go_ret
        exact ⟨rfl, HB.out⟩
      · have hne : ¬(l1 = line ∧ c1 = col) := by
          rintro ⟨rfl, rfl⟩
          exact place_inj s.data.toList j k (by omega) (by rw [hlen]; exact hk) (HPJ.out.symm.trans HP.out)
        obtain ⟨cj, hcj⟩ : ∃ c, s[j]'hlt = c := ⟨_, rfl⟩
        have hjl : j < s.data.toList.length := by rw [hlen]; exact hlt
        have hcl : s.data.toList[j] = cj := by rw [← hcj, Array.getElem_toList]; rfl
        have HADV : Aside0 (placeOf (s.data.toList.take (j + 1)) = if cj = 10 then (l1 + 1, 1) else (l1, c1 + 1)) := ⟨by rw [place_snoc _ _ hjl, hcl, ← HPJ.out]; rfl⟩
        have hw1 : wrap64 (c1 + 1) = c1 + 1 := by unfold wrap64; omega
        have hw2 : wrap64 (l1 + 1) = l1 + 1 := by unfold wrap64; omega
        clear hjl hcl
        by_cases h10 : cj = 10
        · have q1 : ((cj.toNat : Int) == 10) = true := by rw [h10]; rfl
          rw [if_pos h10] at HADV
          clear h10
          by_cases hl : l1 = line
          · have e1 : (l1 == line) = true := beq_iff_eq.2 hl
            have e2 : (c1 == col) = false := beq_eq_false_iff_ne.2 (fun e => hne ⟨hl, e⟩)
            clear hl hne
            go_wp2
            go_roundg (gk - 1)
            case measure => omega
            case rel => exact ⟨j + 1, l1 + 1, 1, rfl, rfl, by go_num, by omega, by omega, by omega, by omega, by omega, by omega, ⟨HADV.out.symm⟩, ⟨rfl⟩⟩
          · have e1 : (l1 == line) = false := beq_eq_false_iff_ne.2 hl
            clear hl hne
            go_wp2
            go_roundg (gk - 1)
            case measure => omega
            case rel => exact ⟨j + 1, l1 + 1, 1, rfl, rfl, by go_num, by omega, by omega, by omega, by omega, by omega, by omega, ⟨HADV.out.symm⟩, ⟨rfl⟩⟩
        · have q1 : ((cj.toNat : Int) == 10) = false := beq_eq_false_iff_ne.2 (fun e => h10 (UInt8.toNat_inj.1 (show cj.toNat = (10 : UInt8).toNat by show cj.toNat = 10; omega)))
          rw [if_neg h10] at HADV
          clear h10
          by_cases hl : l1 = line
          · have e1 : (l1 == line) = true := beq_iff_eq.2 hl
            have e2 : (c1 == col) = false := beq_eq_false_iff_ne.2 (fun e => hne ⟨hl, e⟩)
            clear hl hne
            go_wp2
            go_roundg (gk - 1)
            case measure => omega
            case rel => exact ⟨j + 1, l1, c1 + 1, rfl, rfl, by go_num, by omega, by omega, by omega, by omega, by omega, by omega, ⟨HADV.out.symm⟩, ⟨rfl⟩⟩
          · have e1 : (l1 == line) = false := beq_eq_false_iff_ne.2 hl
            clear hl hne
            go_wp2
            go_roundg (gk - 1)
            case measure => omega
            case rel => exact ⟨j + 1, l1, c1 + 1, rfl, rfl, by go_num, by omega, by omega, by omega, by omega, by omega, by omega, ⟨HADV.out.symm⟩, ⟨rfl⟩⟩
    · have hd : decide (j < s.size) = false := decide_eq_false (by omega)
      obtain rfl : k = s.size := by omega
      go_wp2
      go_ret
      exact ⟨rfl, HB.out⟩
set_option maxRecDepth 100000 in
set_option maxHeartbeats 8000000 in
theorem places_walk (w : World) (HT : Aside0 (RangesAt w ∧ NumsAt w)) (s : ByteArray) (hs : s.size ≤ maxLen) : Calls Tryd.prog 4 #[.string s] w fun e w' => e = .returned (.bool true) ∧ Below w.heap.size w w' := by
  have HB := Aside0.mk (Below.refl w.heap.size w)
  by_cases hbig : 2000 < s.size
  · have d1 : decide (2000 < (s.size : Int)) = true := decide_eq_true (by omega)
    clear hbig
    have HBQ := HB
    go_enter Tryd.func4, Tryd.ntmps4
    go_wp2_with (go_at_call 8; (with_reducible refine (lives_calls _ (tabs_below HT.out HBQ.out)).mono ?_); rintro e W' ⟨rfl, hb'⟩; have HBL := Aside0.mk (below_step HBQ.out hb'); clear hb')
    go_ret
    exact ⟨rfl, HBL.out⟩
  have d1 : decide (2000 < (s.size : Int)) = false := decide_eq_false (by omega)
  have hsz : s.size ≤ 2000 := by omega
  have hlen : s.data.toList.length = s.size := Array.length_toList
  obtain ⟨l, line, col, er, hof⟩ : ∃ l line col er, ofW s.data.toList = (l, line, col, er) := ⟨_, _, _, _, rfl⟩
  obtain ⟨m, hm⟩ : ∃ m, m = l.length := ⟨_, rfl⟩
  have HWN := Aside0.mk (words_named w s HT hof hm (rfl : l.map wordV = l.map wordV))
  have hpl := scan_places s.data.toList [] 1 1 rfl
  rw [ofW, if_neg (by rw [hlen]; omega)] at hof
  rw [List.nil_append] at hpl
  have HCASE : Aside0 ((er = 11 ∧ ∃ k, k < s.size ∧ (line, col) = placeOf (s.data.toList.take k)) ∨ (er = 0 ∧ chain s.data.toList 0 l ∧ 0 < m ∧ ∀ t, l.getLast? = some t → t.line = line ∧ t.col = col)) := ⟨by
    cases hok : (scan s.data.toList 1 1).2.2.2 with
    | false =>
      left
      rw [hok, if_neg (by decide)] at hof
      simp only [Prod.mk.injEq] at hof
      obtain ⟨-, e2, e3, e4⟩ := hof
      obtain ⟨k, hk, hp⟩ := hpl.2 hok
      rw [e2, e3] at hp
      rw [hlen] at hk
      exact ⟨e4.symm, k, hk, hp⟩
    | true =>
      right
      rw [hok, if_pos rfl] at hof
      simp only [Prod.mk.injEq] at hof
      obtain ⟨e1, e2, e3, e4⟩ := hof
      obtain ⟨h1, h2, h3⟩ := hpl.1 hok
      rw [e1] at h1 h2 h3
      rw [e2, e3] at h3
      refine ⟨e4.symm, h1, ?_, fun t ht => ?_⟩
      · rw [hm]; exact List.length_pos_iff.2 h2
      · exact Prod.mk.inj (h3 t ht)⟩
  have HM := Aside0.mk hm
  clear hof hm HB hpl hbig
  go_enter Tryd.func4, Tryd.ntmps4
  go_wp2_with fail
  refine HWN.out.mono ?_
  rintro e W1 ⟨A, c, rfl, hr, hb'⟩
  have HB := Aside0.mk (below_alloc hb' (.cells #[.int .i64 line, .int .i64 col] 25))
  have hcc := Kd.C_below (Kd.R_reads' hr).2.2 (below_alloc (Below.refl _ _) (.cells #[.int .i64 line, .int .i64 col] 25))
  have HC := Aside0.mk hcc
  have g1 := blk_new W1 (.cells #[.int .i64 line, .int .i64 col] 25)
  clear hr hb' hcc HWN
  rcases HCASE.out with ⟨rfl, k, hk, hp⟩ | ⟨rfl, hch, hm0, hlast⟩
  · have HIX : Aside0 (∀ W, Calls Tryd.prog 11 #[.string s, .agg #[.int .i64 line, .int .i64 col]] W fun e w' => e = .returned (.int .i64 (k : Int)) ∧ Below W.heap.size W w') := ⟨fun W => index20_calls W s (by omega) k line col (by omega) hp⟩
    have d2 : decide ((k : Int) < (s.size : Int)) = true := decide_eq_true (by omega)
    have d3 : decide (k < s.size) = true := decide_eq_true hk
    have c0 := blk_cell g1 0
    have c1 := blk_cell g1 1
    simp at c0 c1
    clear g1 hk hp HCASE
    go_wp2_with (first | (go_at_call 11; (with_reducible refine (HIX.out _).mono ?_); rintro e W2 ⟨rfl, hb'⟩; have HBQ := Aside0.mk (below_step HB.out hb'); clear hb') | (go_at_call 8; (with_reducible refine (lives_calls _ (tabs_below HT.out HBQ.out)).mono ?_); rintro e W' ⟨rfl, hb'⟩; have HBL := Aside0.mk (below_step HBQ.out hb'); clear hb'))
    go_ret
    exact ⟨rfl, HBL.out⟩
  · clear HCASE
    have HLAST := Aside0.mk hlast
    have HCH := Aside0.mk hch
    have HG1 : Aside0 ((W1.alloc (.cells #[.int .i64 line, .int .i64 col] 25)).heap[W1.heap.size]? = some (.cells #[.int .i64 line, .int .i64 col] 25 (0, 0))) := ⟨g1⟩
    obtain ⟨P1, hP1⟩ : ∃ p, p = W1.heap.size := ⟨_, rfl⟩
    obtain ⟨W2, hW2⟩ : ∃ W, W = W1.alloc (.cells #[.int .i64 line, .int .i64 col] 25) := ⟨_, rfl⟩
    rw [← hW2] at HB HC HG1
    rw [← hP1] at HG1
    clear g1 hlast hch
    go_wp2
    rw [← hW2, ← hP1]
    clear hW2 hP1
    have xm : m ≤ 9223372036854775807 := by have := HC.out.2.1; rw [List.length_map, ← HM.out] at this; exact this
    go_loopg [6, 7] (m + 1) (fun g b6 b W => ∃ (k L : Nat), b6 = .int .i64 (L : Int) ∧ b = .int .i64 (k : Int) ∧ k ≤ m ∧ m + 1 - k ≤ g ∧ L ≤ s.size ∧ Aside0 (chain s.data.toList L (l.drop k)) ∧ Aside0 (Below W2.heap.size W2 W))
    case atStart => exact ⟨0, 0, rfl, rfl, by omega, by omega, by omega, HCH, ⟨Below.refl _ _⟩⟩
    case round =>
      obtain ⟨k, L, rfl, rfl, hk, hkg, hL, HCK, HBW⟩ := hrel
      rcases Nat.lt_or_ge k m with hlt | hge
      · have hd : decide (k < m) = true := decide_eq_true hlt
        have hkl : k < l.length := by rw [← HM.out]; exact hlt
        obtain ⟨ad, rfl, x0, x1, x2, x3⟩ := C_wordN (Kd.C_below HC.out HBW.out) k (by rw [List.length_map]; exact hkl)
        obtain ⟨t, ht⟩ : ∃ t, t = l[k] := ⟨_, rfl⟩
        rw [List.getElem_map, ← ht] at x0 x1 x2 x3
        change wr.cell? _ = some (.int .u8 t.kind) at x0
        change wr.cell? _ = some (.string ⟨t.text.toArray⟩) at x1
        change wr.cell? _ = some (.int .i64 t.line) at x2
        change wr.cell? _ = some (.int .i64 t.col) at x3
        have hch := HCK.out
        rw [List.drop_eq_getElem_cons hkl, ← ht] at hch
        obtain ⟨q, hq1, hq2, hq3, hq4, hq5, hq6, hq7⟩ := hch
        obtain ⟨n, hn⟩ : ∃ n, n = t.text.length := ⟨_, rfl⟩
        rw [← hn] at hq2 hq4 hq7
        rw [hlen] at hq2
        have e1 : (⟨t.text.toArray⟩ : ByteArray) = s.extract q (q + n) := ByteArray.ext (Array.toList_inj.1 (by
          rw [ext_list, List.drop_take, Nat.add_sub_cancel_left]
          exact hq4.symm))
        rw [e1] at x1
        have hxs : (s.extract q (q + n)).size = n := by rw [ByteArray.size_extract]; omega
        have HIX : Aside0 (∀ W, Calls Tryd.prog 11 #[.string s, .agg #[.int .i64 t.line, .int .i64 t.col]] W fun e w' => e = .returned (.int .i64 (q : Int)) ∧ Below W.heap.size W w') := ⟨fun W => index20_calls W s (by omega) q t.line t.col (by omega) hq3⟩
        have f1 : decide ((q : Int) < (L : Int)) = false := decide_eq_false (by omega)
        have f1' : decide (q < L) = false := decide_eq_false (by omega)
        have f2' : decide (s.size < q + n) = false := decide_eq_false (by omega)
        have hqn : q + n ≤ 2000 := by omega
        have f2 : decide ((s.size : Int) < (q : Int) + (n : Int)) = false := decide_eq_false (by omega)
        have hnil : (l.drop (k + 1) = []) ↔ k + 1 = m := by
          rw [List.drop_eq_nil_iff, ← HM.out]
          omega
        have b1 : (t.kind == 3) = decide (k + 1 = m) := by rw [Bool.eq_iff_iff, beq_iff_eq, decide_eq_true_eq, hq5, hnil]
        have b2 : (s.extract q (q + n)).toList.isEmpty = decide (k + 1 = m) := by
          rw [Bool.eq_iff_iff, decide_eq_true_eq, ← hnil, ← hq6, ByteArray.toList_eq, ← e1, List.isEmpty_iff]
        have b3 : ((k : Int) == (m : Int) - 1) = decide (k + 1 = m) := by rw [Bool.eq_iff_iff, beq_iff_eq, decide_eq_true_eq]; omega
        obtain ⟨bb, hbb⟩ : ∃ b, b = decide (k + 1 = m) := ⟨_, rfl⟩
        rw [← hbb] at b1 b2 b3
        have HQ7 := Aside0.mk hq7
        clear ht hkl hq3 hq4 hq5 hq6 hq7 e1 hn hnil hbb
        go_upto_region 11 with (go_at_call 11; (with_reducible refine (HIX.out _).mono ?_); rintro e W3 ⟨rfl, hb'⟩; have HBX := Aside0.mk (below_step HBW.out hb'); replace x0 := pw_cell_below hb' x0; replace x1 := pw_cell_below hb' x1; clear hb')
        clear HIX
        go_quiet (fail)
        go_wp2
        go_roundg (gk - 1)
        case measure => omega
        case rel => exact ⟨k + 1, q + n, by go_num, by go_num, by omega, by omega, by omega, HQ7, ⟨pw_below_drewN HBX.out _⟩⟩
      · have hd : decide (k < m) = false := decide_eq_false (by omega)
        obtain rfl : k = m := by omega
        obtain ⟨z, rfl⟩ : ∃ z, k = z + 1 := ⟨k - 1, by omega⟩
        have hzl : z < l.length := by have := HM.out; omega
        obtain ⟨ad, rfl, -, -, x2, x3⟩ := C_wordN (Kd.C_below HC.out HBW.out) z (by rw [List.length_map]; exact hzl)
        rw [List.getElem_map] at x2 x3
        have hl := HLAST.out l[z] (by rw [List.getLast?_eq_getElem?, ← HM.out, Nat.add_sub_cancel, List.getElem?_eq_getElem hzl])
        change wr.cell? _ = some (.int .i64 l[z].line) at x2
        change wr.cell? _ = some (.int .i64 l[z].col) at x3
        rw [hl.1] at x2
        rw [hl.2] at x3
        have g1 := blk_below HG1.out HBW.out
        have c0 := blk_cell g1 0
        have c1 := blk_cell g1 1
        simp at c0 c1
        have hz0 : decide (0 < ((z + 1 : Nat) : Int)) = true := decide_eq_true (by omega)
        have hz1 : decide (0 < z + 1) = true := decide_eq_true (by omega)
        have hzb : z ≤ 9223372036854775806 := by omega
        have HBQ := Aside0.mk (HB.out.trans (HBW.out.mono HB.out.size)).drew
        clear g1 hl hzl hm0 xm hk hkg
        go_wp2
        refine region_quiet_tail 15 (by kernel_rfl) (by kernel_rfl) ?_
        simp only [List.take_succ_cons, List.take_zero, List.drop_succ_cons, List.drop_zero]
        repeat (go_big_quiet_step (fail))
        refine wpQuiet_nil ?_
        generalize World.drew wr = wd at *
        go_wp2_with (go_at_call 8; (with_reducible refine (lives_calls _ (tabs_below HT.out HBQ.out)).mono ?_); rintro e W' ⟨rfl, hb'⟩; have HBL := Aside0.mk (below_step HBQ.out hb'); clear hb')
        go_ret
        exact ⟨rfl, HBL.out⟩
end L20
end Go.Proofs.YtjndjmggilcngaaDoor
