/- words.Of: the words of a text. -/
import Derived.Test.YtdecijmncpbheaaGreatDoorWr
import Derived.Test.YtdecijmncpbheaaGreatDoorMF
import Derived.Deep.Cut
import Derived.Deep.CutRange
import Derived.Deep.RegionLaw

namespace Go.Proofs.YtdecijmncpbheaaGreatDoor
open Go.RowKit Go.Proofs.YtdecijmncpbheaaGreatDoorW.PrintWords Go.Proofs.YtdecijmncpbheaaGreatDoorW.PrintLast Go.Proofs.YtdecijmncpbheaaGreatDoorW.PrintMore
set_option linter.unusedVariables false
set_option linter.unusedSimpArgs false
open Go.Shelf
namespace Wd
abbrev Wrd := S134
/-- A word as it lies in memory. -/
def wordV (t : Tok) : Wrd := ⟨t.kind, ⟨t.text.toArray⟩, ⟨t.line, t.col⟩⟩
theorem infoW : (Tryz.prog.info? 134).map (fun i => (i.zero, i.size, i.bytes)) = some (some (.agg #[.int .u8 0, .string ⟨#[]⟩, .int .i64 0, .int .i64 0]), 4, 40) := by kernel_rfl
theorem word_C (w : World) (x : Wrd) : kWord.C (w.alloc (.cells #[.int .u8 x.f0, .string x.f1, .int .i64 x.f2.f0, .int .i64 x.f2.f1] 134)) (some ⟨w.heap.size, 0, none⟩) 1 [x] := by
  have h := reps_cons (R := kWord.K (w.alloc (.cells ([Value.int .u8 x.f0, .string x.f1, .int .i64 x.f2.f0, .int .i64 x.f2.f1] ++ []).toArray 134))) (k134_mk _ x) rfl (Reps.none _ kWord.sz)
  exact C_block (blk_new w _) h (show 1 ≤ 9223372036854775807 by decide)
theorem wordM {W : World} {base : Nat} {ok : Nat → Prop} {x : Wrd} {w : World} {cs : List Value} (h : kWord.K w x cs) : kWord.M W base ok x cs := by
  rw [k134_open h]
  exact k134_mkM W base ok x
def comb (acc : List Tok) (r : List Tok × Int × Int × Bool) : List Tok × Int × Int × Bool := if r.2.2.2 then (acc ++ r.1, r.2) else ([], r.2)
/-- What words.Of answers. -/
def ofW (l : List B) : List Tok × Int × Int × Int :=
  if 1048576 < l.length then ([], 1, 1, 3) else
  if (scan l 1 1).2.2.2 then ((scan l 1 1).1, (scan l 1 1).2.1, (scan l 1 1).2.2.1, 0) else ([], (scan l 1 1).2.1, (scan l 1 1).2.2.1, 11)
theorem comb_step (acc : List Tok) (c : B) (r : List B) {l : List B} (line col : Int) (n : Nat) (k : Int) (tok : Tok) (hst : stops l) (hl : l = c :: r) (hn : n = (wordN l).1) (hk : k = (wordN l).2) (hn0 : 0 < n) (ht : tok = ⟨k, l.take n, line, col⟩) : comb (acc ++ [tok]) (scan (r.drop (n - 1)) line (col + n)) = comb acc (scan l line col) := by
  subst hl
  obtain ⟨h1, h2, h3, h4⟩ := hst c r rfl
  conv => rhs; rw [scan, if_neg h1, if_neg (show ¬(c = 32 ∨ c = 9) from fun h => h.elim h2 h3), if_neg h4, if_neg (show ¬((wordN (c :: r)).1 = 0) by omega)]
  rw [← hn, ← hk, ← ht]
  simp only
  cases h : (scan (r.drop (n - 1)) line (col + n)).2.2.2 with
  | true => simp [comb, h]
  | false => simp [comb, h]
theorem comb_bad (acc : List Tok) (c : B) (r : List B) {l : List B} (line col : Int) (hst : stops l) (hl : l = c :: r) (hn : 0 = (wordN l).1) : comb acc (scan l line col) = ([], line, col, false) := by
  subst hl
  obtain ⟨h1, h2, h3, h4⟩ := hst c r rfl
  rw [scan, if_neg h1, if_neg (show ¬(c = 32 ∨ c = 9) from fun h => h.elim h2 h3), if_neg h4, if_pos hn.symm]
  rfl
theorem comb_end (acc : List Tok) (line col : Int) : comb acc (scan [] line col) = (acc ++ [⟨3, [], line, col⟩], line, col, true) := by
  rw [scan]
  rfl
set_option maxRecDepth 100000 in
set_option maxHeartbeats 8000000 in
theorem words_calls (w : World) (s : ByteArray) (HR : Aside0 (RangesAt w)) (HN : Aside0 (NumsAt w)) :
    Calls Tryz.prog 99 #[.string s] w fun e w' => ∃ A c, e = .returned (.tuple #[.slice A (ofW s.data.toList).1.length c, .agg #[.int .i64 (ofW s.data.toList).2.1, .int .i64 (ofW s.data.toList).2.2.1], .int .i64 (ofW s.data.toList).2.2.2]) ∧ kWord.R 134 w' w.heap.size (fun _ => True) (.slice A (ofW s.data.toList).1.length c) ((ofW s.data.toList).1.map wordV) ∧ Below w.heap.size w w' := by
  have hlen : s.data.toList.length = s.size := Array.length_toList
  obtain ⟨OP, hOP⟩ : ∃ O : Obj, O = .cells #[.int .i64 0, .int .i64 0] 127 := ⟨_, rfl⟩
  obtain ⟨OR, hOR⟩ : ∃ O : Obj, O = .cells #[.string s, .int .i64 1, .int .i64 1] 243 := ⟨_, rfl⟩
  have HB := Aside0.mk (below_alloc (below_alloc (Below.refl w.heap.size w) OP) OR)
  have g1 : ((w.alloc OP).alloc OR).heap[w.heap.size]? = some OP := blk_alloc (blk_new w _) _
  have g2 : ((w.alloc OP).alloc OR).heap[w.heap.size + 1]? = some OR := by have := blk_new (w.alloc OP) OR; rwa [World.size_alloc] at this
  subst hOP hOR
  have hlt := HR.out.lt
  by_cases hbig : 1048576 < s.size
  · have d1 : decide (1048576 < (s.size : Int)) = true := decide_eq_true (by omega)
    have HE : Aside0 (ofW s.data.toList = ([], 1, 1, 3)) := ⟨by rw [ofW, if_pos (by rw [hlen]; exact hbig)]⟩
    have c1 := blk_cell g2 1
    have c2 := blk_cell g2 2
    have c3 := blk_cell g1 0
    have c4 := blk_cell g1 1
    have f3 := blk_frozen g1 0
    have f4 := blk_frozen g1 1
    have HG1 := Aside0.mk g1
    clear hbig g1 g2 hlen
    simp at c1 c2 c3 c4
    go_enter Tryz.func99, Tryz.ntmps99
    go_wp2
    go_region_law (fail)
    go_wp2
    refine bodyPost_ret (v := .tuple #[.slice none 0 0, .agg #[.int .i64 1, .int .i64 1], .int .i64 3]) ?_ rfl ?_
    · simp [results, Tryz.f99, go_sem]
    · rw [HE.out]
      exact ⟨none, 0, rfl, Kd.R_nil _ _ _ _ _, (below_alloc (below_alloc (Below.refl _ _) _) _).drew⟩
  have d1 : decide (1048576 < (s.size : Int)) = false := decide_eq_false (by omega)
  obtain ⟨res, hres⟩ : ∃ r, r = scan s.data.toList 1 1 := ⟨_, rfl⟩
  have HE : Aside0 (ofW s.data.toList = if res.2.2.2 then (res.1, res.2.1, res.2.2.1, 0) else ([], res.2.1, res.2.2.1, 11)) := ⟨by rw [ofW, if_neg (by rw [hlen]; exact hbig), ← hres]⟩
  have hsz : s.size ≤ 1048576 := by omega
  obtain ⟨P0, hP0⟩ : ∃ p, p = w.heap.size := ⟨_, rfl⟩
  obtain ⟨b, hb⟩ : ∃ b, b = w.heap.size + 1 := ⟨_, rfl⟩
  have hbP : P0 ≠ b := by omega
  obtain ⟨W0, hW0⟩ : ∃ W, W = (w.alloc (.cells #[.int .i64 0, .int .i64 0] 127)).alloc (.cells #[.string s, .int .i64 1, .int .i64 1] 243) := ⟨_, rfl⟩
  rw [← hW0] at g1 g2 HB
  rw [← hP0] at g1
  rw [← hb] at g2
  have hRS : RS W0 b s 1 1 := g2
  have HR0 : Aside0 (RangesAt W0) := ⟨HR.out.below HB.out⟩
  have HSK : Aside0 (Calls Tryz.prog 155 #[.pointer (some ⟨b, 0, none⟩)] W0 fun e w' => (∃ v, e = .returned v) ∧ ∃ s' line' col', RS w' b s' line' col' ∧ W0.grownBy w' (some b) ∧ scan s'.data.toList line' col' = scan s.data.toList 1 1 ∧ stops s'.data.toList ∧ s'.size ≤ s.size ∧ 0 ≤ line' ∧ line' + s'.size ≤ 4194304 ∧ 0 ≤ col' ∧ col' + s'.size ≤ 4194304) := ⟨skips_calls W0 b s 1 1 hRS hsz (by omega) (by omega) HR0 (by omega)⟩
  have HPB := Aside0.mk (And.intro hP0 (And.intro hb hlt))
  have HG1 := Aside0.mk g1
  have HRES := Aside0.mk hres
  have HW0 := Aside0.mk hW0
  clear hbig hlen hres g1 g2 hRS hlt
  go_enter Tryz.func99, Tryz.ntmps99
  go_upto_region 4 with fail
  rw [← hW0, ← hb, ← hP0]
  clear hW0 hb hP0
  go_wp2_with (go_at_call 155; (with_reducible refine HSK.out.mono ?_); rintro e W1 ⟨⟨v1, rfl⟩, s1, l1, c1, hrs, hgr, hsc, hst, hle, hn⟩)
  have HI1 : Aside0 (RS W1 b s1 l1 c1 ∧ W1.heap[P0]? = some (.cells #[.int .i64 0, .int .i64 0] 127 (0, 0))) := ⟨hrs, blk_grown HG1.out hgr (by simpa using hbP)⟩
  have HI2 : Aside0 (Below w.heap.size w W1) := ⟨HB.out.grown hgr HB.out.size (fun k hk => by have := Option.some.inj hk; have := HPB.out.2.1; omega)⟩
  have HI3 : Aside0 (comb [] (scan s1.data.toList l1 c1) = res ∧ stops s1.data.toList ∧ 0 ≤ l1 ∧ l1 + s1.size ≤ 4194304 ∧ 0 ≤ c1 ∧ c1 + s1.size ≤ 4194304) := ⟨by
    refine ⟨?_, hst, hn⟩
    rw [hsc, ← HRES.out]
    unfold comb
    cases h : res.2.2.2 with
    | true => rw [if_pos rfl]; rfl
    | false =>
      rw [if_neg (by decide)]
      have := scan_K s.data.toList 1 1
      rw [← HRES.out] at this
      rcases this with ⟨-, -, e⟩ | ⟨e, -⟩
      · exact Prod.ext e.symm rfl
      · rw [h] at e; cases e⟩
  clear hrs hgr hsc hst hn HSK HB HR0 HW0
  go_loopg [2] (s1.size + 1) (fun g b2 W => ∃ (A : Option Addr) (c : Nat) (acc : List Tok) (s' : ByteArray) (line' col' : Int), b2 = .slice A acc.length c ∧ s'.size + 1 ≤ g ∧ acc.length + s'.size ≤ 1048576 ∧ Aside0 (RS W b s' line' col' ∧ W.heap[P0]? = some (.cells #[.int .i64 0, .int .i64 0] 127 (0, 0))) ∧ Aside0 (Below w.heap.size w W) ∧ Aside0 (comb acc (scan s'.data.toList line' col') = res ∧ stops s'.data.toList ∧ 0 ≤ line' ∧ line' + s'.size ≤ 4194304 ∧ 0 ≤ col' ∧ col' + s'.size ≤ 4194304) ∧ Aside0 (kWord.R 134 W w.heap.size (fun k => k ≠ b ∧ k ≠ P0) (.slice A acc.length c) (acc.map wordV)))
  case atStart => exact ⟨none, 0, [], s1, l1, c1, rfl, by omega, by simp; omega, HI1, HI2, HI3, ⟨Kd.R_nil _ _ _ _ _⟩⟩
  case round =>
    clear HI1 HI2 HI3
    obtain ⟨A, c, acc, s', line', col', rfl, hgk, hle2, HI1, HI2, HI3, HO⟩ := hrel
    have c0 : wr.cell? ⟨b, 0, none⟩ = some (.string s') := blk_cell HI1.out.1 0
    have hlen' : s'.data.toList.length = s'.size := Array.length_toList
    rcases Nat.eq_zero_or_pos s'.size with h0 | h0
    · have hnil : s'.data.toList = [] := List.eq_nil_of_length_eq_zero (by omega)
      have hem : s'.toList.isEmpty = true := by rw [ByteArray.toList_eq, hnil]; rfl
      have HEND : Aside0 (ofW s.data.toList = (acc ++ [⟨3, [], line', col'⟩], line', col', 0)) := ⟨by
        have := HI3.out.1
        rw [hnil, comb_end] at this
        rw [HE.out, ← this]
        rfl⟩
      obtain ⟨x, hx⟩ : ∃ x : Wrd, x = ⟨3, ⟨#[]⟩, ⟨line', col'⟩⟩ := ⟨_, rfl⟩
      have HX : Aside0 (wordV ⟨3, [], line', col'⟩ = x) := ⟨by rw [hx]; rfl⟩
      have HWC : Aside0 (∀ W : World, kWord.C (W.alloc (.cells #[.int .u8 3, .string ⟨#[]⟩, .int .i64 line', .int .i64 col'] 134)) (some ⟨W.heap.size, 0, none⟩) 1 [x]) := ⟨fun W => by rw [hx]; exact word_C W _⟩
      have HXL : Aside0 ((acc.map wordV ++ [x]).length = acc.length + 1) := ⟨by simp⟩
      have HFR : Aside0 (∀ j, (wr.alloc (.cells #[.int .u8 3, .string ⟨#[]⟩, .int .i64 line', .int .i64 col'] 134)).heap.size ≤ j → j ≠ b ∧ j ≠ P0) := ⟨fun k hk => by
        have := blk_lt HI1.out.1
        have := blk_lt HI1.out.2
        rw [World.size_alloc] at hk
        exact ⟨by omega, by omega⟩⟩
      have HFB : Aside0 (some b ≠ (Value.slice A acc.length c).ownBlock ∧ some P0 ≠ (Value.slice A acc.length c).ownBlock) := ⟨⟨fun e => (HO.out.1 _ e.symm).1 rfl, fun e => (HO.out.1 _ e.symm).2 rfl⟩⟩
      have k1 := blk_cell HI1.out.1 1
      have k2 := blk_cell HI1.out.1 2
      simp at k1 k2
      clear hnil hlen' hx
      obtain ⟨m, hm⟩ : ∃ m, m = acc.length + 1 := ⟨_, rfl⟩
      rw [← hm] at HXL
      have HM := Aside0.mk hm
      have hmb : m ≤ 1048577 := by omega
      clear hm
      go_wp2_with (at_builtin; refine wpList_append_R rfl kWord w.heap.size (.tmp 56) (.tmp 62) 125 125 134 134 (.agg #[.int .u8 0, .string ⟨#[]⟩, .int .i64 0, .int .i64 0]) 40 rfl (by kernel_rfl) (by kernel_rfl) infoW rfl (by decide) (by decide) (.slice A acc.length c) (acc.map wordV) [x] (some ⟨wr.heap.size, 0, none⟩) 1 1 (fun k => k ≠ b ∧ k ≠ P0) (fun _ => False) rfl rfl (Kd.R_below HO.out (below_alloc (Below.refl _ _) _)) (HWC.out wr) (fun x cs h => wordM h) (fun _ h => h.elim) HFR.out (below_alloc HI2.out _).size (by rw [List.length_map]; omega) ?_; intro v2 w2 HO5 hg2 hat; obtain ⟨A3, c3', rfl⟩ := Kd.R_slice HO5; rw [HXL.out] at HO5 ⊢; have HO6 := Aside0.mk HO5; have HR6 := Aside0.mk (And.intro (blk_grown (blk_alloc HI1.out.1 _) hg2 HFB.out.1) (blk_grown (blk_alloc HI1.out.2 _) hg2 HFB.out.2)); have HB6 := Aside0.mk ((below_alloc HI2.out _).grown hg2 (below_alloc HI2.out _).size (fun k hk => (Kd.R_bound HO.out).1 k hk |>.2.1)); clear HO5 hg2 hat)
      obtain ⟨i0, hi, hzz⟩ := Option.map_eq_some_iff.1 infoW
      simp only [Prod.mk.injEq] at hzz
      obtain ⟨hz0, hz1, hz2⟩ := hzz
      obtain ⟨w3, hmk, how, hg3⟩ := run_make_own (P := Tryz.prog) w2.drew w.heap.size 125 134 i0 (.agg #[.int .u8 0, .string ⟨#[]⟩, .int .i64 0, .int .i64 0]) 4 Tryz.underlying125 hi hz0 hz1 .i64 .i64 m (by rw [hz2]; omega) (by simp only [maxLen]; omega) HB6.out.size
      have hP2 := blk_lt HR6.out.2
      have hb2 := blk_lt HR6.out.1
      have HR3 : Aside0 (kWord.R 134 w3 w.heap.size (fun k => k ≠ P0) (.slice (some ⟨w2.drew.heap.size, 0, none⟩) 0 m) []) := ⟨⟨fun k hk => by
        simp only [Value.ownBlock, Option.some.injEq] at hk
        rw [← hk]
        show w2.heap.size ≠ P0
        omega, [], how, Reps.none _ _⟩⟩
      have hb3 : Below w2.drew.heap.size w2.drew w3 := (Below.refl _ _).grown hg3 (Nat.le_refl _) (fun k hk => by cases hk)
      have HC3 : Aside0 (kWord.C w3 A3 m (acc.map wordV ++ [x])) := ⟨by
        have := Kd.C_below (Kd.R_reads' HO6.out).2.2 ((Below.refl w2.heap.size w2).drew.trans hb3)
        rwa [HXL.out] at this⟩
      have HRS3 : Aside0 (RS w3 b s' line' col') := ⟨RS.below (show RS w2.drew b s' line' col' from HR6.out.1) hb3⟩
      have HP3 : Aside0 (w3.heap[P0]? = some (.cells #[.int .i64 0, .int .i64 0] 127 (0, 0))) := ⟨blk_below (w := w2.drew) (blk_drew HR6.out.2) hb3⟩
      have HB7 := Aside0.mk (HB6.out.drew.trans (hb3.mono HB6.out.size))
      have HNB : Aside0 (some b ≠ (Value.slice (some ⟨w2.drew.heap.size, 0, none⟩) 0 m).ownBlock ∧ some P0 ≠ (Value.slice (some ⟨w2.drew.heap.size, 0, none⟩) 0 m).ownBlock) := ⟨by
        simp only [Value.ownBlock, ne_eq, Option.some.injEq]
        show b ≠ w2.heap.size ∧ P0 ≠ w2.heap.size
        omega⟩
      have HNW : Aside0 (∀ k, (Value.slice (some ⟨w2.drew.heap.size, 0, none⟩) 0 m).ownBlock = some k → w.heap.size ≤ k) := ⟨fun k hk => by
        simp only [Value.ownBlock, Option.some.injEq] at hk
        rw [← hk]
        exact HB6.out.size⟩
      have HFP : Aside0 (∀ k, w3.heap.size ≤ k → k ≠ P0) := ⟨fun k hk => by have := hb3.size; have : w2.heap.size ≤ w3.heap.size := this; omega⟩
      have HLM : Aside0 ((([] : List Wrd).length + m) * 40 ≤ 140737488355328) := ⟨by rw [List.length_nil]; omega⟩
      have k1 := blk_cell HR6.out.1 1
      have k2 := blk_cell HR6.out.1 2
      have k13 := blk_cell HRS3.out 1
      have k23 := blk_cell HRS3.out 2
      simp at k1 k2 k13 k23
      clear hi hz0 hz1 hz2 how hg3 hP2 hb2 hb3
      go_region_law (first | (refine step_append_Rq rfl kWord w.heap.size (.tmp 66) (.tmp 67) 125 125 134 134 (.agg #[.int .u8 0, .string ⟨#[]⟩, .int .i64 0, .int .i64 0]) 40 rfl (by kernel_rfl) (by kernel_rfl) infoW rfl (by decide) (by decide) (.slice (some ⟨w2.drew.heap.size, 0, none⟩) 0 m) [] (acc.map wordV ++ [x]) A3 m c3' (fun k => k ≠ P0) (fun _ => False) rfl rfl HR3.out HC3.out (fun x cs h => wordM h) (fun _ h => h.elim) HFP.out HB7.out.size HLM.out ?_; intro v4 w4 HO8 hg4 hat; obtain ⟨A5, c5, rfl⟩ := Kd.R_slice HO8; rw [List.nil_append, HXL.out] at HO8 ⊢; have HO9 := Aside0.mk HO8; have hr4 := blk_grown HRS3.out hg4 HNB.out.1; have hp4 := blk_grown HP3.out hg4 HNB.out.2; have HP4 := Aside0.mk hp4; have k14 := blk_cell hr4 1; have k24 := blk_cell hr4 2; have q04 := blk_cell hp4 0; have q14 := blk_cell hp4 1; have f04 := blk_frozen hp4 0; have f14 := blk_frozen hp4 1; simp at k14 k24 q04 q14; have HB8 := Aside0.mk (HB7.out.grown hg4 HB7.out.size HNW.out); clear hr4 hp4 HO8 hg4 hat))
      all_goals (
        go_wp2
        have h1 : ((w4.setCell ⟨P0, 0, none⟩ (.int .i64 line')).setCell ⟨P0, 1, none⟩ (.int .i64 col')).heap[P0]? = some (.cells #[.int .i64 line', .int .i64 col'] 127 (0, 0)) := blk_put (blk_put HP4.out 0 _ rfl) 1 _ rfl
        have e0 := blk_cell h1 0
        have e1 := blk_cell h1 1
        have hge : w.heap.size ≤ P0 := by have := HPB.out.1; omega
        simp at e0 e1
        refine bodyPost_ret (v := .tuple #[.slice A5 m c5, .agg #[.int .i64 line', .int .i64 col'], .int .i64 0]) ?_ rfl ?_
        · simp [results, Tryz.f99, go_sem, e0, e1]
        · rw [HEND.out]
          have em : (acc ++ [(⟨3, [], line', col'⟩ : Tok)]).length = m := by rw [HM.out]; simp
          rw [em]
          refine ⟨A5, c5, rfl, ?_, (HB8.out.setCell hge _).setCell hge _⟩
          rw [List.map_append, List.map_singleton, HX.out]
          exact Kd.R_mono (Kd.R_far (Kd.R_far HO9.out (p := ⟨P0, 0, none⟩) (fun k hk => hk) _) (p := ⟨P0, 1, none⟩) (fun k hk => hk) _) (fun _ _ => trivial))
    · obtain ⟨ch, r, hcr, hc0⟩ := wordN_at s' h0
      have hem : s'.toList.isEmpty = false := by rw [ByteArray.toList_eq, hcr]; rfl
      obtain ⟨n, hn⟩ : ∃ n, n = (wordN s'.data.toList).1 := ⟨_, rfl⟩
      obtain ⟨k, hk⟩ : ∃ n, n = (wordN s'.data.toList).2 := ⟨_, rfl⟩
      have HWD : Aside0 (Calls Tryz.prog 156 #[.string s'] wr fun e w' => e = .returned (.tuple #[.int .i64 (n : Int), .int .u8 k]) ∧ Below wr.heap.size wr w') := ⟨by rw [hn, hk]; exact word_calls wr s' h0 (by omega) ⟨HR.out.below HI2.out⟩ ⟨HN.out.below HI2.out⟩⟩
      have HNK := Aside0.mk (And.intro hn (And.intro hk (And.intro hcr hlen')))
      clear hn hk hcr hlen' hc0
      rcases Nat.eq_zero_or_pos n with hn0 | hn0
      · subst hn0
        have HBAD : Aside0 (ofW s.data.toList = ([], line', col', 11)) := ⟨by
          have := HI3.out.1
          rw [comb_bad acc ch r line' col' HI3.out.2.1 HNK.out.2.2.1 HNK.out.1] at this
          rw [HE.out, ← this]
          rfl⟩
        go_upto_region 8 with (go_at_call 156; (with_reducible refine HWD.out.mono ?_); rintro e W2 ⟨rfl, hb'⟩; have HJ1 := Aside0.mk (And.intro (HI1.out.1.below hb') (blk_below HI1.out.2 hb')); have HJ2 := Aside0.mk (below_step HI2.out hb'); have HO2 := Aside0.mk (Kd.R_below HO.out hb'); clear hb')
        have k1 := blk_cell HJ1.out.1 1
        have k2 := blk_cell HJ1.out.1 2
        have q0 := blk_cell HJ1.out.2 0
        have q1 := blk_cell HJ1.out.2 1
        have f0 := blk_frozen HJ1.out.2 0
        have f1 := blk_frozen HJ1.out.2 1
        simp at k1 k2 q0 q1
        clear HO HI1 HI2 HWD c0 HO2
        go_upto_region 9 with fail
        go_region_law (fail)
        all_goals (
          go_wp2
          have h1 : (((W2.setCell ⟨P0, 0, none⟩ (.int .i64 line')).setCell ⟨P0, 1, none⟩ (.int .i64 col')).drew).heap[P0]? = some (.cells #[.int .i64 line', .int .i64 col'] 127 (0, 0)) := blk_drew (blk_put (blk_put HJ1.out.2 0 _ rfl) 1 _ rfl)
          have e0 := blk_cell h1 0
          have e1 := blk_cell h1 1
          have hge : w.heap.size ≤ P0 := by have := HPB.out.1; omega
          simp at e0 e1
          refine bodyPost_ret (v := .tuple #[.slice none 0 0, .agg #[.int .i64 line', .int .i64 col'], .int .i64 11]) ?_ rfl ?_
          · simp [results, Tryz.f99, go_sem, e0, e1]
          · rw [HBAD.out]
            exact ⟨none, 0, rfl, Kd.R_nil _ _ _ _ _, ((HJ2.out.setCell hge _).setCell hge _).drew⟩)
      · have d2 : ((n : Int) == 0) = false := beq_eq_false_iff_ne.2 (by omega)
        go_upto_region 8 with (go_at_call 156; (with_reducible refine HWD.out.mono ?_); rintro e W2 ⟨rfl, hb'⟩; have HJ1 := Aside0.mk (And.intro (HI1.out.1.below hb') (blk_below HI1.out.2 hb')); have HJ2 := Aside0.mk (below_step HI2.out hb'); have HO2 := Aside0.mk (Kd.R_below HO.out hb'); clear hb')
        have k1 := blk_cell HJ1.out.1 1
        have k2 := blk_cell HJ1.out.1 2
        simp at k1 k2
        clear HO HI1 HI2 HWD c0
        go_upto_region 11 with fail
        obtain ⟨tok, htok⟩ : ∃ t : Tok, t = ⟨k, s'.data.toList.take n, line', col'⟩ := ⟨_, rfl⟩
        obtain ⟨x, hx⟩ : ∃ x : Wrd, x = ⟨k, s'.extract 0 n, ⟨line', col'⟩⟩ := ⟨_, rfl⟩
        have HX : Aside0 (wordV tok = x) := ⟨by
          rw [htok, hx]
          have : s'.extract 0 n = ⟨(s'.data.toList.take n).toArray⟩ := ByteArray.ext (Array.toList_inj.1 (by rw [ext_list, List.drop_zero]))
          rw [wordV, this]⟩
        have HWC : Aside0 (∀ W : World, kWord.C (W.alloc (.cells #[.int .u8 k, .string (s'.extract 0 n), .int .i64 line', .int .i64 col'] 134)) (some ⟨W.heap.size, 0, none⟩) 1 [x]) := ⟨fun W => by rw [hx]; exact word_C W _⟩
        have HXL : Aside0 ((acc.map wordV ++ [x]).length = acc.length + 1) := ⟨by simp⟩
        have hle3 : n ≤ s'.size := by
          have := (word_is ch r (by rw [← HNK.out.2.2.1, ← HNK.out.1]; omega)).2
          rw [← HNK.out.2.2.1, ← HNK.out.1, HNK.out.2.2.2] at this
          exact this
        have HTK : Aside0 (∀ W, RS W b s' line' col' → Calls Tryz.prog 157 #[.pointer (some ⟨b, 0, none⟩), .int .i64 (n : Int)] W fun e w' => e = .returned (.string (s'.extract 0 n)) ∧ RS w' b (s'.extract n s'.size) line' (col' + n) ∧ W.grownBy w' (some b)) := ⟨fun W h => takes_calls W b s' line' col' n h hle3 (by omega) (by have := HI3.out; omega) (by
          have := (word_is ch r (by rw [← HNK.out.2.2.1, ← HNK.out.1]; omega)).1
          rw [← HNK.out.2.2.1, ← HNK.out.1] at this
          exact word_no_nl this)⟩
        have HTOK := Aside0.mk htok
        have HRD : Aside0 (RS (W2.alloc (.cells #[.int .i64 line', .int .i64 col'] 127)).drew b s' line' col') := ⟨blk_drew (blk_alloc HJ1.out.1 _)⟩
        have H8 : Aside0 ((W2.alloc (.cells #[.int .i64 line', .int .i64 col'] 127)).drew.heap[W2.heap.size]? = some (.cells #[.int .i64 line', .int .i64 col'] 127 (0, 0))) := ⟨blk_drew (blk_new W2 _)⟩
        have HP3 : Aside0 ((W2.alloc (.cells #[.int .i64 line', .int .i64 col'] 127)).drew.heap[P0]? = some (.cells #[.int .i64 0, .int .i64 0] 127 (0, 0))) := ⟨blk_drew (blk_alloc HJ1.out.2 _)⟩
        have HB3 := Aside0.mk (below_alloc HJ2.out (.cells #[.int .i64 line', .int .i64 col'] 127)).drew
        have HO3 := Aside0.mk (Kd.R_below HO2.out (below_alloc (Below.refl _ _) (.cells #[.int .i64 line', .int .i64 col'] 127)).drew)
        have HNE : Aside0 (W2.heap.size ≠ b ∧ (∀ k, b = k → w.heap.size ≤ k) ∧ True) := ⟨by
          have := blk_lt HJ1.out.1
          have := HPB.out.2.1
          exact ⟨by omega, fun k hk => by omega, trivial⟩⟩
        have HFR : ∀ W, RS W b (s'.extract n s'.size) line' (col' + n) → W.heap[P0]? = some (.cells #[.int .i64 0, .int .i64 0] 127 (0, 0)) → ∀ j, (W.alloc (.cells #[.int .u8 k, .string (s'.extract 0 n), .int .i64 line', .int .i64 col'] 134)).heap.size ≤ j → j ≠ b ∧ j ≠ P0 := fun W h1 h2 k hk => by
          have := blk_lt h1
          have := blk_lt h2
          rw [World.size_alloc] at hk
          exact ⟨by omega, by omega⟩
        have HFB : ∀ (W : World) (l : List Wrd), kWord.R 134 W w.heap.size (fun k => k ≠ b ∧ k ≠ P0) (.slice A acc.length c) l → RS W b (s'.extract n s'.size) line' (col' + n) → some b ≠ (Value.slice A acc.length c).ownBlock ∧ some P0 ≠ (Value.slice A acc.length c).ownBlock := fun W l h _ => ⟨fun e => (h.1 _ e.symm).1 rfl, fun e => (h.1 _ e.symm).2 rfl⟩
        clear hx htok
        go_region_law (first | (go_simp; go_at_call 157; (with_reducible refine (HTK.out _ HRD.out).mono ?_); rintro e W4 ⟨rfl, hrs, hgr⟩; have HRS4 := Aside0.mk hrs; have g8' := blk_grown H8.out hgr (by simpa using HNE.out.1); have p0 := blk_cell g8' 0; have p1 := blk_cell g8' 1; simp at p0 p1; have HP4 := Aside0.mk (blk_grown HP3.out hgr (by simpa using hbP)); have HO4 := Aside0.mk (Kd.R_grown HO3.out hgr (fun k hk => by simpa using hk.1)); have HB4 := Aside0.mk (HB3.out.grown hgr HB3.out.size (fun k hk => HNE.out.2.1 k (Option.some.inj hk))); clear hrs hgr g8') | (refine step_append_Rq rfl kWord w.heap.size (.tmp 47) (.tmp 54) 125 125 134 134 (.agg #[.int .u8 0, .string ⟨#[]⟩, .int .i64 0, .int .i64 0]) 40 rfl (by kernel_rfl) (by kernel_rfl) infoW rfl (by decide) (by decide) (.slice A acc.length c) (acc.map wordV) [x] _ 1 1 (fun k => k ≠ b ∧ k ≠ P0) (fun _ => False) rfl rfl (Kd.R_below HO4.out (below_alloc (Below.refl _ _) _)) (HWC.out W4) (fun x cs h => wordM h) (fun _ h => h.elim) ?_ (below_alloc HB4.out _).size ?_ ?_; (exact HFR W4 HRS4.out HP4.out); (rw [List.length_map]; omega); intro v2 w2 HO5 hg2 hat; obtain ⟨A3, c3', rfl⟩ := Kd.R_slice HO5; rw [HXL.out] at HO5 ⊢; have HO6 := Aside0.mk HO5; have HR6 := Aside0.mk (And.intro (show RS w2 b (s'.extract n s'.size) line' (col' + n) from blk_grown (blk_alloc HRS4.out _) hg2 (HFB _ _ HO4.out HRS4.out).1) (blk_grown (blk_alloc HP4.out _) hg2 (HFB _ _ HO4.out HRS4.out).2)); have HB6 := Aside0.mk ((below_alloc HB4.out _).grown hg2 (below_alloc HB4.out _).size (fun k hk => (Kd.R_bound HO4.out).1 k hk |>.2.1)); clear HO5 hg2 hat))
        all_goals (
          have HSK : Aside0 (∀ W, RS W b (s'.extract n s'.size) line' (col' + n) → Aside0 (RangesAt W) → Calls Tryz.prog 155 #[.pointer (some ⟨b, 0, none⟩)] W fun e w' => (∃ v, e = .returned v) ∧ ∃ s7 line7 col7, RS w' b s7 line7 col7 ∧ W.grownBy w' (some b) ∧ scan s7.data.toList line7 col7 = scan (s'.extract n s'.size).data.toList line' (col' + n) ∧ stops s7.data.toList ∧ s7.size ≤ (s'.extract n s'.size).size ∧ 0 ≤ line7 ∧ line7 + s7.size ≤ 4194304 ∧ 0 ≤ col7 ∧ col7 + s7.size ≤ 4194304) := ⟨fun W h1 h2 => skips_calls W b _ line' (col' + n) h1 (by rw [ByteArray.size_extract]; omega) (by rw [ByteArray.size_extract]; have := HI3.out; omega) (by rw [ByteArray.size_extract]; have := HI3.out; omega) h2 (by have := HPB.out; omega)⟩
          go_wp2_with (go_at_call 155; go_loud ((with_reducible refine (HSK.out _ HR6.out.1 ⟨HR.out.below HB6.out⟩).mono ?_); rintro e W7 ⟨⟨v7, rfl⟩, s7, l7, c7, hrs, hgr, hsc, hst, hle7, hn7⟩; have HI1' := Aside0.mk (And.intro hrs (blk_grown HR6.out.2 hgr (by simpa using hbP))); have HI2' := Aside0.mk (HB6.out.grown hgr HB6.out.size (fun k hk => HNE.out.2.1 k (Option.some.inj hk))); have HO7 := Aside0.mk (Kd.R_grown HO6.out hgr (fun k hk => by simpa using hk.1)); have HSC := Aside0.mk (And.intro hsc (And.intro hst hn7)); clear hrs hgr hsc hst hn7))
          go_roundg (gk - 1)
          case measure => have := HNK.out; omega
          case rel =>
            have hsz7 : (s'.extract n s'.size).size + n = s'.size := by rw [ByteArray.size_extract]; omega
            refine ⟨A3, c3', acc ++ [tok], s7, l7, c7, by rw [List.length_append]; rfl, by omega, by rw [List.length_append, List.length_singleton]; omega, HI1', HI2', ⟨?_, HSC.out.2⟩, ⟨?_⟩⟩
            · rw [HSC.out.1, ← HI3.out.1]
              have e1 : (s'.extract n s'.size).data.toList = r.drop (n - 1) := by
                rw [ext_list, List.take_of_length_le (by rw [HNK.out.2.2.2]; exact Nat.le_refl _), HNK.out.2.2.1]
                cases n with
                | zero => omega
                | succ n => rfl
              rw [e1]
              exact comb_step acc ch r line' col' n k tok HI3.out.2.1 HNK.out.2.2.1 HNK.out.1 HNK.out.2.1 hn0 HTOK.out
            · rw [List.length_append, List.map_append, List.map_singleton, HX.out]
              exact HO7.out)
end Wd
end Go.Proofs.YtdecijmncpbheaaGreatDoor
