/- words.reader: takes, skips. -/
import Derived.Test.YtdecijmncpbheaaGreatDoorWw
import Derived.Shelf.Strings.LastIndex
import Derived.Shelf.Strings.Count

namespace Go.Proofs.YtdecijmncpbheaaGreatDoor
open Go.RowKit Go.Proofs.YtdecijmncpbheaaGreatDoorW.PrintWords Go.Proofs.YtdecijmncpbheaaGreatDoorW.PrintLast Go.Proofs.YtdecijmncpbheaaGreatDoorW.PrintMore
set_option linter.unusedVariables false
set_option linter.unusedSimpArgs false
open Go.Shelf
namespace Wd
def RS (w : World) (b : Nat) (s : ByteArray) (line col : Int) : Prop := w.heap[b]? = some (.cells #[.string s, .int .i64 line, .int .i64 col] 243 (0, 0))
theorem gB_refl (w : World) (b : Nat) : w.grownBy w (some b) := World.grownBy.refl w _
theorem gB_trans {w w1 w2 : World} {b : Nat} (h : w.grownBy w1 (some b)) (k : w1.grownBy w2 (some b)) : w.grownBy w2 (some b) :=
  ⟨k.os.trans h.os, k.tape.trans h.tape, k.output.trans h.output, Nat.le_trans h.size k.size, fun i hi hn => (k.block i (Nat.lt_of_lt_of_le hi h.size) hn).trans (h.block i hi hn)⟩
theorem gB_below {w w1 : World} {b : Nat} (h : Below w.heap.size w w1) : w.grownBy w1 (some b) := ⟨h.os, h.tape, h.output, h.size, fun i hi _ => h.block i hi⟩
theorem gB_set {w w1 : World} {b : Nat} (h : w.grownBy w1 (some b)) (j : Nat) (u : Value) : w.grownBy (w1.setCell ⟨b, j, none⟩ u) (some b) :=
  gB_trans h ⟨rfl, rfl, rfl, by simp [World.setCell], fun i _ hn => Below.heap_setCell w1 ⟨b, j, none⟩ u i (fun e => hn (by rw [e]))⟩
theorem RS.below {w W : World} {b : Nat} {s : ByteArray} {line col : Int} (h : RS w b s line col) (hb : Below w.heap.size w W) : RS W b s line col := by
  rw [RS, hb.block b (Array.getElem?_eq_some_iff.1 h).1]
  exact h
theorem last_none (s : ByteArray) (h : ∀ x ∈ s.data.toList, x ≠ 10) : Lib.lastIndexByte s 10 = -1 := by
  rcases Lib.lastIdx_spec s 10 s.size with h1 | ⟨i, hi, -, h2, -⟩
  · exact h1.1
  · exfalso
    have hl : i < s.data.toList.length := by rw [Array.length_toList]; exact hi
    refine h _ (List.getElem_mem hl) ?_
    rw [Array.getElem_toList]
    rw [getElem!_pos s.data i hi] at h2
    exact UInt8.toNat_inj.1 (show s.data[i].toNat = (10 : UInt8).toNat by show s.data[i].toNat = 10; omega)
set_option maxRecDepth 100000 in
set_option maxHeartbeats 4000000 in
theorem takes_calls (w : World) (b : Nat) (s : ByteArray) (line col : Int) (n : Nat) (h : RS w b s line col) (hn : n ≤ s.size) (hs : s.size ≤ 281474976710656) (hc : 0 ≤ col ∧ col + n ≤ 9223372036854775807) (hnl : ∀ x ∈ s.data.toList.take n, x ≠ 10) :
    Calls Tryz.prog 157 #[.pointer (some ⟨b, 0, none⟩), .int .i64 (n : Int)] w fun e w' => e = .returned (.string (s.extract 0 n)) ∧ RS w' b (s.extract n s.size) line (col + n) ∧ w.grownBy w' (some b) := by
  have h1 : RS (w.setCell ⟨b, 0, none⟩ (.string (s.extract n s.size))) b (s.extract n s.size) line col := blk_put h 0 _ rfl
  have h2 : RS ((w.setCell ⟨b, 0, none⟩ (.string (s.extract n s.size))).setCell ⟨b, 2, none⟩ (.int .i64 (col + n))) b (s.extract n s.size) line (col + n) := blk_put h1 2 _ rfl
  have HG := Aside0.mk (And.intro h2 (gB_set (gB_set (gB_refl w b) 0 (.string (s.extract n s.size))) 2 (.int .i64 (col + n))))
  have c0 := blk_cell h 0
  have f0 := blk_frozen h 0
  have c2 := blk_cell h1 2
  have f2 := blk_frozen h1 2
  have HL : Aside0 (Calls Tryz.prog 190 #[.string (s.extract 0 n), .int .u8 10] (w.setCell ⟨b, 0, none⟩ (.string (s.extract n s.size))) fun e w' => e = .returned (.int .i64 (-1)) ∧ w' = (w.setCell ⟨b, 0, none⟩ (.string (s.extract n s.size)))) := ⟨by
    have := Any.strings_LastIndexByte Tryz.lays149 (s.extract 0 n) 10 (by rw [ByteArray.size_extract]; omega) (w.setCell ⟨b, 0, none⟩ (.string (s.extract n s.size)))
    rw [last_none _ (by rw [ext_list, List.drop_zero]; exact hnl)] at this
    exact this⟩
  clear h h1 h2 hnl
  simp at c0 c2
  go_enter Tryz.func157, Tryz.ntmps157
  go_wp2_with (go_at_call 190; (with_reducible refine HL.out.mono ?_); rintro e W' ⟨rfl, rfl⟩)
  go_ret
  exact ⟨rfl, HG.out⟩
set_option maxRecDepth 100000 in
set_option maxHeartbeats 4000000 in
theorem takesNl_calls (w : World) (b : Nat) (s : ByteArray) (line col : Int) (h : RS w b s line col) (hs : s.size ≤ 281474976710656) (hc : 0 ≤ line ∧ line + 1 ≤ 9223372036854775807) (h1s : 1 ≤ s.size) (hnl : s.extract 0 1 = ⟨#[10]⟩) :
    Calls Tryz.prog 157 #[.pointer (some ⟨b, 0, none⟩), .int .i64 1] w fun e w' => (∃ v, e = .returned v) ∧ RS w' b (s.extract 1 s.size) (line + 1) 1 ∧ w.grownBy w' (some b) := by
  have h1 : RS (w.setCell ⟨b, 0, none⟩ (.string (s.extract 1 s.size))) b (s.extract 1 s.size) line col := blk_put h 0 _ rfl
  have hw : IntKind.i64.wrap (line + 1) = line + 1 := by rw [IntKind.wrap_i64]; omega
  have h2 : RS ((w.setCell ⟨b, 0, none⟩ (.string (s.extract 1 s.size))).setCell ⟨b, 1, none⟩ (.int .i64 (line + 1))) b (s.extract 1 s.size) (line + 1) col := blk_put h1 1 _ rfl
  have h3 : RS (((w.setCell ⟨b, 0, none⟩ (.string (s.extract 1 s.size))).setCell ⟨b, 1, none⟩ (.int .i64 (line + 1))).drew.setCell ⟨b, 2, none⟩ (.int .i64 1)) b (s.extract 1 s.size) (line + 1) 1 := blk_put (blk_drew h2) 2 _ rfl
  have c0 := blk_cell h 0
  have f0 := blk_frozen h 0
  have c1 := blk_cell h1 1
  have f1 := blk_frozen h1 1
  have c2 := blk_cell h2 2
  have f2 := blk_frozen h2 2
  have HG := Aside0.mk (And.intro h3 (gB_set (gB_trans (gB_set (gB_set (gB_refl w b) 0 (.string (s.extract 1 s.size))) 1 (.int .i64 (line + 1))) (gB_below (Below.refl _ _).drew)) 2 (.int .i64 1)))
  have HL : Aside0 (Calls Tryz.prog 190 #[.string (s.extract 0 1), .int .u8 10] (w.setCell ⟨b, 0, none⟩ (.string (s.extract 1 s.size))) fun e w' => e = .returned (.int .i64 0) ∧ w' = (w.setCell ⟨b, 0, none⟩ (.string (s.extract 1 s.size)))) := ⟨by
    rw [hnl]
    exact Any.strings_LastIndexByte Tryz.lays149 ⟨#[10]⟩ 10 (by decide) (w.setCell ⟨b, 0, none⟩ (.string (s.extract 1 s.size)))⟩
  have HCN : Aside0 (∀ W, Calls Tryz.prog 191 #[.string (s.extract 0 1), .string ⟨#[10]⟩] W fun e w' => e = .returned (.int .i64 1) ∧ w' = W) := ⟨fun W => by
    rw [hnl]
    exact Any.strings_Count_one Tryz.lays138 ⟨#[10]⟩ 10 W⟩
  clear h h1 h2 h3 hnl
  simp at c0 c1 c2
  go_enter Tryz.func157, Tryz.ntmps157
  go_wp2_with (go_at_call 190; (with_reducible refine HL.out.mono ?_); rintro e W' ⟨rfl, rfl⟩)
  go_region_with (go_at_call 191; (with_reducible refine (HCN.out _).mono ?_); rintro e W' ⟨rfl, rfl⟩)
  all_goals (go_wp2; go_ret; exact ⟨⟨_, rfl⟩, HG.out⟩)
/-- Where the next word begins, or the text ends. -/
def stops (l : List B) : Prop := ∀ c r, l = c :: r → c ≠ 10 ∧ c ≠ 32 ∧ c ≠ 9 ∧ c ≠ 35
theorem scan_nl (r : List B) (line col : Int) : scan (10 :: r) line col = scan r (line + 1) 1 := by rw [scan, if_pos rfl]
theorem scan_blank {c : B} (r : List B) (line col : Int) (h1 : c ≠ 10) (h : c = 32 ∨ c = 9) : scan (c :: r) line col = scan r line (col + 1) := by rw [scan, if_neg h1, if_pos h]
theorem scan_rem (r : List B) (line col : Int) : scan (35 :: r) line col = scan (r.dropWhile notNl) line (col + (r.takeWhile notNl).length + 1) := by rw [scan, if_neg (by decide), if_neg (by decide), if_pos rfl]
theorem index_nl (l : List B) : Lib.indexByte l 10 = if (l.takeWhile notNl).length = l.length then -1 else ((l.takeWhile notNl).length : Int) := by
  induction l with
  | nil => rfl
  | cons c r ih =>
    rw [Lib.indexByte]
    by_cases h : c = 10
    · subst h
      simp [List.takeWhile_cons, notNl]
    · have h1 : (c == 10) = false := beq_eq_false_iff_ne.2 h
      have h2 : notNl c = true := by simp [notNl, h]
      have hge : (-1 : Int) ≠ ((r.takeWhile notNl).length : Int) := by omega
      rw [if_neg (by rw [h1]; decide), List.takeWhile_cons, if_pos h2, ih, List.length_cons, List.length_cons]
      by_cases h3 : (r.takeWhile notNl).length = r.length
      · simp [h3]
      · have h4 : ¬((r.takeWhile notNl).length + 1 = r.length + 1) := by omega
        have h5 : ((((r.takeWhile notNl).length : Int)) == -1) = false := beq_eq_false_iff_ne.2 (by omega)
        simp only [h3, h4, if_false, h5]
        simp
theorem drop_tw (p : B → Bool) (l : List B) : l.drop (l.takeWhile p).length = l.dropWhile p := by
  induction l with
  | nil => rfl
  | cons c r ih => rw [List.takeWhile_cons, List.dropWhile_cons]; split <;> simp_all
set_option maxRecDepth 100000 in
set_option maxHeartbeats 4000000 in
theorem skips_calls (w : World) (b : Nat) (s : ByteArray) (line col : Int) (h : RS w b s line col) (hs : s.size ≤ 1048576) (hl : 0 ≤ line ∧ line + s.size ≤ 4194304) (hc : 0 ≤ col ∧ col + s.size ≤ 4194304) (HR : Aside0 (RangesAt w)) (hg : b ≠ 0) :
    Calls Tryz.prog 155 #[.pointer (some ⟨b, 0, none⟩)] w fun e w' => (∃ v, e = .returned v) ∧ ∃ s' line' col', RS w' b s' line' col' ∧ w.grownBy w' (some b) ∧ scan s'.data.toList line' col' = scan s.data.toList line col ∧ stops s'.data.toList ∧ s'.size ≤ s.size ∧ 0 ≤ line' ∧ line' + s'.size ≤ 4194304 ∧ 0 ≤ col' ∧ col' + s'.size ≤ 4194304 := by
  have HH := Aside0.mk h
  have HX := Aside0.mk (And.intro hs (And.intro hl (And.intro hc hg)))
  clear h hl hc hg
  go_enter Tryz.func155, Tryz.ntmps155
  go_wp2
  go_loopg [3] (s.size + 1) (fun g b3 W => ∃ (s' : ByteArray) (line' col' : Int), s'.size + 1 ≤ g ∧ s'.size ≤ s.size ∧ Aside0 (RS W b s' line' col') ∧ Aside0 (w.grownBy W (some b)) ∧ Aside0 (scan s'.data.toList line' col' = scan s.data.toList line col) ∧ Aside0 (0 ≤ line' ∧ line' + s'.size ≤ 4194304 ∧ 0 ≤ col' ∧ col' + s'.size ≤ 4194304))
  case atStart => exact ⟨s, line, col, by omega, by omega, HH, ⟨gB_refl w b⟩, ⟨rfl⟩, ⟨HX.out.2.1.1, HX.out.2.1.2, HX.out.2.2.1.1, HX.out.2.2.1.2⟩⟩
  case round =>
    obtain ⟨s', line', col', hgk, hle, HS, HG, HSC, HN⟩ := hrel
    have c0 : wr.cell? ⟨b, 0, none⟩ = some (.string s') := blk_cell HS.out 0
    have hlen : s'.data.toList.length = s'.size := Array.length_toList
    rcases Nat.eq_zero_or_pos s'.size with h0 | h0
    · have hnil : s'.data.toList = [] := List.eq_nil_of_length_eq_zero (by omega)
      have hem : s'.toList.isEmpty = true := by rw [ByteArray.toList_eq, hnil]; rfl
      have HSt : Aside0 (stops s'.data.toList) := ⟨by rw [hnil]; intro c r e; cases e⟩
      clear hnil
      go_wp2
      go_end0
      exact ⟨⟨_, rfl⟩, s', line', col', HS.out, HG.out, HSC.out, HSt.out, hle, HN.out⟩
    · obtain ⟨c, r, hcr, hc0⟩ := wordN_at s' h0
      have hem : s'.toList.isEmpty = false := by rw [ByteArray.toList_eq, hcr]; rfl
      obtain ⟨z, hz⟩ : ∃ z, z = sortOf c.toNat := ⟨_, rfl⟩
      have HRW : Aside0 (RangesAt wr) := ⟨by
        obtain ⟨t, fr, ht⟩ := HR.out
        exact ⟨t, fr, (HG.out.block _ (Array.getElem?_eq_some_iff.1 ht).1 (by simpa using fun e => HX.out.2.2.2 e.symm)).trans ht⟩⟩
      have HO : Aside0 (Calls Tryz.prog 181 #[.int .u8 (c.toNat : Int)] wr fun e w' => e = .returned (.int .u8 z) ∧ Below wr.heap.size wr w') := ⟨by rw [hz]; exact wof_calls wr c.toNat c.toNat_lt HRW⟩
      have hsort := sort_cases c
      rw [← hz] at hsort
      have HZ := Aside0.mk hsort
      have HCR := Aside0.mk (And.intro hcr hlen)
      have hsz : s'.size ≤ 1048576 := by omega
      have hscan : ∀ (l2 : List B) (line2 col2 : Int), scan l2 line2 col2 = scan s'.data.toList line' col' → scan l2 line2 col2 = scan s.data.toList line col := fun l2 line2 col2 e => e.trans HSC.out
      have HSCAN := Aside0.mk hscan
      clear hz hsort hcr hlen hscan HX
      by_cases h1 : z = 1
      · subst h1
        have hbl := HZ.out.2.2.1.1 rfl
        by_cases h10 : c = 10
        · have HTK : Aside0 (∀ W, RS W b s' line' col' → Calls Tryz.prog 157 #[.pointer (some ⟨b, 0, none⟩), .int .i64 1] W fun e w' => (∃ v, e = .returned v) ∧ RS w' b (s'.extract 1 s'.size) (line' + 1) 1 ∧ W.grownBy w' (some b)) := ⟨fun W h => takesNl_calls W b s' line' col' h (by omega) (by have := HN.out; omega) h0 (by
            have : (s'.extract 0 1).data.toList = [10] := by rw [ext_list, HCR.out.1, h10]; rfl
            exact ByteArray.ext (Array.toList_inj.1 this))⟩
          have HE : Aside0 (scan (s'.extract 1 s'.size).data.toList (line' + 1) 1 = scan s.data.toList line col ∧ (s'.extract 1 s'.size).size + 1 = s'.size) := ⟨by
            refine ⟨HSCAN.out _ _ _ ?_, by rw [ByteArray.size_extract]; omega⟩
            rw [ext_list, List.take_of_length_le (by rw [HCR.out.2]; exact Nat.le_refl _), HCR.out.1, h10, scan_nl]
            rfl⟩
          clear h10 hbl
          go_wp2_with (first | (go_at_call 181; (with_reducible refine HO.out.mono ?_); rintro e W1 ⟨rfl, hb'⟩; have HS1 := Aside0.mk (HS.out.below hb'); have HG1 := Aside0.mk (gB_trans HG.out (gB_below hb')); have c1 := blk_cell HS1.out 0; simp at c1; clear hb') | (go_at_call 157; (with_reducible refine (HTK.out _ HS1.out).mono ?_); rintro e W2 ⟨⟨v2, rfl⟩, hrs, hgr⟩; have HS2 := Aside0.mk hrs; have HG2 := Aside0.mk (gB_trans HG1.out hgr); clear hrs hgr))
          go_roundg (gk - 1)
          case measure => omega
          case rel => exact ⟨_, _, _, by have := HE.out.2; omega, by have := HE.out.2; omega, HS2, HG2, ⟨HE.out.1⟩, ⟨by have := HN.out; have := HE.out.2; omega⟩⟩
        · have HTK : Aside0 (∀ W, RS W b s' line' col' → Calls Tryz.prog 157 #[.pointer (some ⟨b, 0, none⟩), .int .i64 1] W fun e w' => (∃ v, e = .returned v) ∧ RS w' b (s'.extract 1 s'.size) line' (col' + 1) ∧ W.grownBy w' (some b)) := ⟨fun W h => (takes_calls W b s' line' col' 1 h h0 (by omega) (by have := HN.out; omega) (by rw [HCR.out.1]; intro x hx; rw [List.mem_singleton.1 hx]; exact h10)).mono (fun e w' hh => ⟨⟨_, hh.1⟩, hh.2.1, hh.2.2⟩)⟩
          have HE : Aside0 (scan (s'.extract 1 s'.size).data.toList line' (col' + 1) = scan s.data.toList line col ∧ (s'.extract 1 s'.size).size + 1 = s'.size) := ⟨by
            refine ⟨HSCAN.out _ _ _ ?_, by rw [ByteArray.size_extract]; omega⟩
            rw [ext_list, List.take_of_length_le (by rw [HCR.out.2]; exact Nat.le_refl _), HCR.out.1, scan_blank _ _ _ h10 (by rcases hbl with h | h | h; exact absurd h h10; exact .inl h; exact .inr h)]
            rfl⟩
          clear h10 hbl
          go_wp2_with (first | (go_at_call 181; (with_reducible refine HO.out.mono ?_); rintro e W1 ⟨rfl, hb'⟩; have HS1 := Aside0.mk (HS.out.below hb'); have HG1 := Aside0.mk (gB_trans HG.out (gB_below hb')); have c1 := blk_cell HS1.out 0; simp at c1; clear hb') | (go_at_call 157; (with_reducible refine (HTK.out _ HS1.out).mono ?_); rintro e W2 ⟨⟨v2, rfl⟩, hrs, hgr⟩; have HS2 := Aside0.mk hrs; have HG2 := Aside0.mk (gB_trans HG1.out hgr); clear hrs hgr))
          go_roundg (gk - 1)
          case measure => omega
          case rel => exact ⟨_, _, _, by have := HE.out.2; omega, by have := HE.out.2; omega, HS2, HG2, ⟨HE.out.1⟩, ⟨by have := HN.out; have := HE.out.2; omega⟩⟩
      · have z1 : (z == 1) = false := beq_eq_false_iff_ne.2 h1
        by_cases h5 : z = 5
        · subst h5
          have h35 := HZ.out.2.2.2.1.1 rfl
          obtain ⟨t, ht⟩ : ∃ t, t = (r.takeWhile notNl).length + 1 := ⟨_, rfl⟩
          have htw : s'.data.toList.takeWhile notNl = 35 :: r.takeWhile notNl := by rw [HCR.out.1, h35]; rfl
          have htl : (s'.data.toList.takeWhile notNl).length = t := by rw [htw, ht]; rfl
          have hle2 : t ≤ s'.size := by have := tw_le notNl s'.data.toList; rw [htl, HCR.out.2] at this; exact this
          have HTK : Aside0 (∀ W, RS W b s' line' col' → Calls Tryz.prog 157 #[.pointer (some ⟨b, 0, none⟩), .int .i64 (t : Int)] W fun e w' => (∃ v, e = .returned v) ∧ RS w' b (s'.extract t s'.size) line' (col' + t) ∧ W.grownBy w' (some b)) := ⟨fun W h => (takes_calls W b s' line' col' t h hle2 (by omega) (by have := HN.out; omega) (by
            rw [← htl, take_tw]
            intro x hx
            have := tw_all notNl _ x hx
            simpa [notNl] using this)).mono (fun e w' hh => ⟨⟨_, hh.1⟩, hh.2.1, hh.2.2⟩)⟩
          have HE : Aside0 (scan (s'.extract t s'.size).data.toList line' (col' + t) = scan s.data.toList line col ∧ (s'.extract t s'.size).size + t = s'.size ∧ 1 ≤ t) := ⟨by
            refine ⟨HSCAN.out _ _ _ ?_, by rw [ByteArray.size_extract]; omega, by omega⟩
            rw [ext_list, List.take_of_length_le (by rw [HCR.out.2]; exact Nat.le_refl _), HCR.out.1, h35, scan_rem, ht, List.drop_succ_cons, drop_tw]
            congr 1
            omega⟩
          have hix := index_nl s'.data.toList
          rw [htl, HCR.out.2] at hix
          have hixc := Any.strings_IndexByte Tryz.lays137 s' 10
          by_cases hend : t = s'.size
          · have HIX : Aside0 (∀ W, Calls Tryz.prog 182 #[.string s', .int .u8 10] W fun e w' => e = .returned (.int .i64 (-1)) ∧ w' = W) := ⟨fun W => by
              have := hixc W
              rw [show ((10 : Int).toNat.toUInt8) = 10 from rfl, hix, if_pos hend] at this
              exact this⟩
            have hsz2 : ((s'.size : Nat) : Int) = (t : Int) := by omega
            clear hix hixc htw htl ht h35 hend
            go_wp2_with (first | (go_at_call 181; (with_reducible refine HO.out.mono ?_); rintro e W1 ⟨rfl, hb'⟩; have HS1 := Aside0.mk (HS.out.below hb'); have HG1 := Aside0.mk (gB_trans HG.out (gB_below hb')); have c1 := blk_cell HS1.out 0; simp at c1; clear hb') | (go_at_call 182; (with_reducible refine (HIX.out _).mono ?_); rintro e W' ⟨rfl, rfl⟩) | (go_at_call 157; (with_reducible refine (HTK.out _ HS1.out).mono ?_); rintro e W2 ⟨⟨v2, rfl⟩, hrs, hgr⟩; have HS2 := Aside0.mk hrs; have HG2 := Aside0.mk (gB_trans HG1.out hgr); clear hrs hgr))
            go_roundg (gk - 1)
            case measure => omega
            case rel => exact ⟨_, _, _, by have := HE.out.2; omega, by have := HE.out.2; omega, HS2, HG2, ⟨HE.out.1⟩, ⟨by have := HN.out; have := HE.out.2; omega⟩⟩
          · have HIX : Aside0 (∀ W, Calls Tryz.prog 182 #[.string s', .int .u8 10] W fun e w' => e = .returned (.int .i64 (t : Int)) ∧ w' = W) := ⟨fun W => by
              have := hixc W
              rw [show ((10 : Int).toNat.toUInt8) = 10 from rfl, hix, if_neg hend] at this
              exact this⟩
            have d0 : decide ((t : Int) < 0) = false := decide_eq_false (by omega)
            clear hix hixc htw htl ht h35 hend
            go_wp2_with (first | (go_at_call 181; (with_reducible refine HO.out.mono ?_); rintro e W1 ⟨rfl, hb'⟩; have HS1 := Aside0.mk (HS.out.below hb'); have HG1 := Aside0.mk (gB_trans HG.out (gB_below hb')); have c1 := blk_cell HS1.out 0; simp at c1; clear hb') | (go_at_call 182; (with_reducible refine (HIX.out _).mono ?_); rintro e W' ⟨rfl, rfl⟩) | (go_at_call 157; (with_reducible refine (HTK.out _ HS1.out).mono ?_); rintro e W2 ⟨⟨v2, rfl⟩, hrs, hgr⟩; have HS2 := Aside0.mk hrs; have HG2 := Aside0.mk (gB_trans HG1.out hgr); clear hrs hgr))
            go_roundg (gk - 1)
            case measure => omega
            case rel => exact ⟨_, _, _, by have := HE.out.2; omega, by have := HE.out.2; omega, HS2, HG2, ⟨HE.out.1⟩, ⟨by have := HN.out; have := HE.out.2; omega⟩⟩
        · have z5 : (z == 5) = false := beq_eq_false_iff_ne.2 h5
          have HSt : Aside0 (stops s'.data.toList) := ⟨by
            rw [HCR.out.1]
            intro c' r' e
            obtain ⟨rfl, rfl⟩ := List.cons.inj e
            refine ⟨fun e => h1 (HZ.out.2.2.1.2 (.inl e)), fun e => h1 (HZ.out.2.2.1.2 (.inr (.inl e))), fun e => h1 (HZ.out.2.2.1.2 (.inr (.inr e))), fun e => h5 (HZ.out.2.2.2.1.2 e)⟩⟩
          clear h1 h5
          go_wp2_with (go_at_call 181; (with_reducible refine HO.out.mono ?_); rintro e W1 ⟨rfl, hb'⟩; have HS1 := Aside0.mk (HS.out.below hb'); have HG1 := Aside0.mk (gB_trans HG.out (gB_below hb')); have c1 := blk_cell HS1.out 0; simp at c1; clear hb')
          refine bodyPost_ret (results_none rfl _ _ _) rfl ?_
          exact ⟨⟨_, rfl⟩, s', line', col', HS1.out, HG1.out, HSC.out, HSt.out, hle, HN.out⟩
end Wd
end Go.Proofs.YtdecijmncpbheaaGreatDoor
