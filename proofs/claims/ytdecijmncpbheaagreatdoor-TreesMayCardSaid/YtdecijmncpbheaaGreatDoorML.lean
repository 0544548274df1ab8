/- Several texts as one: L20A, L20B. -/
import Derived.Test.YtdecijmncpbheaaGreatDoorWx
import Derived.Test.YtdecijmncpbheaaGreatDoorMO
import Derived.Test.YtdecijmncpbheaaGreatDoorRows
import Derived.LaidMore
import Derived.OpenShut
import Derived.Stop.LaidErr

namespace Go.Proofs.YtdecijmncpbheaaGreatDoor
open Go.RowKit Go.Proofs.YtdecijmncpbheaaGreatDoorW.PrintWords Go.Proofs.YtdecijmncpbheaaGreatDoorW.PrintLast Go.Proofs.YtdecijmncpbheaaGreatDoorW.PrintMore
set_option linter.unusedVariables false
set_option linter.unusedSimpArgs false
namespace L20
open Wd
theorem drops3 {α : Type} (cs : List α) (k : Nat) : cs.drop k = (cs.drop k).take 3 ++ cs.drop (k + 3) := by
  rw [← List.drop_drop, List.take_append_drop]
theorem var_heap {P : Program} {w : World} {n : String} {g : Nat} {cs : Array Value} (hg : P.globalNamed n = some g) (h : w.var? P n = some cs) : ∃ t fr, w.heap[g]? = some (.cells cs t fr) := by
  simp only [World.var?, hg, Option.bind_some] at h
  split at h
  · rename_i c t fr e
    cases h
    exact ⟨_, _, e⟩
  · cases h
theorem lit_of {fuel : Nat} {w : World} {cs : List Value} {k : IntKind} {t : TypeId} {d : DataW Unit} {q : List MemPlace} {a : Int} (ht : Tryz.prog.underlying t = some (.int k)) (h : DataW.trod (fun _ => ()) Tryz.prog w 0 (fun _ => true) false fuel t cs = some (d, q)) (hd : d = .lit (.int k a)) : cs = [.int k a] := by
  obtain ⟨n, rfl, e, -⟩ := DataW.trod_int ht h
  have := (Prod.mk.inj e).1
  rw [hd] at this
  cases this
  rfl
set_option maxRecDepth 100000 in
set_option maxHeartbeats 1000000 in
theorem row_of {fuel : Nat} {w : World} {c3 : List Value} {x : DataW Unit × List MemPlace} {a b c : Int} (h : DataW.trod (fun _ => ()) Tryz.prog w 0 (fun _ => true) false fuel 300 c3 = some x) (hx : x.1 = .agg [.lit (.int .i32 a), .lit (.int .i32 b), .lit (.int .u8 c)]) : c3 = [.int .i32 a, .int .i32 b, .int .u8 c] := by
  obtain ⟨fs, hfs⟩ : ∃ fs, Tryz.prog.underlying 300 = some (.struct fs) := ⟨_, Tryz.underlying300⟩
  obtain ⟨xs, n, -, rfl, hl, hxl, hf⟩ := DataW.trod_struct hfs h
  have hfs2 := Option.some.inj (hfs.symm.trans Tryz.underlying300)
  cases hfs2
  have hlen : c3.length = 3 := hl.trans (by kernel_rfl)
  have h0 := hf 0 _ rfl
  have h1 := hf 1 _ rfl
  have h2 := hf 2 _ rfl
  match c3, hlen, xs, hxl with
  | [v0, v1, v2], _, [y0, y1, y2], _ =>
    simp only [List.map_cons, List.map_nil, DataW.agg.injEq, List.cons.injEq, and_true] at hx
    obtain ⟨e0, e1, e2⟩ := hx
    have c1 : Tryz.prog.cellsOf 21 = 1 := by kernel_rfl
    have c2 : Tryz.prog.cellsOf 272 = 1 := by kernel_rfl
    change DataW.trod (fun _ => ()) Tryz.prog w 0 (fun _ => true) false n 21 (([v0, v1, v2].drop 0).take (Tryz.prog.cellsOf 21)) = some (y0.1, y0.2) at h0
    change DataW.trod (fun _ => ()) Tryz.prog w 0 (fun _ => true) false n 21 (([v0, v1, v2].drop 1).take (Tryz.prog.cellsOf 21)) = some (y1.1, y1.2) at h1
    change DataW.trod (fun _ => ()) Tryz.prog w 0 (fun _ => true) false n 272 (([v0, v1, v2].drop 2).take (Tryz.prog.cellsOf 272)) = some (y2.1, y2.2) at h2
    rw [c1] at h0 h1
    rw [c2] at h2
    have r0 := lit_of (q := y0.2) Tryz.underlying21 h0 e0
    have r1 := lit_of (q := y1.2) Tryz.underlying21 h1 e1
    have r2 := lit_of (q := y2.2) Tryz.underlying272 h2 e2
    simp at r0 r1 r2
    rw [r0, r1, r2]
set_option maxRecDepth 100000 in
set_option maxHeartbeats 4000000 in
theorem ranges_of {W : World} {rest : List (String × DataW Unit)} (h : laidMet Tryz.prog (("cartouche/words.ranges", Rows.laid_cartouche_words_ranges) :: rest) W) : RangesAt W := by
  obtain ⟨ps, ⟨g, t, cs, fuel, p, q, hg, ht, hv, hd, _, _⟩, _, _⟩ := h
  obtain rfl := Option.some.inj ((show Tryz.prog.globalNamed "cartouche/words.ranges" = some 0 by kernel_rfl).symm.trans hg)
  obtain rfl := Option.some.inj ((show (Tryz.prog.globals[0]?).map (·.type) = some 301 by kernel_rfl).symm.trans ht)
  obtain ⟨xs, m, _, ex, hcl, hl, hel⟩ := DataW.trod_array Tryz.underlying301 hd
  have c5 : Tryz.prog.cellsOf 300 = 3 := by kernel_rfl
  have hlen : cs.toList.length = 18 := hcl.trans (by kernel_rfl)
  have hm := (Prod.mk.inj ex).1
  match xs, hl with
  | [y0, y1, y2, y3, y4, y5], _ =>
    have hm2 := DataW.agg.inj ((show (Rows.laid_cartouche_words_ranges : DataW Unit) = .agg [.agg [.lit (.int .i32 97), .lit (.int .i32 122), .lit (.int .u8 2)], .agg [.lit (.int .i32 65), .lit (.int .i32 90), .lit (.int .u8 2)], .agg [.lit (.int .i32 48), .lit (.int .i32 57), .lit (.int .u8 3)], .agg [.lit (.int .i32 9), .lit (.int .i32 10), .lit (.int .u8 1)], .agg [.lit (.int .i32 32), .lit (.int .i32 32), .lit (.int .u8 1)], .agg [.lit (.int .i32 35), .lit (.int .i32 35), .lit (.int .u8 5)]] by kernel_rfl).symm.trans hm)
    simp only [List.map_cons, List.map_nil, List.cons.injEq, and_true] at hm2
    obtain ⟨e0, e1, e2, e3, e4, e5⟩ := hm2
    have r0 := row_of ((by have := hel 0 (by decide); rw [c5] at this; exact this) : DataW.trod _ _ _ _ _ _ _ _ ((cs.toList.drop 0).take 3) = some y0) e0.symm
    have r1 := row_of ((by have := hel 1 (by decide); rw [c5] at this; exact this) : DataW.trod _ _ _ _ _ _ _ _ ((cs.toList.drop 3).take 3) = some y1) e1.symm
    have r2 := row_of ((by have := hel 2 (by decide); rw [c5] at this; exact this) : DataW.trod _ _ _ _ _ _ _ _ ((cs.toList.drop 6).take 3) = some y2) e2.symm
    have r3 := row_of ((by have := hel 3 (by decide); rw [c5] at this; exact this) : DataW.trod _ _ _ _ _ _ _ _ ((cs.toList.drop 9).take 3) = some y3) e3.symm
    have r4 := row_of ((by have := hel 4 (by decide); rw [c5] at this; exact this) : DataW.trod _ _ _ _ _ _ _ _ ((cs.toList.drop 12).take 3) = some y4) e4.symm
    have r5 := row_of ((by have := hel 5 (by decide); rw [c5] at this; exact this) : DataW.trod _ _ _ _ _ _ _ _ ((cs.toList.drop 15).take 3) = some y5) e5.symm
    have hcs : cs.toList = rowsV := by
      rw [show cs.toList = cs.toList.drop 0 from rfl, drops3 cs.toList 0, drops3 cs.toList 3, drops3 cs.toList 6, drops3 cs.toList 9, drops3 cs.toList 12, drops3 cs.toList 15, r0, r1, r2, r3, r4, r5, List.drop_of_length_le (by omega)]
      rfl
    obtain ⟨t2, fr, hh⟩ := var_heap hg hv
    exact ⟨t2, fr, by rw [hh, ← hcs, Array.toArray_toList]⟩
set_option maxRecDepth 100000 in
set_option maxHeartbeats 4000000 in
theorem words_laid {W : World} (h : laidMetH Tryz.prog [("math/bits.deBruijn32tab", Rows.laid_math_bits_deBruijn32tab), ("math/bits.deBruijn64tab", Rows.laid_math_bits_deBruijn64tab), ("internal/strconv.uint64pow10", Rows.laid_internal_strconv_uint64pow10), ("strconv.ErrRange", Rows.laid_strconv_ErrRange), ("strconv.ErrSyntax", Rows.laid_strconv_ErrSyntax), ("cartouche/words.ranges", Rows.laid_cartouche_words_ranges)] W) : Aside0 (RangesAt W ∧ NumsAt W) := ⟨by
  rw [MakeChecks.laidMetH_plain _ _ _ (by kernel_rfl)] at h
  have h2 := h.tail.tail
  refine ⟨ranges_of h2.tail.tail.tail, ?_, ?_⟩
  · exact Lib.tabIs_of_head (zs := Lib.pow10Tab) (k := .u64) (show Tryz.prog.globalNamed "internal/strconv.uint64pow10" = some 5 by kernel_rfl) (show _ = some 351 by kernel_rfl) Tryz.underlying351 Tryz.underlying91 (by kernel_rfl) (by kernel_rfl) h2
  · obtain ⟨ps, ⟨g, t, cs, fuel, p, q, hg, ht, hv, hd, _, _⟩, _, _⟩ := h2.tail
    obtain rfl := Option.some.inj ((show Tryz.prog.globalNamed "strconv.ErrRange" = some 4 by kernel_rfl).symm.trans hg)
    obtain rfl := Option.some.inj ((show (Tryz.prog.globals[4]?).map (·.type) = some 279 by kernel_rfl).symm.trans ht)
    obtain ⟨f1, u, v, e, -, -⟩ := iface_of_trod Tryz.underlying279 hd
    refine ⟨u, v, ?_⟩
    rw [World.var?_cell hg hv 0]
    have : cs.toList[0]? = some (.iface u v) := by rw [e]; rfl
    simpa using this⟩
end L20
end Go.Proofs.YtdecijmncpbheaaGreatDoor

namespace Go.Proofs.YtdecijmncpbheaaGreatDoor
open Go.RowKit Go.Proofs.YtdecijmncpbheaaGreatDoorW.PrintWords Go.Proofs.YtdecijmncpbheaaGreatDoorW.PrintLast Go.Proofs.YtdecijmncpbheaaGreatDoorW.PrintMore
set_option linter.unusedVariables false
set_option linter.unusedSimpArgs false
namespace L20
open Wd
def w1 : List Wd.Tok := [⟨0, [97], 1, 1⟩, ⟨2, [60, 61], 1, 3⟩, ⟨2, [37], 1, 6⟩, ⟨1, [55], 1, 7⟩, ⟨3, [], 1, 8⟩]
deriving instance DecidableEq for Wd.Tok
theorem of1 : ofW [97, 32, 60, 61, 32, 37, 55] = (w1, 1, 8, 0) := by
  rw [ofW, ← scanF_eq 8 _ _ _ (by decide)]
  decide +kernel
theorem of2 : ofW [48, 48, 55] = ([], 1, 1, 11) := by
  rw [ofW, ← scanF_eq 8 _ _ _ (by decide)]
  decide +kernel
theorem of3 : ofW [97, 10, 36] = ([], 2, 1, 11) := by
  rw [ofW, ← scanF_eq 8 _ _ _ (by decide)]
  decide +kernel
theorem C_wordN {w : World} {A : Option Addr} {xs : List Wrd} (h : Kd.C kWord w A xs.length xs) (j : Nat) (hj : j < xs.length) : ∃ ad, A = some ad ∧
    w.cell? (ad.add (j * 4)) = some (.int .u8 xs[j].f0) ∧ w.cell? ⟨(ad.add (j * 4)).block, (ad.add (j * 4)).off + 1, none⟩ = some (.string xs[j].f1) ∧
    w.cell? ⟨(ad.add (j * 4)).block, (ad.add (j * 4)).off + 2, none⟩ = some (.int .i64 xs[j].f2.f0) ∧ w.cell? ⟨(ad.add (j * 4)).block, (ad.add (j * 4)).off + 3, none⟩ = some (.int .i64 xs[j].f2.f1) := by
  obtain ⟨ad, e, hc⟩ := at_T134 h (j : Int) (by omega) (by omega)
  refine ⟨ad, e, ?_⟩
  have e2 : rd_T134 xs (j : Int) = xs[j] := by
    rw [rd_T134, Int.toNat_natCast, List.getD_eq_getElem?_getD, List.getElem?_eq_getElem hj]
    rfl
  rw [e2, Int.toNat_natCast] at hc
  exact hc
/-- words.Of, of a text of which the answer is known. -/
theorem words_named (w : World) (s : ByteArray) (HT : Aside0 (RangesAt w ∧ NumsAt w)) {l : List Wd.Tok} {line col er : Int} {n : Nat} {ws : List Wrd} (h : ofW s.data.toList = (l, line, col, er)) (hn : n = l.length) (hw : ws = l.map wordV) :
    Calls Tryz.prog 99 #[.string s] w fun e w' => ∃ A c, e = .returned (.tuple #[.slice A n c, .agg #[.int .i64 line, .int .i64 col], .int .i64 er]) ∧ kWord.R 134 w' w.heap.size (fun _ => True) (.slice A n c) ws ∧ Below w.heap.size w w' := by
  have := words_calls w s ⟨HT.out.1⟩ ⟨HT.out.2⟩
  rw [h] at this
  subst hn hw
  exact this
theorem tabs_below {w W : World} (h : RangesAt w ∧ NumsAt w) (hb : Below w.heap.size w W) : Aside0 (RangesAt W ∧ NumsAt W) := ⟨⟨h.1.below hb, h.2.below hb⟩⟩
end L20
end Go.Proofs.YtdecijmncpbheaaGreatDoor
