/- What the row of TreesMay lays: the words' tables. -/
import Derived.Test.YtdecijmncpbheaaGreatDoorML

namespace Go.Proofs.YtdecijmncpbheaaGreatDoor
open Go.RowKit Go.Proofs.YtdecijmncpbheaaGreatDoorW.PrintWords Go.Proofs.YtdecijmncpbheaaGreatDoorW.PrintLast Go.Proofs.YtdecijmncpbheaaGreatDoorW.PrintMore
set_option linter.unusedVariables false
set_option linter.unusedSimpArgs false
open Go.Shelf
namespace L20
open Wd (RangesAt NumsAt)
set_option maxRecDepth 100000 in
set_option maxHeartbeats 4000000 in
theorem words_laid8 {W : World} (h : laidMetH Tryz.prog [("math/bits.deBruijn32tab", Rows.laid_math_bits_deBruijn32tab), ("math/bits.deBruijn64tab", Rows.laid_math_bits_deBruijn64tab), ("internal/strconv.uint64pow10", Rows.laid_internal_strconv_uint64pow10), ("unicode/utf8.acceptRanges", Rows.laid_unicode_utf8_acceptRanges), ("strconv.ErrRange", Rows.laid_strconv_ErrRange), ("strconv.ErrSyntax", Rows.laid_strconv_ErrSyntax), ("cartouche/words.ranges", Rows.laid_cartouche_words_ranges), ("unicode/utf8.first", Rows.laid_unicode_utf8_first)] W) : Aside0 (RangesAt W ∧ NumsAt W) := ⟨by
  rw [MakeChecks.laidMetH_plain _ _ _ (by kernel_rfl)] at h
  have h2 := h.tail.tail
  refine ⟨ranges_of h2.tail.tail.tail.tail, ?_, ?_⟩
  · exact Lib.tabIs_of_head (zs := Lib.pow10Tab) (k := .u64) (show Tryz.prog.globalNamed "internal/strconv.uint64pow10" = some 5 by kernel_rfl) (show _ = some 351 by kernel_rfl) Tryz.underlying351 Tryz.underlying91 (by kernel_rfl) (by kernel_rfl) h2
  · obtain ⟨ps, ⟨g, t, cs, fuel, p, q, hg, ht, hv, hd, _, _⟩, _, _⟩ := h2.tail.tail
    obtain rfl := Option.some.inj ((show Tryz.prog.globalNamed "strconv.ErrRange" = some 4 by kernel_rfl).symm.trans hg)
    obtain rfl := Option.some.inj ((show (Tryz.prog.globals[4]?).map (·.type) = some 279 by kernel_rfl).symm.trans ht)
    obtain ⟨f1, u, v, e, -, -⟩ := iface_of_trod Tryz.underlying279 hd
    refine ⟨u, v, ?_⟩
    rw [World.var?_cell hg hv 0]
    have : cs.toList[0]? = some (.iface u v) := by rw [e]; rfl
    simpa using this⟩
end L20
end Go.Proofs.YtdecijmncpbheaaGreatDoor
