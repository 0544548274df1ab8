/- lives: what the chapter's example answers. -/
import Derived.Test.YtbdecnagdnancaaGreatDoorL20A

namespace Go.Proofs.YtbdecnagdnancaaGreatDoor
open Go.RowKit Go.Proofs.YtbdecnagdnancaaGreatDoorW.PrintWords Go.Proofs.YtbdecnagdnancaaGreatDoorW.PrintLast Go.Proofs.YtbdecnagdnancaaGreatDoorW.PrintMore
set_option linter.unusedVariables false
set_option linter.unusedSimpArgs false
namespace L20
open Wd
def w1 : List Wd.Tok := [⟨0, [97], 1, 1⟩, ⟨2, [60, 61], 1, 3⟩, ⟨2, [37], 1, 6⟩, ⟨1, [55], 1, 7⟩, ⟨3, [], 1, 8⟩]
deriving instance DecidableEq for Wd.Tok
theorem of1 : ofW [97, 32, 60, 61, 32, 37, 55] = (w1, 1, 8, 0) := by
  rw [ofW, ← scanF_eq 8 _ _ _ (by decide)]
  decide +kernel
theorem of2 : ofW [48, 48, 55] = ([], 1, 1, 11) := by
  rw [ofW, ← scanF_eq 8 _ _ _ (by decide)]
  decide +kernel
theorem of3 : ofW [97, 10, 36] = ([], 2, 1, 11) := by
  rw [ofW, ← scanF_eq 8 _ _ _ (by decide)]
  decide +kernel
theorem C_wordN {w : World} {A : Option Addr} {xs : List Wrd} (h : Kd.C kWord w A xs.length xs) (j : Nat) (hj : j < xs.length) : ∃ ad, A = some ad ∧
    w.cell? (ad.add (j * 4)) = some (.int .u8 xs[j].f0) ∧ w.cell? ⟨(ad.add (j * 4)).block, (ad.add (j * 4)).off + 1, none⟩ = some (.string xs[j].f1) ∧
    w.cell? ⟨(ad.add (j * 4)).block, (ad.add (j * 4)).off + 2, none⟩ = some (.int .i64 xs[j].f2.f0) ∧ w.cell? ⟨(ad.add (j * 4)).block, (ad.add (j * 4)).off + 3, none⟩ = some (.int .i64 xs[j].f2.f1) := by
  obtain ⟨ad, e, hc⟩ := at_T105 h (j : Int) (by omega) (by omega)
  refine ⟨ad, e, ?_⟩
  have e2 : rd_T105 xs (j : Int) = xs[j] := by
    rw [rd_T105, Int.toNat_natCast, List.getD_eq_getElem?_getD, List.getElem?_eq_getElem hj]
    rfl
  rw [e2, Int.toNat_natCast] at hc
  exact hc
/-- words.Of, of a text of which the answer is known. -/
theorem words_named (w : World) (s : ByteArray) (HT : Aside0 (RangesAt w ∧ NumsAt w)) {l : List Wd.Tok} {line col er : Int} {n : Nat} {ws : List Wrd} (h : ofW s.data.toList = (l, line, col, er)) (hn : n = l.length) (hw : ws = l.map wordV) :
    Calls Tryz.prog 9 #[.string s] w fun e w' => ∃ A c, e = .returned (.tuple #[.slice A n c, .agg #[.int .i64 line, .int .i64 col], .int .i64 er]) ∧ kWord.R 105 w' w.heap.size (fun _ => True) (.slice A n c) ws ∧ Below w.heap.size w w' := by
  have := words_calls w s ⟨HT.out.1⟩ ⟨HT.out.2⟩
  rw [h] at this
  subst hn hw
  exact this
theorem tabs_below {w W : World} (h : RangesAt w ∧ NumsAt w) (hb : Below w.heap.size w W) : Aside0 (RangesAt W ∧ NumsAt W) := ⟨⟨h.1.below hb, h.2.below hb⟩⟩
set_option maxRecDepth 100000 in
set_option maxHeartbeats 4000000 in
theorem lives_calls (w : World) (HT : Aside0 (RangesAt w ∧ NumsAt w)) : Calls Tryz.prog 8 #[] w fun e w' => e = .returned (.bool true) ∧ Below w.heap.size w w' := by
  go_enter Tryz.func8, Tryz.ntmps8
  go_wp2_with fail
  refine (words_named w _ HT (h := of1) (n := 5) (ws := w1.map wordV) rfl rfl).mono ?_
  rintro e W1 ⟨A1, c1, rfl, hr1, hb1⟩
  obtain ⟨g, cap, he, -⟩ := Kd.R_form hr1 (by decide)
  injection he with he1 he2 he3
  subst he1
  clear he2 he3
  have hR1 := (Kd.R_reads' hr1).2.2
  have HB1 := Aside0.mk (below_alloc hb1 (.cells #[.int .i64 1, .int .i64 8] 25))
  have q1 := blk_new W1 (.cells #[.int .i64 1, .int .i64 8] 25)
  replace hR1 := Kd.C_below hR1 (below_alloc (Below.refl _ _) (.cells #[.int .i64 1, .int .i64 8] 25))
  clear hr1 hb1
  go_wp2_with fail
  refine (words_named _ _ (tabs_below HT.out HB1.out) (h := of2) (n := 0) (ws := []) rfl rfl).mono ?_
  rintro e W2 ⟨A2, c2, rfl, -, hb2⟩
  have q2 := blk_new W2 (.cells #[.int .i64 1, .int .i64 1] 25)
  replace q1 := blk_alloc (blk_below q1 hb2) (.cells #[.int .i64 1, .int .i64 1] 25)
  replace hR1 := Kd.C_below (Kd.C_below hR1 hb2) (below_alloc (Below.refl _ _) (.cells #[.int .i64 1, .int .i64 1] 25))
  have HB2 := Aside0.mk (below_alloc (below_step HB1.out hb2) (.cells #[.int .i64 1, .int .i64 1] 25))
  clear hb2 HB1
  go_wp2_with fail
  refine (words_named _ _ (tabs_below HT.out HB2.out) (h := of3) (n := 0) (ws := []) rfl rfl).mono ?_
  rintro e W3 ⟨A3, c3, rfl, -, hb3⟩
  replace q1 := blk_alloc (blk_below q1 hb3) (.cells #[.int .i64 2, .int .i64 1] 25)
  replace q2 := blk_alloc (blk_below q2 hb3) (.cells #[.int .i64 2, .int .i64 1] 25)
  replace hR1 := Kd.C_below (Kd.C_below hR1 hb3) (below_alloc (Below.refl _ _) (.cells #[.int .i64 2, .int .i64 1] 25))
  have HB3 := Aside0.mk (below_alloc (below_step HB2.out hb3) (.cells #[.int .i64 2, .int .i64 1] 25))
  clear hb3 HB2
  obtain ⟨ad, e0, a0, -, -, -⟩ := C_wordN hR1 0 (by decide)
  obtain ⟨ad1, e1, -, b1, -, -⟩ := C_wordN hR1 1 (by decide)
  obtain ⟨ad3, e3, d0, -, -, -⟩ := C_wordN hR1 3 (by decide)
  obtain ⟨ad4, e4, f0, -, -, -⟩ := C_wordN hR1 4 (by decide)
  obtain rfl := Option.some.inj e0
  obtain rfl := Option.some.inj e1
  obtain rfl := Option.some.inj e3
  obtain rfl := Option.some.inj e4
  have p10 := blk_cell q1 0
  have p11 := blk_cell q1 1
  have p20 := blk_cell q2 0
  have p21 := blk_cell q2 1
  simp only [w1, wordV, List.map_cons, List.map_nil, List.getElem_cons_zero, List.getElem_cons_succ, add_plain, Nat.zero_add, Nat.zero_mul] at a0 b1 d0 f0
  simp at p10 p11 p20 p21
  clear q1 q2 hR1 e0 e1 e3 e4
  go_wp2
  go_ret
  exact ⟨rfl, HB3.out⟩
end L20
end Go.Proofs.YtbdecnagdnancaaGreatDoor
