/- TreesMay: a type that is read is well formed, or too deep. -/
import Derived.Test.YtdecijmncpbheaaGreatDoorMTn
import Derived.Test.YtdecijmncpbheaaGreatDoorTrA
import Derived.Test.YtdecijmncpbheaaGreatDoorTrT
import Derived.Test.YtdecijmncpbheaaGreatDoorTyE
import Derived.Test.YtdecijmncpbheaaGreatDoorMayL

namespace Go.Proofs.YtdecijmncpbheaaGreatDoor
open Go.RowKit Go.Proofs.YtdecijmncpbheaaGreatDoorW.PrintWords Go.Proofs.YtdecijmncpbheaaGreatDoorW.PrintLast Go.Proofs.YtdecijmncpbheaaGreatDoorW.PrintMore
set_option linter.unusedVariables false
set_option linter.unusedSimpArgs false
open Go.Shelf
namespace Tr
open Wd (gB_refl gB_trans gB_below gB_set ofW wordV RangesAt NumsAt)
open L20 (words_named tabs_below)
set_option maxRecDepth 100000 in
set_option maxHeartbeats 4000000 in
theorem may_walk (w : World) (HT : Aside0 (RangesAt w ∧ NumsAt w)) (s : ByteArray) (hs : s.size ≤ reachBytes) (y : FaceY) (hy : y.ok w) :
    Calls Tryz.prog 4 #[.string s, y.v] w fun e w' => e = .returned (.bool true) ∧ Below w.heap.size w w' := by
  obtain ⟨fv, F⟩ := y
  have HFI := Aside0.mk (show FaceIn w fv F from hy)
  show Calls Tryz.prog 4 #[.string s, .agg #[.string fv.m, .slice fv.la.A fv.la.n fv.la.c, .slice fv.ro.A fv.ro.n fv.ro.c, .slice fv.ef.A fv.ef.n fv.ef.c, .slice fv.ty.A fv.ty.n fv.ty.c, .slice fv.im.A fv.im.n fv.im.c, .slice fv.en.A fv.en.n fv.en.c]] w _
  have HLV : Aside0 (∀ W, Below w.heap.size w W → Calls Tryz.prog 23 #[] W fun e w' => e = .returned (.bool true) ∧ Below W.heap.size W w') := ⟨fun W hb => lives_calls W (tabs_below HT.out hb)⟩
  obtain ⟨O, hO⟩ : ∃ O : Obj, O = .cells #[.string fv.m, .slice fv.la.A fv.la.n fv.la.c, .slice fv.ro.A fv.ro.n fv.ro.c, .slice fv.ef.A fv.ef.n fv.ef.c, .slice fv.ty.A fv.ty.n fv.ty.c, .slice fv.im.A fv.im.n fv.im.c, .slice fv.en.A fv.en.n fv.en.c] 76 := ⟨_, rfl⟩
  have hb := below_alloc (Below.refl w.heap.size w) O
  have hk : (w.alloc O).heap[w.heap.size]? = some (.cells #[.string fv.m, .slice fv.la.A fv.la.n fv.la.c, .slice fv.ro.A fv.ro.n fv.ro.c, .slice fv.ef.A fv.ef.n fv.ef.c, .slice fv.ty.A fv.ty.n fv.ty.c, .slice fv.im.A fv.im.n fv.im.c, .slice fv.en.A fv.en.n fv.en.c] 76 (0, 0)) := by rw [hO]; exact blk_new w _
  have HGR := Aside0.mk (great_calls (w.alloc O) fv F (HFI.out.below hb))
  rw [hO] at hb hk HGR
  have HB := Aside0.mk hb
  have HK := Aside0.mk hk
  clear hb hk hO hy
  clear hs
  rcases Nat.lt_or_ge 2000 s.size with h2 | h2
  · have hd : decide ((s.size : Int) > 2000) = true := decide_eq_true (by omega)
    go_enter Tryz.func4, Tryz.ntmps4
    go_wp2_with (go_at_call 23; (with_reducible refine (HLV.out _ HB.out).mono ?_); rintro e W' ⟨rfl, hb'⟩; have HBL := Aside0.mk (HB.out.trans (hb'.mono HB.out.size)); clear hb')
    go_ret
    exact ⟨rfl, HBL.out⟩
  have hd : decide ((s.size : Int) > 2000) = false := decide_eq_false (by omega)
  have q0 := blk_cell HK.out 0; have q1 := blk_cell HK.out 1; have q2 := blk_cell HK.out 2; have q3 := blk_cell HK.out 3; have q4 := blk_cell HK.out 4; have q5 := blk_cell HK.out 5; have q6 := blk_cell HK.out 6; simp at q0 q1 q2 q3 q4 q5 q6
  go_enter Tryz.func4, Tryz.ntmps4
  go_wp2_with fail
  refine HGR.out.mono ?_
  rintro e W1 ⟨⟨g, rfl⟩, hb⟩
  have HB1 := Aside0.mk (HB.out.trans (hb.mono HB.out.size))
  have HK1 := Aside0.mk (blk_below HK.out hb)
  clear hb q0 q1 q2 q3 q4 q5 q6
  cases g with
  | true =>
    go_wp2_with (go_at_call 23; (with_reducible refine (HLV.out _ HB1.out).mono ?_); rintro e W' ⟨rfl, hb'⟩; have HBL := Aside0.mk (HB1.out.trans (hb'.mono HB1.out.size)); clear hb')
    go_ret
    exact ⟨rfl, HBL.out⟩
  | false =>
    have q0 := blk_cell HK1.out 0; have q1 := blk_cell HK1.out 1; have q2 := blk_cell HK1.out 2; have q3 := blk_cell HK1.out 3; have q4 := blk_cell HK1.out 4; have q5 := blk_cell HK1.out 5; have q6 := blk_cell HK1.out 6; simp at q0 q1 q2 q3 q4 q5 q6
    have HIM : Aside0 (fv.im.n = F.imports.length) := ⟨by
      obtain ⟨xs, h1, _, h3, _⟩ := HFI.out.ok.im
      rw [h1, h3, List.length_map]⟩
    rcases Nat.lt_or_ge 16 fv.im.n with h3 | h3
    · have hd2 : decide ((fv.im.n : Int) > 16) = true := decide_eq_true (by omega)
      go_wp2_with (go_at_call 23; (with_reducible refine (HLV.out _ HB1.out).mono ?_); rintro e W' ⟨rfl, hb'⟩; have HBL := Aside0.mk (HB1.out.trans (hb'.mono HB1.out.size)); clear hb')
      go_ret
      exact ⟨rfl, HBL.out⟩
    have hd2 : decide ((fv.im.n : Int) > 16) = false := decide_eq_false (by omega)
    obtain ⟨toks, hto⟩ : ∃ t, t = (ofW s.data.toList).1 := ⟨_, rfl⟩
    obtain ⟨line, hli⟩ : ∃ t, t = (ofW s.data.toList).2.1 := ⟨_, rfl⟩
    obtain ⟨col, hco⟩ : ∃ t, t = (ofW s.data.toList).2.2.1 := ⟨_, rfl⟩
    obtain ⟨er, her⟩ : ∃ t, t = (ofW s.data.toList).2.2.2 := ⟨_, rfl⟩
    have hof : ofW s.data.toList = (toks, line, col, er) := by rw [hto, hli, hco, her]
    have HOF := Aside0.mk hof
    have HSZ := Aside0.mk h2
    have HI16 : Aside0 (F.imports.length ≤ 16) := ⟨by rw [← HIM.out]; exact h3⟩
    clear hof hto hli hco her h2 h3
    go_wp2_with fail
    refine (type_calls W1 s fv F ⟨HFI.out.ok.below HB1.out⟩ (tabs_below HT.out HB1.out) HOF.out (by have := HSZ.out; omega)).mono ?_
    rintro e W2 ⟨⟨A, l, ok, rfl, hC, hok, hl⟩, hb⟩
    have HB2 := Aside0.mk (HB1.out.trans (hb.mono HB1.out.size))
    have HOK := Aside0.mk hok
    clear hb hok q0 q1 q2 q3 q4 q5 q6
    cases ok with
    | false =>
      clear hl
      go_wp2_with (go_at_call 23; (with_reducible refine (HLV.out _ HB2.out).mono ?_); rintro e W' ⟨rfl, hb'⟩; have HBL := Aside0.mk (HB2.out.trans (hb'.mono HB2.out.size)); clear hb')
      go_ret
      exact ⟨rfl, HBL.out⟩
    | true =>
      have hk3 : er = 0 ∧ typeOk F (toks.map wordV) = true := by
        have := HOK.out.symm
        simpa using this
      obtain ⟨rfl, hty⟩ := hk3
      have hl := hl rfl
      have hlaw : 1 ≤ l.length ∧ l.length ≤ 128 ∧ ((checkB l = 0 ∧ endB l 0 = l.length) ∨ (checkB l = 3 ∧ 16 < l.length)) := by
        unfold typeOk at hty
        split at hty
        · rename_i a s' hs'
          have : l = a := by rw [hl]; unfold nodesOf; simp only [hs']
          rw [this]
          exact may_law F HI16.out _ (nw_of HOF.out) (toks_of HOF.out).small a s' hs'
        · cases hty
      obtain ⟨h5, h6, h7⟩ := hlaw
      have HC := Aside0.mk hC
      obtain ⟨L, hL⟩ : ∃ L, L = l.length := ⟨_, rfl⟩
      have HLA := Aside0.mk hL
      rw [← hL] at h5 h6 h7 ⊢
      have p1 : decide ((L : Int) > 0) = true := decide_eq_true (by omega)
      have p1' : decide (0 < L) = true := decide_eq_true (by omega)
      have p2 : decide ((L : Int) ≤ 128) = true := decide_eq_true (by omega)
      have p2' : decide (L ≤ 128) = true := decide_eq_true (by omega)
      have HCK : Aside0 (∀ q, checkB l = q → ∀ W, Below W2.heap.size W2 W → Calls Tryz.prog 25 #[.slice A L L] W fun e w' => e = .returned (.int .i64 q) ∧ Below W.heap.size W w') := ⟨fun q hq W hb => by rw [← hq, HLA.out]; exact check_calls W A _ l (Kd.C_below HC.out hb)⟩
      have HEN : Aside0 (∀ q, endB l 0 = q → ∀ W, Below W2.heap.size W2 W → Calls Tryz.prog 26 #[.slice A L L, .int .i64 0] W fun e w' => e = .returned (.int .i64 q) ∧ Below W.heap.size W w') := ⟨fun q hq W hb => by rw [← hq, HLA.out]; exact end_calls W A _ l 0 (Kd.C_below HC.out hb)⟩
      clear hty hl hC hL h5 h6
      rcases h7 with ⟨h8, h9⟩ | ⟨h8, h9⟩
      · have HC1 := Aside0.mk (HCK.out _ h8)
        have HE1 := Aside0.mk (HEN.out _ h9)
        clear h8 h9
        go_wp2_with (first | (go_at_call 25; (with_reducible refine (HC1.out _ (Below.refl _ _)).mono ?_); rintro e W3 ⟨rfl, hb3⟩; have HB3 := Aside0.mk hb3; clear hb3) | (go_at_call 26; (with_reducible refine (HE1.out _ HB3.out).mono ?_); rintro e W4 ⟨rfl, hb4⟩; have HB4 := Aside0.mk (HB2.out.trans ((HB3.out.trans (hb4.mono HB3.out.size)).mono HB2.out.size)); clear hb4) | (go_at_call 23; (with_reducible refine (HLV.out _ HB4.out).mono ?_); rintro e W' ⟨rfl, hb'⟩; have HBL := Aside0.mk (HB4.out.trans (hb'.mono HB4.out.size)); clear hb'))
        go_ret
        exact ⟨rfl, HBL.out⟩
      · have HC1 := Aside0.mk (HCK.out _ h8)
        have p3 : decide ((L : Int) > 16) = true := decide_eq_true (by omega)
        have p3' : decide (16 < L) = true := decide_eq_true (by omega)
        clear h8 h9
        go_wp2_with (first | (go_at_call 25; (with_reducible refine (HC1.out _ (Below.refl _ _)).mono ?_); rintro e W3 ⟨rfl, hb3⟩; have HB4 := Aside0.mk (HB2.out.trans (hb3.mono HB2.out.size)); clear hb3) | (go_at_call 23; (with_reducible refine (HLV.out _ HB4.out).mono ?_); rintro e W' ⟨rfl, hb'⟩; have HBL := Aside0.mk (HB4.out.trans (hb'.mono HB4.out.size)); clear hb'))
        go_ret
        exact ⟨rfl, HBL.out⟩
end Tr
end Go.Proofs.YtdecijmncpbheaaGreatDoor
