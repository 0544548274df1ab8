/- Several texts as one: TrL, TrN. -/
import Derived.Test.YtdecijmncpbheaaGreatDoorMTo
import Derived.Test.YtdecijmncpbheaaGreatDoorTrG
import Derived.Test.YtdecijmncpbheaaGreatDoorMTk
import Derived.Test.YtdecijmncpbheaaGreatDoorMTp

namespace Go.Proofs.YtdecijmncpbheaaGreatDoor
open Go.RowKit Go.Proofs.YtdecijmncpbheaaGreatDoorW.PrintWords Go.Proofs.YtdecijmncpbheaaGreatDoorW.PrintLast Go.Proofs.YtdecijmncpbheaaGreatDoorW.PrintMore
set_option linter.unusedVariables false
set_option linter.unusedSimpArgs false
open Go.Shelf
namespace Tr
open Wd (gB_refl gB_trans gB_below gB_set ofW wordV RangesAt NumsAt)
open L20 (words_named tabs_below)
structure TyRes (w : World) (F : FI) (er : Int) (ws : List Wrd) (e : Ending) (w' : World) : Prop where
  ans : ∃ A l b, e = .returned (.tuple #[.slice A (List.length l) (List.length l), .bool b]) ∧ kNode.C w' A l.length l ∧ b = (er == 0 && typeOk F ws) ∧ (b = true → l = nodesOf F ws)
  below : Below w.heap.size w w'
set_option maxRecDepth 100000 in
set_option maxHeartbeats 4000000 in
theorem type_calls (w : World) (s : ByteArray) (fv : FV) (F : FI) (HF : Aside0 (FaceOk w fv F)) (HT : Aside0 (RangesAt w ∧ NumsAt w)) {toks : List Wd.Tok} {line col er : Int} (h : ofW s.data.toList = (toks, line, col, er)) (hsz : s.size ≤ 1048576) :
    Calls Tryz.prog 24 #[.string s, .agg #[.string fv.m, .slice fv.la.A fv.la.n fv.la.c, .slice fv.ro.A fv.ro.n fv.ro.c, .slice fv.ef.A fv.ef.n fv.ef.c, .slice fv.ty.A fv.ty.n fv.ty.c, .slice fv.im.A fv.im.n fv.im.c, .slice fv.en.A fv.en.n fv.en.c]] w (TyRes w F er (toks.map wordV)) := by
  have hlen : s.data.toList.length = s.size := Array.length_toList
  obtain ⟨O, hO⟩ : ∃ O : Obj, O = .cells #[.string fv.m, .slice fv.la.A fv.la.n fv.la.c, .slice fv.ro.A fv.ro.n fv.ro.c, .slice fv.ef.A fv.ef.n fv.ef.c, .slice fv.ty.A fv.ty.n fv.ty.c, .slice fv.im.A fv.im.n fv.im.c, .slice fv.en.A fv.en.n fv.en.c] 76 := ⟨_, rfl⟩
  have hb := below_alloc (Below.refl w.heap.size w) O
  have hk : (w.alloc O).heap[w.heap.size]? = some (.cells #[.string fv.m, .slice fv.la.A fv.la.n fv.la.c, .slice fv.ro.A fv.ro.n fv.ro.c, .slice fv.ef.A fv.ef.n fv.ef.c, .slice fv.ty.A fv.ty.n fv.ty.c, .slice fv.im.A fv.im.n fv.im.c, .slice fv.en.A fv.en.n fv.en.c] 76 (0, 0)) := by rw [hO]; exact blk_new w _
  obtain ⟨n, hn⟩ : ∃ n, n = toks.length := ⟨_, rfl⟩
  obtain ⟨ws, hws⟩ : ∃ l, l = toks.map wordV := ⟨_, rfl⟩
  have hW := words_named (w.alloc O) s (tabs_below HT.out hb) h hn hws
  rw [hO] at hb hk hW
  have HW := Aside0.mk hW
  have HB := Aside0.mk hb
  have HK := Aside0.mk hk
  have HO := Aside0.mk hO
  have HX := Aside0.mk (And.intro h (And.intro hlen (And.intro hsz (And.intro hn hws))))
  rw [← hws]
  clear hW hb hk hO h hlen hsz hn hws
  go_enter Tryz.func24, Tryz.ntmps24
  go_wp2_with fail
  refine HW.out.mono ?_
  rintro e W1 ⟨A, c, rfl, hr, hb1⟩
  have HB1 := Aside0.mk (HB.out.trans (hb1.mono HB.out.size))
  have HK1 := Aside0.mk (blk_below HK.out hb1)
  have HR1 := Aside0.mk hr
  clear hr hb1 HB HK
  have HB2 := Aside0.mk (below_alloc HB1.out (.cells #[.int .i64 line, .int .i64 col] 127))
  have HK2 := Aside0.mk (blk_alloc HK1.out (.cells #[.int .i64 line, .int .i64 col] 127))
  by_cases hz : er = 0
  · have HZ := Aside0.mk hz
    have hT : Toks s.data.toList ws := by
      have h := HX.out.1
      rw [hz] at h
      rw [HX.out.2.2.2.2]
      exact toks_of h
    have hC := Kd.R_reads HR1.out
    obtain ⟨A', c', e1, hle, hC⟩ := hC
    injection e1 with e1 e2 e3
    subst e1 e3
    have hC2 := Kd.C_below hC (below_alloc (Below.refl _ _) (.cells #[.int .i64 line, .int .i64 col] 127))
    have hof := of_calls (W1.alloc (.cells #[.int .i64 line, .int .i64 col] 127)) A c ws fv F hC2 (by omega) ⟨HF.out.below HB2.out⟩ ⟨HT.out.2.below HB2.out⟩ hT.small (by have := hT.len; have := HX.out.2.1; have := HX.out.2.2.1; omega) (ofP_nb F hT.num)
    rw [← e2] at hof
    obtain ⟨R, hR⟩ : ∃ R, R = ofP F ws := ⟨_, rfl⟩
    rw [← hR] at hof
    have HOF := Aside0.mk hof
    have HR := Aside0.mk hR
    subst hz
    clear hT hC e2 hC2 hof hR hle
    have q0 := blk_cell HK2.out 0
    have q1 := blk_cell HK2.out 1
    have q2 := blk_cell HK2.out 2
    have q3 := blk_cell HK2.out 3
    have q4 := blk_cell HK2.out 4
    have q5 := blk_cell HK2.out 5
    have q6 := blk_cell HK2.out 6
    simp at q0 q1 q2 q3 q4 q5 q6
    go_wp2_with fail
    refine HOF.out.mono ?_
    intro e W2 hres
    clear q0 q1 q2 q3 q4 q5 q6
    cases hRR : R with
    | bad =>
      rw [hRR] at hres
      exact hres.elim
    | err k l2 c2 =>
      rw [hRR] at hres
      obtain ⟨rfl, hb⟩ := hres
      have hk0 : k ≠ 0 := (PG_ne F 32).1 ⟨ws, 1, 1, 0⟩ k l2 c2 (show ofP F ws = _ by rw [← HR.out]; exact hRR)
      have hd : ((k : Int) == 0) = false := by simpa using hk0
      have HTY : Aside0 (typeOk F ws = false) := ⟨by unfold typeOk; rw [← HR.out, hRR]⟩
      have HB3 := Aside0.mk (HB2.out.trans (hb.mono HB2.out.size))
      clear hRR hk0 hb HOF
      go_wp2
      go_quiet (fail)
      all_goals (
        go_wp2
        go_ret2
        refine ⟨⟨none, [], false, rfl, Kd.C_nil _ _, by rw [HTY.out]; rfl, fun h => by cases h⟩, ?_⟩
        exact pw_below_drewN (below_alloc HB3.out _) _)
    | ok a s' =>
      rw [hRR] at hres
      obtain ⟨⟨A1, A2, rfl, hC1, hC2⟩, hb⟩ := hres
      have HB3 := Aside0.mk (HB2.out.trans (hb.mono HB2.out.size))
      have HRO := Aside0.mk (HR.out.symm.trans hRR)
      have HCC := Aside0.mk hC1
      have hC3 := Kd.C_below hC2 (below_alloc (Below.refl _ _) (.cells #[.int .i64 0, .int .i64 0] 127))
      have HC4 := Aside0.mk (Kd.C_below hC1 (below_alloc (Below.refl _ _) (.cells #[.int .i64 0, .int .i64 0] 127)).drew)
      obtain ⟨rs, l2, c2, nn⟩ := s'
      have HND : Aside0 (a = nodesOf F ws) := ⟨by unfold nodesOf; rw [HRO.out]⟩
      have HC5 : Aside0 (∀ k, kNode.C ((W2.alloc (.cells #[.int .i64 0, .int .i64 0] 127)).drewN k) A1 a.length a) := ⟨fun k => Kd.C_below HCC.out (pw_below_drewN (below_alloc (Below.refl _ _) _) k)⟩
      clear hRR hb HOF hC1 hC2
      rcases rs with _ | ⟨x, _ | ⟨y, r⟩⟩
      · have HTY : Aside0 (typeOk F ws = false) := ⟨by unfold typeOk; rw [HRO.out]⟩
        have z1 : ((0 : Int) == 1) = false := by decide
        clear hC3
        go_wp2
        go_quiet (fail)
        go_wp2
        go_ret2
        exact ⟨⟨A1, a, false, rfl, HC5.out _, by rw [HTY.out]; rfl, fun h => by cases h⟩, pw_below_drewN (below_alloc HB3.out _) _⟩
      · obtain ⟨b, hb⟩ : ∃ b, b = (x.f0 == 3) := ⟨_, rfl⟩
        have HTY : Aside0 (typeOk F ws = b) := ⟨by unfold typeOk; rw [HRO.out, hb]⟩
        obtain ⟨ad, hA, x0, -, -, -⟩ := first hC3 (Below.refl _ _)
        subst hA
        have hb' := hb.symm
        clear hC3 hb
        have z1 : ((1 : Int) == 1) = true := by decide
        have z2 : ((0 : Int) == 0) = true := by decide
        go_wp2
        go_quiet (fail)
        go_wp2
        go_ret2
        exact ⟨⟨A1, a, b, rfl, HC5.out _, by rw [HTY.out]; rfl, fun h => HND.out⟩, pw_below_drewN (below_alloc HB3.out _) _⟩
      · have HTY : Aside0 (typeOk F ws = false) := ⟨by unfold typeOk; rw [HRO.out]⟩
        obtain ⟨N, hN⟩ : ∃ N, N = (x :: y :: r).length := ⟨_, rfl⟩
        have hN2 : 2 ≤ N := by rw [hN]; simp
        have z1 : ((N : Int) == 1) = false := by
          rw [beq_eq_false_iff_ne]
          omega
        simp only [← hN]
        clear hC3 hN
        go_wp2
        go_quiet (fail)
        go_wp2
        go_ret2
        exact ⟨⟨A1, a, false, rfl, HC5.out _, by rw [HTY.out]; rfl, fun h => by cases h⟩, pw_below_drewN (below_alloc HB3.out _) _⟩
  · have hd : ((er : Int) != 0) = true := by simpa using hz
    have HZ := Aside0.mk (show (er == 0) = false from by simpa using hz)
    clear hz
    go_wp2_with fail
    go_ret2
    exact ⟨⟨none, [], false, rfl, Kd.C_nil _ _, by rw [HZ.out]; rfl, fun h => by cases h⟩, HB2.out⟩
end Tr
end Go.Proofs.YtdecijmncpbheaaGreatDoor

namespace Go.Proofs.YtdecijmncpbheaaGreatDoor
open Go.RowKit Go.Proofs.YtdecijmncpbheaaGreatDoorW.PrintWords Go.Proofs.YtdecijmncpbheaaGreatDoorW.PrintLast Go.Proofs.YtdecijmncpbheaaGreatDoorW.PrintMore
set_option linter.unusedVariables false
set_option linter.unusedSimpArgs false
open Go.Shelf
namespace Tr
open Wd (gB_refl gB_trans gB_below gB_set ofW wordV RangesAt NumsAt)
open L20 (words_named tabs_below)
structure OneRes (w : World) (e : Ending) (w' : World) : Prop where
  ans : ∃ fv, e = .returned (.agg #[.string (FV.m fv), .slice fv.la.A fv.la.n fv.la.c, .slice fv.ro.A fv.ro.n fv.ro.c, .slice fv.ef.A fv.ef.n fv.ef.c, .slice fv.ty.A fv.ty.n fv.ty.c, .slice fv.im.A fv.im.n fv.im.c, .slice fv.en.A fv.en.n fv.en.c]) ∧ FaceOk w' fv oneF
  below : Below w.heap.size w w'
theorem nodeN {w : World} {A : Option Addr} {xs : List Nd} (h : Kd.C kNode w A xs.length xs) (j : Nat) (hj : j < xs.length) : ∃ ad, A = some ad ∧
    w.cell? (ad.add (j * 10)) = some (.int .u8 xs[j].f0) ∧ w.cell? ⟨(ad.add (j * 10)).block, (ad.add (j * 10)).off + 1, none⟩ = some (.int .i64 xs[j].f1) ∧ w.cell? ⟨(ad.add (j * 10)).block, (ad.add (j * 10)).off + 2, none⟩ = some (.string xs[j].f2) ∧
    w.cell? ⟨(ad.add (j * 10)).block, (ad.add (j * 10)).off + 3, none⟩ = some (.int .i64 xs[j].f3) ∧ w.cell? ⟨(ad.add (j * 10)).block, (ad.add (j * 10)).off + 4, none⟩ = some (.bool xs[j].f4.f0) ∧ w.cell? ⟨(ad.add (j * 10)).block, (ad.add (j * 10)).off + 5, none⟩ = some (.int .u64 xs[j].f4.f1) ∧
    w.cell? ⟨(ad.add (j * 10)).block, (ad.add (j * 10)).off + 6, none⟩ = some (.bool xs[j].f5.f0) ∧ w.cell? ⟨(ad.add (j * 10)).block, (ad.add (j * 10)).off + 7, none⟩ = some (.int .u64 xs[j].f5.f1) ∧ w.cell? ⟨(ad.add (j * 10)).block, (ad.add (j * 10)).off + 8, none⟩ = some (.bool xs[j].f6.f0) ∧ w.cell? ⟨(ad.add (j * 10)).block, (ad.add (j * 10)).off + 9, none⟩ = some (.int .u64 xs[j].f6.f1) := by
  obtain ⟨ad, e, hc⟩ := at_T119 h (j : Int) (by omega) (by omega)
  refine ⟨ad, e, ?_⟩
  have e2 : rd_T119 xs (j : Int) = xs[j] := by
    rw [rd_T119, Int.toNat_natCast, List.getD_eq_getElem?_getD, List.getElem?_eq_getElem hj]
    rfl
  rw [e2, Int.toNat_natCast] at hc
  exact hc
theorem one_world (w : World) (O0 O1 O2 O3 O4 O5 O6 O7 : Obj) (h1 : O1 = .cells #[.string ⟨#[97]⟩, .string ⟨#[98]⟩] 9) (h3 : O3 = .cells #[.string ⟨#[105, 111]⟩] 9) :
    (((((((((w.alloc O0).alloc O1).alloc O2).alloc O3).alloc O4).alloc O5).alloc O6).alloc O7)).heap[w.heap.size]? = ((w.alloc O0).heap[w.heap.size]?) ∧ Kd.string.C (((((((((w.alloc O0).alloc O1).alloc O2).alloc O3).alloc O4).alloc O5).alloc O6).alloc O7)) (some ⟨w.heap.size + 1, 0, none⟩) 2 [⟨#[97]⟩, ⟨#[98]⟩] ∧ Kd.string.C (((((((((w.alloc O0).alloc O1).alloc O2).alloc O3).alloc O4).alloc O5).alloc O6).alloc O7)) (some ⟨w.heap.size + 1 + 1 + 1, 0, none⟩) 1 [⟨#[105, 111]⟩] ∧ Below w.heap.size w (((((((((w.alloc O0).alloc O1).alloc O2).alloc O3).alloc O4).alloc O5).alloc O6).alloc O7)) := by
  have hb : ∀ W : World, Below W.heap.size W (((((W.alloc O3).alloc O4).alloc O5).alloc O6).alloc O7) := fun W => below_alloc (below_alloc (below_alloc (below_alloc (below_alloc (Below.refl _ _) _) _) _) _) _
  have hb2 : ∀ W : World, Below W.heap.size W (((((W.alloc O2).alloc O3).alloc O4).alloc O5).alloc O6 |>.alloc O7) := fun W => below_alloc (below_alloc (below_alloc (below_alloc (below_alloc (below_alloc (Below.refl _ _) _) _) _) _) _) _
  have hb3 : ∀ W : World, Below W.heap.size W ((((W.alloc O4).alloc O5).alloc O6).alloc O7) := fun W => below_alloc (below_alloc (below_alloc (below_alloc (Below.refl _ _) _) _) _) _
  refine ⟨?_, ?_, ?_, ?_⟩
  · have := (below_alloc (hb2 ((w.alloc O0).alloc O1)) O7)
    have h := hb2 ((w.alloc O0).alloc O1)
    rw [h.block w.heap.size (by rw [World.size_alloc, World.size_alloc]; omega)]
    exact (below_alloc (Below.refl (w.alloc O0).heap.size (w.alloc O0)) O1).block w.heap.size (by rw [World.size_alloc]; omega)
  · have := C_lit (fun x : ByteArray => Value.string x) (fun _ => rfl) (w.alloc O0) [⟨#[97]⟩, ⟨#[98]⟩] 9 (by simp)
    rw [World.size_alloc] at this
    have := Kd.C_below (d := Kd.string) this (hb2 _)
    rw [h1]
    exact this
  · have := C_lit (fun x : ByteArray => Value.string x) (fun _ => rfl) (((w.alloc O0).alloc O1).alloc O2) [⟨#[105, 111]⟩] 9 (by simp)
    rw [World.size_alloc, World.size_alloc, World.size_alloc] at this
    have := Kd.C_below (d := Kd.string) this (hb3 _)
    rw [h3]
    exact this
  · exact below_alloc (below_alloc (below_alloc (below_alloc (below_alloc (below_alloc (below_alloc (below_alloc (Below.refl _ _) _) _) _) _) _) _) _) _
set_option maxRecDepth 100000 in
set_option maxHeartbeats 4000000 in
theorem one_calls (w : World) : Calls Tryz.prog 98 #[] w (OneRes w) := by
  go_enter Tryz.func98, Tryz.ntmps98
  go_wp2
  refine bodyPost_ret (v := .agg #[.string ⟨#[109]⟩, .slice (some ⟨w.heap.size + 1, 0, none⟩) 2 2, .slice (some ⟨w.heap.size + 1 + 1, 0, none⟩) 2 2, .slice (some ⟨w.heap.size + 1 + 1 + 1, 0, none⟩) 1 1, .slice (some ⟨w.heap.size + 1 + 1 + 1 + 1, 0, none⟩) 1 1, .slice none 0 0, .slice (some ⟨w.heap.size + 1 + 1 + 1 + 1 + 1 + 1 + 1, 0, none⟩) 1 1]) (by simp [results, Tryz.f98, go_sem]) rfl ?_
  refine ⟨⟨⟨⟨#[109]⟩, ⟨some ⟨w.heap.size + 1, 0, none⟩, 2, 2⟩, ⟨some ⟨w.heap.size + 1 + 1, 0, none⟩, 2, 2⟩, ⟨some ⟨w.heap.size + 1 + 1 + 1, 0, none⟩, 1, 1⟩, ⟨some ⟨w.heap.size + 1 + 1 + 1 + 1, 0, none⟩, 1, 1⟩, ⟨none, 0, 0⟩, ⟨some ⟨w.heap.size + 1 + 1 + 1 + 1 + 1 + 1 + 1, 0, none⟩, 1, 1⟩⟩, rfl, ⟨⟨rfl, ?_⟩, ⟨rfl, ?_⟩, [], rfl, C_none _ _ _, rfl, by decide⟩⟩, ?_⟩
  · exact (one_world w _ _ _ _ _ _ _ _ rfl rfl).2.1
  · exact (one_world w _ _ _ _ _ _ _ _ rfl rfl).2.2.1
  · exact (one_world w _ _ _ _ _ _ _ _ rfl rfl).2.2.2
theorem see_at {l : List Nd} (h : see l = (6, 5, 1, 2, 4)) : l.length = 6 ∧ ∀ (h6 : l.length = 6), l[0].f0 = 5 ∧ l[0].f6.f1 = 1 ∧ l[2].f3 = 2 ∧ l[4].f0 = 4 := by
  simp only [see, Prod.mk.injEq] at h
  obtain ⟨h0, h1, h2, h3, h4⟩ := h
  refine ⟨h0, fun h6 => ?_⟩
  rw [List.getD_eq_getElem?_getD, List.getElem?_eq_getElem (by omega)] at h1 h2 h3 h4
  exact ⟨h1, h2, h3, h4⟩
theorem tex1 : (⟨#[105, 110, 116, 64, 37, 48, 32, 45, 91, 97, 44, 32, 98, 44, 32, 60, 105, 111, 62, 93, 62, 32, 40, 105, 110, 116, 64, 97, 44, 32, 114, 101, 102, 64, 98, 32, 117, 110, 105, 116, 64, 97, 41, 64, 98]⟩ : ByteArray).data.toList = tx1 := rfl
theorem tex2 : (⟨#[105, 110, 116, 64, 99]⟩ : ByteArray).data.toList = tx2 := rfl
set_option maxRecDepth 100000 in
set_option maxHeartbeats 4000000 in
theorem lives_calls (w : World) (HT : Aside0 (RangesAt w ∧ NumsAt w)) : Calls Tryz.prog 23 #[] w fun e w' => e = .returned (.bool true) ∧ Below w.heap.size w w' := by
  go_enter Tryz.func23, Tryz.ntmps23
  go_wp2_with fail
  refine (one_calls w).mono ?_
  rintro e W1 ⟨⟨fv, rfl, hF⟩, hb1⟩
  have HB1 := Aside0.mk hb1
  have HF1 := Aside0.mk hF
  clear hb1 hF
  go_wp2_with fail
  refine (type_calls W1 _ fv oneF HF1 (tabs_below HT.out HB1.out) (toks := toks1) (line := 1) (col := 46) (er := 0) (h := (congrArg ofW tex1).trans of_tx1) (by decide)).mono ?_
  rintro e W2 ⟨⟨A, l, bb, rfl, hC, hok, hl⟩, hb2⟩
  have HB2 := Aside0.mk (HB1.out.trans (hb2.mono HB1.out.size))
  have hbt : bb = true := by rw [hok, ok1]; rfl
  have hsee := see1
  rw [← hl hbt] at hsee
  obtain ⟨h6, hat⟩ := see_at hsee
  subst hbt
  have HC := Aside0.mk hC
  have HA := Aside0.mk (And.intro h6 hat)
  clear hok hl hb2 hsee hC hat
  go_wp2_with fail
  refine (one_calls W2).mono ?_
  rintro e W3 ⟨⟨fv3, rfl, hF⟩, hb3⟩
  have HB3 := Aside0.mk (HB2.out.trans (hb3.mono HB2.out.size))
  have HF3 := Aside0.mk hF
  have HC3 := Aside0.mk (Kd.C_below HC.out hb3)
  clear hb3 hF HC
  go_wp2_with fail
  refine (type_calls W3 _ fv3 oneF HF3 (tabs_below HT.out HB3.out) (toks := toks2) (line := 1) (col := 6) (er := 0) (h := (congrArg ofW tex2).trans of_tx2) (by decide)).mono ?_
  rintro e W4 ⟨⟨A4, l4, b4, rfl, _, hok, _⟩, hb4⟩
  have HB4 := Aside0.mk (HB3.out.trans (hb4.mono HB3.out.size))
  have hb : b4 = false := by rw [hok, ok2]; rfl
  subst hb
  have hC4 := Kd.C_below HC3.out hb4
  obtain ⟨ad, e0, a0, -, -, -, -, -, -, -, -, a9⟩ := nodeN hC4 0 (by rw [h6]; decide)
  obtain ⟨ad2, e2, -, -, -, b3, -⟩ := nodeN hC4 2 (by rw [h6]; decide)
  obtain ⟨ad4, e4, c0, -⟩ := nodeN hC4 4 (by rw [h6]; decide)
  obtain rfl := Option.some.inj (e0.symm.trans e2)
  obtain rfl := Option.some.inj (e0.symm.trans e4)
  subst e0
  rw [(HA.out.2 h6).1] at a0
  rw [(HA.out.2 h6).2.1] at a9
  rw [(HA.out.2 h6).2.2.1] at b3
  rw [(HA.out.2 h6).2.2.2] at c0
  simp only [h6]
  clear hC4 hb4 hok h6 e2 e4 HA
  have a0' : W4.cell? ad = some (.int .u8 5) := a0
  have a9' : W4.cell? ⟨ad.block, ad.off + 9, none⟩ = some (.int .u64 1) := a9
  have b3' : W4.cell? ⟨ad.block, ad.off + 20 + 3, none⟩ = some (.int .i64 2) := b3
  have c0' : W4.cell? ⟨ad.block, ad.off + 40, none⟩ = some (.int .u8 4) := c0
  clear a0 a9 b3 c0
  go_wp2
  go_ret
  exact ⟨rfl, HB4.out⟩
end Tr
end Go.Proofs.YtdecijmncpbheaaGreatDoor
