/- TreesBehind: whatever stands behind a type's words changes nothing of it. -/
import Derived.Test.YtdecijmncpbheaaDoorTrC
import Derived.Test.YtdecijmncpbheaaDoorTrB
import Derived.Test.YtdecijmncpbheaaDoorMF

namespace Go.Proofs.YtdecijmncpbheaaDoor
open Go.RowKit Go.Proofs.YtdecijmncpbheaaDoorW.PrintWords Go.Proofs.YtdecijmncpbheaaDoorW.PrintLast Go.Proofs.YtdecijmncpbheaaDoorW.PrintMore
set_option linter.unusedVariables false
set_option linter.unusedSimpArgs false
open Go.Shelf
namespace Tr
open Wd (gB_refl gB_trans gB_below gB_set ofW wordV RangesAt NumsAt)
open L20 (words_named tabs_below)
def semiW : Wrd := ⟨2, ⟨#[59]⟩, ⟨0, 0⟩⟩
set_option maxRecDepth 100000 in
set_option maxHeartbeats 4000000 in
theorem behind_walk (w : World) (HT : Aside0 (RangesAt w ∧ NumsAt w)) (s : ByteArray) (hs : s.size ≤ reachBytes) (MA : Option Addr) (mc : Nat) (ml : List Wrd) (hm : kWord.C w MA ml.length ml) (hmc : ml.length ≤ mc) (hmw : ∀ x ∈ ml, x.f1.size ≤ 281474976710656) (y : FaceY) (hy : y.ok w) :
    Calls Tryd.prog 3 #[.string s, .slice MA ml.length mc, y.v] w fun e w' => e = .returned (.bool true) ∧ Below w.heap.size w w' := by
  obtain ⟨M, hM⟩ : ∃ M, M = ml.length := ⟨_, rfl⟩
  have HM : Aside0 (M = ml.length ∧ M ≤ mc ∧ (∀ x ∈ ml, x.f1.size ≤ 281474976710656)) := ⟨hM, by omega, hmw⟩
  have HMC : Aside0 (∀ W, Below w.heap.size w W → kWord.C W MA M ml) := ⟨fun W hb => by rw [hM]; exact Kd.C_below hm hb⟩
  rw [← hM]
  clear hm hmc hmw hM
  obtain ⟨fv, F⟩ := y
  have HFI := Aside0.mk (show FaceIn w fv F from hy)
  show Calls Tryd.prog 3 #[.string s, .slice MA M mc, .agg #[.string fv.m, .slice fv.la.A fv.la.n fv.la.c, .slice fv.ro.A fv.ro.n fv.ro.c, .slice fv.ef.A fv.ef.n fv.ef.c, .slice fv.ty.A fv.ty.n fv.ty.c, .slice fv.im.A fv.im.n fv.im.c, .slice fv.en.A fv.en.n fv.en.c]] w _
  have HLV : Aside0 (∀ W, Below w.heap.size w W → Calls Tryd.prog 7 #[] W fun e w' => e = .returned (.bool true) ∧ Below W.heap.size W w') := ⟨fun W hb => lives_calls W (tabs_below HT.out hb)⟩
  obtain ⟨O, hO⟩ : ∃ O : Obj, O = .cells #[.string fv.m, .slice fv.la.A fv.la.n fv.la.c, .slice fv.ro.A fv.ro.n fv.ro.c, .slice fv.ef.A fv.ef.n fv.ef.c, .slice fv.ty.A fv.ty.n fv.ty.c, .slice fv.im.A fv.im.n fv.im.c, .slice fv.en.A fv.en.n fv.en.c] 28 := ⟨_, rfl⟩
  have hb := below_alloc (Below.refl w.heap.size w) O
  have hk : (w.alloc O).heap[w.heap.size]? = some (.cells #[.string fv.m, .slice fv.la.A fv.la.n fv.la.c, .slice fv.ro.A fv.ro.n fv.ro.c, .slice fv.ef.A fv.ef.n fv.ef.c, .slice fv.ty.A fv.ty.n fv.ty.c, .slice fv.im.A fv.im.n fv.im.c, .slice fv.en.A fv.en.n fv.en.c] 28 (0, 0)) := by rw [hO]; exact blk_new w _
  have HGR := Aside0.mk (great_calls (w.alloc O) fv F (HFI.out.below hb))
  rw [hO] at hb hk HGR
  have HB := Aside0.mk hb
  have HK := Aside0.mk hk
  clear hb hk hO hy
  clear hs
  rcases Nat.lt_or_ge 2000 s.size with h2 | h2
  · have hd : decide ((s.size : Int) > 2000) = true := decide_eq_true (by omega)
    go_enter Tryd.func3, Tryd.ntmps3
    go_wp2_with (go_at_call 7; (with_reducible refine (HLV.out _ HB.out).mono ?_); rintro e W' ⟨rfl, hb'⟩; have HBL := Aside0.mk (HB.out.trans (hb'.mono HB.out.size)); clear hb')
    go_ret
    exact ⟨rfl, HBL.out⟩
  have hd : decide ((s.size : Int) > 2000) = false := decide_eq_false (by omega)
  rcases Nat.lt_or_ge 200 M with h3 | h3
  · have hd2 : decide ((M : Int) > 200) = true := decide_eq_true (by omega)
    go_enter Tryd.func3, Tryd.ntmps3
    go_wp2_with (go_at_call 7; (with_reducible refine (HLV.out _ HB.out).mono ?_); rintro e W' ⟨rfl, hb'⟩; have HBL := Aside0.mk (HB.out.trans (hb'.mono HB.out.size)); clear hb')
    go_ret
    exact ⟨rfl, HBL.out⟩
  have hd2 : decide ((M : Int) > 200) = false := decide_eq_false (by omega)
  have q0 := blk_cell HK.out 0; have q1 := blk_cell HK.out 1; have q2 := blk_cell HK.out 2; have q3 := blk_cell HK.out 3; have q4 := blk_cell HK.out 4; have q5 := blk_cell HK.out 5; have q6 := blk_cell HK.out 6; simp at q0 q1 q2 q3 q4 q5 q6
  go_enter Tryd.func3, Tryd.ntmps3
  go_wp2_with fail
  refine HGR.out.mono ?_
  rintro e W1 ⟨⟨g, rfl⟩, hb⟩
  have HB1 := Aside0.mk (HB.out.trans (hb.mono HB.out.size))
  have HK1 := Aside0.mk (blk_below HK.out hb)
  clear hb q0 q1 q2 q3 q4 q5 q6
  cases g with
  | true =>
    go_wp2_with (go_at_call 7; (with_reducible refine (HLV.out _ HB1.out).mono ?_); rintro e W' ⟨rfl, hb'⟩; have HBL := Aside0.mk (HB1.out.trans (hb'.mono HB1.out.size)); clear hb')
    go_ret
    exact ⟨rfl, HBL.out⟩
  | false =>
    obtain ⟨toks, hto⟩ : ∃ t, t = (ofW s.data.toList).1 := ⟨_, rfl⟩
    obtain ⟨line, hli⟩ : ∃ t, t = (ofW s.data.toList).2.1 := ⟨_, rfl⟩
    obtain ⟨col, hco⟩ : ∃ t, t = (ofW s.data.toList).2.2.1 := ⟨_, rfl⟩
    obtain ⟨er, her⟩ : ∃ t, t = (ofW s.data.toList).2.2.2 := ⟨_, rfl⟩
    have hof : ofW s.data.toList = (toks, line, col, er) := by rw [hto, hli, hco, her]
    have HOF := Aside0.mk hof
    obtain ⟨n, hn⟩ : ∃ n, n = toks.length := ⟨_, rfl⟩
    obtain ⟨ws, hws⟩ : ∃ l, l = toks.map wordV := ⟨_, rfl⟩
    have HNW := Aside0.mk (And.intro hn hws)
    clear hof hto hli hco her
    go_wp2_with fail
    refine (words_named W1 s (tabs_below HT.out HB1.out) HOF.out hn hws).mono ?_
    rintro e W3 ⟨A3, c3, rfl, hr3, hb⟩
    have HB3 := Aside0.mk (HB1.out.trans (hb.mono HB1.out.size))
    have HK3 := Aside0.mk (blk_below HK1.out hb)
    have HR3 := Aside0.mk hr3
    clear hb hr3 hn hws
    have HB4 := Aside0.mk (below_alloc HB3.out (.cells #[.int .i64 line, .int .i64 col] 32))
    by_cases hz : er = 0
    rotate_left
    · have z1 : (er != 0) = true := by simpa using hz
      clear hz
      go_wp2_with (go_at_call 7; (with_reducible refine (HLV.out _ HB4.out).mono ?_); rintro e W' ⟨rfl, hb'⟩; have HBL := Aside0.mk (HB4.out.trans (hb'.mono HB4.out.size)); clear hb')
      go_ret
      exact ⟨rfl, HBL.out⟩
    subst hz
    have HTK : Aside0 (Toks s.data.toList ws) := ⟨by rw [HNW.out.2]; exact toks_of HOF.out⟩
    have hnl : n = ws.length := by rw [HNW.out.2, List.length_map]; exact HNW.out.1
    have hn1 : 1 ≤ n := by
      obtain ⟨p, e, h, _⟩ := HTK.out.last
      rw [hnl, h, List.length_append, List.length_singleton]
      omega
    have z2 : ((n : Int) == 0) = false := beq_eq_false_iff_ne.2 (by omega)
    have hsl : s.data.toList.length = s.size := Array.length_toList
    have hwl : ws.length ≤ 2001 := by have := HTK.out.len; omega
    have HWL : Aside0 (n = ws.length ∧ ws.length ≤ 2001) := ⟨hnl, hwl⟩
    obtain ⟨A', c', e1, hle, hC⟩ := Kd.R_reads HR3.out
    injection e1 with e1 e2 e3
    subst e1 e3
    have hC4 := Kd.C_below hC (below_alloc (Below.refl _ _) (.cells #[.int .i64 line, .int .i64 col] 32))
    obtain ⟨W4, hW4⟩ : ∃ W, W = W3.alloc (.cells #[.int .i64 line, .int .i64 col] 32) := ⟨_, rfl⟩
    have hk4 : W4.heap[w.heap.size]? = some (.cells #[.string fv.m, .slice fv.la.A fv.la.n fv.la.c, .slice fv.ro.A fv.ro.n fv.ro.c, .slice fv.ef.A fv.ef.n fv.ef.c, .slice fv.ty.A fv.ty.n fv.ty.c, .slice fv.im.A fv.im.n fv.im.c, .slice fv.en.A fv.en.n fv.en.c] 28 (0, 0)) := by rw [hW4]; exact blk_alloc HK3.out _
    rw [← hW4] at hC4 HB4
    have HK4 := Aside0.mk hk4
    have hof := of_calls W4 A3 c3 ws fv F hC4 (by omega) ⟨HFI.out.ok.below HB4.out⟩ ⟨HT.out.2.below HB4.out⟩ HTK.out.small (by omega) (ofP_nb F HTK.out.num)
    rw [← hnl] at hof hC4
    obtain ⟨R, hR⟩ : ∃ R, R = ofP F ws := ⟨_, rfl⟩
    rw [← hR] at hof
    have HOC := Aside0.mk hof
    have HR := Aside0.mk hR
    have HC4 := Aside0.mk hC4
    have hnc : n ≤ c3 := by omega
    have HW4 := Aside0.mk hW4
    clear hC e2 hC4 hof hR hle hnl hwl hsl hk4 hW4 hn1
    go_upto_region 6 with fail
    rw [← HW4.out]
    have q0 := blk_cell HK4.out 0; have q1 := blk_cell HK4.out 1; have q2 := blk_cell HK4.out 2; have q3 := blk_cell HK4.out 3; have q4 := blk_cell HK4.out 4; have q5 := blk_cell HK4.out 5; have q6 := blk_cell HK4.out 6; simp at q0 q1 q2 q3 q4 q5 q6
    go_wp2_with fail
    refine HOC.out.mono ?_
    intro e W5 hres
    clear q0 q1 q2 q3 q4 q5 q6
    cases hRR : R with
    | bad =>
      rw [hRR] at hres
      exact hres.elim
    | err k l2 c2 =>
      rw [hRR] at hres
      obtain ⟨rfl, hb⟩ := hres
      have hk0 : k ≠ 0 := (PG_ne F 32).1 ⟨ws, 1, 1, 0⟩ k l2 c2 (show ofP F ws = _ by rw [← HR.out]; exact hRR)
      have z3 : ((k : Int) != 0) = true := by simpa using hk0
      have HB5 := Aside0.mk (below_alloc (HB4.out.trans (hb.mono HB4.out.size)) (.cells #[.int .i64 l2, .int .i64 c2] 32))
      clear hRR hk0 hb HOC
      go_wp2_with (go_at_call 7; (with_reducible refine (HLV.out _ HB5.out).mono ?_); rintro e W' ⟨rfl, hb'⟩; have HBL := Aside0.mk (HB5.out.trans (hb'.mono HB5.out.size)); clear hb')
      go_ret
      exact ⟨rfl, HBL.out⟩
    | ok a s' =>
      rw [hRR] at hres
      obtain ⟨⟨A1, A2, rfl, hC1, hC2⟩, hb⟩ := hres
      obtain ⟨pre, hpre, hp1, hbeh⟩ := behind_law F ws a s' (HR.out.symm.trans hRR)
      obtain ⟨N, hN⟩ : ∃ N, N = pre.length := ⟨_, rfl⟩
      obtain ⟨K, hK⟩ : ∃ K, K = s'.ws.length := ⟨_, rfl⟩
      obtain ⟨L, hL⟩ : ∃ L, L = a.length := ⟨_, rfl⟩
      have HLA := Aside0.mk hL
      rw [← hL] at hC1
      have hNK : n = N + K := by rw [HWL.out.1, hpre, List.length_append, hN, hK]
      have HB5 := Aside0.mk (below_alloc (HB4.out.trans (hb.mono HB4.out.size)) (.cells #[.int .i64 0, .int .i64 0] 32))
      obtain ⟨W6, hW6⟩ : ∃ W, W = W5.alloc (.cells #[.int .i64 0, .int .i64 0] 32) := ⟨_, rfl⟩
      have hb6 : Below W4.heap.size W4 W6 := by rw [hW6]; exact below_alloc hb _
      have HCA := Aside0.mk (Kd.C_below hC1 (below_alloc (Below.refl _ _) (.cells #[.int .i64 0, .int .i64 0] 32)))
      rw [← hW6] at HB5 HCA
      have HCW : Aside0 (kWord.C W6 A3 N pre) := ⟨by
        have h := Kd.C_below HC4.out hb6
        rw [HWL.out.1] at h
        have e : pre = ws.take N := by rw [hpre, hN, List.take_left]
        rw [e]
        exact C_take h (by rw [hpre, List.length_append, hN]; omega)⟩
      have HK6 := Aside0.mk (blk_below HK4.out hb6)
      have HS : Aside0 (∀ W, Below W6.heap.size W6 W → Below w.heap.size w W) := ⟨fun W h => HB5.out.trans (h.mono HB5.out.size)⟩
      have HTS : Aside0 (∀ x ∈ pre ++ [semiW] ++ ml, x.f1.size ≤ 281474976710656) := ⟨fun x hx => by
        rcases List.mem_append.1 hx with hx | hx
        · rcases List.mem_append.1 hx with hx | hx
          · exact HTK.out.small x (by rw [hpre]; exact List.mem_append_left _ hx)
          · rw [List.mem_singleton.1 hx]; decide
        · exact HM.out.2.2 x hx⟩
      obtain ⟨l9, c9, hbe⟩ := hbeh (semiW :: ml) rfl
      have HBE : Aside0 (ofP F (pre ++ [semiW] ++ ml) = .ok a ⟨semiW :: ml, l9, c9, s'.n⟩) := ⟨by rw [List.append_assoc]; exact hbe⟩
      have HNP : Aside0 (pre.length = N ∧ (pre ++ [semiW]).length = N + 1 ∧ (pre ++ [semiW] ++ ml).length = N + 1 + M) := ⟨hN.symm, by rw [List.length_append, hN]; rfl, by rw [List.length_append, List.length_append, ← hN, ← HM.out.1]; rfl⟩
      have HN0 : Aside0 (([] ++ pre : List Wrd).length = N) := ⟨by rw [List.nil_append]; exact hN.symm⟩
      have HNL : Aside0 (N ≤ 2001 ∧ M ≤ 200) := ⟨by have := HWL.out.2; rw [hpre, List.length_append] at this; omega, h3⟩
      have hw1 : IntKind.i64.wrap ((n : Int) - (K : Int)) = (N : Int) := by have := HWL.out; rw [IntKind.wrap_i64]; omega
      have hnN : N ≤ c3 := by omega
      have hn2 : N ≤ n := by omega
      have HW6 := Aside0.mk hW6
      rw [← hL, ← hK]
      clear hRR hb HOC hC1 hC2 hpre hp1 hbeh hNK hb6 hbe hK hN hL hW6
      go_upto_region 9 with fail
      rw [← HW6.out]
      go_wp2_with (first | (at_builtin; refine wpList_append_R rfl kWord W6.heap.size (.const (.slice none 0 0)) (.tmp 72) 22 22 41 41 (.agg #[.int .u8 0, .string ⟨#[]⟩, .int .i64 0, .int .i64 0]) 40 rfl (by kernel_rfl) (by kernel_rfl) Wd.infoW rfl (by decide) (by decide) (.slice none 0 0) [] pre A3 N c3 (fun _ => True) (fun _ => False) rfl rfl (Kd.R_nil _ _ _ _ _) HCW.out (fun x cs h => Wd.wordM h) (fun _ h => h.elim) (fun _ _ => trivial) (Nat.le_refl _) (by have := HNL.out.1; rw [List.length_nil]; omega) ?_; intro v1 w1 HO1 hg1 hat; obtain ⟨A5, c5, rfl⟩ := Kd.R_slice HO1; rw [HN0.out] at HO1 ⊢; rw [List.nil_append] at HO1; have HBW1 := Aside0.mk ((Below.refl W6.heap.size W6).grown hg1 (Nat.le_refl _) (fun k hk => by cases hk)); have HBS1 := Aside0.mk (below_alloc HBW1.out (.cells #[.int .u8 2, .string ⟨#[59]⟩, .int .i64 0, .int .i64 0] 41)); have HO2 := Aside0.mk (Kd.R_below HO1 (below_alloc (Below.refl _ _) (.cells #[.int .u8 2, .string ⟨#[59]⟩, .int .i64 0, .int .i64 0] 41))); have HSE := Aside0.mk (Wd.word_C w1 semiW); clear HO1 hg1 hat) | (at_builtin; refine wpList_append_R rfl kWord W6.heap.size (.tmp 73) (.tmp 75) 22 22 41 41 (.agg #[.int .u8 0, .string ⟨#[]⟩, .int .i64 0, .int .i64 0]) 40 rfl (by kernel_rfl) (by kernel_rfl) Wd.infoW rfl (by decide) (by decide) (.slice A5 N c5) pre [semiW] (some ⟨w1.heap.size, 0, none⟩) 1 1 (fun _ => True) (fun _ => False) rfl rfl HO2.out HSE.out (fun x cs h => Wd.wordM h) (fun _ h => h.elim) (fun _ _ => trivial) HBS1.out.size (by have := HNL.out.1; rw [HNP.out.1]; omega) ?_; intro v2 w2 HO3 hg2 hat; obtain ⟨A6, c6, rfl⟩ := Kd.R_slice HO3; rw [HNP.out.2.1] at HO3 ⊢; have HBW2 := Aside0.mk (HBS1.out.grown hg2 HBS1.out.size (fun k hk => ((Kd.R_bound HO2.out).1 k hk).2.1)); have HO4 := Aside0.mk HO3; have HMW := Aside0.mk (HMC.out _ (HS.out _ HBW2.out)); clear HO3 hg2 hat) | (at_builtin; refine wpList_append_R rfl kWord W6.heap.size (.tmp 77) (.tmp 78) 22 22 41 41 (.agg #[.int .u8 0, .string ⟨#[]⟩, .int .i64 0, .int .i64 0]) 40 rfl (by kernel_rfl) (by kernel_rfl) Wd.infoW rfl (by decide) (by decide) (.slice A6 (N + 1) c6) (pre ++ [semiW]) ml MA M mc (fun _ => True) (fun _ => False) rfl rfl HO4.out HMW.out (fun x cs h => Wd.wordM h) (fun _ h => h.elim) (fun _ _ => trivial) HBW2.out.size (by have := HNL.out; rw [HNP.out.2.1]; omega) ?_; intro v3 w3 HO5 hg3 hat; obtain ⟨A7, c7, rfl⟩ := Kd.R_slice HO5; rw [HNP.out.2.2] at HO5 ⊢; have HBW3 := Aside0.mk (HBW2.out.grown hg3 HBW2.out.size (fun k hk => ((Kd.R_bound HO4.out).1 k hk).2.1)); have HO6 := Aside0.mk HO5; have HKW := Aside0.mk (blk_below HK6.out HBW3.out); have q0 := blk_cell HKW.out 0; have q1 := blk_cell HKW.out 1; have q2 := blk_cell HKW.out 2; have q3 := blk_cell HKW.out 3; have q4 := blk_cell HKW.out 4; have q5 := blk_cell HKW.out 5; have q6 := blk_cell HKW.out 6; simp at q0 q1 q2 q3 q4 q5 q6; clear HO5 hg3 hat))
      obtain ⟨A', c', e1, hle, hC⟩ := Kd.R_reads HO6.out
      injection e1 with e1 e2 e3
      subst e1 e3
      have hof := of_calls w3 A7 c7 _ fv F hC hle ⟨HFI.out.ok.below (HS.out _ HBW3.out)⟩ ⟨HT.out.2.below (HS.out _ HBW3.out)⟩ HTS.out (by rw [HNP.out.2.2]; have := HNL.out; omega) (by rw [HBE.out]; intro h; cases h)
      rw [HNP.out.2.2, HBE.out] at hof
      have HOC := Aside0.mk hof
      clear hC hle e2 hof
      refine HOC.out.mono ?_
      rintro e W7 ⟨⟨B1, B2, rfl, hC1, -⟩, hb⟩
      clear q0 q1 q2 q3 q4 q5 q6
      have hb7 := below_alloc (HBW3.out.trans (hb.mono HBW3.out.size)) (.cells #[.int .i64 0, .int .i64 0] 32)
      have HB7 := Aside0.mk (HS.out _ hb7)
      have HSN : Aside0 (Calls Tryd.prog 10 #[.slice A1 L L, .slice B1 L L] (W7.alloc (.cells #[.int .i64 0, .int .i64 0] 32)) fun e w' => e = .returned (.bool true) ∧ Below (W7.alloc (.cells #[.int .i64 0, .int .i64 0] 32)).heap.size (W7.alloc (.cells #[.int .i64 0, .int .i64 0] 32)) w') := ⟨by
        have h1 := Kd.C_below HCA.out hb7
        have h2 := Kd.C_below hC1 (below_alloc (Below.refl _ _) (.cells #[.int .i64 0, .int .i64 0] 32))
        rw [HLA.out] at h1 ⊢
        exact sameNodes_calls _ A1 B1 _ _ a h1 h2⟩
      obtain ⟨M1, hM1⟩ : ∃ m, m = (semiW :: ml).length := ⟨_, rfl⟩
      have hM2 : M1 = M + 1 := by rw [hM1, List.length_cons, ← HM.out.1]
      have hw2 : IntKind.i64.wrap ((M : Int) + 1) = (M1 : Int) := by have := HNL.out.2; rw [IntKind.wrap_i64]; omega
      rw [← HLA.out, ← hM1]
      clear hb hb7 hC1 hM1 hM2
      go_wp2_with (first | (go_at_call 10; (with_reducible refine HSN.out.mono ?_); rintro e W8 ⟨rfl, hb⟩; have HB8 := Aside0.mk (HB7.out.trans (hb.mono HB7.out.size)); clear hb) | (go_at_call 7; (with_reducible refine (HLV.out _ HB8.out).mono ?_); rintro e W' ⟨rfl, hb'⟩; have HBL := Aside0.mk (HB8.out.trans (hb'.mono HB8.out.size)); clear hb'))
      go_ret
      exact ⟨rfl, HBL.out⟩
end Tr
end Go.Proofs.YtdecijmncpbheaaDoor
