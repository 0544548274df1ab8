/- TreesHeld: braces around a type change nothing of it. -/
import Derived.Test.YtdecijmncpbheaaDoorTrC
import Derived.Test.YtdecijmncpbheaaDoorTrB

namespace Go.Proofs.YtdecijmncpbheaaDoor
open Go.RowKit Go.Proofs.YtdecijmncpbheaaDoorW.PrintWords Go.Proofs.YtdecijmncpbheaaDoorW.PrintLast Go.Proofs.YtdecijmncpbheaaDoorW.PrintMore
set_option linter.unusedVariables false
set_option linter.unusedSimpArgs false
open Go.Shelf
namespace Tr
open Wd (gB_refl gB_trans gB_below gB_set ofW wordV RangesAt NumsAt)
open L20 (words_named tabs_below)
def wrapS : Nat → ByteArray → ByteArray
  | 0, s => s
  | k + 1, s => ⟨#[123]⟩ ++ wrapS k s ++ ⟨#[10, 125]⟩
theorem wrapS_list (s : ByteArray) : ∀ k, (wrapS k s).data.toList = wrapT k s.data.toList
  | 0 => rfl
  | k + 1 => by
    have ih := wrapS_list s k
    simp only [wrapS, wrapT, ByteArray.data_append, Array.toList_append, ih]
    rfl
theorem wrapS_size (s : ByteArray) (k : Nat) : (wrapS k s).size = s.size + 3 * k := by
  have h := congrArg List.length (wrapS_list s k)
  rw [wrapT_length, Array.length_toList, Array.length_toList] at h
  exact h
set_option maxRecDepth 100000 in
set_option maxHeartbeats 4000000 in
theorem held_walk (w : World) (HT : Aside0 (RangesAt w ∧ NumsAt w)) (s : ByteArray) (hs : s.size ≤ reachBytes) (y : FaceY) (hy : y.ok w) (dp : Int) (hdp : (Lit.int .u8 dp).wf = true) :
    Calls Tryd.prog 4 #[.string s, y.v, .int .u8 dp] w fun e w' => e = .returned (.bool true) ∧ Below w.heap.size w w' := by
  obtain ⟨k0, hk0⟩ : ∃ k : Nat, dp = (k : Int) ∧ k < 256 := by
    have h := wf_u8 hdp
    exact ⟨dp.toNat, by omega, by omega⟩
  obtain ⟨rfl, hk256⟩ := hk0
  obtain ⟨n, hn⟩ : ∃ n, n = k0 % 5 := ⟨_, rfl⟩
  have hn5 : n ≤ 4 := by omega
  have hrem : (k0 : Int) % 5 = (n : Int) := by omega
  clear hdp hn
  obtain ⟨fv, F⟩ := y
  have HFI := Aside0.mk (show FaceIn w fv F from hy)
  show Calls Tryd.prog 4 #[.string s, .agg #[.string fv.m, .slice fv.la.A fv.la.n fv.la.c, .slice fv.ro.A fv.ro.n fv.ro.c, .slice fv.ef.A fv.ef.n fv.ef.c, .slice fv.ty.A fv.ty.n fv.ty.c, .slice fv.im.A fv.im.n fv.im.c, .slice fv.en.A fv.en.n fv.en.c], .int .u8 (k0 : Int)] w _
  have HLV : Aside0 (∀ W, Below w.heap.size w W → Calls Tryd.prog 7 #[] W fun e w' => e = .returned (.bool true) ∧ Below W.heap.size W w') := ⟨fun W hb => lives_calls W (tabs_below HT.out hb)⟩
  obtain ⟨O, hO⟩ : ∃ O : Obj, O = .cells #[.string fv.m, .slice fv.la.A fv.la.n fv.la.c, .slice fv.ro.A fv.ro.n fv.ro.c, .slice fv.ef.A fv.ef.n fv.ef.c, .slice fv.ty.A fv.ty.n fv.ty.c, .slice fv.im.A fv.im.n fv.im.c, .slice fv.en.A fv.en.n fv.en.c] 28 := ⟨_, rfl⟩
  have hb := below_alloc (Below.refl w.heap.size w) O
  have hk : (w.alloc O).heap[w.heap.size]? = some (.cells #[.string fv.m, .slice fv.la.A fv.la.n fv.la.c, .slice fv.ro.A fv.ro.n fv.ro.c, .slice fv.ef.A fv.ef.n fv.ef.c, .slice fv.ty.A fv.ty.n fv.ty.c, .slice fv.im.A fv.im.n fv.im.c, .slice fv.en.A fv.en.n fv.en.c] 28 (0, 0)) := by rw [hO]; exact blk_new w _
  have HGR := Aside0.mk (great_calls (w.alloc O) fv F (HFI.out.below hb))
  rw [hO] at hb hk HGR
  have HB := Aside0.mk hb
  have HK := Aside0.mk hk
  clear hb hk hO hy
  clear hs
  rcases Nat.lt_or_ge 2000 s.size with h2 | h2
  · have hd : decide ((s.size : Int) > 2000) = true := decide_eq_true (by omega)
    go_enter Tryd.func4, Tryd.ntmps4
    go_wp2_with (go_at_call 7; (with_reducible refine (HLV.out _ HB.out).mono ?_); rintro e W' ⟨rfl, hb'⟩; have HBL := Aside0.mk (HB.out.trans (hb'.mono HB.out.size)); clear hb')
    go_ret
    exact ⟨rfl, HBL.out⟩
  have hd : decide ((s.size : Int) > 2000) = false := decide_eq_false (by omega)
  have q0 := blk_cell HK.out 0; have q1 := blk_cell HK.out 1; have q2 := blk_cell HK.out 2; have q3 := blk_cell HK.out 3; have q4 := blk_cell HK.out 4; have q5 := blk_cell HK.out 5; have q6 := blk_cell HK.out 6; simp at q0 q1 q2 q3 q4 q5 q6
  go_enter Tryd.func4, Tryd.ntmps4
  go_wp2_with fail
  refine HGR.out.mono ?_
  rintro e W1 ⟨⟨g, rfl⟩, hb⟩
  have HB1 := Aside0.mk (HB.out.trans (hb.mono HB.out.size))
  have HK1 := Aside0.mk (blk_below HK.out hb)
  clear hb q0 q1 q2 q3 q4 q5 q6
  cases g with
  | true =>
    go_wp2_with (go_at_call 7; (with_reducible refine (HLV.out _ HB1.out).mono ?_); rintro e W' ⟨rfl, hb'⟩; have HBL := Aside0.mk (HB1.out.trans (hb'.mono HB1.out.size)); clear hb')
    go_ret
    exact ⟨rfl, HBL.out⟩
  | false =>
    have q0 := blk_cell HK1.out 0; have q1 := blk_cell HK1.out 1; have q2 := blk_cell HK1.out 2; have q3 := blk_cell HK1.out 3; have q4 := blk_cell HK1.out 4; have q5 := blk_cell HK1.out 5; have q6 := blk_cell HK1.out 6; simp at q0 q1 q2 q3 q4 q5 q6
    obtain ⟨toks, hto⟩ : ∃ t, t = (ofW s.data.toList).1 := ⟨_, rfl⟩
    obtain ⟨line, hli⟩ : ∃ t, t = (ofW s.data.toList).2.1 := ⟨_, rfl⟩
    obtain ⟨col, hco⟩ : ∃ t, t = (ofW s.data.toList).2.2.1 := ⟨_, rfl⟩
    obtain ⟨er, her⟩ : ∃ t, t = (ofW s.data.toList).2.2.2 := ⟨_, rfl⟩
    have hof : ofW s.data.toList = (toks, line, col, er) := by rw [hto, hli, hco, her]
    have HOF := Aside0.mk hof
    have HSZ := Aside0.mk h2
    clear hof hto hli hco her h2
    go_wp2_with fail
    refine (type_calls W1 s fv F ⟨HFI.out.ok.below HB1.out⟩ (tabs_below HT.out HB1.out) HOF.out (by have := HSZ.out; omega)).mono ?_
    rintro e W2 ⟨⟨A, l, ok, rfl, hC, hok, hl⟩, hb⟩
    have HB2 := Aside0.mk (HB1.out.trans (hb.mono HB1.out.size))
    have HK2 := Aside0.mk (blk_below HK1.out hb)
    have HOK := Aside0.mk hok
    clear hb hok q0 q1 q2 q3 q4 q5 q6
    cases ok with
    | false =>
      clear hl
      go_wp2_with (go_at_call 7; (with_reducible refine (HLV.out _ HB2.out).mono ?_); rintro e W' ⟨rfl, hb'⟩; have HBL := Aside0.mk (HB2.out.trans (hb'.mono HB2.out.size)); clear hb')
      go_ret
      exact ⟨rfl, HBL.out⟩
    | true =>
      have hk3 : er = 0 ∧ typeOk F (toks.map wordV) = true := by
        have := HOK.out.symm
        simpa using this
      obtain ⟨rfl, hty⟩ := hk3
      have hl := hl rfl
      subst hl
      obtain ⟨toks2, line2, col2, hof2, hres⟩ := held_law F s.data.toList n HOF.out hty (by rw [Array.length_toList]; have h := HSZ.out; show s.size + 3 * n ≤ _; omega)
      rw [← wrapS_list] at hof2
      obtain ⟨a, ha⟩ : ∃ a, a = nodesOf F (toks.map wordV) := ⟨_, rfl⟩
      rw [← ha] at hC hres ⊢
      obtain ⟨L, hL⟩ : ∃ L, L = a.length := ⟨_, rfl⟩
      have HLA := Aside0.mk hL
      rw [← hL] at hC ⊢
      have HCA := Aside0.mk hC
      have HOF2 := Aside0.mk hof2
      have HRS := Aside0.mk hres
      have hszs : ∀ k, k ≤ 4 → (wrapS k s).size ≤ 2012 := fun k hk => by have := wrapS_size s k; have := HSZ.out; omega
      have HSS := Aside0.mk hszs
      have HN5 := Aside0.mk hn5
      clear hof2 hres ha hL hC hty HOK hszs
      go_wp2
      rw [hrem]
      clear hrem
      go_loopg [0, 10] (n + 1) (fun g u v W => ∃ (k : Nat), u = .string (wrapS k s) ∧ v = .int .i64 k ∧ k ≤ n ∧ n + 1 - k ≤ g ∧ Aside0 (W = W2))
      case atStart => exact ⟨0, rfl, rfl, by omega, by omega, ⟨rfl⟩⟩
      case round =>
        obtain ⟨k, rfl, rfl, hk, hkg, HW⟩ := hrel
        obtain rfl := HW.out
        rcases Nat.lt_or_ge k n with hlt | hge
        · have hd : decide (k < n) = true := decide_eq_true hlt
          have hz1 : (wrapS k s).size ≤ 2012 := HSS.out k (by omega)
          go_wp2
          go_roundg (gk - 1)
          case measure => omega
          case rel => exact ⟨k + 1, rfl, by go_num, by omega, by omega, ⟨rfl⟩⟩
        · have hd : decide (k < n) = false := decide_eq_false (by omega)
          obtain rfl : k = n := by omega
          obtain ⟨m2, hm2⟩ : ∃ m, m = toks2.length := ⟨_, rfl⟩
          obtain ⟨ws2, hws2⟩ : ∃ l, l = toks2.map wordV := ⟨_, rfl⟩
          have HNW := Aside0.mk (And.intro hm2 hws2)
          have HHK := Aside0.mk hk
          clear hkg hk hge
          go_wp2_with fail
          refine (words_named wr (wrapS k s) (tabs_below HT.out HB2.out) HOF2.out hm2 hws2).mono ?_
          rintro e W3 ⟨A3, c3, rfl, hr3, hb⟩
          have HB4 := Aside0.mk (below_alloc (HB2.out.trans (hb.mono HB2.out.size)) (.cells #[.int .i64 line2, .int .i64 col2] 32))
          have HTK : Aside0 (Toks (wrapS k s).data.toList ws2) := ⟨by rw [HNW.out.2]; exact toks_of HOF2.out⟩
          have hnl : m2 = ws2.length := by rw [HNW.out.2, List.length_map]; exact HNW.out.1
          have hwl : ws2.length ≤ 2013 := by
            have h1 := HTK.out.len
            have h2 := HSS.out k HN5.out
            have h3 : (wrapS k s).data.toList.length = (wrapS k s).size := Array.length_toList
            omega
          obtain ⟨A', c', e1, hle, hC⟩ := Kd.R_reads hr3
          injection e1 with e1 e2 e3
          subst e1 e3
          obtain ⟨W4, hW4⟩ : ∃ W', W' = W3.alloc (.cells #[.int .i64 line2, .int .i64 col2] 32) := ⟨_, rfl⟩
          have hC4 := Kd.C_below hC (below_alloc (Below.refl _ _) (.cells #[.int .i64 line2, .int .i64 col2] 32))
          have hk4 : W4.heap[w.heap.size]? = some (.cells #[.string fv.m, .slice fv.la.A fv.la.n fv.la.c, .slice fv.ro.A fv.ro.n fv.ro.c, .slice fv.ef.A fv.ef.n fv.ef.c, .slice fv.ty.A fv.ty.n fv.ty.c, .slice fv.im.A fv.im.n fv.im.c, .slice fv.en.A fv.en.n fv.en.c] 28 (0, 0)) := by rw [hW4]; exact blk_alloc (blk_below HK2.out hb) _
          have hca : kNode.C W4 A L a := by rw [hW4]; exact Kd.C_below (Kd.C_below HCA.out hb) (below_alloc (Below.refl _ _) _)
          rw [← hW4] at hC4 HB4
          have HK4 := Aside0.mk hk4
          have HCA4 := Aside0.mk hca
          have hof := of_calls W4 A3 c3 ws2 fv F hC4 (by omega) ⟨HFI.out.ok.below HB4.out⟩ ⟨HT.out.2.below HB4.out⟩ HTK.out.small (by omega) (ofP_nb F HTK.out.num)
          rw [← hnl] at hof
          rw [← hws2] at HRS
          obtain ⟨R, hR⟩ : ∃ R, R = ofP F ws2 := ⟨_, rfl⟩
          rw [← hR] at hof HRS
          have HOC := Aside0.mk hof
          have HW4 := Aside0.mk hW4
          have HWW : Aside0 (k = 0 ∨ decide ((k : Int) > 0) = true) := ⟨by rcases Nat.eq_zero_or_pos k with h | h; exact .inl h; exact .inr (decide_eq_true (by omega))⟩
          clear hC e2 hC4 hof hR hle hnl hwl hk4 hW4 hb hr3 hm2 hws2 hca
          go_upto_region 14 with fail
          rw [← HW4.out]
          have q0 := blk_cell HK4.out 0; have q1 := blk_cell HK4.out 1; have q2 := blk_cell HK4.out 2; have q3 := blk_cell HK4.out 3; have q4 := blk_cell HK4.out 4; have q5 := blk_cell HK4.out 5; have q6 := blk_cell HK4.out 6; simp at q0 q1 q2 q3 q4 q5 q6
          go_wp2_with fail
          refine HOC.out.mono ?_
          intro e W5 hres
          clear q0 q1 q2 q3 q4 q5 q6
          rcases HRS.out with ⟨s', hRR⟩ | ⟨hk0, l2, c2, hRR⟩
          · rw [hRR] at hres
            obtain ⟨⟨B1, B2, rfl, hC1, -⟩, hb⟩ := hres
            have HB5 := Aside0.mk (below_alloc (HB4.out.trans (hb.mono HB4.out.size)) (.cells #[.int .i64 0, .int .i64 0] 32))
            have HSN : Aside0 (Calls Tryd.prog 10 #[.slice A L L, .slice B1 L L] (W5.alloc (.cells #[.int .i64 0, .int .i64 0] 32)) fun e w' => e = .returned (.bool true) ∧ Below (W5.alloc (.cells #[.int .i64 0, .int .i64 0] 32)).heap.size (W5.alloc (.cells #[.int .i64 0, .int .i64 0] 32)) w') := ⟨by
              have h1 := Kd.C_below HCA4.out (below_alloc hb (.cells #[.int .i64 0, .int .i64 0] 32))
              have h2 := Kd.C_below hC1 (below_alloc (Below.refl _ _) (.cells #[.int .i64 0, .int .i64 0] 32))
              rw [HLA.out] at h1 ⊢
              exact sameNodes_calls _ A B1 _ _ a h1 h2⟩
            rw [← HLA.out]
            clear hb hC1 hRR
            go_wp2_with (first | (go_at_call 10; (with_reducible refine HSN.out.mono ?_); rintro e W6 ⟨rfl, hb⟩; have HB6 := Aside0.mk (HB5.out.trans (hb.mono HB5.out.size)); clear hb) | (go_at_call 7; (with_reducible refine (HLV.out _ HB6.out).mono ?_); rintro e W' ⟨rfl, hb'⟩; have HBL := Aside0.mk (HB6.out.trans (hb'.mono HB6.out.size)); clear hb'))
            go_ret
            exact ⟨rfl, HBL.out⟩
          · rw [hRR] at hres
            obtain ⟨rfl, hb⟩ := hres
            have HB5 := Aside0.mk (below_alloc (HB4.out.trans (hb.mono HB4.out.size)) (.cells #[.int .i64 l2, .int .i64 c2] 32))
            have hkp : decide ((k : Int) > 0) = true := decide_eq_true (by omega)
            have hkq : decide (0 < k) = true := decide_eq_true hk0
            clear hb hRR hk0
            go_wp2_with (go_at_call 7; (with_reducible refine (HLV.out _ HB5.out).mono ?_); rintro e W' ⟨rfl, hb'⟩; have HBL := Aside0.mk (HB5.out.trans (hb'.mono HB5.out.size)); clear hb')
            go_ret
            exact ⟨rfl, HBL.out⟩
end Tr
end Go.Proofs.YtdecijmncpbheaaDoor
