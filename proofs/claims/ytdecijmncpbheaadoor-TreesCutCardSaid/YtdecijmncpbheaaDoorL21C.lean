/- TreesCut: a type's words without the last one are none. -/
import Derived.Test.YtdecijmncpbheaaDoorMTn
import Derived.Test.YtdecijmncpbheaaDoorTrA
import Derived.Test.YtdecijmncpbheaaDoorMF

namespace Go.Proofs.YtdecijmncpbheaaDoor
open Go.RowKit Go.Proofs.YtdecijmncpbheaaDoorW.PrintWords Go.Proofs.YtdecijmncpbheaaDoorW.PrintLast Go.Proofs.YtdecijmncpbheaaDoorW.PrintMore
set_option linter.unusedVariables false
set_option linter.unusedSimpArgs false
open Go.Shelf
namespace Tr
open Wd (gB_refl gB_trans gB_below gB_set ofW wordV RangesAt NumsAt)
open L20 (words_named tabs_below)
theorem grown_own {w W W' : World} {o : Option Nat} (h : Below w.heap.size w W) (hg : W.grownBy W' o) (ho : ∀ j, o = some j → w.heap.size ≤ j) : Below w.heap.size w W' := h.grown hg h.size ho
set_option maxRecDepth 100000 in
set_option maxHeartbeats 4000000 in
theorem cut_of {w : World} {fv : FV} {F : FI} {T base : Nat} {ok : Nat → Prop} {A : Option Addr} {c M : Nat} {xs ws : List Wrd} {x : Wrd} {l : List UInt8} (HR : kWord.R T w base ok (.slice A M c) (xs ++ [x])) (hM : (xs ++ [x]).length = M) (HF : Aside0 (FaceOk w fv F)) (HNA : Aside0 (Wd.NumsAt w)) (hT : Toks l ws) (hsub : ∀ y ∈ xs ++ [x], y ∈ ws) (hl : (xs.length + 1) * 40 ≤ 140737488355328) (hcut : ofP F (xs ++ [x]) = .err 11 x.f2.f0 x.f2.f1) :
    Calls Tryd.prog 9 #[.slice A M c, .agg #[.string fv.m, .slice fv.la.A fv.la.n fv.la.c, .slice fv.ro.A fv.ro.n fv.ro.c, .slice fv.ef.A fv.ef.n fv.ef.c, .slice fv.ty.A fv.ty.n fv.ty.c, .slice fv.im.A fv.im.n fv.im.c, .slice fv.en.A fv.en.n fv.en.c]] w fun e w' => e = .returned (.tuple #[.slice none 0 0, .slice none 0 0, .agg #[.int .i64 x.f2.f0, .int .i64 x.f2.f1], .int .i64 11]) ∧ Below w.heap.size w w' := by
  obtain ⟨A', c', e1, hle, hC⟩ := Kd.R_reads HR
  injection e1 with e1 e2 e3
  subst e1 e3
  have hof := of_calls w A c (xs ++ [x]) fv F hC hle HF HNA (fun y hy => hT.small y (hsub y hy)) (by rw [List.length_append, List.length_singleton]; exact hl) (by rw [hcut]; intro h; cases h)
  rw [hM, hcut] at hof
  exact hof
theorem cut_end {w : World} {T base : Nat} {ok : Nat → Prop} {A : Option Addr} {c M N2 : Nat} {xs : List Wrd} {x : Wrd} (HR : kWord.R T w base ok (.slice A M c) (xs ++ [x])) (hM : (xs ++ [x]).length = M) (hMN : M = N2 + 1) (hx : xs.length = N2) :
    ∃ ad, A = some ad ∧ Aside0 (∀ W, Below w.heap.size w W → W.cell? ⟨(ad.add (N2 * 4)).block, (ad.add (N2 * 4)).off + 2, none⟩ = some (.int .i64 x.f2.f0) ∧ W.cell? ⟨(ad.add (N2 * 4)).block, (ad.add (N2 * 4)).off + 3, none⟩ = some (.int .i64 x.f2.f1)) := by
  obtain ⟨A', c', e1, hle, hC⟩ := Kd.R_reads HR
  injection e1 with e1 e2 e3
  subst e1 e3
  have hj : N2 < (xs ++ [x]).length := by omega
  obtain ⟨ad, hA, -⟩ := L20.C_wordN hC N2 hj
  refine ⟨ad, hA, ⟨fun W hb => ?_⟩⟩
  obtain ⟨ad', hA', -, -, h2, h3⟩ := L20.C_wordN (Kd.C_below hC hb) N2 hj
  rw [hA] at hA'
  obtain rfl := Option.some.inj hA'
  have hxe : (xs ++ [x])[N2] = x := by subst hx; simp
  rw [hxe] at h2 h3
  exact ⟨h2, h3⟩
set_option maxRecDepth 100000 in
set_option maxHeartbeats 4000000 in
theorem cut_walk (w : World) (HT : Aside0 (RangesAt w ∧ NumsAt w)) (s : ByteArray) (hs : s.size ≤ reachBytes) (y : FaceY) (hy : y.ok w) :
    Calls Tryd.prog 5 #[.string s, y.v] w fun e w' => e = .returned (.bool true) ∧ Below w.heap.size w w' := by
  obtain ⟨fv, F⟩ := y
  have HFI := Aside0.mk (show FaceIn w fv F from hy)
  show Calls Tryd.prog 5 #[.string s, .agg #[.string fv.m, .slice fv.la.A fv.la.n fv.la.c, .slice fv.ro.A fv.ro.n fv.ro.c, .slice fv.ef.A fv.ef.n fv.ef.c, .slice fv.ty.A fv.ty.n fv.ty.c, .slice fv.im.A fv.im.n fv.im.c, .slice fv.en.A fv.en.n fv.en.c]] w _
  have HLV : Aside0 (∀ W, Below w.heap.size w W → Calls Tryd.prog 7 #[] W fun e w' => e = .returned (.bool true) ∧ Below W.heap.size W w') := ⟨fun W hb => lives_calls W (tabs_below HT.out hb)⟩
  obtain ⟨O, hO⟩ : ∃ O : Obj, O = .cells #[.string fv.m, .slice fv.la.A fv.la.n fv.la.c, .slice fv.ro.A fv.ro.n fv.ro.c, .slice fv.ef.A fv.ef.n fv.ef.c, .slice fv.ty.A fv.ty.n fv.ty.c, .slice fv.im.A fv.im.n fv.im.c, .slice fv.en.A fv.en.n fv.en.c] 28 := ⟨_, rfl⟩
  have hb := below_alloc (Below.refl w.heap.size w) O
  have hk : (w.alloc O).heap[w.heap.size]? = some (.cells #[.string fv.m, .slice fv.la.A fv.la.n fv.la.c, .slice fv.ro.A fv.ro.n fv.ro.c, .slice fv.ef.A fv.ef.n fv.ef.c, .slice fv.ty.A fv.ty.n fv.ty.c, .slice fv.im.A fv.im.n fv.im.c, .slice fv.en.A fv.en.n fv.en.c] 28 (0, 0)) := by rw [hO]; exact blk_new w _
  have HGR := Aside0.mk (great_calls (w.alloc O) fv F (HFI.out.below hb))
  rw [hO] at hb hk HGR
  have HB := Aside0.mk hb
  have HK := Aside0.mk hk
  clear hb hk hO hy hs
  rcases Nat.lt_or_ge 2000 s.size with h2 | h2
  · have hd : decide ((s.size : Int) > 2000) = true := decide_eq_true (by omega)
    have HL1 := Aside0.mk (HLV.out _ HB.out)
    go_enter Tryd.func5, Tryd.ntmps5
    go_wp2_with (go_at_call 7; (with_reducible refine HL1.out.mono ?_); rintro e W1 ⟨rfl, hb⟩; have HB1 := Aside0.mk (HB.out.trans (hb.mono HB.out.size)); clear hb)
    go_ret
    exact ⟨rfl, HB1.out⟩
  · have hd : decide ((s.size : Int) > 2000) = false := decide_eq_false (by omega)
    have q0 := blk_cell HK.out 0
    have q1 := blk_cell HK.out 1
    have q2 := blk_cell HK.out 2
    have q3 := blk_cell HK.out 3
    have q4 := blk_cell HK.out 4
    have q5 := blk_cell HK.out 5
    have q6 := blk_cell HK.out 6
    simp at q0 q1 q2 q3 q4 q5 q6
    go_enter Tryd.func5, Tryd.ntmps5
    go_wp2_with fail
    refine HGR.out.mono ?_
    rintro e W1 ⟨⟨g, rfl⟩, hb⟩
    have HB1 := Aside0.mk (HB.out.trans (hb.mono HB.out.size))
    have HK1 := Aside0.mk (blk_below HK.out hb)
    clear hb q0 q1 q2 q3 q4 q5 q6
    cases g with
    | true =>
      go_wp2_with fail
      refine (HLV.out _ HB1.out).mono ?_
      rintro e W2 ⟨rfl, hb⟩
      have HB2 := Aside0.mk (HB1.out.trans (hb.mono HB1.out.size))
      clear hb
      go_wp2
      go_ret
      exact ⟨rfl, HB2.out⟩
    | false =>
      have q0 := blk_cell HK1.out 0
      have q1 := blk_cell HK1.out 1
      have q2 := blk_cell HK1.out 2
      have q3 := blk_cell HK1.out 3
      have q4 := blk_cell HK1.out 4
      have q5 := blk_cell HK1.out 5
      have q6 := blk_cell HK1.out 6
      simp at q0 q1 q2 q3 q4 q5 q6
      obtain ⟨toks, hto⟩ : ∃ t, t = (ofW s.data.toList).1 := ⟨_, rfl⟩
      obtain ⟨line, hli⟩ : ∃ t, t = (ofW s.data.toList).2.1 := ⟨_, rfl⟩
      obtain ⟨col, hco⟩ : ∃ t, t = (ofW s.data.toList).2.2.1 := ⟨_, rfl⟩
      obtain ⟨er, her⟩ : ∃ t, t = (ofW s.data.toList).2.2.2 := ⟨_, rfl⟩
      have hof : ofW s.data.toList = (toks, line, col, er) := by rw [hto, hli, hco, her]
      have HOF := Aside0.mk hof
      clear hof hto hli hco her
      go_wp2_with fail
      refine (type_calls W1 s fv F ⟨HFI.out.ok.below HB1.out⟩ (tabs_below HT.out HB1.out) HOF.out (by omega)).mono ?_
      rintro e W2 ⟨⟨A, l, ok, rfl, -, hok, -⟩, hb⟩
      have HB2 := Aside0.mk (HB1.out.trans (hb.mono HB1.out.size))
      have HK2 := Aside0.mk (blk_below HK1.out hb)
      have HOK := Aside0.mk hok
      clear hb hok q0 q1 q2 q3 q4 q5 q6
      obtain ⟨n, hn⟩ : ∃ n, n = toks.length := ⟨_, rfl⟩
      obtain ⟨ws, hws⟩ : ∃ l, l = toks.map wordV := ⟨_, rfl⟩
      have HNW := Aside0.mk (And.intro hn hws)
      go_wp2_with fail
      refine (words_named W2 s (tabs_below HT.out HB2.out) HOF.out hn hws).mono ?_
      rintro e W3 ⟨A3, c3, rfl, hr3, hb⟩
      have HB3 := Aside0.mk (HB2.out.trans (hb.mono HB2.out.size))
      have HK3 := Aside0.mk (blk_below HK2.out hb)
      have HR3 := Aside0.mk hr3
      clear hb hr3 hn hws
      have HB4 := Aside0.mk (below_alloc HB3.out (.cells #[.int .i64 line, .int .i64 col] 32))
      cases ok with
      | false =>
        go_wp2_with fail
        refine (HLV.out _ HB4.out).mono ?_
        rintro e W5 ⟨rfl, hb⟩
        have HB5 := Aside0.mk (HB4.out.trans (hb.mono HB4.out.size))
        clear hb
        go_wp2
        go_ret
        exact ⟨rfl, HB5.out⟩
      | true =>
        have hk2 := HOK.out
        have hk3 : (er == 0) = true ∧ typeOk F (toks.map wordV) = true := by
          have := hk2.symm
          simpa using this
        have her : er = 0 := by simpa using hk3.1
        rw [← HNW.out.2] at hk3
        obtain ⟨pre, x, hpre, hlen, hcut⟩ := cut_law F ws hk3.2
        have hnl : n = ws.length := by rw [HNW.out.2, List.length_map]; exact HNW.out.1
        have hn2 : 2 ≤ n := by rw [hnl, hpre, List.length_append, List.length_singleton]; omega
        obtain ⟨N2, hN2⟩ : ∃ m, m = n - 2 := ⟨_, rfl⟩
        obtain ⟨N1, hN1⟩ : ∃ m, m = n - 1 := ⟨_, rfl⟩
        obtain ⟨xs, hxs⟩ : ∃ l, l = ws.take N2 := ⟨_, rfl⟩
        have hxp : xs = pre.dropLast := by
          rw [hxs, hpre, List.dropLast_eq_take]
          have : N2 = pre.length - 1 := by rw [hN2, hnl, hpre, List.length_append, List.length_singleton]; omega
          rw [this, List.take_append_of_le_length (by omega)]
        have hxl : xs.length = N2 := by rw [hxs, List.length_take]; omega
        obtain ⟨A', c', e1, hle, hC⟩ := Kd.R_reads HR3.out
        injection e1 with e1 e2 e3
        subst e1 e3
        rw [← e2] at hC hle
        obtain ⟨ad, hA3⟩ : ∃ ad, A3 = some ad := by
          obtain ⟨ad, h, _⟩ := hC.2.2 (by omega)
          exact ⟨ad, h⟩
        subst hA3
        have hC4 := Kd.C_below hC (below_alloc (Below.refl _ _) (.cells #[.int .i64 line, .int .i64 col] 32))
        obtain ⟨W4, hW4⟩ : ∃ W, W = W3.alloc (.cells #[.int .i64 line, .int .i64 col] 32) := ⟨_, rfl⟩
        rw [← hW4] at hC4 HB4
        have HCW : Aside0 (∀ W, Below W4.heap.size W4 W → kWord.C W (some ad) N2 xs) := ⟨fun W hb => by rw [hxs]; exact C_take (Kd.C_below hC4 hb) (by omega)⟩
        have hws1 : ws[N1]? = some x := by rw [hpre, List.getElem?_append_right (by rw [hN1, hnl, hpre, List.length_append]; simp), hN1, hnl, hpre]; simp
        have HEL : Aside0 (∀ W, Below W4.heap.size W4 W → W.cell? (ad.add (N1 * 4)) = some (.int .u8 x.f0) ∧ W.cell? ⟨(ad.add (N1 * 4)).block, (ad.add (N1 * 4)).off + 1, none⟩ = some (.string x.f1) ∧ W.cell? ⟨(ad.add (N1 * 4)).block, (ad.add (N1 * 4)).off + 2, none⟩ = some (.int .i64 x.f2.f0) ∧ W.cell? ⟨(ad.add (N1 * 4)).block, (ad.add (N1 * 4)).off + 3, none⟩ = some (.int .i64 x.f2.f1)) := ⟨fun W hb => by
          have hj : N1 < ws.length := by omega
          have hCb := Kd.C_below hC4 hb
          rw [e2] at hCb
          obtain ⟨ad', h, hc⟩ := L20.C_wordN hCb N1 hj
          obtain rfl := Option.some.inj h
          have hx : ws[N1] = x := by rw [List.getElem?_eq_getElem hj] at hws1; exact Option.some.inj hws1
          rw [hx] at hc
          exact hc⟩
        have HSZ : Aside0 (∀ W, Below W4.heap.size W4 W → W4.heap.size ≤ W.heap.size) := ⟨fun W hb => hb.size⟩
        have hwl : ws.length ≤ s.data.toList.length + 1 := by
          have h := HOF.out
          rw [her] at h
          rw [HNW.out.2]
          exact (toks_of h).len
        have hsl : s.data.toList.length = s.size := Array.length_toList
        have HL1 : Aside0 ((([] : List Wrd).length + N2) * 40 ≤ 140737488355328) := ⟨by simp only [List.length_nil]; omega⟩
        have HL2 : Aside0 ((xs.length + 1) * 40 ≤ 140737488355328) := ⟨by omega⟩
        have HXL : Aside0 (([] ++ xs).length = N2) := ⟨by rw [List.nil_append]; exact hxl⟩
        obtain ⟨M, hM⟩ : ∃ M, M = (xs ++ [x]).length := ⟨_, rfl⟩
        have HXM : Aside0 ((xs ++ [x]).length = M) := ⟨hM.symm⟩
        have HCUT : Aside0 (ofP F (xs ++ [x]) = .err 11 x.f2.f0 x.f2.f1) := ⟨by rw [hxp]; exact hcut⟩
        have HT3 : Aside0 (Toks s.data.toList ws) := ⟨by
          have h := HOF.out
          rw [her] at h
          rw [HNW.out.2]
          exact toks_of h⟩
        have HSUB : Aside0 (∀ y ∈ xs ++ [x], y ∈ ws) := ⟨fun y hy => by
          rcases List.mem_append.1 hy with h | h
          · rw [hxs] at h; exact List.mem_of_mem_take h
          · rw [List.mem_singleton.1 h, hpre]; exact List.mem_append_right _ (List.mem_singleton.2 rfl)⟩
        have hMl : M = N2 + 1 := by rw [hM, List.length_append, hxl]; rfl
        have HMX : Aside0 (M = N2 + 1) := ⟨hMl⟩
        have HXN : Aside0 (xs.length = N2) := ⟨hxl⟩
        have HWM : Aside0 (IntKind.i64.wrap ((M : Int) - 1) = (N2 : Int)) := ⟨by rw [IntKind.wrap_i64]; omega⟩
        have HLM : Aside0 (N2 < M) := ⟨by omega⟩
        have hw1 : IntKind.i64.wrap ((n : Int) - 2) = (N2 : Int) := by rw [IntKind.wrap_i64]; omega
        have hw2 : IntKind.i64.wrap ((n : Int) - 1) = (N1 : Int) := by rw [IntKind.wrap_i64]; omega
        have hle1 : N1 < n := by omega
        have hle2 : N2 ≤ c3 := by omega
        have d2 : decide ((n : Int) < 2) = false := decide_eq_false (by omega)
        have HBA : Aside0 (Below W4.heap.size W4 W4.drew) := ⟨(Below.refl _ _).drew⟩
        obtain ⟨i0, i1, i2, i3⟩ := HEL.out _ HBA.out
        have HBB : Aside0 (Below W4.heap.size W4 (W4.drew.alloc (.cells #[.int .u8 x.f0, .string x.f1, .int .i64 x.f2.f0, .int .i64 x.f2.f1] 41))) := ⟨below_alloc HBA.out _⟩
        have HW4 := Aside0.mk hW4
        clear hk2 hk3 hpre hlen hcut hnl hN2 hN1 hxs hxp hxl hC hle e2 hC4 hws1 hwl hsl hM hMl her
        clear hW4
        go_upto_region 7 with fail
        rw [← HW4.out]
        have HSB : Aside0 (∀ W, Below W4.heap.size W4 W → Below w.heap.size w W) := ⟨fun W hb => HB4.out.trans (hb.mono HB4.out.size)⟩
        have HK4 : Aside0 (W4.heap[w.heap.size]? = some (.cells #[.string fv.m, .slice fv.la.A fv.la.n fv.la.c, .slice fv.ro.A fv.ro.n fv.ro.c, .slice fv.ef.A fv.ef.n fv.ef.c, .slice fv.ty.A fv.ty.n fv.ty.c, .slice fv.im.A fv.im.n fv.im.c, .slice fv.en.A fv.en.n fv.en.c] 28 (0, 0))) := ⟨by rw [HW4.out]; exact blk_alloc HK3.out _⟩
        refine wp_region_any (by kernel_rfl) ?_
        change wpAny _ _ _ _ _ _ _ (World.drew _)
        refine wpAny_take (i := 0) (v := ?_) rfl (by kernel_rfl) (by kernel_rfl) (by kernel_rfl) (fun _ _ _ h => h) (Or.inl ⟨by rfl, ?_⟩) ?_
        rotate_left
        · (intro w; go_simp; try with_reducible rfl)
        simp only [List.getElem_toArray, List.getElem_cons_succ, List.getElem_cons_zero, Act.put, List.setIfInBounds_toArray, List.set_cons_succ, List.set_cons_zero]
        refine wpAny_take (i := 1) (v := ?_) rfl (by kernel_rfl) (by kernel_rfl) (by kernel_rfl) (fun _ _ _ h => h) (Or.inl ⟨by rfl, ?_⟩) ?_
        rotate_left
        · (intro w; go_simp; try with_reducible rfl)
        simp only [List.getElem_toArray, List.getElem_cons_succ, List.getElem_cons_zero, Act.put, List.setIfInBounds_toArray, List.set_cons_succ, List.set_cons_zero]
        refine wpAny_take (i := 2) (v := ?_) rfl (by kernel_rfl) (by kernel_rfl) (by kernel_rfl) (fun _ _ _ h => h) (Or.inl ⟨by rfl, ?_⟩) ?_
        rotate_left
        · (intro w; go_simp; try with_reducible rfl)
        simp only [List.getElem_toArray, List.getElem_cons_succ, List.getElem_cons_zero, Act.put, List.setIfInBounds_toArray, List.set_cons_succ, List.set_cons_zero]
        refine wpAny_take (i := 3) (v := ?_) rfl (by kernel_rfl) (by kernel_rfl) (by kernel_rfl) (fun _ _ _ h => h) (Or.inl ⟨by rfl, ?_⟩) ?_
        rotate_left
        · (intro w; go_simp; try with_reducible rfl)
        simp only [List.getElem_toArray, List.getElem_cons_succ, List.getElem_cons_zero, Act.put, List.setIfInBounds_toArray, List.set_cons_succ, List.set_cons_zero]
        refine wpAny_take (i := 4) (v := ?_) rfl (by kernel_rfl) (by kernel_rfl) (by kernel_rfl) (fun _ _ _ h => h) (Or.inl ⟨by rfl, ?_⟩) ?_
        rotate_left
        · (intro w; go_simp; try with_reducible rfl)
        simp only [List.getElem_toArray, List.getElem_cons_succ, List.getElem_cons_zero, Act.put, List.setIfInBounds_toArray, List.set_cons_succ, List.set_cons_zero]
        refine wpAny_take (i := 6) (v := ?_) rfl (by kernel_rfl) (by kernel_rfl) (by kernel_rfl) (fun _ _ _ h => h) (Or.inl ⟨by rfl, ?_⟩) ?_
        rotate_left
        · (intro w; go_simp; try with_reducible rfl)
        simp only [List.getElem_toArray, List.getElem_cons_succ, List.getElem_cons_zero, Act.put, List.setIfInBounds_toArray, List.set_cons_succ, List.set_cons_zero]
        refine wpAny_take (i := 7) (v := ?_) rfl (by kernel_rfl) (by kernel_rfl) (by kernel_rfl) (fun _ _ _ h => h) (Or.inl ⟨by rfl, ?_⟩) ?_
        rotate_left
        · (intro w; go_simp; try with_reducible rfl)
        simp only [List.getElem_toArray, List.getElem_cons_succ, List.getElem_cons_zero, Act.put, List.setIfInBounds_toArray, List.set_cons_succ, List.set_cons_zero]
        refine wpAny_take (i := 8) (v := ?_) rfl (by kernel_rfl) (by kernel_rfl) (by kernel_rfl) (fun _ _ _ h => h) (Or.inl ⟨by rfl, ?_⟩) ?_
        rotate_left
        · (intro w; go_simp; try with_reducible rfl)
        simp only [List.getElem_toArray, List.getElem_cons_succ, List.getElem_cons_zero, Act.put, List.setIfInBounds_toArray, List.set_cons_succ, List.set_cons_zero]
        refine wpAny_take (i := 9) (v := ?_) rfl (by kernel_rfl) (by kernel_rfl) (by kernel_rfl) (fun _ _ _ h => h) (Or.inl ⟨by rfl, ?_⟩) ?_
        rotate_left
        · (intro w; go_simp; try with_reducible rfl)
        simp only [List.getElem_toArray, List.getElem_cons_succ, List.getElem_cons_zero, Act.put, List.setIfInBounds_toArray, List.set_cons_succ, List.set_cons_zero]
        refine wpAny_take (i := 10) (v := ?_) rfl (by kernel_rfl) (by kernel_rfl) (by kernel_rfl) (fun _ _ _ h => h) (Or.inl ⟨by rfl, ?_⟩) ?_
        rotate_left
        · (intro w; go_simp; try with_reducible rfl)
        simp only [List.getElem_toArray, List.getElem_cons_succ, List.getElem_cons_zero, Act.put, List.setIfInBounds_toArray, List.set_cons_succ, List.set_cons_zero]
        refine wpAny_ready (rs := [5, 11]) (by kernel_rfl) (by simp) ?_
        refine AllReady.cons rfl (fun K hK => ?_) ?_
        · refine step_append_Rq rfl kWord W4.heap.size (.const (.slice none 0 0)) (.tmp 51) 22 22 41 41 (.agg #[.int .u8 0, .string ⟨#[]⟩, .int .i64 0, .int .i64 0]) 40 rfl (by kernel_rfl) (by kernel_rfl) Wd.infoW rfl (by decide) (by decide) (.slice none 0 0) [] xs (some ad) N2 c3 (fun _ => True) (fun _ => False) (by rfl) (by rfl) (Kd.R_nil _ _ _ _ _) (HCW.out _ HBA.out) (fun x cs h => Wd.wordM h) (fun _ h => h.elim) (fun _ _ => trivial) (HSZ.out _ HBA.out) HL1.out ?_
          intro v5 w5 hR5 hg5 hat
          obtain ⟨A5, c5, rfl⟩ := Kd.R_slice hR5
          rw [HXL.out] at hR5 ⊢
          rw [List.nil_append] at hR5
          have HR5 := Aside0.mk hR5
          have hb55 := (Below.refl _ _).grown hg5 (Nat.le_refl _) (fun k hk => by cases hk)
          have HB55 := Aside0.mk hb55
          have HB5 := Aside0.mk (HBA.out.trans (hb55.mono HBA.out.size))
          obtain ⟨i0, i1, i2, i3⟩ := HEL.out _ HB5.out
          clear hR5 hg5 hat hb55
          refine hK _ _ ?_
          clear hK K
          try simp only [List.getElem_toArray, List.getElem_cons_succ, List.getElem_cons_zero, Act.put, List.setIfInBounds_toArray, List.set_cons_succ, List.set_cons_zero]
          refine wpAny_ready (rs := [11]) (by kernel_rfl) (by simp) ?_
          refine AllReady.cons rfl (fun K hK => ?_) ?_
          · go_simp
            refine hK _ _ ?_
            clear hK K
            try simp only [List.getElem_toArray, List.getElem_cons_succ, List.getElem_cons_zero, Act.put, List.setIfInBounds_toArray, List.set_cons_succ, List.set_cons_zero]
            refine wpAny_ready (rs := [12]) (by kernel_rfl) (by simp) ?_
            refine AllReady.cons rfl (fun K hK => ?_) ?_
            · go_simp
              refine hK _ _ ?_
              clear hK K
              try simp only [List.getElem_toArray, List.getElem_cons_succ, List.getElem_cons_zero, Act.put, List.setIfInBounds_toArray, List.set_cons_succ, List.set_cons_zero]
              refine wpAny_ready (rs := [13]) (by kernel_rfl) (by simp) ?_
              refine AllReady.cons rfl (fun K hK => ?_) ?_
              · refine step_append_Rq rfl kWord W4.heap.size (.tmp 52) (.tmp 59) 22 22 41 41 (.agg #[.int .u8 0, .string ⟨#[]⟩, .int .i64 0, .int .i64 0]) 40 rfl (by kernel_rfl) (by kernel_rfl) Wd.infoW rfl (by decide) (by decide) (.slice A5 N2 c5) xs [x] (some ⟨w5.heap.size, 0, none⟩) 1 1 (fun _ => True) (fun _ => False) (by rfl) (by rfl) (Kd.R_below HR5.out (below_alloc (Below.refl _ _) (.cells #[.int .u8 x.f0, .string x.f1, .int .i64 x.f2.f0, .int .i64 x.f2.f1] 41))) (Wd.word_C w5 x) (fun x cs h => Wd.wordM h) (fun _ h => h.elim) (fun _ _ => trivial) (HSZ.out _ (below_alloc HB5.out (.cells #[.int .u8 x.f0, .string x.f1, .int .i64 x.f2.f0, .int .i64 x.f2.f1] 41))) HL2.out ?_
                intro v6 w6 hR6 hg6 hat
                obtain ⟨A6, c6, rfl⟩ := Kd.R_slice hR6
                rw [HXM.out] at hR6 ⊢
                have HR6 := Aside0.mk hR6
                have HB6 := Aside0.mk (grown_own (below_alloc HB5.out (.cells #[.int .u8 x.f0, .string x.f1, .int .i64 x.f2.f0, .int .i64 x.f2.f1] 41)) hg6 (fun k hk => ((Kd.R_bound (Kd.R_below HR5.out (below_alloc (Below.refl _ _) (.cells #[.int .u8 x.f0, .string x.f1, .int .i64 x.f2.f0, .int .i64 x.f2.f1] 41)))).1 k hk).2.1))
                clear hR6 hg6 hat
                refine hK _ _ ?_
                clear hK K
                try simp only [List.getElem_toArray, List.getElem_cons_succ, List.getElem_cons_zero, Act.put, List.setIfInBounds_toArray, List.set_cons_succ, List.set_cons_zero]
                refine wpAny_ready (rs := [14]) (by kernel_rfl) (by simp) ?_
                refine AllReady.cons rfl (fun K hK => ?_) ?_
                · go_simp
                  refine hK _ _ ?_
                  clear hK K
                  try simp only [List.getElem_toArray, List.getElem_cons_succ, List.getElem_cons_zero, Act.put, List.setIfInBounds_toArray, List.set_cons_succ, List.set_cons_zero]
                  refine wpAny_done (by kernel_rfl) ?_ _
                  have HBW := Aside0.mk (HSB.out _ HB6.out)
                  have HK6 := Aside0.mk (blk_below HK4.out HB6.out)
                  have HOF := Aside0.mk (cut_of HR6.out HXM.out ⟨HFI.out.ok.below HBW.out⟩ ⟨HT.out.2.below HBW.out⟩ HT3.out HSUB.out HL2.out HCUT.out)
                  obtain ⟨ad6, hA6, HE6⟩ := cut_end HR6.out HXM.out HMX.out HXN.out
                  subst hA6
                  have q0 := blk_cell HK6.out 0
                  have q1 := blk_cell HK6.out 1
                  have q2 := blk_cell HK6.out 2
                  have q3 := blk_cell HK6.out 3
                  have q4 := blk_cell HK6.out 4
                  have q5 := blk_cell HK6.out 5
                  have q6 := blk_cell HK6.out 6
                  simp at q0 q1 q2 q3 q4 q5 q6
                  clear i0 i1 i2 i3
                  go_wp2_with fail
                  refine HOF.out.mono ?_
                  rintro e W7 ⟨rfl, hb7⟩
                  clear q0 q1 q2 q3 q4 q5 q6
                  have HB8 : Aside0 (Below w.heap.size w (W7.alloc (.cells #[.int .i64 x.f2.f0, .int .i64 x.f2.f1] 32)).drew) := ⟨(below_alloc (HBW.out.trans (hb7.mono HBW.out.size)) _).drew⟩
                  obtain ⟨j2, j3⟩ := HE6.out _ (below_alloc hb7 (.cells #[.int .i64 x.f2.f0, .int .i64 x.f2.f1] 32))
                  clear hb7
                  have hw3 := HWM.out
                  have hlm := HLM.out
                  go_wp2
                  refine region_quiet_tail 19 (by kernel_rfl) (by kernel_rfl) ?_
                  simp only [List.take_succ_cons, List.take_zero, List.drop_succ_cons, List.drop_zero]
                  repeat (go_big_quiet_step (fail))
                  refine wpQuiet_nil ?_
                  clear j2 j3
                  generalize World.drew (W7.alloc _) = wd at *
                  go_wp2_with (go_at_call 7; (with_reducible refine (HLV.out _ HB8.out).mono ?_); rintro e W' ⟨rfl, hb'⟩; have HBL := Aside0.mk (HB8.out.trans (hb'.mono HB8.out.size)); clear hb')
                  go_ret
                  exact ⟨rfl, HBL.out⟩
                exact AllReady.nil
              exact AllReady.nil
            exact AllReady.nil
          exact AllReady.nil
        refine AllReady.cons rfl (fun K hK => ?_) ?_
        · go_simp
          refine hK _ _ ?_
          clear hK K
          try simp only [List.getElem_toArray, List.getElem_cons_succ, List.getElem_cons_zero, Act.put, List.setIfInBounds_toArray, List.set_cons_succ, List.set_cons_zero]
          refine wpAny_ready (rs := [5, 12]) (by kernel_rfl) (by simp) ?_
          refine AllReady.cons rfl (fun K hK => ?_) ?_
          · refine step_append_Rq rfl kWord W4.heap.size (.const (.slice none 0 0)) (.tmp 51) 22 22 41 41 (.agg #[.int .u8 0, .string ⟨#[]⟩, .int .i64 0, .int .i64 0]) 40 rfl (by kernel_rfl) (by kernel_rfl) Wd.infoW rfl (by decide) (by decide) (.slice none 0 0) [] xs (some ad) N2 c3 (fun _ => True) (fun _ => False) (by rfl) (by rfl) (Kd.R_nil _ _ _ _ _) (HCW.out _ HBA.out) (fun x cs h => Wd.wordM h) (fun _ h => h.elim) (fun _ _ => trivial) (HSZ.out _ HBA.out) HL1.out ?_
            intro v5 w5 hR5 hg5 hat
            obtain ⟨A5, c5, rfl⟩ := Kd.R_slice hR5
            rw [HXL.out] at hR5 ⊢
            rw [List.nil_append] at hR5
            have HR5 := Aside0.mk hR5
            have hb55 := (Below.refl _ _).grown hg5 (Nat.le_refl _) (fun k hk => by cases hk)
            have HB55 := Aside0.mk hb55
            have HB5 := Aside0.mk (HBA.out.trans (hb55.mono HBA.out.size))
            obtain ⟨i0, i1, i2, i3⟩ := HEL.out _ HB5.out
            clear hR5 hg5 hat hb55
            refine hK _ _ ?_
            clear hK K
            try simp only [List.getElem_toArray, List.getElem_cons_succ, List.getElem_cons_zero, Act.put, List.setIfInBounds_toArray, List.set_cons_succ, List.set_cons_zero]
            refine wpAny_ready (rs := [12]) (by kernel_rfl) (by simp) ?_
            refine AllReady.cons rfl (fun K hK => ?_) ?_
            · go_simp
              refine hK _ _ ?_
              clear hK K
              try simp only [List.getElem_toArray, List.getElem_cons_succ, List.getElem_cons_zero, Act.put, List.setIfInBounds_toArray, List.set_cons_succ, List.set_cons_zero]
              refine wpAny_ready (rs := [13]) (by kernel_rfl) (by simp) ?_
              refine AllReady.cons rfl (fun K hK => ?_) ?_
              · refine step_append_Rq rfl kWord W4.heap.size (.tmp 52) (.tmp 59) 22 22 41 41 (.agg #[.int .u8 0, .string ⟨#[]⟩, .int .i64 0, .int .i64 0]) 40 rfl (by kernel_rfl) (by kernel_rfl) Wd.infoW rfl (by decide) (by decide) (.slice A5 N2 c5) xs [x] (some ⟨w5.heap.size, 0, none⟩) 1 1 (fun _ => True) (fun _ => False) (by rfl) (by rfl) (Kd.R_below HR5.out (below_alloc (Below.refl _ _) (.cells #[.int .u8 x.f0, .string x.f1, .int .i64 x.f2.f0, .int .i64 x.f2.f1] 41))) (Wd.word_C w5 x) (fun x cs h => Wd.wordM h) (fun _ h => h.elim) (fun _ _ => trivial) (HSZ.out _ (below_alloc HB5.out (.cells #[.int .u8 x.f0, .string x.f1, .int .i64 x.f2.f0, .int .i64 x.f2.f1] 41))) HL2.out ?_
                intro v6 w6 hR6 hg6 hat
                obtain ⟨A6, c6, rfl⟩ := Kd.R_slice hR6
                rw [HXM.out] at hR6 ⊢
                have HR6 := Aside0.mk hR6
                have HB6 := Aside0.mk (grown_own (below_alloc HB5.out (.cells #[.int .u8 x.f0, .string x.f1, .int .i64 x.f2.f0, .int .i64 x.f2.f1] 41)) hg6 (fun k hk => ((Kd.R_bound (Kd.R_below HR5.out (below_alloc (Below.refl _ _) (.cells #[.int .u8 x.f0, .string x.f1, .int .i64 x.f2.f0, .int .i64 x.f2.f1] 41)))).1 k hk).2.1))
                clear hR6 hg6 hat
                refine hK _ _ ?_
                clear hK K
                try simp only [List.getElem_toArray, List.getElem_cons_succ, List.getElem_cons_zero, Act.put, List.setIfInBounds_toArray, List.set_cons_succ, List.set_cons_zero]
                refine wpAny_ready (rs := [14]) (by kernel_rfl) (by simp) ?_
                refine AllReady.cons rfl (fun K hK => ?_) ?_
                · go_simp
                  refine hK _ _ ?_
                  clear hK K
                  try simp only [List.getElem_toArray, List.getElem_cons_succ, List.getElem_cons_zero, Act.put, List.setIfInBounds_toArray, List.set_cons_succ, List.set_cons_zero]
                  refine wpAny_done (by kernel_rfl) ?_ _
                  have HBW := Aside0.mk (HSB.out _ HB6.out)
                  have HK6 := Aside0.mk (blk_below HK4.out HB6.out)
                  have HOF := Aside0.mk (cut_of HR6.out HXM.out ⟨HFI.out.ok.below HBW.out⟩ ⟨HT.out.2.below HBW.out⟩ HT3.out HSUB.out HL2.out HCUT.out)
                  obtain ⟨ad6, hA6, HE6⟩ := cut_end HR6.out HXM.out HMX.out HXN.out
                  subst hA6
                  have q0 := blk_cell HK6.out 0
                  have q1 := blk_cell HK6.out 1
                  have q2 := blk_cell HK6.out 2
                  have q3 := blk_cell HK6.out 3
                  have q4 := blk_cell HK6.out 4
                  have q5 := blk_cell HK6.out 5
                  have q6 := blk_cell HK6.out 6
                  simp at q0 q1 q2 q3 q4 q5 q6
                  clear i0 i1 i2 i3
                  go_wp2_with fail
                  refine HOF.out.mono ?_
                  rintro e W7 ⟨rfl, hb7⟩
                  clear q0 q1 q2 q3 q4 q5 q6
                  have HB8 : Aside0 (Below w.heap.size w (W7.alloc (.cells #[.int .i64 x.f2.f0, .int .i64 x.f2.f1] 32)).drew) := ⟨(below_alloc (HBW.out.trans (hb7.mono HBW.out.size)) _).drew⟩
                  obtain ⟨j2, j3⟩ := HE6.out _ (below_alloc hb7 (.cells #[.int .i64 x.f2.f0, .int .i64 x.f2.f1] 32))
                  clear hb7
                  have hw3 := HWM.out
                  have hlm := HLM.out
                  go_wp2
                  refine region_quiet_tail 19 (by kernel_rfl) (by kernel_rfl) ?_
                  simp only [List.take_succ_cons, List.take_zero, List.drop_succ_cons, List.drop_zero]
                  repeat (go_big_quiet_step (fail))
                  refine wpQuiet_nil ?_
                  clear j2 j3
                  generalize World.drew (W7.alloc _) = wd at *
                  go_wp2_with (go_at_call 7; (with_reducible refine (HLV.out _ HB8.out).mono ?_); rintro e W' ⟨rfl, hb'⟩; have HBL := Aside0.mk (HB8.out.trans (hb'.mono HB8.out.size)); clear hb')
                  go_ret
                  exact ⟨rfl, HBL.out⟩
                exact AllReady.nil
              exact AllReady.nil
            exact AllReady.nil
          refine AllReady.cons rfl (fun K hK => ?_) ?_
          · go_simp
            refine hK _ _ ?_
            clear hK K
            try simp only [List.getElem_toArray, List.getElem_cons_succ, List.getElem_cons_zero, Act.put, List.setIfInBounds_toArray, List.set_cons_succ, List.set_cons_zero]
            refine wpAny_ready (rs := [5]) (by kernel_rfl) (by simp) ?_
            refine AllReady.cons rfl (fun K hK => ?_) ?_
            · refine step_append_Rq rfl kWord W4.heap.size (.const (.slice none 0 0)) (.tmp 51) 22 22 41 41 (.agg #[.int .u8 0, .string ⟨#[]⟩, .int .i64 0, .int .i64 0]) 40 rfl (by kernel_rfl) (by kernel_rfl) Wd.infoW rfl (by decide) (by decide) (.slice none 0 0) [] xs (some ad) N2 c3 (fun _ => True) (fun _ => False) (by rfl) (by rfl) (Kd.R_nil _ _ _ _ _) (HCW.out _ HBB.out) (fun x cs h => Wd.wordM h) (fun _ h => h.elim) (fun _ _ => trivial) (HSZ.out _ HBB.out) HL1.out ?_
              intro v5 w5 hR5 hg5 hat
              obtain ⟨A5, c5, rfl⟩ := Kd.R_slice hR5
              rw [HXL.out] at hR5 ⊢
              rw [List.nil_append] at hR5
              have HR5 := Aside0.mk hR5
              have hb55 := (Below.refl _ _).grown hg5 (Nat.le_refl _) (fun k hk => by cases hk)
              have HB55 := Aside0.mk hb55
              have HB5 := Aside0.mk (HBB.out.trans (hb55.mono HBB.out.size))
              obtain ⟨i0, i1, i2, i3⟩ := HEL.out _ HB5.out
              clear hR5 hg5 hat hb55
              refine hK _ _ ?_
              clear hK K
              try simp only [List.getElem_toArray, List.getElem_cons_succ, List.getElem_cons_zero, Act.put, List.setIfInBounds_toArray, List.set_cons_succ, List.set_cons_zero]
              refine wpAny_ready (rs := [13]) (by kernel_rfl) (by simp) ?_
              refine AllReady.cons rfl (fun K hK => ?_) ?_
              · refine step_append_Rq rfl kWord W4.heap.size (.tmp 52) (.tmp 59) 22 22 41 41 (.agg #[.int .u8 0, .string ⟨#[]⟩, .int .i64 0, .int .i64 0]) 40 rfl (by kernel_rfl) (by kernel_rfl) Wd.infoW rfl (by decide) (by decide) (.slice A5 N2 c5) xs [x] (some ⟨W4.heap.size, 0, none⟩) 1 1 (fun _ => True) (fun _ => False) (by rfl) (by rfl) HR5.out (Kd.C_below (Wd.word_C W4.drew x) HB55.out) (fun x cs h => Wd.wordM h) (fun _ h => h.elim) (fun _ _ => trivial) (HSZ.out _ HB5.out) HL2.out ?_
                intro v6 w6 hR6 hg6 hat
                obtain ⟨A6, c6, rfl⟩ := Kd.R_slice hR6
                rw [HXM.out] at hR6 ⊢
                have HR6 := Aside0.mk hR6
                have HB6 := Aside0.mk (grown_own HB5.out hg6 (fun k hk => ((Kd.R_bound HR5.out).1 k hk).2.1))
                clear hR6 hg6 hat
                refine hK _ _ ?_
                clear hK K
                try simp only [List.getElem_toArray, List.getElem_cons_succ, List.getElem_cons_zero, Act.put, List.setIfInBounds_toArray, List.set_cons_succ, List.set_cons_zero]
                refine wpAny_ready (rs := [14]) (by kernel_rfl) (by simp) ?_
                refine AllReady.cons rfl (fun K hK => ?_) ?_
                · go_simp
                  refine hK _ _ ?_
                  clear hK K
                  try simp only [List.getElem_toArray, List.getElem_cons_succ, List.getElem_cons_zero, Act.put, List.setIfInBounds_toArray, List.set_cons_succ, List.set_cons_zero]
                  refine wpAny_done (by kernel_rfl) ?_ _
                  have HBW := Aside0.mk (HSB.out _ HB6.out)
                  have HK6 := Aside0.mk (blk_below HK4.out HB6.out)
                  have HOF := Aside0.mk (cut_of HR6.out HXM.out ⟨HFI.out.ok.below HBW.out⟩ ⟨HT.out.2.below HBW.out⟩ HT3.out HSUB.out HL2.out HCUT.out)
                  obtain ⟨ad6, hA6, HE6⟩ := cut_end HR6.out HXM.out HMX.out HXN.out
                  subst hA6
                  have q0 := blk_cell HK6.out 0
                  have q1 := blk_cell HK6.out 1
                  have q2 := blk_cell HK6.out 2
                  have q3 := blk_cell HK6.out 3
                  have q4 := blk_cell HK6.out 4
                  have q5 := blk_cell HK6.out 5
                  have q6 := blk_cell HK6.out 6
                  simp at q0 q1 q2 q3 q4 q5 q6
                  clear i0 i1 i2 i3
                  go_wp2_with fail
                  refine HOF.out.mono ?_
                  rintro e W7 ⟨rfl, hb7⟩
                  clear q0 q1 q2 q3 q4 q5 q6
                  have HB8 : Aside0 (Below w.heap.size w (W7.alloc (.cells #[.int .i64 x.f2.f0, .int .i64 x.f2.f1] 32)).drew) := ⟨(below_alloc (HBW.out.trans (hb7.mono HBW.out.size)) _).drew⟩
                  obtain ⟨j2, j3⟩ := HE6.out _ (below_alloc hb7 (.cells #[.int .i64 x.f2.f0, .int .i64 x.f2.f1] 32))
                  clear hb7
                  have hw3 := HWM.out
                  have hlm := HLM.out
                  go_wp2
                  refine region_quiet_tail 19 (by kernel_rfl) (by kernel_rfl) ?_
                  simp only [List.take_succ_cons, List.take_zero, List.drop_succ_cons, List.drop_zero]
                  repeat (go_big_quiet_step (fail))
                  refine wpQuiet_nil ?_
                  clear j2 j3
                  generalize World.drew (W7.alloc _) = wd at *
                  go_wp2_with (go_at_call 7; (with_reducible refine (HLV.out _ HB8.out).mono ?_); rintro e W' ⟨rfl, hb'⟩; have HBL := Aside0.mk (HB8.out.trans (hb'.mono HB8.out.size)); clear hb')
                  go_ret
                  exact ⟨rfl, HBL.out⟩
                exact AllReady.nil
              exact AllReady.nil
            exact AllReady.nil
          exact AllReady.nil
        exact AllReady.nil
end Tr
end Go.Proofs.YtdecijmncpbheaaDoor
