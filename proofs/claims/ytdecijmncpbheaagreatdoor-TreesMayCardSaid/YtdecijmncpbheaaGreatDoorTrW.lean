/- trees.reader: label, effect. -/
import Derived.Test.YtdecijmncpbheaaGreatDoorMTs
import Derived.Laws.Bits64b

namespace Go.Proofs.YtdecijmncpbheaaGreatDoor
open Go.RowKit Go.Proofs.YtdecijmncpbheaaGreatDoorW.PrintWords Go.Proofs.YtdecijmncpbheaaGreatDoorW.PrintLast Go.Proofs.YtdecijmncpbheaaGreatDoorW.PrintMore
set_option linter.unusedVariables false
set_option linter.unusedSimpArgs false
open Go.Shelf
namespace Tr
open Wd (gB_refl gB_trans gB_below gB_set)
/-- The names that the interface has in memory. -/
structure FaceOk (w0 : World) (fv : FV) (F : FI) : Prop where
  la : fv.la.n = F.labels.length ∧ Kd.string.C w0 fv.la.A F.labels.length F.labels
  ef : fv.ef.n = F.effects.length ∧ Kd.string.C w0 fv.ef.A F.effects.length F.effects
  im : ∃ xs, fv.im.n = xs.length ∧ kImport.C w0 fv.im.A xs.length xs ∧ F.imports = xs.map (·.f0) ∧ xs.length * 24 ≤ 140737488351232
theorem idx_lt {L : List ByteArray} {t : ByteArray} {i : Nat} (h : idx L t = some i) : i < L.length := by
  rw [idx, List.findIdx?_eq_some_iff_getElem] at h
  exact h.choose
theorem placeP_lt {L : List ByteArray} {s s' : PS} {i : Nat} (h : placeP L s = .ok i s') : i < L.length := by
  unfold placeP at h
  split at h
  · split at h
    · rename_i j hj
      injection h with h1 h2
      subst h1
      exact idx_lt hj
    · cases h
  · cases h
theorem bind_id {α : Type} (r : PR α) : (r.bind fun a s => .ok a s) = r := by cases r <;> rfl
set_option maxRecDepth 100000 in
set_option maxHeartbeats 4000000 in
theorem label_calls (w0 : World) (fv : FV) (F : FI) (b : Nat) (w : World) (s : PS) (h : ST w0 fv b w s) (HF : Aside0 (FaceOk w0 fv F)) (HNA : Aside0 (Wd.NumsAt w0)) (hsz : ∀ x ∈ s.ws, x.f1.size ≤ 281474976710656) (hnb : labelP F s ≠ .bad) :
    Calls Tryz.prog 197 #[.pointer (some ⟨b, 0, none⟩)] w (Res w0 fv b w (labelP F s) (fun t v _ => v = .agg #[.bool t.f0, .int .u64 t.f1])) := by
  obtain ⟨R, hR⟩ : ∃ R, R = labelP F s := ⟨_, rfl⟩
  have HST := Aside0.mk h
  have hfr := h.fresh
  have hP : some w.heap.size ≠ some b := by simp; omega
  have HS0 := Aside0.mk (h.step (below_alloc (Below.refl _ _) (.cells #[.bool false, .int .u64 0] 100)))
  have HB0 := Aside0.mk (blk_alloc (blk_new w (.cells #[.bool false, .int .u64 0] 100)) (.cells #[.string ⟨#[37]⟩] 9))
  have HG0 := Aside0.mk (gB_trans (gB_below (b := b) (below_alloc (Below.refl w.heap.size w) (.cells #[.bool false, .int .u64 0] 100))) (gB_below (below_alloc (Below.refl _ _) (.cells #[.string ⟨#[37]⟩] 9))))
  have HI := Aside0.mk (is_at w0 fv b _ s ⟨#[37]⟩ HS0.out)
  simp only [World.size_alloc] at HI
  have HS1 := Aside0.mk (HS0.out.step (below_alloc (Below.refl _ _) (.cells #[.string ⟨#[37]⟩] 9)))
  rw [← hR]
  clear h HS0
  cases hm : isM [37] s with
  | true =>
    have hv : labelP F s = variableP s := by rw [labelP, if_pos hm]
    have HE0 : Aside0 (R = (variableP s).bind fun t s => .ok t s) := ⟨by rw [bind_id, hR, hv]⟩
    rw [hv] at hnb
    have HC0 := Aside0.mk (And.intro hsz hnb)
    have hm2 : isM (⟨#[37]⟩ : ByteArray).data.toList s = true := hm
    rw [hm2] at HI
    clear hm hm2 hR hv hnb hsz
    go_enter Tryz.func197, Tryz.ntmps197
    go_wp2_with (go_at_call 194; (with_reducible refine HI.out.mono ?_); rintro e W ⟨rfl, rfl⟩)
    have HC := Aside0.mk (variable_calls w0 fv b _ s HS1.out HNA HC0.out.1 HC0.out.2)
    try simp only [World.size_alloc, World.size_setCell] at HC
    go_wp2_with fail
    refine HC.out.mono ?_
    clear HC
    intro e W1 hres
    rcases Res.ways hres with ⟨a1, s1, v1, hr, rfl, hv, hst, hg⟩ | ⟨kk, ll, lc, hr, rfl, hg⟩
    rotate_left
    · have he := HE0.out
      rw [hr] at he
      have HX := Aside0.mk (And.intro (gB_trans HG0.out hg) he)
      clear hres hr hg he
      go_wp2
      rw [HX.out.2]
      exact ⟨rfl, Res.err HX.out.1⟩
    have he := HE0.out
    rw [hr] at he
    try simp only [bind_ok] at he
    have HE1 := Aside0.mk he
    have HR1 := Aside0.mk hr
    have HS1 := Aside0.mk hst
    have HV1 := Aside0.mk hv
    have HG1 := Aside0.mk (gB_trans HG0.out hg)
    have HGs1 := Aside0.mk hg
    clear hres hr hg he hst hv
    obtain ⟨tb, tn⟩ := a1
    have hv := HV1.out
    simp only at hv
    subst hv
    have HP1 := Aside0.mk (blk_grown HB0.out HGs1.out hP)
    have q0 := blk_cell HP1.out 0
    have q1 := blk_cell HP1.out 1
    have f0 := blk_frozen HP1.out 0
    have f1 := blk_frozen HP1.out 1
    simp at q0 q1
    go_wp2
    have h5 : ((W1.setCell ⟨w.heap.size, 0, none⟩ (.bool tb)).setCell ⟨w.heap.size, 1, none⟩ (.int .u64 tn)).heap[w.heap.size]? = some (.cells #[.bool tb, .int .u64 tn] 100 (0, 0)) := blk_put (blk_put HP1.out 0 _ rfl) 1 _ rfl
    have r0 := blk_cell h5 0
    have r1 := blk_cell h5 1
    simp at r0 r1
    have HW := Aside0.mk (setSt HS1.out HG1.out (Nat.le_refl w.heap.size) (.bool tb) (.int .u64 tn) hfr HST.out.below)
    have he := HE1.out
    rw [he]
    refine bodyPost_ret (v := .agg #[.bool tb, .int .u64 tn]) (by simp [results, Tryz.f197, go_sem, r0, r1]) rfl ?_
    exact Res.ret rfl HW.out.1 HW.out.2
  | false =>
    have hv : labelP F s = (placeP F.labels s).bind fun i s => .ok ⟨false, i⟩ s := by rw [labelP, if_neg (by rw [hm]; decide)]
    have HE0 : Aside0 (R = (placeP F.labels s).bind fun i s => .ok ⟨false, i⟩ s) := ⟨by rw [hR, hv]⟩
    have hm2 : isM (⟨#[37]⟩ : ByteArray).data.toList s = false := hm
    rw [hm2] at HI
    obtain ⟨hA, hC⟩ := HF.out.la
    have HL := Aside0.mk (Kd.C_below hC HS1.out.below)
    have hmx := hC.2.1
    obtain ⟨⟨A2, c2, hrd, _, _⟩, _, _⟩ := HS1.out
    have c2' := blk_cell hrd 2
    simp only [hA] at c2'
    simp at c2'
    clear hm hm2 hR hv hnb hsz hA hC hrd
    go_enter Tryz.func197, Tryz.ntmps197
    go_wp2_with (go_at_call 194; (with_reducible refine HI.out.mono ?_); rintro e W ⟨rfl, rfl⟩)
    have HC := Aside0.mk (place_calls w0 fv b _ s fv.la.A fv.la.c F.labels HS1.out HL.out)
    try simp only [World.size_alloc, World.size_setCell] at HC
    go_wp2_with fail
    refine HC.out.mono ?_
    clear HC
    intro e W1 hres
    rcases Res.ways hres with ⟨a1, s1, v1, hr, rfl, hv, hst, hg⟩ | ⟨kk, ll, lc, hr, rfl, hg⟩
    rotate_left
    · have he := HE0.out
      rw [hr] at he
      have HX := Aside0.mk (And.intro (gB_trans HG0.out hg) he)
      clear hres hr hg he
      go_wp2
      rw [HX.out.2]
      exact ⟨rfl, Res.err HX.out.1⟩
    have he := HE0.out
    rw [hr] at he
    try simp only [bind_ok] at he
    have HE1 := Aside0.mk he
    have HR1 := Aside0.mk hr
    have HS1 := Aside0.mk hst
    have HV1 := Aside0.mk hv
    have HG1 := Aside0.mk (gB_trans HG0.out hg)
    have HGs1 := Aside0.mk hg
    clear hres hr hg he hst hv
    have hv := HV1.out
    subst hv
    have hlt := placeP_lt HR1.out
    have hw : IntKind.u64.wrap (a1 : Int) = (a1 : Int) := by rw [IntKind.wrap_u64]; omega
    have HP1 := Aside0.mk (blk_grown HB0.out HGs1.out hP)
    have q0 := blk_cell HP1.out 0
    have q1 := blk_cell HP1.out 1
    have f0 := blk_frozen HP1.out 0
    have f1 := blk_frozen HP1.out 1
    simp at q0 q1
    go_wp2
    have h5 : ((W1.setCell ⟨w.heap.size, 0, none⟩ (.bool false)).setCell ⟨w.heap.size, 1, none⟩ (.int .u64 (a1 : Int))).heap[w.heap.size]? = some (.cells #[.bool false, .int .u64 (a1 : Int)] 100 (0, 0)) := blk_put (blk_put HP1.out 0 _ rfl) 1 _ rfl
    have r0 := blk_cell h5 0
    have r1 := blk_cell h5 1
    simp at r0 r1
    have HW := Aside0.mk (setSt HS1.out HG1.out (Nat.le_refl w.heap.size) (.bool false) (.int .u64 (a1 : Int)) hfr HST.out.below)
    have he := HE1.out
    rw [he]
    refine bodyPost_ret (v := .agg #[.bool false, .int .u64 (a1 : Int)]) (by simp [results, Tryz.f197, go_sem, r0, r1]) rfl ?_
    exact Res.ret rfl HW.out.1 HW.out.2
theorem bitP_lt (i : Nat) : bitP i < 2 ^ 64 := by
  unfold bitP
  split
  · rename_i h
    exact Nat.pow_lt_pow_right (by decide) h
  · decide
theorem bit_wrap (i : Nat) : IntKind.u64.wrap (2 ^ min i 64) = ((bitP i : Nat) : Int) := by
  rw [IntKind.wrap_u64]
  have hl := bitP_lt i
  unfold bitP at hl ⊢
  split
  · rename_i h
    rw [if_pos h] at hl
    rw [Nat.min_eq_left (by omega), show (2 : Int) ^ i = ((2 ^ i : Nat) : Int) by simp]
    generalize 2 ^ i = m at hl ⊢
    omega
  · rename_i h
    rw [Nat.min_eq_right (by omega)]
    decide
theorem setOne {w0 w W : World} {fv : FV} {b : Nat} {s : PS} (h : ST w0 fv b W s) (hg : w.grownBy W (some b)) {P : Nat} (hP : w.heap.size ≤ P) (j : Nat) (u : Value) (hb : b < w.heap.size) (h0 : Below w0.heap.size w0 w) : ST w0 fv b (W.setCell ⟨P, j, none⟩ u) s ∧ w.grownBy (W.setCell ⟨P, j, none⟩ u) (some b) := by
  have hg2 : w.grownBy (W.setCell ⟨P, j, none⟩ u) (some b) := ⟨hg.os, hg.tape, hg.output, by rw [World.size_setCell]; exact hg.size, fun i hi hn => (Below.heap_setCell W ⟨P, j, none⟩ u i (by show i ≠ P; omega)).trans (hg.block i hi hn)⟩
  obtain ⟨⟨A, c, h1, h2, h3⟩, h4, h5⟩ := h
  exact ⟨⟨⟨A, c, (Below.heap_setCell W ⟨P, j, none⟩ u b (by show b ≠ P; omega)).trans h1, h2, h3⟩, h4, below_gB h0 hg2 h4⟩, hg2⟩
theorem effL_hit {F : List ByteArray} {last : Int} {N : Nat} {s : PS} (h : isM [62] s = true) : effL F last N s = (mustM [62] s).bind fun _ s => .ok N s := by
  obtain ⟨ws, l, c, n⟩ := s
  cases ws with
  | nil => cases h
  | cons x r =>
    have h2 : (x.f0 == 2 && x.f1.data.toList == [62]) = true := h
    rw [mustM, if_pos h]
    show effW F (x :: r) last N l c n = _
    rw [effW, if_pos h2]
    rfl
theorem effL_miss {F : List ByteArray} {last : Int} {N : Nat} {s : PS} (h : isM [62] s = false) : effL F last N s = (placeP F s).bind fun i s' => if (i : Int) ≤ last then failsP 4 s else effL F i (N ||| bitP i) s' := by
  obtain ⟨ws, l, c, n⟩ := s
  cases ws with
  | nil => rfl
  | cons x r =>
    have h2 : ¬ (x.f0 == 2 && x.f1.data.toList == [62]) = true := by
      rw [show (x.f0 == 2 && x.f1.data.toList == [62]) = false from h]
      decide
    show effW F (x :: r) last N l c n = _
    rw [effW, if_neg h2, placeP]
    show _ = (if (x.f0 == 0) = true then _ else _ : PR Nat).bind _
    cases hk : (x.f0 == 0) with
    | false => rfl
    | true =>
      rw [if_pos rfl, if_pos rfl]
      show _ = (match idx F x.f1 with | some i => PR.ok i (takeP ⟨x :: r, l, c, n⟩) | none => failsP 7 ⟨x :: r, l, c, n⟩).bind _
      cases idx F x.f1 with
      | none => rfl
      | some i => rfl
set_option maxRecDepth 100000 in
set_option maxHeartbeats 4000000 in
theorem effect_calls (w0 : World) (fv : FV) (F : FI) (b : Nat) (w : World) (s : PS) (h : ST w0 fv b w s) (HF : Aside0 (FaceOk w0 fv F)) (HNA : Aside0 (Wd.NumsAt w0)) (hsz : ∀ x ∈ s.ws, x.f1.size ≤ 281474976710656) (hnb : effectP F s ≠ .bad) :
    Calls Tryz.prog 198 #[.pointer (some ⟨b, 0, none⟩)] w (Res w0 fv b w (effectP F s) (fun t v _ => v = .agg #[.bool t.f0, .int .u64 t.f1])) := by
  obtain ⟨R, hR⟩ : ∃ R, R = effectP F s := ⟨_, rfl⟩
  have HST := Aside0.mk h
  have hfr := h.fresh
  have hP : some w.heap.size ≠ some b := by simp; omega
  have HS0 := Aside0.mk (h.step (below_alloc (Below.refl _ _) (.cells #[.bool false, .int .u64 0] 100)))
  have HB0 := Aside0.mk (blk_alloc (blk_new w (.cells #[.bool false, .int .u64 0] 100)) (.cells #[.string ⟨#[37]⟩] 9))
  have HG0 := Aside0.mk (gB_trans (gB_below (b := b) (below_alloc (Below.refl w.heap.size w) (.cells #[.bool false, .int .u64 0] 100))) (gB_below (below_alloc (Below.refl _ _) (.cells #[.string ⟨#[37]⟩] 9))))
  have HI := Aside0.mk (is_at w0 fv b _ s ⟨#[37]⟩ HS0.out)
  simp only [World.size_alloc] at HI
  have HSA := Aside0.mk (HS0.out.step (below_alloc (Below.refl _ _) (.cells #[.string ⟨#[37]⟩] 9)))
  rw [← hR]
  clear h HS0
  cases hm : isM [37] s with
  | true =>
    have hv : effectP F s = variableP s := by rw [effectP, if_pos hm]
    have HE0 : Aside0 (R = (variableP s).bind fun t s => .ok t s) := ⟨by rw [bind_id, hR, hv]⟩
    rw [hv] at hnb
    have HC0 := Aside0.mk (And.intro hsz hnb)
    have hm2 : isM (⟨#[37]⟩ : ByteArray).data.toList s = true := hm
    rw [hm2] at HI
    clear hm hm2 hR hv hnb hsz
    go_enter Tryz.func198, Tryz.ntmps198
    go_wp2_with (go_at_call 194; (with_reducible refine HI.out.mono ?_); rintro e W ⟨rfl, rfl⟩)
    have HC := Aside0.mk (variable_calls w0 fv b _ s HSA.out HNA HC0.out.1 HC0.out.2)
    try simp only [World.size_alloc, World.size_setCell] at HC
    go_wp2_with fail
    refine HC.out.mono ?_
    clear HC
    intro e W1 hres
    rcases Res.ways hres with ⟨a1, s1, v1, hr, rfl, hv, hst, hg⟩ | ⟨kk, ll, lc, hr, rfl, hg⟩
    rotate_left
    · have he := HE0.out
      rw [hr] at he
      have HX := Aside0.mk (And.intro (gB_trans HG0.out hg) he)
      clear hres hr hg he
      go_wp2
      rw [HX.out.2]
      exact ⟨rfl, Res.err HX.out.1⟩
    have he := HE0.out
    rw [hr] at he
    try simp only [bind_ok] at he
    have HE1 := Aside0.mk he
    have HR1 := Aside0.mk hr
    have HS1 := Aside0.mk hst
    have HV1 := Aside0.mk hv
    have HG1 := Aside0.mk (gB_trans HG0.out hg)
    have HGs1 := Aside0.mk hg
    clear hres hr hg he hst hv
    obtain ⟨tb, tn⟩ := a1
    have hv := HV1.out
    simp only at hv
    subst hv
    have HP1 := Aside0.mk (blk_grown HB0.out HGs1.out hP)
    have q0 := blk_cell HP1.out 0
    have q1 := blk_cell HP1.out 1
    have f0 := blk_frozen HP1.out 0
    have f1 := blk_frozen HP1.out 1
    simp at q0 q1
    go_wp2
    have h5 : ((W1.setCell ⟨w.heap.size, 0, none⟩ (.bool tb)).setCell ⟨w.heap.size, 1, none⟩ (.int .u64 tn)).heap[w.heap.size]? = some (.cells #[.bool tb, .int .u64 tn] 100 (0, 0)) := blk_put (blk_put HP1.out 0 _ rfl) 1 _ rfl
    have r0 := blk_cell h5 0
    have r1 := blk_cell h5 1
    simp at r0 r1
    have HW := Aside0.mk (setSt HS1.out HG1.out (Nat.le_refl w.heap.size) (.bool tb) (.int .u64 tn) hfr HST.out.below)
    have he := HE1.out
    rw [he]
    refine bodyPost_ret (v := .agg #[.bool tb, .int .u64 tn]) (by simp [results, Tryz.f198, go_sem, r0, r1]) rfl ?_
    exact Res.ret rfl HW.out.1 HW.out.2
  | false =>
    have hv : effectP F s = effB F s := by rw [effectP, if_neg (by rw [hm]; decide)]
    have HE0 : Aside0 (R = (mustM [60] s).bind fun _ s => (effL F.effects (-1) 0 s).bind fun N s => .ok ⟨false, N⟩ s) := ⟨by rw [hR, hv]; rfl⟩
    have hm2 : isM (⟨#[37]⟩ : ByteArray).data.toList s = false := hm
    rw [hm2] at HI
    clear hm hm2 hR hv hnb hsz
    go_enter Tryz.func198, Tryz.ntmps198
    go_wp2_with (go_at_call 194; (with_reducible refine HI.out.mono ?_); rintro e W ⟨rfl, rfl⟩)
    have HC := Aside0.mk (mark_at w0 fv b _ s ⟨#[60]⟩ HSA.out)
    try simp only [World.size_alloc, World.size_setCell] at HC
    go_wp2_with fail
    refine HC.out.mono ?_
    clear HC
    intro e W1 hres
    rcases Res.ways hres with ⟨a1, s1, v1, hr, rfl, hv, hst, hg⟩ | ⟨kk, ll, lc, hr, rfl, hg⟩
    rotate_left
    · have he := HE0.out
      rw [hr] at he
      have HX := Aside0.mk (And.intro (gB_trans HG0.out hg) he)
      clear hres hr hg he
      go_wp2
      rw [HX.out.2]
      exact ⟨rfl, Res.err HX.out.1⟩
    have he := HE0.out
    rw [hr] at he
    try simp only [bind_ok] at he
    have HE1 := Aside0.mk he
    have HR1 := Aside0.mk hr
    have HS1 := Aside0.mk hst
    have HV1 := Aside0.mk hv
    have HG1 := Aside0.mk (gB_trans HG0.out hg)
    have HGs1 := Aside0.mk hg
    clear hres hr hg he hst hv
    have HB1 := Aside0.mk (blk_grown HB0.out HGs1.out hP)
    clear HB0 HG0 HE0 HI HSA HGs1 HR1 HV1
    go_wp2
    go_loopg [3] (s1.ws.length + 1) (fun gk i W => ∃ (last : Int) (N : Nat) (sk : PS), i = .int .i64 last ∧ -1 ≤ last ∧ last ≤ 9223372036854775807 ∧ N < 18446744073709551616 ∧ sk.ws.length + 1 ≤ gk ∧ Aside0 (ST w0 fv b W sk) ∧ Aside0 (w.grownBy W (some b)) ∧ Aside0 (W.heap[w.heap.size]? = some (.cells #[.bool false, .int .u64 (N : Int)] 100 (0, 0))) ∧ Aside0 (R = (effL F.effects last N sk).bind fun N s => .ok ⟨false, N⟩ s))
    case atStart => exact ⟨-1, 0, s1, rfl, by omega, by omega, by omega, by omega, HS1, HG1, HB1, HE1⟩
    case round =>
      clear HS1 HG1 HB1 HE1
      obtain ⟨last, N, sk, rfl, hl1, hl2, hN, hgk, HS, HG, HB, HE⟩ := hrel
      have HI := Aside0.mk (is_at w0 fv b wr sk ⟨#[62]⟩ HS.out)
      have HS0 := Aside0.mk (HS.out.step (below_alloc (Below.refl _ _) (.cells #[.string ⟨#[62]⟩] 9)))
      cases hm : isM [62] sk with
      | true =>
        have hm2 : isM (⟨#[62]⟩ : ByteArray).data.toList sk = true := hm
        rw [hm2] at HI
        have HE0 : Aside0 (R = (mustM [62] sk).bind fun _ s => .ok ⟨false, N⟩ s) := ⟨by
          rw [HE.out, effL_hit hm]
          cases mustM [62] sk <;> rfl⟩
        have HB0 := Aside0.mk (blk_alloc HB.out (.cells #[.string ⟨#[62]⟩] 9))
        have HG0 := Aside0.mk (gB_trans HG.out (gB_below (below_alloc (Below.refl _ _) (.cells #[.string ⟨#[62]⟩] 9))))
        clear hm hm2 HB HG HE HS
        go_wp2_with (go_at_call 194; (with_reducible refine HI.out.mono ?_); rintro e W ⟨rfl, rfl⟩)
        have HC := Aside0.mk (mark_at w0 fv b _ sk ⟨#[62]⟩ HS0.out)
        try simp only [World.size_alloc, World.size_setCell] at HC
        go_wp2_with fail
        refine HC.out.mono ?_
        clear HC
        intro e W1 hres
        rcases Res.ways hres with ⟨a1, s1, v1, hr, rfl, hv, hst, hg⟩ | ⟨kk, ll, lc, hr, rfl, hg⟩
        rotate_left
        · have he := HE0.out
          rw [hr] at he
          have HX := Aside0.mk (And.intro (gB_trans HG0.out hg) he)
          clear hres hr hg he
          go_wp2
          rw [HX.out.2]
          exact ⟨rfl, Res.err HX.out.1⟩
        have he := HE0.out
        rw [hr] at he
        try simp only [bind_ok] at he
        have HE1 := Aside0.mk he
        have HR1 := Aside0.mk hr
        have HS1 := Aside0.mk hst
        have HV1 := Aside0.mk hv
        have HG1 := Aside0.mk (gB_trans HG0.out hg)
        have HGs1 := Aside0.mk hg
        clear hres hr hg he hst hv
        have HP1 := Aside0.mk (blk_grown HB0.out HGs1.out hP)
        have q0 := blk_cell HP1.out 0
        have q1 := blk_cell HP1.out 1
        have f0 := blk_frozen HP1.out 0
        have f1 := blk_frozen HP1.out 1
        simp at q0 q1
        go_wp2
        have h5 : ((W1.setCell ⟨w.heap.size, 0, none⟩ (.bool false)).setCell ⟨w.heap.size, 1, none⟩ (.int .u64 (N : Int))).heap[w.heap.size]? = some (.cells #[.bool false, .int .u64 (N : Int)] 100 (0, 0)) := blk_put (blk_put HP1.out 0 _ rfl) 1 _ rfl
        have r0 := blk_cell h5 0
        have r1 := blk_cell h5 1
        simp at r0 r1
        have HW := Aside0.mk (setSt HS1.out HG1.out (Nat.le_refl w.heap.size) (.bool false) (.int .u64 (N : Int)) hfr HST.out.below)
        have he := HE1.out
        rw [he]
        refine bodyPost_ret (v := .agg #[.bool false, .int .u64 (N : Int)]) (by simp [results, Tryz.f198, go_sem, r0, r1]) rfl ?_
        exact Res.ret rfl HW.out.1 HW.out.2
      | false =>
        have hm2 : isM (⟨#[62]⟩ : ByteArray).data.toList sk = false := hm
        rw [hm2] at HI
        obtain ⟨⟨A2, c2, hrd, hlen, hC⟩, hbase, hbel⟩ := HS0.out
        obtain ⟨O, hO⟩ : ∃ O : Obj, O = .cells #[.slice A2 sk.ws.length c2, .string fv.m, .slice fv.la.A fv.la.n fv.la.c, .slice fv.ro.A fv.ro.n fv.ro.c, .slice fv.ef.A fv.ef.n fv.ef.c, .slice fv.ty.A fv.ty.n fv.ty.c, .slice fv.im.A fv.im.n fv.im.c, .slice fv.en.A fv.en.n fv.en.c, .int .i64 sk.l, .int .i64 sk.c, .int .i64 (sk.n : Int)] 248 := ⟨_, rfl⟩
        have hrd2 : RD ((wr.alloc (.cells #[.string ⟨#[62]⟩] 9)).alloc O) (wr.heap.size + 1) (.slice A2 sk.ws.length c2) fv sk.l sk.c sk.n := by
          have := blk_new (wr.alloc (.cells #[.string ⟨#[62]⟩] 9)) O
          rw [World.size_alloc] at this
          rw [RD, this, hO]
        have hgb : some (wr.heap.size + 1) ≠ some b := by have := HS.out.fresh; simp; omega
        have HX := Aside0.mk (And.intro hrd2 (And.intro hlen (And.intro hC hgb)))
        have hwb : w0.heap.size ≤ wr.heap.size + 1 := Nat.le_trans hbase (by have := HS.out.fresh; omega)
        have HWB := Aside0.mk hwb
        have HSX := Aside0.mk (HS0.out.step (below_alloc (Below.refl _ _) O))
        have HBX := Aside0.mk (blk_alloc (blk_alloc HB.out (.cells #[.string ⟨#[62]⟩] 9)) O)
        have HG0 := Aside0.mk (gB_trans HG.out (gB_trans (gB_below (b := b) (below_alloc (Below.refl wr.heap.size wr) (.cells #[.string ⟨#[62]⟩] 9))) (gB_below (below_alloc (Below.refl _ _) O))))
        have e0 := blk_cell hrd 0
        have e1 := blk_cell hrd 1
        have e2 := blk_cell hrd 2
        have e3 := blk_cell hrd 3
        have e4 := blk_cell hrd 4
        have e5 := blk_cell hrd 5
        have e6 := blk_cell hrd 6
        have e7 := blk_cell hrd 7
        have e8 := blk_cell hrd 8
        have e9 := blk_cell hrd 9
        have e10 := blk_cell hrd 10
        have q4 := blk_cell (blk_alloc hrd O) 4
        obtain ⟨hA, hCL⟩ := HF.out.ef
        have HL := Aside0.mk (Kd.C_below hCL HSX.out.below)
        have hmx := hCL.2.1
        have HE0 : Aside0 (R = (placeP F.effects sk).bind fun i s' => (if (i : Int) ≤ last then failsP 4 sk else effL F.effects i (N ||| bitP i) s').bind fun N s => .ok ⟨false, N⟩ s) := ⟨by
          rw [HE.out, effL_miss hm]
          cases placeP F.effects sk <;> rfl⟩
        simp only [hA] at q4
        have HHA := Aside0.mk hA
        simp at e0 e1 e2 e3 e4 e5 e6 e7 e8 e9 e10 q4
        rw [hO] at q4 HSX HBX HG0 HL HX
        have HO := Aside0.mk hO
        clear hrd hrd2 hC hbase hbel hm hm2 HB HG HE HS HS0 hO hlen hgb hwb hA hCL
        go_wp2_with (go_at_call 194; (with_reducible refine HI.out.mono ?_); rintro e W ⟨rfl, rfl⟩)
        have HC := Aside0.mk (place_calls w0 fv b _ sk fv.ef.A fv.ef.c F.effects HSX.out HL.out)
        try simp only [World.size_alloc, World.size_setCell] at HC
        go_wp2_with fail
        refine HC.out.mono ?_
        clear HC
        intro e W1 hres
        rcases Res.ways hres with ⟨a1, s1, v1, hr, rfl, hv, hst, hg⟩ | ⟨kk, ll, lc, hr, rfl, hg⟩
        rotate_left
        · have he := HE0.out
          rw [hr] at he
          have HX := Aside0.mk (And.intro (gB_trans HG0.out hg) he)
          clear hres hr hg he
          go_wp2
          rw [HX.out.2]
          exact ⟨rfl, Res.err HX.out.1⟩
        have he := HE0.out
        rw [hr] at he
        try simp only [bind_ok] at he
        have HE1 := Aside0.mk he
        have HR1 := Aside0.mk hr
        have HS1 := Aside0.mk hst
        have HV1 := Aside0.mk hv
        have HG1 := Aside0.mk (gB_trans HG0.out hg)
        have HGs1 := Aside0.mk hg
        clear hres hr hg he hst hv
        have hv := HV1.out
        subst hv
        have hlt := placeP_lt HR1.out
        rcases Int.lt_or_le last (a1 : Int) with hcmp | hcmp
        · have d1 : decide ((a1 : Int) ≤ last) = false := decide_eq_false (by omega)
          have HB1 := Aside0.mk (blk_grown HBX.out HGs1.out hP)
          have q0 := blk_cell HB1.out 0
          have q1 := blk_cell HB1.out 1
          have f1 := blk_frozen HB1.out 1
          simp at q0 q1
          clear HB1
          go_wp2
          go_region_law (fail)
          all_goals (
            have e : bits .or .u64 (N : Int) (IntKind.u64.wrap (2 ^ min a1 64)) = ((N ||| bitP a1 : Nat) : Int) := by
              rw [bit_wrap]
              exact bits_or_u64_nat N (bitP a1) hN (bitP_lt a1)
            rw [e]
            have HB1 := Aside0.mk (blk_grown HBX.out HGs1.out hP)
            have hS2 := setOne HS1.out HG1.out (Nat.le_refl w.heap.size) 1 (.int .u64 ((N ||| bitP a1 : Nat) : Int)) hfr HST.out.below
            have hB2 : (W1.setCell ⟨w.heap.size, 1, none⟩ (.int .u64 ((N ||| bitP a1 : Nat) : Int))).drew.heap[w.heap.size]? = some (.cells #[.bool false, .int .u64 ((N ||| bitP a1 : Nat) : Int)] 100 (0, 0)) := blk_drew (blk_put HB1.out 1 _ rfl)
            have hlen2 : s1.ws.length + 1 ≤ sk.ws.length := by
              obtain ⟨pre, e1, e2, _⟩ := s_placeP false F.effects sk a1 s1 HR1.out
              rw [e1, List.length_append]
              omega
            have HFIN := Aside0.mk (And.intro hS2 (And.intro hB2 hlen2))
            clear hS2 hB2 hlen2
            go_wp2
            go_roundg (gk - 1)
            case measure => have := HFIN.out.2.2; omega
            case rel =>
              have := HFIN.out.2.2
              refine ⟨a1, N ||| bitP a1, s1, rfl, by omega, by omega, Nat.or_lt_two_pow (n := 64) hN (bitP_lt a1), by omega, ⟨HFIN.out.1.1.step (Below.refl _ _).drew⟩, ⟨gB_trans HFIN.out.1.2 (gB_below (Below.refl _ _).drew)⟩, ⟨HFIN.out.2.1⟩, ⟨?_⟩⟩
              have he := HE1.out
              rw [he]
              show (if (a1 : Int) ≤ last then failsP 4 sk else effL F.effects a1 (N ||| bitP a1) s1).bind _ = _
              rw [if_neg (by omega)])
        · have d1 : decide ((a1 : Int) ≤ last) = true := decide_eq_true (by omega)
          have HSW : Aside0 (ST w0 fv (wr.heap.size + 1) W1 sk) := ⟨⟨⟨A2, c2, blk_grown HX.out.1 HGs1.out HX.out.2.2.2, HX.out.2.1, HX.out.2.2.1⟩, HWB.out, HS1.out.below⟩⟩
          have HFL := Aside0.mk (fails_calls w0 fv (wr.heap.size + 1) W1 sk 4 HSW.out)
          have HRR : Aside0 (R = .err 4 (place sk).1 (place sk).2) := ⟨by
            have he := HE1.out
            rw [he]
            show (if (a1 : Int) ≤ last then failsP 4 sk else _ : PR Nat).bind _ = _
            rw [if_pos hcmp]
            rfl⟩
          go_wp2_with (go_at_call 221; (with_reducible refine HFL.out.mono ?_); rintro e W2 ⟨rfl, hb⟩; unfold faultE faultV)
          rw [HRR.out]
          exact ⟨rfl, Res.err (gB_trans HG1.out (gB_below hb))⟩
end Tr
end Go.Proofs.YtdecijmncpbheaaGreatDoor
