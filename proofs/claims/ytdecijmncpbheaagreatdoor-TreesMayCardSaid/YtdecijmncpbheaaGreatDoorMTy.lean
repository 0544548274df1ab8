/- Several texts as one: TrY, TrZ, TrZw. -/
import Derived.Test.YtdecijmncpbheaaGreatDoorTrX
import Derived.Test.YtdecijmncpbheaaGreatDoorMTp
import Derived.Laws.EntriesVeiled

namespace Go.Proofs.YtdecijmncpbheaaGreatDoor
open Go.RowKit Go.Proofs.YtdecijmncpbheaaGreatDoorW.PrintWords Go.Proofs.YtdecijmncpbheaaGreatDoorW.PrintLast Go.Proofs.YtdecijmncpbheaaGreatDoorW.PrintMore
set_option linter.unusedVariables false
set_option linter.unusedSimpArgs false
open Go.Shelf
namespace Tr
open Wd (gB_refl gB_trans gB_below gB_set)
theorem nb_of {α β : Type} {R : PR β} {r : PR α} {f : α → PS → PR β} (hE : R = r.bind f) (h : R ≠ .bad) : r ≠ .bad := by
  rintro rfl
  exact h hE
def good (w : World) (a : List Nd) (v : Value) (W : World) : Prop := Row W w.heap.size v a
/-- What is known of deep, at a part (by its number), that reads as p does. -/
def Deep (w0 : World) (fv : FV) (b k : Nat) (g : Nat) (p : PS → PR (List Nd)) : Prop :=
  ∀ (ne : Int) (w : World) (s : PS), ne + g = 33 → 1 ≤ ne → ST w0 fv b w s → Okay s → p s ≠ .bad →
    Calls Tryz.prog 192 #[.pointer (some ⟨b, 0, none⟩), .int .i64 ne, .func (.func k) #[.pointer (some ⟨b, 0, none⟩)] #[]] w (Res w0 fv b w (p s) (good w))
def Part (w0 : World) (fv : FV) (b k : Nat) (g : Nat) (p : PS → PR (List Nd)) : Prop :=
  ∀ (ne : Int) (w : World) (s : PS), ne + g = 33 → 1 ≤ ne → ST w0 fv b w s → Okay s → p s ≠ .bad →
    Calls Tryz.prog k #[.pointer (some ⟨b, 0, none⟩), .int .i64 ne] w (Res w0 fv b w (p s) (good w))
set_option maxRecDepth 100000 in
set_option maxHeartbeats 4000000 in
theorem deep_zero (w0 : World) (fv : FV) (b k : Nat) : Deep w0 fv b k 0 (failsP 12) := by
  intro ne w s hne h1 h ho hnb
  have HF := Aside0.mk (fails_calls w0 fv b w s 12 h)
  have d1 : decide (ne > 32) = true := decide_eq_true (by omega)
  clear hne h1 h ho hnb
  go_enter Tryz.func192, Tryz.ntmps192
  go_wp2_with (go_at_call 221; (with_reducible refine HF.out.mono ?_); rintro e W2 ⟨rfl, hb⟩; unfold faultE faultV)
  exact ⟨rfl, Res.err (gB_below hb)⟩
set_option maxRecDepth 100000 in
set_option maxHeartbeats 4000000 in
theorem deep_whole (w0 : World) (fv : FV) (b g : Nat) (p : PS → PR (List Nd)) (H : Part w0 fv b 159 (g + 1) p) : Deep w0 fv b 159 (g + 1) p := by
  intro ne w s hne h1 h ho hnb
  have HF := Aside0.mk (H ne w s hne h1 h ho hnb)
  have d1 : decide (ne > 32) = false := decide_eq_false (by omega)
  clear hne h1 h ho hnb H
  go_enter Tryz.func192, Tryz.ntmps192
  go_wp2_with fail
  refine HF.out.mono ?_
  intro e W hres
  rcases Res.ways hres with ⟨a1, s1, v1, hr, rfl, hv, hst, hg⟩ | ⟨kk, ll, lc, hr, rfl, hg⟩
  · have HX := Aside0.mk (And.intro hr (And.intro hv (And.intro hst hg)))
    clear hres hr hv hst hg
    go_wp2
    go_ret
    rw [HX.out.1]
    exact Res.ret HX.out.2.1 HX.out.2.2.1 HX.out.2.2.2
  · have HX := Aside0.mk (And.intro hr hg)
    clear hres hr hg
    go_wp2
    rw [HX.out.1]
    exact ⟨rfl, Res.err HX.out.2⟩
set_option maxRecDepth 100000 in
set_option maxHeartbeats 4000000 in
theorem deep_atom (w0 : World) (fv : FV) (b g : Nat) (p : PS → PR (List Nd)) (H : Part w0 fv b 193 (g + 1) p) : Deep w0 fv b 193 (g + 1) p := by
  intro ne w s hne h1 h ho hnb
  have HF := Aside0.mk (H ne w s hne h1 h ho hnb)
  have d1 : decide (ne > 32) = false := decide_eq_false (by omega)
  clear hne h1 h ho hnb H
  go_enter Tryz.func192, Tryz.ntmps192
  go_wp2_with fail
  refine HF.out.mono ?_
  intro e W hres
  rcases Res.ways hres with ⟨a1, s1, v1, hr, rfl, hv, hst, hg⟩ | ⟨kk, ll, lc, hr, rfl, hg⟩
  · have HX := Aside0.mk (And.intro hr (And.intro hv (And.intro hst hg)))
    clear hres hr hv hst hg
    go_wp2
    go_ret
    rw [HX.out.1]
    exact Res.ret HX.out.2.1 HX.out.2.2.1 HX.out.2.2.2
  · have HX := Aside0.mk (And.intro hr hg)
    clear hres hr hg
    go_wp2
    rw [HX.out.1]
    exact ⟨rfl, Res.err HX.out.2⟩
set_option maxRecDepth 100000 in
set_option maxHeartbeats 4000000 in
theorem held_part (w0 : World) (fv : FV) (b g : Nat) (p : PS → PR (List Nd)) (hk : KR LN p) (HD : Aside0 (Deep w0 fv b 159 g p)) : Part w0 fv b 222 (g + 1) (heldP p) := by
  intro ne w s hne h1 h ho hnb
  have hmf : ∀ (fn : Fn) (first cap : Array Value) (w : World), (Instr.makeFunc fn first cap).run Tryz.prog w = .ok (.func fn first cap) w := fun _ _ _ _ => rfl
  obtain ⟨R, hR⟩ : ∃ R, R = heldP p s := ⟨_, rfl⟩
  have HE0 : Aside0 (R = (mustM [123] s).bind fun _ s => (p s).bind fun a s => (mustM [125] s).bind fun _ s => .ok a s) := ⟨hR⟩
  rw [← hR] at hnb ⊢
  have HNB := Aside0.mk (And.intro hnb (And.intro ho hk))
  have HG0 := Aside0.mk (gB_refl w b)
  have HSA := Aside0.mk h
  have HLT := Aside0.mk h.fresh
  have HNE := Aside0.mk (And.intro hne h1)
  have hw : IntKind.i64.wrap (ne + 1) = ne + 1 := by rw [IntKind.wrap_i64]; omega
  clear h ho hnb hR hne h1 hk
  go_enter Tryz.func222, Tryz.ntmps222
  have HC := Aside0.mk (mark_at w0 fv b w s ⟨#[123]⟩ HSA.out)
  try simp only [World.size_alloc, World.size_setCell] at HC
  go_wp2_with fail
  refine HC.out.mono ?_
  clear HC
  intro e W1 hres
  rcases Res.ways hres with ⟨a1, s1, v1, hr, rfl, hv, hst, hg⟩ | ⟨kk, ll, lc, hr, rfl, hg⟩
  rotate_left
  · have he := HE0.out
    rw [hr] at he
    have HX := Aside0.mk (And.intro (gB_trans HG0.out hg) he)
    clear hres hr hg he
    go_wp2
    rw [HX.out.2]
    exact ⟨rfl, Res.err HX.out.1⟩
  have he := HE0.out
  rw [hr] at he
  try simp only [bind_ok] at he
  have HE1 := Aside0.mk he
  have HR1 := Aside0.mk hr
  have HS1 := Aside0.mk hst
  have HV1 := Aside0.mk hv
  have HG1 := Aside0.mk (gB_trans HG0.out hg)
  have HGs1 := Aside0.mk hg
  clear hres hr hg he hst hv
  have HO1 := Aside0.mk (kr_mustM _ _ _ _ HR1.out HNB.out.2.1).1
  have HC := Aside0.mk (HD.out (ne + 1) W1 s1 (by have := HNE.out.1; omega) (by have := HNE.out.2; omega) HS1.out HO1.out (nb_of HE1.out HNB.out.1))
  try simp only [World.size_alloc, World.size_setCell] at HC
  go_wp2_with fail
  refine HC.out.mono ?_
  clear HC
  intro e W2 hres
  rcases Res.ways hres with ⟨a2, s2, v2, hr, rfl, hv, hst, hg⟩ | ⟨kk, ll, lc, hr, rfl, hg⟩
  rotate_left
  · have he := HE1.out
    rw [hr] at he
    have HX := Aside0.mk (And.intro (gB_trans HG1.out hg) he)
    clear hres hr hg he
    go_wp2
    rw [HX.out.2]
    exact ⟨rfl, Res.err HX.out.1⟩
  have he := HE1.out
  rw [hr] at he
  try simp only [bind_ok] at he
  have HE2 := Aside0.mk he
  have HR2 := Aside0.mk hr
  have HS2 := Aside0.mk hst
  have HV2 := Aside0.mk hv
  have HG2 := Aside0.mk (gB_trans HG1.out hg)
  have HGs2 := Aside0.mk hg
  clear hres hr hg he hst hv
  have HROW := Aside0.mk (HV2.out.lower HG1.out.size)
  have HC := Aside0.mk (mark_at w0 fv b W2 s2 ⟨#[125]⟩ HS2.out)
  try simp only [World.size_alloc, World.size_setCell] at HC
  go_wp2_with fail
  refine HC.out.mono ?_
  clear HC
  intro e W3 hres
  rcases Res.ways hres with ⟨a3, s3, v3, hr, rfl, hv, hst, hg⟩ | ⟨kk, ll, lc, hr, rfl, hg⟩
  rotate_left
  · have he := HE2.out
    rw [hr] at he
    have HX := Aside0.mk (And.intro (gB_trans HG2.out hg) he)
    clear hres hr hg he
    go_wp2
    rw [HX.out.2]
    exact ⟨rfl, Res.err HX.out.1⟩
  have he := HE2.out
  rw [hr] at he
  try simp only [bind_ok] at he
  have HE3 := Aside0.mk he
  have HR3 := Aside0.mk hr
  have HS3 := Aside0.mk hst
  have HV3 := Aside0.mk hv
  have HG3 := Aside0.mk (gB_trans HG2.out hg)
  have HGs3 := Aside0.mk hg
  clear hres hr hg he hst hv
  go_wp2
  go_ret
  have he := HE3.out
  rw [he]
  exact Res.ret (HROW.out.grown HGs3.out HLT.out) HS3.out HG3.out
end Tr
end Go.Proofs.YtdecijmncpbheaaGreatDoor

namespace Go.Proofs.YtdecijmncpbheaaGreatDoor
open Go.RowKit Go.Proofs.YtdecijmncpbheaaGreatDoorW.PrintWords Go.Proofs.YtdecijmncpbheaaGreatDoorW.PrintLast Go.Proofs.YtdecijmncpbheaaGreatDoorW.PrintMore
set_option linter.unusedVariables false
set_option linter.unusedSimpArgs false
open Go.Shelf
namespace Tr
open Wd (gB_refl gB_trans gB_below gB_set)
def fnV (b k : Nat) : Value := .func (.func k) #[.pointer (some ⟨b, 0, none⟩)] #[]
set_option maxRecDepth 100000 in
set_option maxHeartbeats 4000000 in
theorem atom_part (w0 : World) (fv : FV) (F : FI) (b g : Nat) (p q : PS → PR (List Nd)) (HH : Aside0 (Part w0 fv b 222 (g + 1) (heldP p))) (HT : Aside0 (Part w0 fv b 223 (g + 1) (tupleP F p))) (HN : Aside0 (Part w0 fv b 224 (g + 1) (namedP F q))) :
    Part w0 fv b 193 (g + 1) (atomF F p q) := by
  intro ne w s hne h1 h ho hnb
  have hmf : ∀ (fn : Fn) (first cap : Array Value) (w : World), (Instr.makeFunc fn first cap).run Tryz.prog w = .ok (.func fn first cap) w := fun _ _ _ _ => rfl
  obtain ⟨R, hR⟩ : ∃ R, R = atomF F p q s := ⟨_, rfl⟩
  have HR := Aside0.mk hR
  rw [← hR]
  have hlt := h.fresh
  have HSA := Aside0.mk (h.step (below_alloc (Below.refl _ _) (.cells #[.int .u8 2, .string ⟨#[123]⟩, .func (.func 222) #[.pointer (some ⟨b, 0, none⟩)] #[], .int .u8 2, .string ⟨#[40]⟩, .func (.func 223) #[.pointer (some ⟨b, 0, none⟩)] #[]] 308)))
  have HGA := Aside0.mk (gB_below (b := b) (below_alloc (Below.refl w.heap.size w) (.cells #[.int .u8 2, .string ⟨#[123]⟩, .func (.func 222) #[.pointer (some ⟨b, 0, none⟩)] #[], .int .u8 2, .string ⟨#[40]⟩, .func (.func 223) #[.pointer (some ⟨b, 0, none⟩)] #[]] 308)))
  have HBA := Aside0.mk (blk_new w (.cells #[.int .u8 2, .string ⟨#[123]⟩, .func (.func 222) #[.pointer (some ⟨b, 0, none⟩)] #[], .int .u8 2, .string ⟨#[40]⟩, .func (.func 223) #[.pointer (some ⟨b, 0, none⟩)] #[]] 308))
  have HX := Aside0.mk (And.intro hne (And.intro h1 (And.intro ho hnb)))
  clear h ho hnb hne h1 hR
  go_enter Tryz.func193, Tryz.ntmps193
  go_wp2
  go_loopg [15] 4 (fun gk i W => ∃ k : Nat, i = .int .i64 (k : Int) ∧ k ≤ 2 ∧ 3 - k ≤ gk ∧ Aside0 (ST w0 fv b W s) ∧ Aside0 (w.grownBy W (some b)) ∧ Aside0 (W.heap[w.heap.size]? = some (.cells #[.int .u8 2, .string ⟨#[123]⟩, .func (.func 222) #[.pointer (some ⟨b, 0, none⟩)] #[], .int .u8 2, .string ⟨#[40]⟩, .func (.func 223) #[.pointer (some ⟨b, 0, none⟩)] #[]] 308 (0, 0))) ∧ Aside0 ((1 ≤ k → isM [123] s = false) ∧ (2 ≤ k → isM [40] s = false)))
  case atStart => exact ⟨0, rfl, by omega, by omega, HSA, HGA, HBA, ⟨fun h => by omega, fun h => by omega⟩⟩
  case round =>
    clear HSA HGA HBA
    obtain ⟨k, rfl, hk, hkg, HS, HG, HB, HM⟩ := hrel
    rcases (by omega : k = 0 ∨ k = 1 ∨ k = 2) with rfl | rfl | rfl
    · have e0 := blk_cell HB.out 0
      have e1 := blk_cell HB.out 1
      have e2 := blk_cell HB.out 2
      simp at e0 e1 e2
      have HI := Aside0.mk (is_at w0 fv b _ s ⟨#[123]⟩ (HS.out.step (below_alloc (Below.refl _ _) (.cells #[.int .u8 2, .string ⟨#[123]⟩, .func (.func 222) #[.pointer (some ⟨b, 0, none⟩)] #[]] 308))))
      simp only [World.size_alloc] at HI
      have HS2 := Aside0.mk ((HS.out.step (below_alloc (Below.refl _ _) (.cells #[.int .u8 2, .string ⟨#[123]⟩, .func (.func 222) #[.pointer (some ⟨b, 0, none⟩)] #[]] 308))).step (below_alloc (Below.refl _ _) (.cells #[.string ⟨#[123]⟩] 9)))
      have HG2 := Aside0.mk (gB_trans HG.out (gB_trans (gB_below (b := b) (below_alloc (Below.refl wr.heap.size wr) (.cells #[.int .u8 2, .string ⟨#[123]⟩, .func (.func 222) #[.pointer (some ⟨b, 0, none⟩)] #[]] 308))) (gB_below (below_alloc (Below.refl _ _) (.cells #[.string ⟨#[123]⟩] 9)))))
      have HB2 := Aside0.mk (blk_alloc (blk_alloc HB.out (.cells #[.int .u8 2, .string ⟨#[123]⟩, .func (.func 222) #[.pointer (some ⟨b, 0, none⟩)] #[]] 308)) (.cells #[.string ⟨#[123]⟩] 9))
      cases hm : isM [123] s with
      | true =>
        have hm2 : isM (⟨#[123]⟩ : ByteArray).data.toList s = true := hm
        rw [hm2] at HI
        have HRR : Aside0 (R = heldP p s) := ⟨by rw [HR.out, atomF]; rw [if_pos hm]⟩
        clear hm hm2
        go_wp2_with (go_at_call 194; (with_reducible refine HI.out.mono ?_); rintro e W ⟨rfl, rfl⟩)
        have HC := Aside0.mk (HH.out ne _ s HX.out.1 HX.out.2.1 HS2.out HX.out.2.2.1 (fun e => HX.out.2.2.2 (by rw [← HR.out, HRR.out]; exact e)))
        try simp only [World.size_alloc, World.size_setCell] at HC
        go_wp2_with fail
        refine HC.out.mono ?_
        clear HC
        intro e WL hres
        rcases Res.ways hres with ⟨aL, sL, vL, hr, rfl, hv, hst, hg⟩ | ⟨kk, ll, lc, hr, rfl, hg⟩
        · have HXL := Aside0.mk (And.intro (HRR.out.trans hr) (And.intro hv (And.intro hst (gB_trans HG2.out hg))))
          clear hres hr hv hst hg
          go_wp2
          go_ret
          rw [HXL.out.1]
          exact Res.ret (Row.lower HXL.out.2.1 HG2.out.size) HXL.out.2.2.1 HXL.out.2.2.2
        · have HXL := Aside0.mk (And.intro (HRR.out.trans hr) (gB_trans HG2.out hg))
          clear hres hr hg
          go_wp2
          rw [HXL.out.1]
          exact ⟨rfl, Res.err HXL.out.2⟩
      | false =>
        have hm2 : isM (⟨#[123]⟩ : ByteArray).data.toList s = false := hm
        rw [hm2] at HI
        have HM2 := Aside0.mk hm
        clear hm hm2
        go_wp2_with (go_at_call 194; (with_reducible refine HI.out.mono ?_); rintro e W ⟨rfl, rfl⟩)
        go_roundg (gk - 1)
        case measure => omega
        case rel => exact ⟨1, by go_num, by omega, by omega, HS2, HG2, HB2, ⟨fun _ => HM2.out, fun _ => absurd ‹2 ≤ 1› (by decide)⟩⟩
    · have e0 := blk_cell HB.out 3
      have e1 := blk_cell HB.out 4
      have e2 := blk_cell HB.out 5
      simp at e0 e1 e2
      have HI := Aside0.mk (is_at w0 fv b _ s ⟨#[40]⟩ (HS.out.step (below_alloc (Below.refl _ _) (.cells #[.int .u8 2, .string ⟨#[40]⟩, .func (.func 223) #[.pointer (some ⟨b, 0, none⟩)] #[]] 308))))
      simp only [World.size_alloc] at HI
      have HS2 := Aside0.mk ((HS.out.step (below_alloc (Below.refl _ _) (.cells #[.int .u8 2, .string ⟨#[40]⟩, .func (.func 223) #[.pointer (some ⟨b, 0, none⟩)] #[]] 308))).step (below_alloc (Below.refl _ _) (.cells #[.string ⟨#[40]⟩] 9)))
      have HG2 := Aside0.mk (gB_trans HG.out (gB_trans (gB_below (b := b) (below_alloc (Below.refl wr.heap.size wr) (.cells #[.int .u8 2, .string ⟨#[40]⟩, .func (.func 223) #[.pointer (some ⟨b, 0, none⟩)] #[]] 308))) (gB_below (below_alloc (Below.refl _ _) (.cells #[.string ⟨#[40]⟩] 9)))))
      have HB2 := Aside0.mk (blk_alloc (blk_alloc HB.out (.cells #[.int .u8 2, .string ⟨#[40]⟩, .func (.func 223) #[.pointer (some ⟨b, 0, none⟩)] #[]] 308)) (.cells #[.string ⟨#[40]⟩] 9))
      cases hm : isM [40] s with
      | true =>
        have hm2 : isM (⟨#[40]⟩ : ByteArray).data.toList s = true := hm
        rw [hm2] at HI
        have HRR : Aside0 (R = tupleP F p s) := ⟨by rw [HR.out, atomF]; rw [if_neg (by rw [HM.out.1 (by omega)]; decide)]; rw [if_pos hm]⟩
        clear hm hm2
        go_wp2_with (go_at_call 194; (with_reducible refine HI.out.mono ?_); rintro e W ⟨rfl, rfl⟩)
        have HC := Aside0.mk (HT.out ne _ s HX.out.1 HX.out.2.1 HS2.out HX.out.2.2.1 (fun e => HX.out.2.2.2 (by rw [← HR.out, HRR.out]; exact e)))
        try simp only [World.size_alloc, World.size_setCell] at HC
        go_wp2_with fail
        refine HC.out.mono ?_
        clear HC
        intro e WL hres
        rcases Res.ways hres with ⟨aL, sL, vL, hr, rfl, hv, hst, hg⟩ | ⟨kk, ll, lc, hr, rfl, hg⟩
        · have HXL := Aside0.mk (And.intro (HRR.out.trans hr) (And.intro hv (And.intro hst (gB_trans HG2.out hg))))
          clear hres hr hv hst hg
          go_wp2
          go_ret
          rw [HXL.out.1]
          exact Res.ret (Row.lower HXL.out.2.1 HG2.out.size) HXL.out.2.2.1 HXL.out.2.2.2
        · have HXL := Aside0.mk (And.intro (HRR.out.trans hr) (gB_trans HG2.out hg))
          clear hres hr hg
          go_wp2
          rw [HXL.out.1]
          exact ⟨rfl, Res.err HXL.out.2⟩
      | false =>
        have hm2 : isM (⟨#[40]⟩ : ByteArray).data.toList s = false := hm
        rw [hm2] at HI
        have HM2 := Aside0.mk hm
        clear hm hm2
        go_wp2_with (go_at_call 194; (with_reducible refine HI.out.mono ?_); rintro e W ⟨rfl, rfl⟩)
        go_roundg (gk - 1)
        case measure => omega
        case rel => exact ⟨2, by go_num, by omega, by omega, HS2, HG2, HB2, ⟨fun _ => HM.out.1 (by omega), fun _ => HM2.out⟩⟩
    · have HRR : Aside0 (R = namedP F q s) := ⟨by rw [HR.out, atomF]; rw [if_neg (by rw [HM.out.1 (by omega)]; decide), if_neg (by rw [HM.out.2 (by omega)]; decide)]⟩
      have HC := Aside0.mk (HN.out ne _ s HX.out.1 HX.out.2.1 HS.out HX.out.2.2.1 (fun e => HX.out.2.2.2 (by rw [← HR.out, HRR.out]; exact e)))
      try simp only [World.size_alloc, World.size_setCell] at HC
      go_wp2_with fail
      refine HC.out.mono ?_
      clear HC
      intro e WL hres
      rcases Res.ways hres with ⟨aL, sL, vL, hr, rfl, hv, hst, hg⟩ | ⟨kk, ll, lc, hr, rfl, hg⟩
      · have HXL := Aside0.mk (And.intro (HRR.out.trans hr) (And.intro hv (And.intro hst (gB_trans HG.out hg))))
        clear hres hr hv hst hg
        go_wp2
        go_ret
        rw [HXL.out.1]
        exact Res.ret (Row.lower HXL.out.2.1 HG.out.size) HXL.out.2.2.1 HXL.out.2.2.2
      · have HXL := Aside0.mk (And.intro (HRR.out.trans hr) (gB_trans HG.out hg))
        clear hres hr hg
        go_wp2
        rw [HXL.out.1]
        exact ⟨rfl, Res.err HXL.out.2⟩
end Tr
end Go.Proofs.YtdecijmncpbheaaGreatDoor

namespace Go.Proofs.YtdecijmncpbheaaGreatDoor
open Go.RowKit Go.Proofs.YtdecijmncpbheaaGreatDoorW.PrintWords Go.Proofs.YtdecijmncpbheaaGreatDoorW.PrintLast Go.Proofs.YtdecijmncpbheaaGreatDoorW.PrintMore
set_option linter.unusedVariables false
set_option linter.unusedSimpArgs false
open Go.Shelf
namespace Tr
open Wd (gB_refl gB_trans gB_below gB_set)
theorem rowN_grown {w W : World} {base b : Nat} {ok : Nat → Prop} {v : Value} {l : List Nd} (h : kNode.R 119 w base ok v l) (hg : w.grownBy W (some b)) (hb : b < base) : kNode.R 119 W base ok v l :=
  Kd.R_mono (Kd.R_grown (Kd.R_bound h) hg (fun k hk e => by have := Option.some.inj e; have := hk.2.1; omega)) (fun _ hk => hk.1)
theorem rowN_far {w : World} {base gn : Nat} {v : Value} {l : List Nd} (h : kNode.R 119 w base (fun k => k ≠ gn) v l) (i : Nat) (u : Value) (j : Nat) (x : Value) : kNode.R 119 ((w.setCell ⟨gn, i, none⟩ u).setCell ⟨gn, j, none⟩ x) base (fun k => k ≠ gn) v l :=
  Kd.R_far (Kd.R_far h (p := ⟨gn, i, none⟩) (fun k hk => hk) u) (p := ⟨gn, j, none⟩) (fun k hk => hk) x
theorem marks2_at (w0 : World) (fv : FV) (b : Nat) (w : World) (s : PS) (t u : ByteArray) (h : ST w0 fv b w s) :
    Calls Tryz.prog 196 #[.pointer (some ⟨b, 0, none⟩), .slice (some ⟨w.heap.size, 0, none⟩) 2 2] (w.alloc (.cells #[.string t, .string u] 9)) (Res w0 fv b w (marksP [t.data.toList, u.data.toList] s) (fun _ v _ => v = .tuple #[])) := by
  have hlt := h.fresh
  have hb := blk_new w (.cells #[.string t, .string u] 9)
  refine (marks_calls w0 fv b (w.alloc (.cells #[.string t, .string u] 9)) s w.heap.size 2 [t, u] (h.step (below_alloc (Below.refl _ _) _)) (by omega) (by simp) (fun j hj => ?_)).mono ?_
  · have : j = 0 ∨ j = 1 := by simp at hj; omega
    rcases this with rfl | rfl
    · first | simp | (have := blk_cell hb 0; simpa using this)
    · first | simp | (have := blk_cell hb 1; simpa using this)
  · intro e W hr
    exact hr.from (gB_below (below_alloc (Below.refl _ _) _))
set_option maxRecDepth 100000 in
set_option maxHeartbeats 4000000 in
theorem whole_part (w0 : World) (fv : FV) (F : FI) (b g : Nat) (p q : PS → PR (List Nd)) (HF : Aside0 (FaceOk w0 fv F)) (HNA : Aside0 (Wd.NumsAt w0)) (hkW : KR LN p) (hkA : KR LN (atomF F p q)) (HDA : Aside0 (Deep w0 fv b 193 (g + 1) (atomF F p q))) (HDW : Aside0 (Deep w0 fv b 159 g p)) :
    Part w0 fv b 159 (g + 1) (wholeF F p q) := by
  intro ne w s hne h1 h ho hnb
  have hmf : ∀ (fn : Fn) (first cap : Array Value) (w : World), (Instr.makeFunc fn first cap).run Tryz.prog w = .ok (.func fn first cap) w := fun _ _ _ _ => rfl
  obtain ⟨R, hR⟩ : ∃ R, R = wholeF F p q s := ⟨_, rfl⟩
  have HE0 : Aside0 (R = (atomF F p q s).bind fun a s => if isM [45] s then funP F p a s else .ok a s) := ⟨hR⟩
  rw [← hR] at hnb ⊢
  have HNB := Aside0.mk hnb
  have HK := Aside0.mk (And.intro hkW hkA)
  have HO0 := Aside0.mk ho
  have HG0 := Aside0.mk (gB_refl w b)
  have HST := Aside0.mk h
  have hfr := h.fresh
  have HNE := Aside0.mk (And.intro hne h1)
  have hw : IntKind.i64.wrap (ne + 1) = ne + 1 := by rw [IntKind.wrap_i64]; omega
  clear h ho hnb hR hne h1 hkW hkA
  go_enter Tryz.func159, Tryz.ntmps159
  have HC := Aside0.mk (HDA.out ne w s HNE.out.1 HNE.out.2 HST.out HO0.out (nb_of HE0.out HNB.out))
  try simp only [World.size_alloc, World.size_setCell] at HC
  go_wp2_with fail
  refine HC.out.mono ?_
  clear HC
  intro e W1 hres
  rcases Res.ways hres with ⟨a1, s1, v1, hr, rfl, hv, hst, hg⟩ | ⟨kk, ll, lc, hr, rfl, hg⟩
  rotate_left
  · have he := HE0.out
    rw [hr] at he
    have HX := Aside0.mk (And.intro (gB_trans HG0.out hg) he)
    clear hres hr hg he
    go_wp2
    rw [HX.out.2]
    exact ⟨rfl, Res.err HX.out.1⟩
  have he := HE0.out
  rw [hr] at he
  try simp only [bind_ok] at he
  have HE1 := Aside0.mk he
  have HR1 := Aside0.mk hr
  have HS1 := Aside0.mk hst
  have HV1 := Aside0.mk hv
  have HG1 := Aside0.mk (gB_trans HG0.out hg)
  have HGs1 := Aside0.mk hg
  clear hres hr hg he hst hv
  have HO1 := Aside0.mk (HK.out.2 _ _ _ HR1.out HO0.out).1
  have HC1 : Aside0 (a1.length ≤ 128) := ⟨by
    obtain ⟨o, m, e1, e2⟩ := HK.out.2 _ _ _ HR1.out HO0.out
    have := o.2
    have := e2.1
    omega⟩
  have HI := Aside0.mk (is_at w0 fv b W1 s1 ⟨#[45]⟩ HS1.out)
  cases hm : isM [45] s1 with
  | false =>
    have hm2 : isM (⟨#[45]⟩ : ByteArray).data.toList s1 = false := hm
    rw [hm2] at HI
    have HRR : Aside0 (R = .ok a1 s1) := ⟨by rw [HE1.out, if_neg (by rw [hm]; decide)]⟩
    clear hm hm2
    go_wp2_with (go_at_call 194; (with_reducible refine HI.out.mono ?_); rintro e W ⟨rfl, rfl⟩)
    go_ret
    rw [HRR.out]
    exact Res.ret (Row.below HV1.out (below_alloc (Below.refl _ _) _)) (HS1.out.step (below_alloc (Below.refl _ _) _)) (gB_trans HG1.out (gB_below (below_alloc (Below.refl _ _) _)))
  | true =>
    have hm2 : isM (⟨#[45]⟩ : ByteArray).data.toList s1 = true := hm
    rw [hm2] at HI
    have hq : R = (nodeP s1).bind fun _ s => (marksP [[45], [91]] s).bind fun _ s => (labelP F s).bind fun l s => (mustM [44] s).bind fun _ s => (labelP F s).bind fun p' s => (mustM [44] s).bind fun _ s =>
      (effectP F s).bind fun e s => (marksP [[93], [62]] s).bind fun _ s => (p s).bind fun b s => .ok (⟨5, 0, ⟨#[]⟩, 2, l, p', e⟩ :: (a1 ++ b)) s := by rw [HE1.out, if_pos hm]; rfl
    have HE1 := Aside0.mk hq
    have HROW1 := Aside0.mk (Row.below HV1.out (below_alloc (Below.refl _ _) (.cells #[.string ⟨#[45]⟩] 9)))
    have HG1 := Aside0.mk (gB_trans HG1.out (gB_below (below_alloc (Below.refl _ _) (.cells #[.string ⟨#[45]⟩] 9))))
    have HS1 := Aside0.mk (HS1.out.step (below_alloc (Below.refl _ _) (.cells #[.string ⟨#[45]⟩] 9)))
    clear hm hm2 hq
    go_wp2_with (go_at_call 194; (with_reducible refine HI.out.mono ?_); rintro e W ⟨rfl, rfl⟩)
    have HC := Aside0.mk (node_calls w0 fv b _ s1 ⟨5, 0, ⟨#[]⟩, 2, t0, t0, t0⟩ HS1.out)
    try simp only [World.size_alloc, World.size_setCell] at HC
    go_wp2_with fail
    refine HC.out.mono ?_
    clear HC
    intro e W2 hres
    rcases Res.ways hres with ⟨a2, s2, v2, hr, rfl, hv, hst, hg⟩ | ⟨kk, ll, lc, hr, rfl, hg⟩
    rotate_left
    · have he := HE1.out
      rw [hr] at he
      have HX := Aside0.mk (And.intro (gB_trans HG1.out hg) he)
      clear hres hr hg he
      go_wp2
      rw [HX.out.2]
      exact ⟨rfl, Res.err HX.out.1⟩
    have he := HE1.out
    rw [hr] at he
    try simp only [bind_ok] at he
    have HE2 := Aside0.mk he
    have HR2 := Aside0.mk hr
    have HS2 := Aside0.mk hst
    have HV2 := Aside0.mk hv
    have HG2 := Aside0.mk (gB_trans HG1.out hg)
    have HGs2 := Aside0.mk hg
    clear hres hr hg he hst hv
    obtain ⟨gn, hv2, hgn, hbn⟩ := HV2.out
    subst hv2
    have hgw : w.heap.size ≤ gn := by have := HG1.out.size; rw [World.size_alloc] at this; omega
    have hgb : some gn ≠ some b := by intro e; have := Option.some.inj e; omega
    have HO2 := Aside0.mk (kr_nodeP _ _ _ HR2.out HO1.out).1
    have HN2 := Aside0.mk hbn
    have HRW2 : Aside0 (kNode.R 119 W2 w.heap.size (fun k => k ≠ gn) v1 a1) := ⟨rowN_grown (Kd.R_mono (Kd.R_bound HROW1.out) (fun k hk e => by have := hk.2.2.1; rw [World.size_alloc] at this; omega)) HGs2.out hfr⟩
    clear HV2 hgn hbn HROW1 HV1 HI HE0 HE1 HGs2 HGs1 HR1 HO1 HS1
    have HC := Aside0.mk (marks2_at w0 fv b _ s2 ⟨#[45]⟩ ⟨#[91]⟩ HS2.out)
    try simp only [World.size_alloc, World.size_setCell] at HC
    go_wp2_with fail
    refine HC.out.mono ?_
    clear HC
    intro e W3 hres
    rcases Res.ways hres with ⟨a3, s3, v3, hr, rfl, hv, hst, hg⟩ | ⟨kk, ll, lc, hr, rfl, hg⟩
    rotate_left
    · have he := HE2.out
      rw [hr] at he
      have HX := Aside0.mk (And.intro (gB_trans HG2.out hg) he)
      clear hres hr hg he
      go_wp2
      rw [HX.out.2]
      exact ⟨rfl, Res.err HX.out.1⟩
    have he := HE2.out
    rw [hr] at he
    try simp only [bind_ok] at he
    have HE3 := Aside0.mk he
    have HR3 := Aside0.mk hr
    have HS3 := Aside0.mk hst
    have HV3 := Aside0.mk hv
    have HG3 := Aside0.mk (gB_trans HG2.out hg)
    have HGs3 := Aside0.mk hg
    clear hres hr hg he hst hv
    have HO3 := Aside0.mk (kr_marks2 _ _ _ _ _ HR3.out HO2.out).1
    have HN3 := Aside0.mk (blk_grown HN2.out HGs3.out hgb)
    have HRW3 := Aside0.mk (rowN_grown HRW2.out HGs3.out hfr)
    clear HN2 HRW2 HGs3 HR3 HS2 HG2 HE2 HV3 HO2
    have HC := Aside0.mk (label_calls w0 fv F b W3 s3 HS3.out HF HNA HO3.out.1 (nb_of HE3.out HNB.out))
    try simp only [World.size_alloc, World.size_setCell] at HC
    go_wp2_with fail
    refine HC.out.mono ?_
    clear HC
    intro e W4 hres
    rcases Res.ways hres with ⟨a4, s4, v4, hr, rfl, hv, hst, hg⟩ | ⟨kk, ll, lc, hr, rfl, hg⟩
    rotate_left
    · have he := HE3.out
      rw [hr] at he
      have HX := Aside0.mk (And.intro (gB_trans HG3.out hg) he)
      clear hres hr hg he
      go_wp2
      rw [HX.out.2]
      exact ⟨rfl, Res.err HX.out.1⟩
    have he := HE3.out
    rw [hr] at he
    try simp only [bind_ok] at he
    have HE4 := Aside0.mk he
    have HR4 := Aside0.mk hr
    have HS4 := Aside0.mk hst
    have HV4 := Aside0.mk hv
    have HG4 := Aside0.mk (gB_trans HG3.out hg)
    have HGs4 := Aside0.mk hg
    clear hres hr hg he hst hv
    have HO4 := Aside0.mk (kr_label F _ _ _ HR4.out HO3.out).1
    have HRW4 := Aside0.mk (rowN_far (rowN_grown HRW3.out HGs4.out hfr) 4 (.bool a4.f0) 5 (.int .u64 a4.f1))
    obtain ⟨tb4, tn4⟩ := a4
    have hv := HV4.out
    simp only at hv
    subst hv
    have HNq := Aside0.mk (blk_grown HN3.out HGs4.out hgb)
    have q0 := blk_cell HNq.out 4
    have q1 := blk_cell HNq.out 5
    have f0 := blk_frozen HNq.out 4
    have f1 := blk_frozen HNq.out 5
    simp [nodeCs] at q0 q1
    have HN4 : Aside0 (((W4.setCell ⟨gn, 4, none⟩ (.bool tb4)).setCell ⟨gn, 5, none⟩ (.int .u64 tn4)).heap[gn]? = some (.cells (nodeCs ⟨5, 0, ⟨#[]⟩, 2, ⟨tb4, tn4⟩, t0, t0⟩) 119 (0, 0))) := ⟨blk_put (blk_put HNq.out 4 _ rfl) 5 _ rfl⟩
    have hs1 := setOne HS4.out HG4.out hgw 4 (.bool tb4) hfr HST.out.below
    have hs2 := setOne hs1.1 hs1.2 hgw 5 (.int .u64 tn4) hfr HST.out.below
    have HS4 := Aside0.mk hs2.1
    have HG4 := Aside0.mk hs2.2
    clear hs1 hs2 HNq
    clear HN3 HRW3 HGs4 HR4 HV4 HS3 HG3 HE3 HO3
    have HC := Aside0.mk (mark_at w0 fv b _ s4 ⟨#[44]⟩ HS4.out)
    try simp only [World.size_alloc, World.size_setCell] at HC
    go_wp2_with fail
    refine HC.out.mono ?_
    clear HC
    intro e W5 hres
    rcases Res.ways hres with ⟨a5, s5, v5, hr, rfl, hv, hst, hg⟩ | ⟨kk, ll, lc, hr, rfl, hg⟩
    rotate_left
    · have he := HE4.out
      rw [hr] at he
      have HX := Aside0.mk (And.intro (gB_trans HG4.out hg) he)
      clear hres hr hg he
      go_wp2
      rw [HX.out.2]
      exact ⟨rfl, Res.err HX.out.1⟩
    have he := HE4.out
    rw [hr] at he
    try simp only [bind_ok] at he
    have HE5 := Aside0.mk he
    have HR5 := Aside0.mk hr
    have HS5 := Aside0.mk hst
    have HV5 := Aside0.mk hv
    have HG5 := Aside0.mk (gB_trans HG4.out hg)
    have HGs5 := Aside0.mk hg
    clear hres hr hg he hst hv
    have HO5 := Aside0.mk (kr_mustM _ _ _ _ HR5.out HO4.out).1
    have HN5 := Aside0.mk (blk_grown HN4.out HGs5.out hgb)
    have HRW5 := Aside0.mk (rowN_grown HRW4.out HGs5.out hfr)
    clear HN4 HRW4 HGs5 HR5 HS4 HG4 HE4 HV5 HO4 q0 q1 f0 f1
    have HC := Aside0.mk (label_calls w0 fv F b W5 s5 HS5.out HF HNA HO5.out.1 (nb_of HE5.out HNB.out))
    try simp only [World.size_alloc, World.size_setCell] at HC
    go_wp2_with fail
    refine HC.out.mono ?_
    clear HC
    intro e W6 hres
    rcases Res.ways hres with ⟨a6, s6, v6, hr, rfl, hv, hst, hg⟩ | ⟨kk, ll, lc, hr, rfl, hg⟩
    rotate_left
    · have he := HE5.out
      rw [hr] at he
      have HX := Aside0.mk (And.intro (gB_trans HG5.out hg) he)
      clear hres hr hg he
      go_wp2
      rw [HX.out.2]
      exact ⟨rfl, Res.err HX.out.1⟩
    have he := HE5.out
    rw [hr] at he
    try simp only [bind_ok] at he
    have HE6 := Aside0.mk he
    have HR6 := Aside0.mk hr
    have HS6 := Aside0.mk hst
    have HV6 := Aside0.mk hv
    have HG6 := Aside0.mk (gB_trans HG5.out hg)
    have HGs6 := Aside0.mk hg
    clear hres hr hg he hst hv
    have HO6 := Aside0.mk (kr_label F _ _ _ HR6.out HO5.out).1
    have HRW6 := Aside0.mk (rowN_far (rowN_grown HRW5.out HGs6.out hfr) 6 (.bool a6.f0) 7 (.int .u64 a6.f1))
    obtain ⟨tb6, tn6⟩ := a6
    have hv := HV6.out
    simp only at hv
    subst hv
    have HNq := Aside0.mk (blk_grown HN5.out HGs6.out hgb)
    have q0 := blk_cell HNq.out 6
    have q1 := blk_cell HNq.out 7
    have f0 := blk_frozen HNq.out 6
    have f1 := blk_frozen HNq.out 7
    simp [nodeCs] at q0 q1
    have HN6 : Aside0 (((W6.setCell ⟨gn, 6, none⟩ (.bool tb6)).setCell ⟨gn, 7, none⟩ (.int .u64 tn6)).heap[gn]? = some (.cells (nodeCs ⟨5, 0, ⟨#[]⟩, 2, ⟨tb4, tn4⟩, ⟨tb6, tn6⟩, t0⟩) 119 (0, 0))) := ⟨blk_put (blk_put HNq.out 6 _ rfl) 7 _ rfl⟩
    have hs1 := setOne HS6.out HG6.out hgw 6 (.bool tb6) hfr HST.out.below
    have hs2 := setOne hs1.1 hs1.2 hgw 7 (.int .u64 tn6) hfr HST.out.below
    have HS6 := Aside0.mk hs2.1
    have HG6 := Aside0.mk hs2.2
    clear hs1 hs2 HNq
    clear HN5 HRW5 HGs6 HR6 HV6 HS5 HG5 HE5 HO5
    have HC := Aside0.mk (mark_at w0 fv b _ s6 ⟨#[44]⟩ HS6.out)
    try simp only [World.size_alloc, World.size_setCell] at HC
    go_wp2_with fail
    refine HC.out.mono ?_
    clear HC
    intro e W7 hres
    rcases Res.ways hres with ⟨a7, s7, v7, hr, rfl, hv, hst, hg⟩ | ⟨kk, ll, lc, hr, rfl, hg⟩
    rotate_left
    · have he := HE6.out
      rw [hr] at he
      have HX := Aside0.mk (And.intro (gB_trans HG6.out hg) he)
      clear hres hr hg he
      go_wp2
      rw [HX.out.2]
      exact ⟨rfl, Res.err HX.out.1⟩
    have he := HE6.out
    rw [hr] at he
    try simp only [bind_ok] at he
    have HE7 := Aside0.mk he
    have HR7 := Aside0.mk hr
    have HS7 := Aside0.mk hst
    have HV7 := Aside0.mk hv
    have HG7 := Aside0.mk (gB_trans HG6.out hg)
    have HGs7 := Aside0.mk hg
    clear hres hr hg he hst hv
    have HO7 := Aside0.mk (kr_mustM _ _ _ _ HR7.out HO6.out).1
    have HN7 := Aside0.mk (blk_grown HN6.out HGs7.out hgb)
    have HRW7 := Aside0.mk (rowN_grown HRW6.out HGs7.out hfr)
    clear HN6 HRW6 HGs7 HR7 HS6 HG6 HE6 HV7 HO6 q0 q1 f0 f1
    have HC := Aside0.mk (effect_calls w0 fv F b W7 s7 HS7.out HF HNA HO7.out.1 (nb_of HE7.out HNB.out))
    try simp only [World.size_alloc, World.size_setCell] at HC
    go_wp2_with fail
    refine HC.out.mono ?_
    clear HC
    intro e W8 hres
    rcases Res.ways hres with ⟨a8, s8, v8, hr, rfl, hv, hst, hg⟩ | ⟨kk, ll, lc, hr, rfl, hg⟩
    rotate_left
    · have he := HE7.out
      rw [hr] at he
      have HX := Aside0.mk (And.intro (gB_trans HG7.out hg) he)
      clear hres hr hg he
      go_wp2
      rw [HX.out.2]
      exact ⟨rfl, Res.err HX.out.1⟩
    have he := HE7.out
    rw [hr] at he
    try simp only [bind_ok] at he
    have HE8 := Aside0.mk he
    have HR8 := Aside0.mk hr
    have HS8 := Aside0.mk hst
    have HV8 := Aside0.mk hv
    have HG8 := Aside0.mk (gB_trans HG7.out hg)
    have HGs8 := Aside0.mk hg
    clear hres hr hg he hst hv
    have HO8 := Aside0.mk (kr_effect F _ _ _ HR8.out HO7.out).1
    have HRW8 := Aside0.mk (rowN_far (rowN_grown HRW7.out HGs8.out hfr) 8 (.bool a8.f0) 9 (.int .u64 a8.f1))
    obtain ⟨tb8, tn8⟩ := a8
    have hv := HV8.out
    simp only at hv
    subst hv
    have HNq := Aside0.mk (blk_grown HN7.out HGs8.out hgb)
    have q0 := blk_cell HNq.out 8
    have q1 := blk_cell HNq.out 9
    have f0 := blk_frozen HNq.out 8
    have f1 := blk_frozen HNq.out 9
    simp [nodeCs] at q0 q1
    have HN8 : Aside0 (((W8.setCell ⟨gn, 8, none⟩ (.bool tb8)).setCell ⟨gn, 9, none⟩ (.int .u64 tn8)).heap[gn]? = some (.cells (nodeCs ⟨5, 0, ⟨#[]⟩, 2, ⟨tb4, tn4⟩, ⟨tb6, tn6⟩, ⟨tb8, tn8⟩⟩) 119 (0, 0))) := ⟨blk_put (blk_put HNq.out 8 _ rfl) 9 _ rfl⟩
    have hs1 := setOne HS8.out HG8.out hgw 8 (.bool tb8) hfr HST.out.below
    have hs2 := setOne hs1.1 hs1.2 hgw 9 (.int .u64 tn8) hfr HST.out.below
    have HS8 := Aside0.mk hs2.1
    have HG8 := Aside0.mk hs2.2
    clear hs1 hs2 HNq
    clear HN7 HRW7 HGs8 HR8 HV8 HS7 HG7 HE7 HO7
    have HC := Aside0.mk (marks2_at w0 fv b _ s8 ⟨#[93]⟩ ⟨#[62]⟩ HS8.out)
    try simp only [World.size_alloc, World.size_setCell] at HC
    go_wp2_with fail
    refine HC.out.mono ?_
    clear HC
    intro e W9 hres
    rcases Res.ways hres with ⟨a9, s9, v9, hr, rfl, hv, hst, hg⟩ | ⟨kk, ll, lc, hr, rfl, hg⟩
    rotate_left
    · have he := HE8.out
      rw [hr] at he
      have HX := Aside0.mk (And.intro (gB_trans HG8.out hg) he)
      clear hres hr hg he
      go_wp2
      rw [HX.out.2]
      exact ⟨rfl, Res.err HX.out.1⟩
    have he := HE8.out
    rw [hr] at he
    try simp only [bind_ok] at he
    have HE9 := Aside0.mk he
    have HR9 := Aside0.mk hr
    have HS9 := Aside0.mk hst
    have HV9 := Aside0.mk hv
    have HG9 := Aside0.mk (gB_trans HG8.out hg)
    have HGs9 := Aside0.mk hg
    clear hres hr hg he hst hv
    have HO9 := Aside0.mk (kr_marks2 _ _ _ _ _ HR9.out HO8.out).1
    have HN9 := Aside0.mk (blk_grown HN8.out HGs9.out hgb)
    have HRW9 := Aside0.mk (rowN_grown HRW8.out HGs9.out hfr)
    clear HN8 HRW8 HGs9 HR9 HS8 HG8 HE8 HV9 HO8 q0 q1 f0 f1
    have HC := Aside0.mk (HDW.out (ne + 1) W9 s9 (by have := HNE.out.1; omega) (by have := HNE.out.2; omega) HS9.out HO9.out (nb_of HE9.out HNB.out))
    try simp only [World.size_alloc, World.size_setCell] at HC
    go_wp2_with fail
    refine HC.out.mono ?_
    clear HC
    intro e W10 hres
    rcases Res.ways hres with ⟨a10, s10, v10, hr, rfl, hv, hst, hg⟩ | ⟨kk, ll, lc, hr, rfl, hg⟩
    rotate_left
    · have he := HE9.out
      rw [hr] at he
      have HX := Aside0.mk (And.intro (gB_trans HG9.out hg) he)
      clear hres hr hg he
      go_wp2
      rw [HX.out.2]
      exact ⟨rfl, Res.err HX.out.1⟩
    have he := HE9.out
    rw [hr] at he
    try simp only [bind_ok] at he
    have HE10 := Aside0.mk he
    have HR10 := Aside0.mk hr
    have HS10 := Aside0.mk hst
    have HV10 := Aside0.mk hv
    have HG10 := Aside0.mk (gB_trans HG9.out hg)
    have HGs10 := Aside0.mk hg
    clear hres hr hg he hst hv
    have HC10 : Aside0 (a10.length ≤ 128) := ⟨by
      obtain ⟨o, m, e1, e2⟩ := HK.out.1 _ _ _ HR10.out HO9.out
      have := o.2
      have := e2.1
      omega⟩
    have HN10 := Aside0.mk (blk_grown HN9.out HGs10.out hgb)
    have HRW10 := Aside0.mk (rowN_grown HRW9.out HGs10.out hfr)
    obtain ⟨A1, c1, hv1, _, hC1⟩ := Kd.R_reads HRW10.out
    subst hv1
    obtain ⟨A10, c10, hv10, _, hC10⟩ := Kd.R_reads HV10.out
    subst hv10
    obtain ⟨x, hx⟩ : ∃ x : Nd, x = ⟨5, 0, ⟨#[]⟩, 2, ⟨tb4, tn4⟩, ⟨tb6, tn6⟩, ⟨tb8, tn8⟩⟩ := ⟨_, rfl⟩
    have HRR : Aside0 (R = .ok (x :: (a1 ++ a10)) s10) := ⟨by rw [HE10.out, hx]⟩
    have hN := HN10.out
    rw [← hx] at hN
    have hC0 := one_C hN
    obtain ⟨n1, hn1⟩ : ∃ n, n = a1.length := ⟨_, rfl⟩
    obtain ⟨n10, hn10⟩ : ∃ n, n = a10.length := ⟨_, rfl⟩
    have hlen : (flat [(some ⟨gn, 0, none⟩, 1, [x]), (A1, c1, a1), (A10, c10, a10)]) = x :: (a1 ++ a10) := by simp [flat]
    have HCC : Aside0 (Calls Tryz.prog 199 #[.slice (some ⟨W10.heap.size, 0, none⟩) 3 3] (W10.alloc (.cells #[.slice (some ⟨gn, 0, none⟩) 1 1, .slice A1 n1 c1, .slice A10 n10 c10] 22)) fun e w' => ∃ A c, e = .returned (.slice A (x :: (a1 ++ a10)).length c) ∧ Row w' (W10.heap.size + 1) (.slice A (x :: (a1 ++ a10)).length c) (x :: (a1 ++ a10)) ∧ Below (W10.heap.size + 1) (W10.alloc (.cells #[.slice (some ⟨gn, 0, none⟩) 1 1, .slice A1 n1 c1, .slice A10 n10 c10] 22)) w') := ⟨by
      have hb := blk_new W10 (.cells #[.slice (some ⟨gn, 0, none⟩) 1 1, .slice A1 n1 c1, .slice A10 n10 c10] 22)
      have := concat_calls (W10.alloc (.cells #[.slice (some ⟨gn, 0, none⟩) 1 1, .slice A1 n1 c1, .slice A10 n10 c10] 22)) W10.heap.size 3 [(some ⟨gn, 0, none⟩, 1, [x]), (A1, c1, a1), (A10, c10, a10)] (fun j hj => by
          have : j = 0 ∨ j = 1 ∨ j = 2 := by simp at hj; omega
          rcases this with rfl | rfl | rfl
          · exact blk_cell hb 0
          · exact (blk_cell hb 1).trans (show some (Value.slice A1 n1 c1) = some (Value.slice A1 a1.length c1) by rw [hn1])
          · exact (blk_cell hb 2).trans (show some (Value.slice A10 n10 c10) = some (Value.slice A10 a10.length c10) by rw [hn10]))
        (fun j hj => by
          have : j = 0 ∨ j = 1 ∨ j = 2 := by simp at hj; omega
          rcases this with rfl | rfl | rfl
          · exact Kd.C_below hC0 (below_alloc (Below.refl _ _) _)
          · exact Kd.C_below hC1 (below_alloc (Below.refl _ _) _)
          · exact Kd.C_below hC10 (below_alloc (Below.refl _ _) _)) (by simp) (by rw [hlen]; simp) (by rw [hlen]; have := HC1.out; have := HC10.out; simp; omega)
      rw [hlen, World.size_alloc] at this
      exact this⟩
    rw [← hn1, ← hn10]
    clear hN hC0 hC1 hC10 hx hlen hn1 hn10
    obtain ⟨l, hl⟩ : ∃ l, l = x :: (a1 ++ a10) := ⟨_, rfl⟩
    rw [← hl] at HCC HRR
    clear hl
    go_wp2_with fail
    refine HCC.out.mono ?_
    rintro e WF ⟨AF, cF, rfl, hr, hbF⟩
    have hbF' : Below (W10.alloc (.cells #[.slice (some ⟨gn, 0, none⟩) 1 1, .slice A1 n1 c1, .slice A10 n10 c10] 22)).heap.size (W10.alloc (.cells #[.slice (some ⟨gn, 0, none⟩) 1 1, .slice A1 n1 c1, .slice A10 n10 c10] 22)) WF := by rw [World.size_alloc]; exact hbF
    have hgF : W10.grownBy WF (some b) := gB_trans (gB_below (below_alloc (Below.refl _ _) _)) (gB_below hbF')
    have HFN := Aside0.mk (And.intro (hr.lower (Nat.le_trans HG10.out.size (Nat.le_succ _))) (And.intro ((HS10.out.step (below_alloc (Below.refl _ _) _)).step hbF') (gB_trans HG10.out hgF)))
    clear hr hbF hbF' hgF HCC
    go_wp2
    go_ret
    rw [HRR.out]
    exact Res.ret HFN.out.1 HFN.out.2.1 HFN.out.2.2
end Tr
end Go.Proofs.YtdecijmncpbheaaGreatDoor
