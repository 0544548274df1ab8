/- How great an interface is: that it is told, and that nothing is changed (cartouchelaw18.Great). -/
import Derived.Test.YtdecijmncpbheaaGreatDoorTrW

namespace Go.Proofs.YtdecijmncpbheaaGreatDoor
open Go.RowKit Go.Proofs.YtdecijmncpbheaaGreatDoorW.PrintWords Go.Proofs.YtdecijmncpbheaaGreatDoorW.PrintLast Go.Proofs.YtdecijmncpbheaaGreatDoorW.PrintMore
set_option linter.unusedVariables false
set_option linter.unusedSimpArgs false
open Go.Shelf
namespace Tr
open Wd (gB_refl gB_trans gB_below gB_set)
def AnyBool (w : World) (e : Ending) (w' : World) : Prop := (∃ b : Bool, e = .returned (.bool b)) ∧ Below w.heap.size w w'
def AnyInt (w : World) (e : Ending) (w' : World) : Prop := (∃ n : Int, e = .returned (.int .i64 n)) ∧ Below w.heap.size w w'
set_option maxRecDepth 100000 in
set_option maxHeartbeats 4000000 in
theorem textsSize_calls (w : World) (A : Option Addr) (c : Nat) (L : List ByteArray) (hC : Kd.string.C w A L.length L) : Calls Tryz.prog 151 #[.slice A L.length c] w (AnyInt w) := by
  have hm : L.length ≤ 9223372036854775807 := hC.2.1
  have HC := Aside0.mk hC
  obtain ⟨n, hn⟩ : ∃ n, n = L.length := ⟨_, rfl⟩
  have HN := Aside0.mk hn
  rw [← hn] at hm ⊢
  clear hn hC
  go_enter Tryz.func151, Tryz.ntmps151
  go_wp2
  go_loopg [3, 4] (n + 1) (fun gk z i W => ∃ (k : Nat) (x : Int), i = .int .i64 (k : Int) ∧ z = .int .i64 x ∧ k ≤ n ∧ n + 1 - k ≤ gk ∧ Aside0 (Below w.heap.size w W))
  case atStart => exact ⟨0, n, rfl, rfl, by omega, by omega, ⟨Below.refl _ _⟩⟩
  case round =>
    obtain ⟨k, x, rfl, rfl, hk, hkg, HB⟩ := hrel
    rcases Nat.lt_or_ge k n with hlt | hge
    · have hd : decide (k < n) = true := decide_eq_true hlt
      rcases Int.lt_or_le 1048576 x with h2 | h2
      · have hd2 : decide (x ≤ 1048576) = false := decide_eq_false (by omega)
        go_wp2
        go_ret
        exact ⟨⟨_, rfl⟩, HB.out⟩
      · have hd2 : decide (x ≤ 1048576) = true := decide_eq_true h2
        obtain ⟨ad, rfl, c0⟩ := C_strN (Kd.C_below HC.out HB.out) k (by rw [← HN.out]; exact hlt)
        go_wp2
        go_roundg (gk - 1)
        case measure => omega
        case rel => exact ⟨k + 1, _, by go_num, rfl, by omega, by omega, HB⟩
    · have hd : decide (k < n) = false := decide_eq_false (by omega)
      go_wp2
      go_ret
      exact ⟨⟨_, rfl⟩, HB.out⟩
set_option maxRecDepth 100000 in
set_option maxHeartbeats 4000000 in
theorem schemeSize_calls (w : World) (lv ev : Int) (A B C : Option Addr) (n a m b k c : Nat) : Calls Tryz.prog 211 #[.agg #[.int .i64 lv, .int .i64 ev, .slice A n a, .slice B m b, .slice C k c]] w (AnyInt w) := by
  have HNo : Aside0 (∀ W A n c, Calls Tryz.prog 240 #[.slice A n c] W fun e w' => e = .returned (.int .i64 (n : Int)) ∧ w' = W) := ⟨fun W A n c => by
    go_enter Tryz.func240, Tryz.ntmps240
    go_wp2
    go_ret
    exact ⟨rfl, rfl⟩⟩
  have HBo : Aside0 (∀ W A n c, Calls Tryz.prog 241 #[.slice A n c] W fun e w' => e = .returned (.int .i64 (n : Int)) ∧ w' = W) := ⟨fun W A n c => by
    go_enter Tryz.func241, Tryz.ntmps241
    go_wp2
    go_ret
    exact ⟨rfl, rfl⟩⟩
  have HB := Aside0.mk (below_alloc (Below.refl w.heap.size w) (.cells #[.int .i64 lv, .int .i64 ev, .slice A n a, .slice B m b, .slice C k c] 25))
  go_enter Tryz.func211, Tryz.ntmps211
  go_wp2_with (first | (go_at_call 240; (with_reducible refine (HNo.out _ _ _ _).mono ?_); rintro e W1 ⟨rfl, rfl⟩) | (go_at_call 241; (with_reducible refine (HBo.out _ _ _ _).mono ?_); rintro e W1 ⟨rfl, rfl⟩))
  all_goals (
    go_ret
    exact ⟨⟨_, rfl⟩, HB.out⟩)
set_option maxRecDepth 100000 in
set_option maxHeartbeats 4000000 in
theorem entrySize_calls (w : World) (nm : ByteArray) (lv ev : Int) (A B C : Option Addr) (n a m b k c : Nat) : Calls Tryz.prog 180 #[.agg #[.string nm, .int .i64 lv, .int .i64 ev, .slice A n a, .slice B m b, .slice C k c]] w (AnyInt w) := by
  have HB := Aside0.mk (below_alloc (Below.refl w.heap.size w) (.cells #[.string nm, .int .i64 lv, .int .i64 ev, .slice A n a, .slice B m b, .slice C k c] 210))
  have HS := Aside0.mk (schemeSize_calls (w.alloc (.cells #[.string nm, .int .i64 lv, .int .i64 ev, .slice A n a, .slice B m b, .slice C k c] 210)) lv ev A B C n a m b k c)
  go_enter Tryz.func180, Tryz.ntmps180
  go_wp2_with (go_at_call 211; (with_reducible refine HS.out.mono ?_); rintro e W1 ⟨⟨z, rfl⟩, hb⟩; have HB1 := Aside0.mk (HB.out.trans (hb.mono HB.out.size)); clear hb)
  go_ret
  exact ⟨⟨_, rfl⟩, HB1.out⟩
set_option maxRecDepth 100000 in
set_option maxHeartbeats 4000000 in
theorem entriesSize_calls (w : World) (A : Option Addr) (c : Nat) (L : List Entry) (hC : kEntry.C w A L.length L) : Calls Tryz.prog 154 #[.slice A L.length c] w (AnyInt w) := by
  have hm : L.length ≤ 9223372036854775807 := hC.2.1
  have HC := Aside0.mk hC
  obtain ⟨n, hn⟩ : ∃ n, n = L.length := ⟨_, rfl⟩
  have HN := Aside0.mk hn
  rw [← hn] at hm ⊢
  clear hn hC
  go_enter Tryz.func154, Tryz.ntmps154
  go_wp2
  go_loopg [3, 4] (n + 1) (fun gk z i W => ∃ (k : Nat) (x : Int), i = .int .i64 (k : Int) ∧ z = .int .i64 x ∧ k ≤ n ∧ n + 1 - k ≤ gk ∧ Aside0 (Below w.heap.size w W))
  case atStart => exact ⟨0, n, rfl, rfl, by omega, by omega, ⟨Below.refl _ _⟩⟩
  case round =>
    obtain ⟨k, x, rfl, rfl, hk, hkg, HB⟩ := hrel
    rcases Nat.lt_or_ge k n with hlt | hge
    · have hd : decide (k < n) = true := decide_eq_true hlt
      rcases Int.lt_or_le 1048576 x with h2 | h2
      · have hd2 : decide (x ≤ 1048576) = false := decide_eq_false (by omega)
        go_wp2
        go_ret
        exact ⟨⟨_, rfl⟩, HB.out⟩
      · have hd2 : decide (x ≤ 1048576) = true := decide_eq_true h2
        obtain ⟨ad, A3, c3, A4, c4, A5, c5, rfl, e0, e1, e2, e3, e4, e5, _⟩ := at_T210 (Kd.C_below HC.out HB.out) (k : Int) (by omega) (by rw [← HN.out]; omega)
        rw [Int.toNat_natCast] at e0 e1 e2 e3 e4 e5
        obtain ⟨y, hy⟩ : ∃ y, y = rd_T210 L (k : Int) := ⟨_, rfl⟩
        rw [← hy] at e0 e1 e2 e3 e4 e5
        clear hy
        have HS : Aside0 (∀ n a m b k c, Calls Tryz.prog 180 #[.agg #[.string y.f0, .int .i64 y.f1.f0, .int .i64 y.f1.f1, .slice A3 n a, .slice A4 m b, .slice A5 k c]] wr (AnyInt wr)) := ⟨fun n a m b k c => entrySize_calls wr y.f0 y.f1.f0 y.f1.f1 A3 A4 A5 n a m b k c⟩
        go_wp2_with (go_at_call 180; (with_reducible refine (HS.out _ _ _ _ _ _).mono ?_); rintro e W1 ⟨⟨z, rfl⟩, hb⟩; have HB1 := Aside0.mk (HB.out.trans (hb.mono HB.out.size)); clear hb)
        go_roundg (gk - 1)
        case measure => omega
        case rel => exact ⟨k + 1, _, by go_num, rfl, by omega, by omega, HB1⟩
    · have hd : decide (k < n) = false := decide_eq_false (by omega)
      go_wp2
      go_ret
      exact ⟨⟨_, rfl⟩, HB.out⟩
/-- An interface as it comes in: its names, and all else that is in it. -/
structure FaceIn (w : World) (fv : FV) (F : FI) : Prop where
  ok : FaceOk w fv F
  ty : ∃ l, fv.ty.n = l.length ∧ Kd.string.C w fv.ty.A l.length l
  en : ∃ l, fv.en.n = l.length ∧ kEntry.C w fv.en.A l.length l
theorem FaceOk.below {w W : World} {fv : FV} {F : FI} (h : FaceOk w fv F) (hb : Below w.heap.size w W) : FaceOk W fv F := by
  obtain ⟨h1, h2, xs, h3, h4, h5, h6⟩ := h
  exact ⟨⟨h1.1, Kd.C_below h1.2 hb⟩, ⟨h2.1, Kd.C_below h2.2 hb⟩, xs, h3, Kd.C_below h4 hb, h5, h6⟩
theorem FaceIn.below {w W : World} {fv : FV} {F : FI} (h : FaceIn w fv F) (hb : Below w.heap.size w W) : FaceIn W fv F := by
  obtain ⟨h1, ⟨l, h2, h3⟩, ⟨l2, h4, h5⟩⟩ := h
  exact ⟨h1.below hb, ⟨l, h2, Kd.C_below h3 hb⟩, ⟨l2, h4, Kd.C_below h5 hb⟩⟩
def FV.v (fv : FV) : Value := .agg #[.string fv.m, .slice fv.la.A fv.la.n fv.la.c, .slice fv.ro.A fv.ro.n fv.ro.c, .slice fv.ef.A fv.ef.n fv.ef.c, .slice fv.ty.A fv.ty.n fv.ty.c, .slice fv.im.A fv.im.n fv.im.c, .slice fv.en.A fv.en.n fv.en.c]
set_option maxRecDepth 100000 in
set_option maxHeartbeats 4000000 in
theorem faceSize_calls (w : World) (fv : FV) (F : FI) (h : FaceIn w fv F) : Calls Tryz.prog 97 #[.agg #[.string fv.m, .slice fv.la.A fv.la.n fv.la.c, .slice fv.ro.A fv.ro.n fv.ro.c, .slice fv.ef.A fv.ef.n fv.ef.c, .slice fv.ty.A fv.ty.n fv.ty.c, .slice fv.im.A fv.im.n fv.im.c, .slice fv.en.A fv.en.n fv.en.c]] w (AnyInt w) := by
  have HT : Aside0 (∀ W c, Below w.heap.size w W → Calls Tryz.prog 151 #[.slice fv.la.A fv.la.n c] W (AnyInt W)) := ⟨fun W c hb => by rw [h.ok.la.1]; exact textsSize_calls W _ c _ (Kd.C_below h.ok.la.2 hb)⟩
  have HT2 : Aside0 (∀ W c, Below w.heap.size w W → Calls Tryz.prog 151 #[.slice fv.ef.A fv.ef.n c] W (AnyInt W)) := ⟨fun W c hb => by rw [h.ok.ef.1]; exact textsSize_calls W _ c _ (Kd.C_below h.ok.ef.2 hb)⟩
  have HT3 : Aside0 (∀ W c, Below w.heap.size w W → Calls Tryz.prog 151 #[.slice fv.ty.A fv.ty.n c] W (AnyInt W)) := ⟨fun W c hb => by obtain ⟨l, h1, h2⟩ := h.ty; rw [h1]; exact textsSize_calls W _ c _ (Kd.C_below h2 hb)⟩
  have HEn : Aside0 (∀ W c, Below w.heap.size w W → Calls Tryz.prog 154 #[.slice fv.en.A fv.en.n c] W (AnyInt W)) := ⟨fun W c hb => by obtain ⟨l, h1, h2⟩ := h.en; rw [h1]; exact entriesSize_calls W _ c _ (Kd.C_below h2 hb)⟩
  have HNo : Aside0 (∀ W A n c, Calls Tryz.prog 152 #[.slice A n c] W fun e w' => e = .returned (.int .i64 (n : Int)) ∧ w' = W) := ⟨fun W A n c => by
    go_enter Tryz.func152, Tryz.ntmps152
    go_wp2
    go_ret
    exact ⟨rfl, rfl⟩⟩
  have HIm : Aside0 (∀ W A n c, Calls Tryz.prog 153 #[.slice A n c] W fun e w' => e = .returned (.int .i64 (n : Int)) ∧ w' = W) := ⟨fun W A n c => by
    go_enter Tryz.func153, Tryz.ntmps153
    go_wp2
    go_ret
    exact ⟨rfl, rfl⟩⟩
  obtain ⟨O, hO⟩ : ∃ O : Obj, O = .cells #[.string fv.m, .slice fv.la.A fv.la.n fv.la.c, .slice fv.ro.A fv.ro.n fv.ro.c, .slice fv.ef.A fv.ef.n fv.ef.c, .slice fv.ty.A fv.ty.n fv.ty.c, .slice fv.im.A fv.im.n fv.im.c, .slice fv.en.A fv.en.n fv.en.c] 76 := ⟨_, rfl⟩
  have hb := below_alloc (Below.refl w.heap.size w) O
  have hk : (w.alloc O).heap[w.heap.size]? = some (.cells #[.string fv.m, .slice fv.la.A fv.la.n fv.la.c, .slice fv.ro.A fv.ro.n fv.ro.c, .slice fv.ef.A fv.ef.n fv.ef.c, .slice fv.ty.A fv.ty.n fv.ty.c, .slice fv.im.A fv.im.n fv.im.c, .slice fv.en.A fv.en.n fv.en.c] 76 (0, 0)) := by rw [hO]; exact blk_new w _
  rw [hO] at hb hk
  have HB := Aside0.mk hb
  have HK := Aside0.mk hk
  clear h hb hk hO
  go_enter Tryz.func97, Tryz.ntmps97
  go_wp2_with (first | (go_at_call 151; (with_reducible refine (HT.out _ _ HB.out).mono ?_); rintro e W1 ⟨⟨z, rfl⟩, hb⟩; have HB' := Aside0.mk (HB.out.trans (hb.mono HB.out.size)); have HK' := Aside0.mk (blk_below HK.out hb); clear HB HK hb; have HB := HB'; have HK := HK'; clear HB' HK'; have q2 := blk_cell HK.out 2; have q3 := blk_cell HK.out 3; have q4 := blk_cell HK.out 4; have q5 := blk_cell HK.out 5; have q6 := blk_cell HK.out 6; simp at q2 q3 q4 q5 q6) | (go_at_call 151; (with_reducible refine (HT2.out _ _ HB.out).mono ?_); rintro e W1 ⟨⟨z, rfl⟩, hb⟩; have HB' := Aside0.mk (HB.out.trans (hb.mono HB.out.size)); have HK' := Aside0.mk (blk_below HK.out hb); clear HB HK hb; have HB := HB'; have HK := HK'; clear HB' HK'; have q2 := blk_cell HK.out 2; have q3 := blk_cell HK.out 3; have q4 := blk_cell HK.out 4; have q5 := blk_cell HK.out 5; have q6 := blk_cell HK.out 6; simp at q2 q3 q4 q5 q6) | (go_at_call 151; (with_reducible refine (HT3.out _ _ HB.out).mono ?_); rintro e W1 ⟨⟨z, rfl⟩, hb⟩; have HB' := Aside0.mk (HB.out.trans (hb.mono HB.out.size)); have HK' := Aside0.mk (blk_below HK.out hb); clear HB HK hb; have HB := HB'; have HK := HK'; clear HB' HK'; have q2 := blk_cell HK.out 2; have q3 := blk_cell HK.out 3; have q4 := blk_cell HK.out 4; have q5 := blk_cell HK.out 5; have q6 := blk_cell HK.out 6; simp at q2 q3 q4 q5 q6) | (go_at_call 154; (with_reducible refine (HEn.out _ _ HB.out).mono ?_); rintro e W1 ⟨⟨z, rfl⟩, hb⟩; have HB' := Aside0.mk (HB.out.trans (hb.mono HB.out.size)); have HK' := Aside0.mk (blk_below HK.out hb); clear HB HK hb; have HB := HB'; have HK := HK'; clear HB' HK'; have q2 := blk_cell HK.out 2; have q3 := blk_cell HK.out 3; have q4 := blk_cell HK.out 4; have q5 := blk_cell HK.out 5; have q6 := blk_cell HK.out 6; simp at q2 q3 q4 q5 q6) | (go_at_call 152; (with_reducible refine (HNo.out _ _ _ _).mono ?_); rintro e W1 ⟨rfl, hW⟩; obtain rfl := hW.symm) | (go_at_call 153; (with_reducible refine (HIm.out _ _ _ _).mono ?_); rintro e W1 ⟨rfl, hW⟩; obtain rfl := hW.symm))
  all_goals (
    go_ret
    exact ⟨⟨_, rfl⟩, HB.out⟩)
set_option maxRecDepth 100000 in
set_option maxHeartbeats 4000000 in
theorem great_calls (w : World) (fv : FV) (F : FI) (h : FaceIn w fv F) : Calls Tryz.prog 22 #[.agg #[.string fv.m, .slice fv.la.A fv.la.n fv.la.c, .slice fv.ro.A fv.ro.n fv.ro.c, .slice fv.ef.A fv.ef.n fv.ef.c, .slice fv.ty.A fv.ty.n fv.ty.c, .slice fv.im.A fv.im.n fv.im.c, .slice fv.en.A fv.en.n fv.en.c]] w (AnyBool w) := by
  obtain ⟨O, hO⟩ : ∃ O : Obj, O = .cells #[.string fv.m, .slice fv.la.A fv.la.n fv.la.c, .slice fv.ro.A fv.ro.n fv.ro.c, .slice fv.ef.A fv.ef.n fv.ef.c, .slice fv.ty.A fv.ty.n fv.ty.c, .slice fv.im.A fv.im.n fv.im.c, .slice fv.en.A fv.en.n fv.en.c] 76 := ⟨_, rfl⟩
  have hb := below_alloc (Below.refl w.heap.size w) O
  have hk : (w.alloc O).heap[w.heap.size]? = some (.cells #[.string fv.m, .slice fv.la.A fv.la.n fv.la.c, .slice fv.ro.A fv.ro.n fv.ro.c, .slice fv.ef.A fv.ef.n fv.ef.c, .slice fv.ty.A fv.ty.n fv.ty.c, .slice fv.im.A fv.im.n fv.im.c, .slice fv.en.A fv.en.n fv.en.c] 76 (0, 0)) := by rw [hO]; exact blk_new w _
  have HS := Aside0.mk (faceSize_calls (w.alloc O) fv F (h.below hb))
  rw [hO] at hb hk HS
  have HB := Aside0.mk hb
  have HK := Aside0.mk hk
  clear h hb hk hO
  go_enter Tryz.func22, Tryz.ntmps22
  go_wp2_with (go_at_call 97; (with_reducible refine HS.out.mono ?_); rintro e W1 ⟨⟨z, rfl⟩, hb⟩; have HB' := Aside0.mk (HB.out.trans (hb.mono HB.out.size)); have HK' := Aside0.mk (blk_below HK.out hb); clear HB HK hb; have HB := HB'; have HK := HK'; clear HB' HK'; have q2 := blk_cell HK.out 2; have q3 := blk_cell HK.out 3; have q4 := blk_cell HK.out 4; have q5 := blk_cell HK.out 5; have q6 := blk_cell HK.out 6; simp at q2 q3 q4 q5 q6)
  all_goals (
    go_ret
    exact ⟨⟨_, rfl⟩, HB.out⟩)
end Tr
end Go.Proofs.YtdecijmncpbheaaGreatDoor
