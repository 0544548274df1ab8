/- Several texts as one: TrS, TrU, TrV. -/
import Derived.Test.YtdecijmncpbheaaGreatDoorMTp
import Derived.Test.YtdecijmncpbheaaGreatDoorWx
import Derived.Test.YtdecijmncpbheaaGreatDoorB
import Derived.Test.YtdecijmncpbheaaGreatDoorSh
import Derived.WalkLawsBesides

namespace Go.Proofs.YtdecijmncpbheaaGreatDoor
open Go.RowKit Go.Proofs.YtdecijmncpbheaaGreatDoorW.PrintWords Go.Proofs.YtdecijmncpbheaaGreatDoorW.PrintLast Go.Proofs.YtdecijmncpbheaaGreatDoorW.PrintMore
set_option linter.unusedVariables false
set_option linter.unusedSimpArgs false
open Go.Shelf
namespace Tr
open Wd (gB_refl gB_trans gB_below gB_set)
/-- A slice's header. -/
structure SV where
  A : Option Addr
  n : Nat
  c : Nat
def SV.v (x : SV) : Value := .slice x.A x.n x.c
/-- The interface, as the reader holds it. -/
structure FV where
  m : ByteArray
  la : SV
  ro : SV
  ef : SV
  ty : SV
  im : SV
  en : SV
def RD (w : World) (b : Nat) (wv : Value) (fv : FV) (l c : Int) (n : Nat) : Prop :=
  w.heap[b]? = some (.cells #[wv, .string fv.m, .slice fv.la.A fv.la.n fv.la.c, .slice fv.ro.A fv.ro.n fv.ro.c, .slice fv.ef.A fv.ef.n fv.ef.c, .slice fv.ty.A fv.ty.n fv.ty.c, .slice fv.im.A fv.im.n fv.im.c, .slice fv.en.A fv.en.n fv.en.c, .int .i64 l, .int .i64 c, .int .i64 (n : Int)] 248 (0, 0))
structure ST (w0 : World) (fv : FV) (b : Nat) (w : World) (s : PS) : Prop where
  ex : ∃ A c, RD w b (.slice A s.ws.length c) fv s.l s.c s.n ∧ s.ws.length ≤ c ∧ kWord.C w0 A s.ws.length s.ws
  base : w0.heap.size ≤ b
  below : Below w0.heap.size w0 w
theorem RD.below {w W : World} {b : Nat} {wv : Value} {fv : FV} {l c : Int} {n : Nat} (h : RD w b wv fv l c n) (hb : Below w.heap.size w W) : RD W b wv fv l c n := by
  rw [RD, hb.block b (Array.getElem?_eq_some_iff.1 h).1]
  exact h
theorem ST.step {w0 w W : World} {fv : FV} {b : Nat} {s : PS} (h : ST w0 fv b w s) (hb : Below w.heap.size w W) : ST w0 fv b W s := by
  obtain ⟨⟨A, c, h1, h2, h3⟩, h4, h5⟩ := h
  exact ⟨⟨A, c, h1.below hb, h2, h3⟩, h4, h5.trans (hb.mono h5.size)⟩
theorem below_gB {w0 w W : World} {b : Nat} (h : Below w0.heap.size w0 w) (hg : w.grownBy W (some b)) (hb : w0.heap.size ≤ b) : Below w0.heap.size w0 W := h.grown hg h.size (fun k hk => by rw [← Option.some.inj hk]; exact hb)
def faultV (e l c : Int) : Value := .iface 250 (.agg #[.int .i64 e, .int .i64 l, .int .i64 c])
def faultE (e l c : Int) : Ending := .panicked [{ v := faultV e l c, recovered := false }]
/-- What a part ends with. -/
def Res {α : Type} (w0 : World) (fv : FV) (b : Nat) (w : World) (r : PR α) (good : α → Value → World → Prop) (e : Ending) (w' : World) : Prop := match r with
  | .ok a s' => (∃ v, e = .returned v ∧ good a v w') ∧ ST w0 fv b w' s' ∧ w.grownBy w' (some b)
  | .err k l c => e = faultE k l c ∧ w.grownBy w' (some b)
  | .bad => False
/-- The first word. -/
theorem first {w0 w : World} {A : Option Addr} {x : Wrd} {r : List Wrd} (h : kWord.C w0 A (x :: r).length (x :: r)) (hb : Below w0.heap.size w0 w) : ∃ ad, A = some ad ∧ w.cell? ad = some (.int .u8 x.f0) ∧ w.cell? ⟨ad.block, ad.off + 1, none⟩ = some (.string x.f1) ∧ w.cell? ⟨ad.block, ad.off + 2, none⟩ = some (.int .i64 x.f2.f0) ∧ w.cell? ⟨ad.block, ad.off + 3, none⟩ = some (.int .i64 x.f2.f1) := by
  obtain ⟨ad, e, hc⟩ := at_T134 (Kd.C_below h hb) 0 (by omega) (by simp)
  refine ⟨ad, e, ?_⟩
  rw [show rd_T134 (x :: r) 0 = x from rfl] at hc
  exact hc
theorem setBelow {w w1 : World} (h : Below w.heap.size w w1) (x y : Int) : Below w.heap.size w ((w1.setCell ⟨w.heap.size, 0, none⟩ (.int .i64 x)).setCell ⟨w.heap.size, 1, none⟩ (.int .i64 y)) := (h.setCell (Nat.le_refl _) _).setCell (Nat.le_refl _) _
set_option maxRecDepth 100000 in
set_option maxHeartbeats 4000000 in
theorem fails_calls (w0 : World) (fv : FV) (b : Nat) (w : World) (s : PS) (er : Int) (h : ST w0 fv b w s) :
    Calls Tryz.prog 221 #[.pointer (some ⟨b, 0, none⟩), .int .i64 er] w fun e w' => e = faultE er (place s).1 (place s).2 ∧ Below w.heap.size w w' := by
  obtain ⟨⟨A, c, hrd, hlen, hC⟩, hbase, hbel⟩ := h
  obtain ⟨ws, l, col, n⟩ := s
  obtain ⟨O, hO⟩ : ∃ O : Obj, O = .cells #[.int .i64 l, .int .i64 col] 127 := ⟨_, rfl⟩
  have c8 := blk_cell hrd 8
  have c9 := blk_cell hrd 9
  have h4 : (w.alloc O).heap[w.heap.size]? = some (.cells #[.int .i64 l, .int .i64 col] 127 (0, 0)) := by rw [hO]; exact blk_new w _
  have HB := Aside0.mk (below_alloc (Below.refl w.heap.size w) O)
  have c0 : ∃ N, N = ws.length ∧ (w.alloc O).cell? ⟨b, 0, none⟩ = some (.slice A N c) := ⟨_, rfl, blk_cell (blk_alloc hrd O) 0⟩
  obtain ⟨N, hN, c0⟩ := c0
  simp at c8 c9
  rw [hO] at c0
  have HO := Aside0.mk hO
  cases ws with
  | nil =>
    subst hN
    have HH := Aside0.mk h4
    have z0 : decide (((List.length ([] : List Wrd) : Nat) : Int) > 0) = false := by decide
    simp only [List.length_nil] at c0 z0
    clear hbase hbel hrd hC hlen h4 hO
    go_enter Tryz.func221, Tryz.ntmps221
    go_wp2
    have HB' := HB.out
    rw [HO.out] at HB'
    exact ⟨rfl, rfl, HB'⟩
  | cons x r =>
    obtain ⟨ad, hA, x0, x1, x2, x3⟩ := first hC (below_alloc hbel O)
    subst hA
    rw [hO] at x2 x3 h4
    have hNp : decide ((N : Int) > 0) = true := decide_eq_true (by rw [hN]; simp)
    have hN1 : 0 < N := by rw [hN]; simp
    have HB2 := Aside0.mk (setBelow HB.out x.f2.f0 x.f2.f1)
    have HH := Aside0.mk h4
    rw [← hN] at hlen
    clear hbase hbel hrd hC h4 hO hN
    go_enter Tryz.func221, Tryz.ntmps221
    go_wp2
    exact ⟨rfl, rfl, below_alloc (Below.refl _ _) _⟩
theorem Res.ret {α : Type} {w0 : World} {fv : FV} {b : Nat} {w w' : World} {a : α} {s' : PS} {good : α → Value → World → Prop} {v : Value} (h1 : good a v w') (h2 : ST w0 fv b w' s') (h3 : w.grownBy w' (some b)) : Res w0 fv b w (.ok a s') good (.returned v) w' := ⟨⟨v, rfl, h1⟩, h2, h3⟩
theorem RD.lt {w : World} {b : Nat} {wv : Value} {fv : FV} {l c : Int} {n : Nat} (h : RD w b wv fv l c n) : b < w.heap.size := (Array.getElem?_eq_some_iff.1 h).1
set_option maxRecDepth 100000 in
set_option maxHeartbeats 4000000 in
theorem isM_calls (w0 : World) (fv : FV) (b : Nat) (w : World) (s : PS) (g c1 : Nat) (t : ByteArray) (h : ST w0 fv b w s) (ht : w.cell? ⟨g, 0, none⟩ = some (.string t)) :
    Calls Tryz.prog 194 #[.pointer (some ⟨b, 0, none⟩), .int .u8 2, .slice (some ⟨g, 0, none⟩) 1 c1] w fun e w' => e = .returned (.bool (isM t.data.toList s)) ∧ w' = w := by
  obtain ⟨⟨A, c, hrd, hlen, hC⟩, hbase, hbel⟩ := h
  obtain ⟨ws, l, col, n⟩ := s
  have HCO : ∀ x : ByteArray, Aside0 (Calls Tryz.prog 200 #[.slice (some ⟨g, 0, none⟩) 1 c1, .string x] w fun e w' => e = .returned (.bool (x.data.toList == t.data.toList)) ∧ w' = w) := fun x => ⟨by
    have := Any.slices_Contains_string Tryz.lays110 g 0 1 c1 [t] x w (by simp) (by decide) (fun j hj => by
      have : j = 0 := by simpa using hj
      subst this
      exact ht)
    refine this.mono ?_
    rintro e w' ⟨rfl, rfl⟩
    refine ⟨?_, rfl⟩
    congr 2
    cases hx : (x.data.toList == t.data.toList) with
    | true =>
      have : x = t := ByteArray.ext (Array.toList_inj.1 (eq_of_beq hx))
      exact (Lib.containsS_iff _ _).2 (by simp [this])
    | false =>
      cases hq : Lib.containsS ([t].take 1) x with
      | false => rfl
      | true =>
        have := (Lib.containsS_iff _ _).1 hq
        have : x = t := by simpa using this
        rw [this] at hx
        simp at hx⟩
  have c0 := blk_cell hrd 0
  have z0 : ((1 : Int) == 0) = false := by decide
  clear hbase hrd ht
  cases ws with
  | nil =>
    have z0 : decide (((List.length ([] : List Wrd) : Nat) : Int) > 0) = false := by decide
    simp only [List.length_nil] at c0 z0
    simp at c0
    clear hC hlen
    go_enter Tryz.func194, Tryz.ntmps194
    go_wp2
    go_ret
    exact ⟨rfl, rfl⟩
  | cons x r =>
    obtain ⟨ad, hA, x0, x1, x2, x3⟩ := first hC hbel
    subst hA
    obtain ⟨N, hN⟩ : ∃ N, N = (x :: r).length := ⟨_, rfl⟩
    simp only [← hN] at c0 hlen
    have hNp : decide ((N : Int) > 0) = true := decide_eq_true (by rw [hN]; simp)
    have hN1 : 0 < N := by rw [hN]; simp
    simp at c0
    have HX := HCO x.f1
    clear HCO hC hbel hN x2 x3
    cases hk : (x.f0 == 2) with
    | false =>
      have HI : Aside0 (isM t.data.toList ⟨x :: r, l, col, n⟩ = false) := ⟨by simp [isM, hk]⟩
      go_enter Tryz.func194, Tryz.ntmps194
      go_wp2
      go_ret
      rw [HI.out]
      exact ⟨rfl, rfl⟩
    | true =>
      obtain ⟨z, hz⟩ : ∃ z, z = (x.f1.data.toList == t.data.toList) := ⟨_, rfl⟩
      have HI : Aside0 (isM t.data.toList ⟨x :: r, l, col, n⟩ = z) := ⟨by simp [isM, hk, hz]⟩
      rw [← hz] at HX
      clear hz
      go_enter Tryz.func194, Tryz.ntmps194
      go_wp2_with (go_at_call 200; (with_reducible refine HX.out.mono ?_); rintro e W1 ⟨rfl, rfl⟩)
      go_ret
      rw [HI.out]
      exact ⟨rfl, rfl⟩
set_option maxRecDepth 100000 in
set_option maxHeartbeats 4000000 in
theorem isK_calls (w0 : World) (fv : FV) (b : Nat) (w : World) (s : PS) (k : Int) (h : ST w0 fv b w s) :
    Calls Tryz.prog 194 #[.pointer (some ⟨b, 0, none⟩), .int .u8 k, .slice none 0 0] w fun e w' => e = .returned (.bool (isK k s)) ∧ w' = w := by
  obtain ⟨⟨A, c, hrd, hlen, hC⟩, hbase, hbel⟩ := h
  obtain ⟨ws, l, col, n⟩ := s
  have c0 := blk_cell hrd 0
  clear hbase hrd
  cases ws with
  | nil =>
    have z0 : decide (((List.length ([] : List Wrd) : Nat) : Int) > 0) = false := by decide
    simp only [List.length_nil] at c0 z0
    simp at c0
    clear hC hlen
    go_enter Tryz.func194, Tryz.ntmps194
    go_wp2
    go_ret
    exact ⟨rfl, rfl⟩
  | cons x r =>
    obtain ⟨ad, hA, x0, x1, x2, x3⟩ := first hC hbel
    subst hA
    obtain ⟨N, hN⟩ : ∃ N, N = (x :: r).length := ⟨_, rfl⟩
    simp only [← hN] at c0 hlen
    have hNp : decide ((N : Int) > 0) = true := decide_eq_true (by rw [hN]; simp)
    have hN1 : 0 < N := by rw [hN]; simp
    simp at c0
    clear hC hbel hN x2 x3
    cases hk : (x.f0 == k) with
    | false =>
      have HI : Aside0 (isK k ⟨x :: r, l, col, n⟩ = false) := ⟨hk⟩
      go_enter Tryz.func194, Tryz.ntmps194
      go_wp2
      go_ret
      rw [HI.out]
      exact ⟨rfl, rfl⟩
    | true =>
      have HI : Aside0 (isK k ⟨x :: r, l, col, n⟩ = true) := ⟨hk⟩
      go_enter Tryz.func194, Tryz.ntmps194
      go_wp2
      go_ret
      rw [HI.out]
      exact ⟨rfl, rfl⟩
theorem take_state {w0 w : World} {fv : FV} {b : Nat} {x : Wrd} {r : List Wrd} {l col : Int} {n N c : Nat} {wv : Value} {V : Option Addr} (hrd : RD w b wv fv l col n) (hN : N = (x :: r).length) (hlen : N ≤ c) (hC : kWord.C w0 V r.length r) (hbase : w0.heap.size ≤ b) (hbel : Below w0.heap.size w0 w) :
    ST w0 fv b (((w.setCell ⟨b, 8, none⟩ (.int .i64 x.f2.f0)).setCell ⟨b, 9, none⟩ (.int .i64 x.f2.f1)).setCell ⟨b, 0, none⟩ (.slice V (N - 1) (c - 1))).drew (takeP ⟨x :: r, l, col, n⟩) ∧ w.grownBy (((w.setCell ⟨b, 8, none⟩ (.int .i64 x.f2.f0)).setCell ⟨b, 9, none⟩ (.int .i64 x.f2.f1)).setCell ⟨b, 0, none⟩ (.slice V (N - 1) (c - 1))).drew (some b) := by
  have h1 : ∀ m, m = r.length → RD (((w.setCell ⟨b, 8, none⟩ (.int .i64 x.f2.f0)).setCell ⟨b, 9, none⟩ (.int .i64 x.f2.f1)).setCell ⟨b, 0, none⟩ (.slice V m (c - 1))).drew b (.slice V m (c - 1)) fv x.f2.f0 x.f2.f1 n := fun m _ => blk_drew (blk_put (blk_put (blk_put hrd 8 _ rfl) 9 _ rfl) 0 _ rfl)
  have hg : ∀ u, w.grownBy (((w.setCell ⟨b, 8, none⟩ (.int .i64 x.f2.f0)).setCell ⟨b, 9, none⟩ (.int .i64 x.f2.f1)).setCell ⟨b, 0, none⟩ u).drew (some b) := fun u => gB_trans (gB_set (gB_set (gB_set (gB_refl w b) 8 _) 9 _) 0 _) (gB_below (Below.refl _ _).drew)
  have hm : N - 1 = r.length := by rw [hN]; simp
  rw [hm]
  exact ⟨⟨⟨V, c - 1, h1 _ rfl, by show r.length ≤ c - 1; omega, hC⟩, hbase, below_gB hbel (hg _) hbase⟩, hg _⟩
theorem C_none {α : Type} (d : Kd α) (w : World) (A : Option Addr) : d.C w A 0 [] := ⟨rfl, by decide, fun h => by omega⟩
set_option maxRecDepth 100000 in
set_option maxHeartbeats 4000000 in
theorem takes_calls (w0 : World) (fv : FV) (b : Nat) (w : World) (s : PS) (h : ST w0 fv b w s) (hne : s.ws ≠ []) :
    Calls Tryz.prog 254 #[.pointer (some ⟨b, 0, none⟩)] w fun e w' => e = .returned (.string (headT s)) ∧ ST w0 fv b w' (takeP s) ∧ w.grownBy w' (some b) := by
  obtain ⟨⟨A, c, hrd, hlen, hC⟩, hbase, hbel⟩ := h
  obtain ⟨ws, l, col, n⟩ := s
  cases ws with
  | nil => exact absurd rfl hne
  | cons x r =>
    obtain ⟨ad, hA, x0, x1, x2, x3⟩ := first hC hbel
    subst hA
    have hC2 := C_cut hC 1 r.length (by simp; omega)
    obtain ⟨N, hN⟩ : ∃ N, N = (x :: r).length := ⟨_, rfl⟩
    have c0 := blk_cell hrd 0
    have c8 := blk_cell hrd 8
    have c9 := blk_cell hrd 9
    have f0 := blk_frozen hrd 0
    have f8 := blk_frozen hrd 8
    have f9 := blk_frozen hrd 9
    simp only [← hN] at c0 hlen
    have hN1 : 0 < N := by rw [hN]; simp
    simp at c0 c8 c9
    have hNi : (1 : Int) ≤ N := by omega
    have HH := Aside0.mk (And.intro hrd (And.intro hN (And.intro hC2 (And.intro hbase (And.intro hbel trivial)))))
    clear hC hbel hN hrd hbase hne x0 hC2
    rcases Nat.lt_or_ge 1 c with h1 | h1
    · have hc1 : ¬ c = 1 := by omega
      have HT : Aside0 _ := ⟨take_state HH.out.1 HH.out.2.1 hlen (by have hC2 := HH.out.2.2.1; rw [List.drop_succ_cons, List.drop_zero, List.take_length] at hC2; exact hC2) HH.out.2.2.2.1 HH.out.2.2.2.2.1⟩
      go_enter Tryz.func254, Tryz.ntmps254
      go_wp2
      go_region_law (fail)
      all_goals (
        go_wp2
        go_ret
        exact ⟨rfl, HT.out⟩)
    · obtain rfl : c = 1 := by omega
      have hr : r = [] := by
        have h1 := HH.out.2.1
        have : r.length = 0 := by simp at h1; omega
        exact List.eq_nil_of_length_eq_zero this
      have ht := take_state (V := some ad) HH.out.1 HH.out.2.1 hlen (by rw [hr]; exact C_none _ _ _) HH.out.2.2.2.1 HH.out.2.2.2.2.1
      rw [show N - 1 = 0 by omega] at ht
      have HT := Aside0.mk ht
      clear hr ht
      go_enter Tryz.func254, Tryz.ntmps254
      go_wp2
      go_region_law (fail)
      all_goals (
        go_wp2
        go_ret
        exact ⟨rfl, HT.out⟩)
end Tr
end Go.Proofs.YtdecijmncpbheaaGreatDoor

namespace Go.Proofs.YtdecijmncpbheaaGreatDoor
open Go.RowKit Go.Proofs.YtdecijmncpbheaaGreatDoorW.PrintWords Go.Proofs.YtdecijmncpbheaaGreatDoorW.PrintLast Go.Proofs.YtdecijmncpbheaaGreatDoorW.PrintMore
set_option linter.unusedVariables false
set_option linter.unusedSimpArgs false
open Go.Shelf
namespace Tr
open Wd (gB_refl gB_trans gB_below gB_set)
theorem bind_ok {α β : Type} (a : α) (s : PS) (f : α → PS → PR β) : (PR.ok a s).bind f = f a s := rfl
theorem isM_ne {t : List B} {s : PS} (h : isM t s = true) : s.ws ≠ [] := by
  intro e
  rw [isM, e] at h
  cases h
theorem isK_ne {k : Int} {s : PS} (h : isK k s = true) : s.ws ≠ [] := by
  intro e
  rw [isK, e] at h
  cases h
theorem Res.err {α : Type} {w0 : World} {fv : FV} {b : Nat} {w w' : World} {k l c : Int} {good : α → Value → World → Prop} (h : w.grownBy w' (some b)) : Res w0 fv b w (.err k l c : PR α) good (.panicked [{ v := .iface 250 (.agg #[.int .i64 k, .int .i64 l, .int .i64 c]), recovered := false }]) w' := ⟨rfl, h⟩
set_option maxRecDepth 100000 in
set_option maxHeartbeats 4000000 in
theorem mustM_calls (w0 : World) (fv : FV) (b : Nat) (w : World) (s : PS) (g c1 : Nat) (t : ByteArray) (h : ST w0 fv b w s) (ht : w.cell? ⟨g, 0, none⟩ = some (.string t)) :
    Calls Tryz.prog 225 #[.pointer (some ⟨b, 0, none⟩), .int .u8 2, .slice (some ⟨g, 0, none⟩) 1 c1] w (Res w0 fv b w (mustM t.data.toList s) (fun _ _ _ => True)) := by
  have HI := Aside0.mk (isM_calls w0 fv b w s g c1 t h ht)
  cases hm : isM t.data.toList s with
  | true =>
    have HT := Aside0.mk (takes_calls w0 fv b w s h (isM_ne hm))
    have hM : mustM t.data.toList s = .ok () (takeP s) := by rw [mustM, if_pos hm]
    rw [hM]
    rw [hm] at HI
    clear h ht hm hM
    go_enter Tryz.func225, Tryz.ntmps225
    go_wp2_with (first | (go_at_call 194; (with_reducible refine HI.out.mono ?_); rintro e W1 ⟨rfl, rfl⟩) | (go_at_call 254; (with_reducible refine HT.out.mono ?_); rintro e W2 ⟨rfl, hst, hg⟩; have HS := Aside0.mk (And.intro hst hg); clear hst hg))
    go_ret
    exact Res.ret trivial HS.out.1 HS.out.2
  | false =>
    have HT := Aside0.mk (fails_calls w0 fv b w s 11 h)
    have hM : mustM t.data.toList s = failsP 11 s := by rw [mustM, if_neg (by rw [hm]; decide)]
    rw [hM]
    rw [hm] at HI
    clear h ht hm hM
    go_enter Tryz.func225, Tryz.ntmps225
    go_wp2_with (first | (go_at_call 194; (with_reducible refine HI.out.mono ?_); rintro e W1 ⟨rfl, rfl⟩) | (go_at_call 221; (with_reducible refine HT.out.mono ?_); rintro e W2 ⟨rfl, hb⟩; unfold faultE faultV))
    exact ⟨rfl, Res.err (gB_below hb)⟩
set_option maxRecDepth 100000 in
set_option maxHeartbeats 4000000 in
theorem mustN_calls (w0 : World) (fv : FV) (b : Nat) (w : World) (s : PS) (h : ST w0 fv b w s) :
    Calls Tryz.prog 225 #[.pointer (some ⟨b, 0, none⟩), .int .u8 0, .slice none 0 0] w (Res w0 fv b w (mustN s) (fun x v _ => v = .string x)) := by
  have HI := Aside0.mk (isK_calls w0 fv b w s 0 h)
  cases hm : isK 0 s with
  | true =>
    have HT := Aside0.mk (takes_calls w0 fv b w s h (isK_ne hm))
    have hM : mustN s = .ok (headT s) (takeP s) := by rw [mustN, if_pos hm]
    rw [hM]
    rw [hm] at HI
    clear h hm hM
    go_enter Tryz.func225, Tryz.ntmps225
    go_wp2_with (first | (go_at_call 194; (with_reducible refine HI.out.mono ?_); rintro e W1 ⟨rfl, rfl⟩) | (go_at_call 254; (with_reducible refine HT.out.mono ?_); rintro e W2 ⟨rfl, hst, hg⟩; have HS := Aside0.mk (And.intro hst hg); clear hst hg))
    go_ret
    exact Res.ret rfl HS.out.1 HS.out.2
  | false =>
    have HT := Aside0.mk (fails_calls w0 fv b w s 11 h)
    have hM : mustN s = failsP 11 s := by rw [mustN, if_neg (by rw [hm]; decide)]
    rw [hM]
    rw [hm] at HI
    clear h hm hM
    go_enter Tryz.func225, Tryz.ntmps225
    go_wp2_with (first | (go_at_call 194; (with_reducible refine HI.out.mono ?_); rintro e W1 ⟨rfl, rfl⟩) | (go_at_call 221; (with_reducible refine HT.out.mono ?_); rintro e W2 ⟨rfl, hb⟩; unfold faultE faultV))
    exact ⟨rfl, Res.err (gB_below hb)⟩
theorem ST.grown {w0 w W : World} {fv : FV} {b : Nat} {s : PS} (h : ST w0 fv b w s) (o : Obj) : ST w0 fv b (w.alloc o) s := h.step (below_alloc (Below.refl _ _) o)
theorem Res.from {α : Type} {w0 : World} {fv : FV} {b : Nat} {w w1 w' : World} {r : PR α} {good : α → Value → World → Prop} {e : Ending} (h : Res w0 fv b w1 r good e w') (hg : w.grownBy w1 (some b)) : Res w0 fv b w r good e w' := by
  cases r with
  | ok a s => exact ⟨h.1, h.2.1, gB_trans hg h.2.2⟩
  | err k l c => exact ⟨h.1, gB_trans hg h.2⟩
  | bad => exact h
/-- How a part ends, way by way. -/
theorem Res.ways {α : Type} {w0 : World} {fv : FV} {b : Nat} {w w' : World} {r : PR α} {good : α → Value → World → Prop} {e : Ending} (h : Res w0 fv b w r good e w') :
    (∃ a s' v, r = .ok a s' ∧ e = .returned v ∧ good a v w' ∧ ST w0 fv b w' s' ∧ w.grownBy w' (some b)) ∨ (∃ k l c, r = .err k l c ∧ e = .panicked [{ v := .iface 250 (.agg #[.int .i64 k, .int .i64 l, .int .i64 c]), recovered := false }] ∧ w.grownBy w' (some b)) := by
  cases r with
  | ok a s => obtain ⟨⟨v, h1, h2⟩, h3, h4⟩ := h; exact .inl ⟨a, s, v, rfl, h1, h2, h3, h4⟩
  | err k l c => exact .inr ⟨k, l, c, rfl, h.1, h.2⟩
  | bad => exact h.elim
set_option maxRecDepth 100000 in
set_option maxHeartbeats 4000000 in
theorem marks_calls (w0 : World) (fv : FV) (b : Nat) (w : World) (s : PS) (g c1 : Nat) (ts : List ByteArray) (h : ST w0 fv b w s) (hgb : g ≠ b) (hts : ts.length ≤ 1000) (ht : ∀ j (hj : j < ts.length), w.cell? ⟨g, j, none⟩ = some (.string ts[j])) :
    Calls Tryz.prog 196 #[.pointer (some ⟨b, 0, none⟩), .slice (some ⟨g, 0, none⟩) ts.length c1] w (Res w0 fv b w (marksP (ts.map (·.data.toList)) s) (fun _ v _ => v = .tuple #[])) := by
  have HH := Aside0.mk (And.intro h ht)
  obtain ⟨n, hn⟩ : ∃ n, n = ts.length := ⟨_, rfl⟩
  have HN := Aside0.mk hn
  rw [← hn] at hts ⊢
  clear h ht hn
  go_enter Tryz.func196, Tryz.ntmps196
  go_wp2
  go_loopg [8] (n + 1) (fun gk i W => ∃ (k : Nat) (sk : PS), i = .int .i64 k ∧ k ≤ n ∧ n + 1 - k ≤ gk ∧ Aside0 (ST w0 fv b W sk) ∧ Aside0 (w.grownBy W (some b)) ∧ Aside0 (marksP (ts.map (·.data.toList)) s = marksP ((ts.drop k).map (·.data.toList)) sk))
  case atStart => exact ⟨0, s, rfl, by omega, by omega, ⟨HH.out.1⟩, ⟨gB_refl _ _⟩, ⟨by rw [List.drop_zero]⟩⟩
  case round =>
    obtain ⟨k, sk, rfl, hk, hkg, HS, HG, HE⟩ := hrel
    rcases Nat.lt_or_ge k n with hlt | hge
    · have hd : decide (k < n) = true := decide_eq_true hlt
      have hk2 : k < ts.length := by rw [← HN.out]; exact hlt
      obtain ⟨t, hT⟩ : ∃ t, t = ts[k] := ⟨_, rfl⟩
      have c0 : wr.cell? ⟨g, k, none⟩ = some (.string t) := by rw [hT]; exact HG.out.cell (HH.out.2 k hk2) (by simpa using hgb)
      have HR := Aside0.mk (mustM_calls w0 fv b (wr.alloc (.cells #[.string t] 9)) sk wr.heap.size 1 t (HS.out.step (below_alloc (Below.refl _ _) _)) (by first | simp | (have := blk_cell (blk_new wr (.cells #[.string t] 9)) 0; simpa using this)))
      have HE2 : Aside0 (marksP (ts.map (·.data.toList)) s = (mustM t.data.toList sk).bind fun _ s => marksP ((ts.drop (k + 1)).map (·.data.toList)) s) := ⟨by
        rw [HE.out, List.drop_eq_getElem_cons hk2, ← hT]
        rfl⟩
      have HGA : Aside0 (w.grownBy (wr.alloc (.cells #[.string t] 9)) (some b)) := ⟨gB_trans HG.out (gB_below (below_alloc (Below.refl _ _) _))⟩
      clear hT
      go_wp2_with fail
      refine HR.out.mono ?_
      intro e W1 hres
      rcases Res.ways hres with ⟨a, s', v, hr, rfl, -, hst, hg⟩ | ⟨kk, l, c, hr, rfl, hg⟩
      · have HS1 := Aside0.mk (And.intro hst (gB_trans HGA.out hg))
        rw [hr] at HE2
        clear hres hst hg hr
        go_wp2
        go_roundg (gk - 1)
        case measure => omega
        case rel => exact ⟨k + 1, s', by go_num, by omega, by omega, ⟨HS1.out.1⟩, ⟨HS1.out.2⟩, ⟨HE2.out⟩⟩
      · rw [hr] at HE2
        have HX := Aside0.mk (gB_trans HGA.out hg)
        clear hres hr hg
        go_wp2
        rw [HE2.out]
        exact ⟨rfl, Res.err HX.out⟩
    · have hd : decide (k < n) = false := decide_eq_false (by omega)
      go_wp2
      go_end0
      have e1 : ts.drop k = [] := List.drop_eq_nil_of_le (by rw [← HN.out]; exact hge)
      have e2 := HE.out
      rw [e1] at e2
      rw [e2]
      exact Res.ret rfl HS.out HG.out
theorem idx_hit {L : List ByteArray} {t : ByteArray} {k : Nat} (hk : k < L.length) (h : L[k].data.toList == t.data.toList) (hne : ∀ j (hj : j < L.length), j < k → (L[j].data.toList == t.data.toList) = false) : idx L t = some k := by
  rw [idx, List.findIdx?_eq_some_iff_getElem]
  exact ⟨hk, h, fun j hj => by rw [hne j (by omega) hj]; decide⟩
theorem idx_miss {L : List ByteArray} {t : ByteArray} (hne : ∀ j (hj : j < L.length), (L[j].data.toList == t.data.toList) = false) : idx L t = none := by
  rw [idx, List.findIdx?_eq_none_iff]
  intro x hx
  obtain ⟨j, hj, rfl⟩ := List.mem_iff_getElem.1 hx
  rw [hne j hj]
def idxI (L : List ByteArray) (t : ByteArray) : Int := match idx L t with
  | some i => i
  | none => -1
set_option maxRecDepth 100000 in
set_option maxHeartbeats 4000000 in
theorem index_calls (w : World) (A : Option Addr) (c : Nat) (L : List ByteArray) (t : ByteArray) (hC : Kd.string.C w A L.length L) :
    Calls Tryz.prog 229 #[.slice A L.length c, .string t] w fun e w' => e = .returned (.int .i64 (idxI L t)) ∧ w' = w := by
  have hm : L.length ≤ 9223372036854775807 := hC.2.1
  have HC := Aside0.mk hC
  obtain ⟨n, hn⟩ : ∃ n, n = L.length := ⟨_, rfl⟩
  have HN := Aside0.mk hn
  rw [← hn] at hm ⊢
  clear hn hC
  go_enter Tryz.func229, Tryz.ntmps229
  go_wp2
  go_loopg [5, 8] (n + 1) (fun gk _ i W => ∃ (k : Nat), i = .int .i64 k ∧ k ≤ n ∧ n + 1 - k ≤ gk ∧ W = w ∧ Aside0 (∀ j (hj : j < L.length), j < k → (L[j].data.toList == t.data.toList) = false))
  case atStart => exact ⟨0, rfl, by omega, by omega, rfl, ⟨fun j _ h => by omega⟩⟩
  case round =>
    obtain ⟨k, rfl, hk, hkg, rfl, HK⟩ := hrel
    rcases Nat.lt_or_ge k n with hlt | hge
    · have hd : decide (k < n) = true := decide_eq_true hlt
      have hk2 : k < L.length := by rw [← HN.out]; exact hlt
      obtain ⟨ad, rfl, c0⟩ := C_strN HC.out k hk2
      obtain ⟨x, hx⟩ : ∃ x, x = L[k] := ⟨_, rfl⟩
      rw [← hx] at c0
      have HZ : Aside0 ((L[k].data.toList == t.data.toList) = (t.toList == x.toList)) := ⟨by
        rw [← hx, ByteArray.toList_eq, ByteArray.toList_eq, BEq.comm]⟩
      have HX := Aside0.mk hx
      clear hx
      go_wp2
      · have hz : (t.toList == x.toList) = true := by assumption
        have e := HZ.out.trans hz
        go_ret
        rw [idxI, idx_hit hk2 e HK.out]
        exact ⟨rfl, rfl⟩
      · have hz : (t.toList == x.toList) = false := by assumption
        have HE := Aside0.mk (HZ.out.trans hz)
        go_roundg (gk - 1)
        case measure => omega
        case rel =>
          refine ⟨k + 1, by go_num, by omega, by omega, rfl, ⟨fun j hj h => ?_⟩⟩
          rcases Nat.lt_or_ge j k with h2 | h2
          · exact HK.out j hj h2
          · obtain rfl : j = k := by omega
            exact HE.out
    · have hd : decide (k < n) = false := decide_eq_false (by omega)
      go_wp2
      go_ret
      rw [idxI, idx_miss (fun j hj => HK.out j hj (by rw [← HN.out] at hj; omega))]
      exact ⟨rfl, rfl⟩
set_option maxRecDepth 100000 in
set_option maxHeartbeats 4000000 in
theorem place_calls (w0 : World) (fv : FV) (b : Nat) (w : World) (s : PS) (A : Option Addr) (c : Nat) (L : List ByteArray) (h : ST w0 fv b w s) (hC : Kd.string.C w A L.length L) :
    Calls Tryz.prog 227 #[.pointer (some ⟨b, 0, none⟩), .slice A L.length c] w (Res w0 fv b w (placeP L s) (fun i v _ => v = .int .i64 (i : Int))) := by
  have HI := Aside0.mk (isK_calls w0 fv b w s 0 h)
  have HB := Aside0.mk h
  cases hm : isK 0 s with
  | false =>
    have HT := Aside0.mk (fails_calls w0 fv b w s 11 h)
    have hM : placeP L s = failsP 11 s := by rw [placeP, if_neg (by rw [hm]; decide)]
    rw [hM]
    rw [hm] at HI
    clear h hm hM hC
    go_enter Tryz.func227, Tryz.ntmps227
    go_wp2_with (first | (go_at_call 194; (with_reducible refine HI.out.mono ?_); rintro e W1 ⟨rfl, rfl⟩) | (go_at_call 221; (with_reducible refine HT.out.mono ?_); rintro e W2 ⟨rfl, hb⟩; unfold faultE faultV))
    exact ⟨rfl, Res.err (gB_below hb)⟩
  | true =>
    have HX := Aside0.mk (index_calls w A c L (headT s) hC)
    have HT := Aside0.mk (takes_calls w0 fv b w s h (isK_ne hm))
    have HF := Aside0.mk (fails_calls w0 fv b w s 7 h)
    rw [hm] at HI
    obtain ⟨⟨A2, c2, hrd, hlen, hW⟩, hbase, hbel⟩ := h
    obtain ⟨ws, l, col, n⟩ := s
    cases ws with
    | nil => cases hm
    | cons x r =>
      obtain ⟨ad, hA, x0, x1, x2, x3⟩ := first hW hbel
      subst hA
      have c0 := blk_cell hrd 0
      obtain ⟨N, hN⟩ : ∃ N, N = (x :: r).length := ⟨_, rfl⟩
      simp only [← hN] at c0 hlen
      have hN1 : 0 < N := by rw [hN]; simp
      simp at c0
      rw [show headT ⟨x :: r, l, col, n⟩ = x.f1 from rfl] at HX
      have hMM : placeP L ⟨x :: r, l, col, n⟩ = match idx L x.f1 with
        | some i => .ok i (takeP ⟨x :: r, l, col, n⟩)
        | none => failsP 7 ⟨x :: r, l, col, n⟩ := by rw [placeP, if_pos hm]; rfl
      clear hW hbel hbase hrd hN x0 x2 x3 hm hC
      unfold idxI at HX
      cases hi : idx L x.f1 with
      | none =>
        rw [hi] at HX hMM
        simp only at HX hMM
        rw [hMM]
        clear hMM hi HT
        go_enter Tryz.func227, Tryz.ntmps227
        go_wp2_with (first | (go_at_call 194; (with_reducible refine HI.out.mono ?_); rintro e W1 ⟨rfl, rfl⟩) | (go_at_call 229; (with_reducible refine HX.out.mono ?_); rintro e W1 ⟨rfl, rfl⟩) | (go_at_call 221; (with_reducible refine HF.out.mono ?_); rintro e W2 ⟨rfl, hb⟩; unfold faultE faultV))
        exact ⟨rfl, Res.err (gB_below hb)⟩
      | some i =>
        rw [hi] at HX hMM
        simp only at HX hMM
        rw [hMM]
        have d1 : decide ((i : Int) < 0) = false := decide_eq_false (by omega)
        clear hMM hi HF
        go_enter Tryz.func227, Tryz.ntmps227
        go_wp2_with (first | (go_at_call 194; (with_reducible refine HI.out.mono ?_); rintro e W1 ⟨rfl, rfl⟩) | (go_at_call 229; (with_reducible refine HX.out.mono ?_); rintro e W1 ⟨rfl, rfl⟩) | (go_at_call 254; (with_reducible refine HT.out.mono ?_); rintro e W2 ⟨rfl, hst, hg⟩; have HS := Aside0.mk (And.intro hst hg); clear hst hg))
        go_ret
        exact Res.ret rfl HS.out.1 HS.out.2
end Tr
end Go.Proofs.YtdecijmncpbheaaGreatDoor

namespace Go.Proofs.YtdecijmncpbheaaGreatDoor
open Go.RowKit Go.Proofs.YtdecijmncpbheaaGreatDoorW.PrintWords Go.Proofs.YtdecijmncpbheaaGreatDoorW.PrintLast Go.Proofs.YtdecijmncpbheaaGreatDoorW.PrintMore
set_option linter.unusedVariables false
set_option linter.unusedSimpArgs false
open Go.Shelf
namespace Tr
open Wd (gB_refl gB_trans gB_below gB_set)
def nodeCs (x : Nd) : Array Value := #[.int .u8 x.f0, .int .i64 x.f1, .string x.f2, .int .i64 x.f3, .bool x.f4.f0, .int .u64 x.f4.f1, .bool x.f5.f0, .int .u64 x.f5.f1, .bool x.f6.f0, .int .u64 x.f6.f1]
set_option maxRecDepth 100000 in
set_option maxHeartbeats 4000000 in
theorem node_calls (w0 : World) (fv : FV) (b : Nat) (w : World) (s : PS) (x : Nd) (h : ST w0 fv b w s) :
    Calls Tryz.prog 195 #[.pointer (some ⟨b, 0, none⟩), .agg #[.int .u8 x.f0, .int .i64 x.f1, .string x.f2, .int .i64 x.f3, .bool x.f4.f0, .int .u64 x.f4.f1, .bool x.f5.f0, .int .u64 x.f5.f1, .bool x.f6.f0, .int .u64 x.f6.f1]] w (Res w0 fv b w (nodeP s) (fun _ v W => ∃ g, v = .slice (some ⟨g, 0, none⟩) 1 1 ∧ w.heap.size ≤ g ∧ W.heap[g]? = some (.cells (nodeCs x) 119 (0, 0)))) := by
  obtain ⟨O, hO⟩ : ∃ O : Obj, O = .cells (nodeCs x) 119 := ⟨_, rfl⟩
  have h1 := h.step (below_alloc (Below.refl _ _) O)
  have HF := Aside0.mk (fails_calls w0 fv b (w.alloc O) s 3 h1)
  obtain ⟨⟨A, c, hrd, hlen, hC⟩, hbase, hbel⟩ := h1
  have hlt := (RD.lt h.ex.choose_spec.choose_spec.1)
  obtain ⟨ws, l, col, n⟩ := s
  have c10 := blk_cell hrd 10
  have f10 := blk_frozen hrd 10
  simp at c10
  have hO2 : Obj.cells #[.int .u8 x.f0, .int .i64 x.f1, .string x.f2, .int .i64 x.f3, .bool x.f4.f0, .int .u64 x.f4.f1, .bool x.f5.f0, .int .u64 x.f5.f1, .bool x.f6.f0, .int .u64 x.f6.f1] 119 = O := by rw [hO]; rfl
  have HB1 := Aside0.mk (gB_below (b := b) (below_alloc (Below.refl w.heap.size w) O))
  rcases Nat.lt_or_ge n 128 with hn | hn
  · have hd : decide ((n : Int) ≥ 128) = false := decide_eq_false (by omega)
    have hM : nodeP ⟨ws, l, col, n⟩ = .ok () ⟨ws, l, col, n + 1⟩ := by rw [nodeP, if_neg (by show ¬ 128 ≤ n; omega)]
    have hw : IntKind.i64.wrap ((n : Int) + 1) = ((n + 1 : Nat) : Int) := by rw [IntKind.wrap_i64]; omega
    have h2 : RD ((w.alloc O).setCell ⟨b, 10, none⟩ (.int .i64 ((n + 1 : Nat) : Int))) b (.slice A ws.length c) fv l col (n + 1) := blk_put hrd 10 _ rfl
    have hcO : ∀ W : World, (W.alloc O).heap[W.heap.size]? = some (.cells (nodeCs x) 119 (0, 0)) := fun W => by rw [hO]; exact blk_new W _
    have HX := Aside0.mk (And.intro h2 (And.intro hcO (And.intro hlen (And.intro hC (And.intro hbase (And.intro hbel hO))))))
    have k3 := blk_new w (.cells #[.int .u8 x.f0, .int .i64 x.f1, .string x.f2, .int .i64 x.f3, .bool x.f4.f0, .int .u64 x.f4.f1, .bool x.f5.f0, .int .u64 x.f5.f1, .bool x.f6.f0, .int .u64 x.f6.f1] 119)
    have HLT := Aside0.mk hlt
    rw [hM]
    clear hM hrd hbase hbel hC h h2 hcO hlen hO hlt k3
    rw [← hO2] at c10 f10
    have HO2 := Aside0.mk hO2
    clear hO2
    go_enter Tryz.func195, Tryz.ntmps195
    go_wp2
    go_ret
    rw [HO2.out]
    have e1 : (n : Int) + 1 = ((n + 1 : Nat) : Int) := by omega
    rw [e1]
    obtain ⟨W2, hW2⟩ : ∃ W, W = (w.alloc O).setCell ⟨b, 10, none⟩ (.int .i64 ((n + 1 : Nat) : Int)) := ⟨_, rfl⟩
    have hrd2 := HX.out.1
    have hg2 : w.grownBy W2 (some b) := by rw [hW2]; exact gB_set HB1.out 10 _
    have hsz : W2.heap.size = w.heap.size + 1 := by rw [hW2, World.size_setCell, World.size_alloc]
    rw [← hW2] at hrd2 ⊢
    refine Res.ret ⟨w.heap.size + 1, rfl, by omega, by have := HX.out.2.1 W2; rwa [hsz] at this⟩ ⟨⟨A, c, hrd2.below (below_alloc (Below.refl _ _) _), HX.out.2.2.1, HX.out.2.2.2.1⟩, HX.out.2.2.2.2.1, ?_⟩ (gB_trans hg2 (gB_below (below_alloc (Below.refl _ _) _)))
    refine below_gB HX.out.2.2.2.2.2.1 (b := b) ?_ HX.out.2.2.2.2.1
    rw [hW2]
    exact gB_trans (gB_set (gB_refl _ _) 10 _) (gB_below (below_alloc (Below.refl _ _) _))
  · have hd : decide ((n : Int) ≥ 128) = true := decide_eq_true (by omega)
    have hM : nodeP ⟨ws, l, col, n⟩ = failsP 3 ⟨ws, l, col, n⟩ := by rw [nodeP, if_pos (by show 128 ≤ n; omega)]
    rw [hM]
    clear hM hrd hbase hbel hC h hlen hO hlt f10
    rw [← hO2] at c10 HF HB1
    clear hO2
    go_enter Tryz.func195, Tryz.ntmps195
    go_wp2_with (go_at_call 221; (with_reducible refine HF.out.mono ?_); rintro e W2 ⟨rfl, hb⟩; unfold faultE faultV)
    exact ⟨rfl, Res.err (gB_trans HB1.out (gB_below hb))⟩
theorem marks1_calls (w0 : World) (fv : FV) (b : Nat) (w : World) (s : PS) (g : Nat) (t : ByteArray) (h : ST w0 fv b w s) (hgb : g ≠ b) (ht : w.cell? ⟨g, 0, none⟩ = some (.string t)) :
    Calls Tryz.prog 196 #[.pointer (some ⟨b, 0, none⟩), .slice (some ⟨g, 0, none⟩) 1 1] w (Res w0 fv b w (mustM t.data.toList s) (fun _ v _ => v = .tuple #[])) := by
  have := marks_calls w0 fv b w s g 1 [t] h hgb (by simp) (fun j hj => by
    obtain rfl : j = 0 := by simpa using hj
    exact ht)
  have e : marksP ([t].map (·.data.toList)) s = mustM t.data.toList s := by
    show (mustM t.data.toList s).bind _ = _
    cases mustM t.data.toList s <;> rfl
  rw [e] at this
  exact this
theorem ST.fresh {w0 w : World} {fv : FV} {b : Nat} {s : PS} (h : ST w0 fv b w s) : b < w.heap.size := by
  obtain ⟨⟨A, c, h1, _⟩, _⟩ := h
  exact h1.lt
/-- The call of marks with one mark, laid down ahead of it. -/
theorem mark_at (w0 : World) (fv : FV) (b : Nat) (w : World) (s : PS) (t : ByteArray) (h : ST w0 fv b w s) :
    Calls Tryz.prog 196 #[.pointer (some ⟨b, 0, none⟩), .slice (some ⟨w.heap.size, 0, none⟩) 1 1] (w.alloc (.cells #[.string t] 9)) (Res w0 fv b w (mustM t.data.toList s) (fun _ v _ => v = .tuple #[])) := by
  have hlt := h.fresh
  refine (marks1_calls w0 fv b (w.alloc (.cells #[.string t] 9)) s w.heap.size t (h.step (below_alloc (Below.refl _ _) _)) (by omega) (by first | simp | (have := blk_cell (blk_new w (.cells #[.string t] 9)) 0; simpa using this))).mono ?_
  intro e W hr
  exact hr.from (gB_below (below_alloc (Below.refl _ _) _))
theorem is_at (w0 : World) (fv : FV) (b : Nat) (w : World) (s : PS) (t : ByteArray) (h : ST w0 fv b w s) :
    Calls Tryz.prog 194 #[.pointer (some ⟨b, 0, none⟩), .int .u8 2, .slice (some ⟨w.heap.size, 0, none⟩) 1 1] (w.alloc (.cells #[.string t] 9)) fun e w' => e = .returned (.bool (isM t.data.toList s)) ∧ w' = w.alloc (.cells #[.string t] 9) :=
  isM_calls w0 fv b (w.alloc (.cells #[.string t] 9)) s w.heap.size 1 t (h.step (below_alloc (Below.refl _ _) _)) (by first | simp | (have := blk_cell (blk_new w (.cells #[.string t] 9)) 0; simpa using this))
theorem numV_some {t : ByteArray} {u : Nat} (h : numV t = some u) : Lib.parseUintB 64 t.data.toList = .ok u ∧ u < 18446744073709551616 ∧ (⟨(Lib.decDigits u).toArray⟩ : ByteArray) = t := by
  unfold numV at h
  split at h
  · rename_i v hv
    split at h
    · rename_i hd
      injection h with h
      subst h
      exact ⟨hv, hd.1, ByteArray.ext (Array.toList_inj.1 hd.2)⟩
    · cases h
  · cases h
theorem setSt {w0 w W : World} {fv : FV} {b : Nat} {s : PS} (h : ST w0 fv b W s) (hg : w.grownBy W (some b)) {P : Nat} (hP : w.heap.size ≤ P) (u v : Value) (hb : b < w.heap.size) (h0 : Below w0.heap.size w0 w) :
    ST w0 fv b ((W.setCell ⟨P, 0, none⟩ u).setCell ⟨P, 1, none⟩ v) s ∧ w.grownBy ((W.setCell ⟨P, 0, none⟩ u).setCell ⟨P, 1, none⟩ v) (some b) := by
  have hst : ∀ (W : World) (j : Nat) (u : Value), w.grownBy W (some b) → ST w0 fv b W s → ST w0 fv b (W.setCell ⟨P, j, none⟩ u) s ∧ w.grownBy (W.setCell ⟨P, j, none⟩ u) (some b) := by
    intro W j u hg h
    have hg2 : w.grownBy (W.setCell ⟨P, j, none⟩ u) (some b) := ⟨hg.os, hg.tape, hg.output, by rw [World.size_setCell]; exact hg.size, fun i hi hn => (Below.heap_setCell W ⟨P, j, none⟩ u i (by show i ≠ P; omega)).trans (hg.block i hi hn)⟩
    obtain ⟨⟨A, c, h1, h2, h3⟩, h4, h5⟩ := h
    exact ⟨⟨⟨A, c, (Below.heap_setCell W ⟨P, j, none⟩ u b (by show b ≠ P; omega)).trans h1, h2, h3⟩, h4, below_gB h0 hg2 h4⟩, hg2⟩
  obtain ⟨a1, a2⟩ := hst W 0 u hg h
  exact hst _ 1 v a2 a1
theorem bind_nb {α β : Type} {r : PR α} {f : α → PS → PR β} (h : r.bind f ≠ .bad) : r ≠ .bad := by
  rintro rfl
  exact h rfl
set_option maxRecDepth 100000 in
set_option maxHeartbeats 4000000 in
theorem variable_calls (w0 : World) (fv : FV) (b : Nat) (w : World) (s : PS) (h : ST w0 fv b w s) (HNA : Aside0 (Wd.NumsAt w0)) (hsz : ∀ x ∈ s.ws, x.f1.size ≤ 281474976710656) (hnb : variableP s ≠ .bad) :
    Calls Tryz.prog 226 #[.pointer (some ⟨b, 0, none⟩)] w (Res w0 fv b w (variableP s) (fun t v _ => v = .agg #[.bool t.f0, .int .u64 t.f1])) := by
  have HNB := Aside0.mk hnb
  obtain ⟨R, hR⟩ : ∃ R, R = variableP s := ⟨_, rfl⟩
  have HE0 : Aside0 (R = (mustM [37] s).bind fun _ s => numP s) := ⟨hR⟩
  rw [← hR]
  have HSZ := Aside0.mk hsz
  have HST := Aside0.mk h
  have hfr := h.fresh
  have hP : some w.heap.size ≠ some b := by simp; omega
  have HS0 := Aside0.mk (h.step (below_alloc (Below.refl _ _) (.cells #[.bool false, .int .u64 0] 100)))
  have HG0 := Aside0.mk (gB_below (b := b) (below_alloc (Below.refl w.heap.size w) (.cells #[.bool false, .int .u64 0] 100)))
  have HB0 := Aside0.mk (blk_new w (.cells #[.bool false, .int .u64 0] 100))
  clear h hR hnb hsz
  go_enter Tryz.func226, Tryz.ntmps226
  have HC := Aside0.mk (mark_at w0 fv b _ s ⟨#[37]⟩ HS0.out)
  try simp only [World.size_alloc, World.size_setCell] at HC
  go_wp2_with fail
  refine HC.out.mono ?_
  clear HC
  intro e W1 hres
  rcases Res.ways hres with ⟨a1, s1, v1, hr, rfl, hv, hst, hg⟩ | ⟨kk, ll, lc, hr, rfl, hg⟩
  rotate_left
  · have he := HE0.out
    rw [hr] at he
    have HX := Aside0.mk (And.intro (gB_trans HG0.out hg) he)
    clear hres hr hg he
    go_wp2
    rw [HX.out.2]
    exact ⟨rfl, Res.err HX.out.1⟩
  have he := HE0.out
  rw [hr] at he
  try simp only [bind_ok] at he
  have HE1 := Aside0.mk he
  have HR1 := Aside0.mk hr
  have HS1 := Aside0.mk hst
  have HV1 := Aside0.mk hv
  have HG1 := Aside0.mk (gB_trans HG0.out hg)
  have HGs1 := Aside0.mk hg
  clear hres hr hg he hst hv
  have HB1 := Aside0.mk (blk_grown HB0.out HGs1.out hP)
  clear HS0 HB0 HGs1 HV1
  have HI := Aside0.mk (isK_calls w0 fv b W1 s1 1 HS1.out)
  cases hm : isK 1 s1 with
  | false =>
    rw [hm] at HI
    have HF := Aside0.mk (fails_calls w0 fv b W1 s1 11 HS1.out)
    have HR : Aside0 (R = failsP 11 s1) := ⟨by rw [HE1.out]; show numP s1 = _; rw [numP, if_neg (by rw [hm]; decide)]⟩
    clear hm
    go_wp2_with (first | (go_at_call 194; (with_reducible refine HI.out.mono ?_); rintro e W ⟨rfl, rfl⟩) | (go_at_call 221; (with_reducible refine HF.out.mono ?_); rintro e W2 ⟨rfl, hb⟩; unfold faultE faultV))
    rw [HR.out]
    exact ⟨rfl, Res.err (gB_trans HG1.out (gB_below hb))⟩
  | true =>
    rw [hm] at HI
    obtain ⟨⟨A2, c2, hrd, hlen, hW⟩, hbase, hbel⟩ := HS1.out
    obtain ⟨ws, l, col, n⟩ := s1
    cases ws with
    | nil => cases hm
    | cons x r =>
      have hx : x ∈ s.ws := by
        obtain ⟨pre, e, _⟩ := s_mustM false [37] s _ _ (show mustM [37] s = .ok a1 ⟨x :: r, l, col, n⟩ from HR1.out)
        rw [e]
        exact List.mem_append_right _ List.mem_cons_self
      obtain ⟨u, hu⟩ : ∃ u, numV x.f1 = some u := by
        cases hv : numV x.f1 with
        | some u => exact ⟨u, rfl⟩
        | none =>
          exfalso
          refine HNB.out ?_
          show ((mustM [37] s).bind fun _ s => numP s) = .bad
          rw [← HE0.out, HE1.out]
          show numP _ = _
          rw [numP, if_pos hm]
          show (match numV x.f1 with | some u => PR.ok (⟨true, (u : Int)⟩ : Tm) _ | none => PR.bad) = _
          rw [hv]
      have HR : Aside0 (R = .ok ⟨true, u⟩ (takeP ⟨x :: r, l, col, n⟩)) := ⟨by
        rw [HE1.out]
        show numP _ = _
        rw [numP, if_pos hm]
        show (match numV x.f1 with | some u => PR.ok (⟨true, (u : Int)⟩ : Tm) (takeP ⟨x :: r, l, col, n⟩) | none => PR.bad) = _
        rw [hu]⟩
      obtain ⟨hp, hlt, hfm⟩ := numV_some hu
      have HPU := Aside0.mk (Wd.parse_ok W1 x.f1 (HSZ.out x hx) u hp)
      have HFM : Aside0 (∀ W, Below W1.heap.size W1 W → Calls Tryz.prog 188 #[.int .u64 (u : Int), .int .i64 10] W fun e w' => e = .returned (.string x.f1) ∧ Below W.heap.size W w') := ⟨fun W hb => by
        have := Wd.format_calls W u hlt ⟨HNA.out.below (hbel.trans (hb.mono hbel.size))⟩
        rw [hfm] at this
        exact this⟩
      have HTK : Aside0 (∀ W, Below W1.heap.size W1 W → Calls Tryz.prog 254 #[.pointer (some ⟨b, 0, none⟩)] W fun e w' => e = .returned (.string x.f1) ∧ ST w0 fv b w' (takeP ⟨x :: r, l, col, n⟩) ∧ W.grownBy w' (some b)) := ⟨fun W hb => takes_calls w0 fv b W ⟨x :: r, l, col, n⟩ (HS1.out.step hb) (by simp)⟩
      obtain ⟨ad, hA, x0, x1, x2, x3⟩ := first hW hbel
      subst hA
      have HFA : Aside0 (∀ W, Below W1.heap.size W1 W → W.cell? ⟨b, 0, none⟩ = some (.slice (some ad) (r.length + 1) c2) ∧ W.cell? ⟨ad.block, ad.off + 1, none⟩ = some (.string x.f1)) := ⟨fun W hb => by
        obtain ⟨ad', e, -, y1, -, -⟩ := first hW (hbel.trans (hb.mono hbel.size))
        obtain rfl := Option.some.inj e
        exact ⟨by first | simp | (have := blk_cell (hrd.below hb) 0; simpa using this), y1⟩⟩
      have c0 := (HFA.out W1 (Below.refl _ _)).1
      have hN1 : 0 < r.length + 1 := by omega
      obtain ⟨N, hN⟩ : ∃ N, N = r.length + 1 := ⟨_, rfl⟩
      rw [← hN] at HFA hN1 c0
      clear hN hu hp hfm hlen hrd hW hbase hbel x0 x2 x3 hx hm
      go_upto_region 5 with (first | (go_at_call 194; (with_reducible refine HI.out.mono ?_); rintro e W ⟨rfl, rfl⟩) | (go_at_call 187; (with_reducible refine HPU.out.mono ?_); rintro e W2 ⟨rfl, hb2⟩; have HB2 := Aside0.mk hb2; clear hb2))
      have e0 := (HFA.out W2 HB2.out).1
      have e1 := (HFA.out W2 HB2.out).2
      go_region_with (go_at_call 188; (with_reducible refine (HFM.out _ HB2.out.drew).mono ?_); rintro e W3 ⟨rfl, hb3⟩; have HB3 := Aside0.mk (below_step HB2.out.drew hb3); have g0 := (HFA.out W3 HB3.out).1; have g1 := (HFA.out W3 HB3.out).2; clear hb3)
      all_goals (
        have HP3 := Aside0.mk (blk_below HB1.out HB3.out)
        go_wp2_with (go_at_call 254; (with_reducible refine (HTK.out _ HB3.out).mono ?_); rintro e W4 ⟨rfl, hst, hg4⟩; have HP4 := Aside0.mk (blk_grown HP3.out hg4 hP); have HS4 := Aside0.mk hst; have q0 := blk_cell HP4.out 0; have q1 := blk_cell HP4.out 1; have f0 := blk_frozen HP4.out 0; have f1 := blk_frozen HP4.out 1; have HG4 := Aside0.mk (gB_trans HG1.out (gB_trans (gB_below HB3.out) hg4)); simp at q0 q1; clear hst hg4)
        have h5 : ((W4.setCell ⟨w.heap.size, 0, none⟩ (.bool true)).setCell ⟨w.heap.size, 1, none⟩ (.int .u64 (u : Int))).heap[w.heap.size]? = some (.cells #[.bool true, .int .u64 (u : Int)] 100 (0, 0)) := blk_put (blk_put HP4.out 0 _ rfl) 1 _ rfl
        have r0 := blk_cell h5 0
        have r1 := blk_cell h5 1
        simp at r0 r1
        have HW := Aside0.mk (setSt HS4.out HG4.out (Nat.le_refl w.heap.size) (.bool true) (.int .u64 (u : Int)) hfr HST.out.below)
        rw [HR.out]
        refine bodyPost_ret (v := .agg #[.bool true, .int .u64 (u : Int)]) (by simp [results, Tryz.f226, go_sem, r0, r1]) rfl ?_
        exact Res.ret rfl HW.out.1 HW.out.2)
end Tr
end Go.Proofs.YtdecijmncpbheaaGreatDoor
