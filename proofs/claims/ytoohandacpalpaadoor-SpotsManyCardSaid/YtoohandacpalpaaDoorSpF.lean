/- spots.told and spots.Of. -/
import Derived.Test.YtoohandacpalpaaDoorSpD
namespace Go.Proofs.YtoohandacpalpaaDoor
open Go.RowKit Go.Shelf Go.Proofs.YtoohandacpalpaaDoorW.PrintWords Go.Proofs.YtoohandacpalpaaDoorW.PrintLast Go.Proofs.YtoohandacpalpaaDoorW.PrintMore
set_option linter.unusedVariables false
set_option linter.unusedSimpArgs false
def spotC (x : Spot) : List Value := [.int .i64 x.f0, .int .u8 x.f1, .int .u8 x.f2, .bool x.f3.f0, .int .u64 x.f3.f1]
theorem spot_flat : Flat kSpot spotC := fun w base ok x c => ⟨k50_openM, fun h => by subst h; exact k50_mkM w base ok x⟩
theorem infoSp : (Tryd.prog.info? 50).map (fun i => (i.zero, i.size, i.bytes)) = some (some (.agg #[.int .i64 0, .int .u8 0, .int .u8 0, .bool false, .int .u64 0]), 5, 32) := by kernel_rfl
def termOf (n : Node) (p : Int) : Term := if p = 0 then n.f4 else if p = 1 then n.f5 else n.f6
/-- What 'told' tells of one. -/
def toldS (body : List Node) (x : Int × Int × Int) : Spot := ⟨x.1, x.2.1, x.2.2, termOf (body.getD x.1.toNat ⟨0, 0, ⟨#[]⟩, 0, ⟨false, 0⟩, ⟨false, 0⟩, ⟨false, 0⟩⟩) x.2.1⟩
def spotZ : Spot := ⟨0, 0, 0, ⟨false, 0⟩⟩
theorem R_len {α : Type} {d : Kd α} {e base n cap : Nat} {A : Option Addr} {W : World} {ok : Nat → Prop} {xs : List α} (h : d.R e W base ok (.slice A n cap) xs) : n = xs.length := by
  obtain ⟨A', c', e'⟩ := Kd.R_slice h
  injection e'
section
variable {e base n cap g : Nat} {W : World} {ok : Nat → Prop} {xs : List Spot}
theorem spot_put (h : kSpot.R e W base ok (.slice (some ⟨g, 0, none⟩) n cap) xs) (i : Nat) (hi : i < xs.length) (a p s : Int) :
    kSpot.R e (((((W.setCell ⟨g, i * 5, none⟩ (.int .i64 a)).setCell ⟨g, i * 5 + 1, none⟩ (.int .u8 p)).setCell ⟨g, i * 5 + 2, none⟩ (.int .u8 s)).setCell ⟨g, i * 5 + 3, none⟩ (.bool false)).setCell ⟨g, i * 5 + 4, none⟩ (.int .u64 0)) base ok (.slice (some ⟨g, 0, none⟩) n cap) (xs.set i ⟨a, p, s, ⟨false, 0⟩⟩) := by
  have h0 := R_edit spot_flat h i 0 hi (by decide) { xs[i] with f0 := a } (.int .i64 a) (by simp [spotC])
  have h1 := R_edit spot_flat h0 i 1 (by simpa using hi) (by decide) { xs[i] with f0 := a, f1 := p } (.int .u8 p) (by simp [spotC])
  have h2 := R_edit spot_flat h1 i 2 (by simpa using hi) (by decide) { xs[i] with f0 := a, f1 := p, f2 := s } (.int .u8 s) (by simp [spotC])
  have h3 := R_edit spot_flat h2 i 3 (by simpa using hi) (by decide) ⟨a, p, s, ⟨false, xs[i].f3.f1⟩⟩ (.bool false) (by simp [spotC])
  have h4 := R_edit spot_flat h3 i 4 (by simpa using hi) (by decide) ⟨a, p, s, ⟨false, 0⟩⟩ (.int .u64 0) (by simp [spotC])
  simp only [List.set_set] at h4
  exact h4
theorem spot_term (h : kSpot.R e W base ok (.slice (some ⟨g, 0, none⟩) n cap) xs) (i : Nat) (hi : i < xs.length) (t : Term) :
    kSpot.R e ((W.setCell ⟨g, i * 5 + 3, none⟩ (.bool t.f0)).setCell ⟨g, i * 5 + 4, none⟩ (.int .u64 t.f1)) base ok (.slice (some ⟨g, 0, none⟩) n cap) (xs.set i { xs[i] with f3 := t }) := by
  have h3 := R_edit spot_flat h i 3 hi (by decide) { xs[i] with f3 := ⟨t.f0, xs[i].f3.f1⟩ } (.bool t.f0) (by simp [spotC])
  have h4 := R_edit spot_flat h3 i 4 (by simpa using hi) (by decide) { xs[i] with f3 := t } (.int .u64 t.f1) (by simp [spotC])
  simp only [List.set_set] at h4
  exact h4
end
theorem C_spotN {w : World} {A : Option Addr} {xs : List Spot} (h : Kd.C kSpot w A xs.length xs) (j : Nat) (hj : j < xs.length) : ∃ ad, A = some ad ∧
    w.cell? (ad.add (j * 5)) = some (.int .i64 xs[j].f0) ∧ w.cell? ⟨(ad.add (j * 5)).block, (ad.add (j * 5)).off + 1, none⟩ = some (.int .u8 xs[j].f1) ∧ w.cell? ⟨(ad.add (j * 5)).block, (ad.add (j * 5)).off + 2, none⟩ = some (.int .u8 xs[j].f2) ∧
    w.cell? ⟨(ad.add (j * 5)).block, (ad.add (j * 5)).off + 3, none⟩ = some (.bool xs[j].f3.f0) ∧ w.cell? ⟨(ad.add (j * 5)).block, (ad.add (j * 5)).off + 4, none⟩ = some (.int .u64 xs[j].f3.f1) := by
  obtain ⟨ad, e, hc⟩ := at_T50 h (j : Int) (by omega) (by omega)
  refine ⟨ad, e, ?_⟩
  have e2 : rd_T50 xs (j : Int) = xs[j] := by
    rw [rd_T50, Int.toNat_natCast, List.getD_eq_getElem?_getD, List.getElem?_eq_getElem hj]
    rfl
  rw [e2, Int.toNat_natCast] at hc
  exact hc
theorem spot_cells {e base n cap g : Nat} {W : World} {ok : Nat → Prop} {xs : List Spot} (h : kSpot.R e W base ok (.slice (some ⟨g, 0, none⟩) n cap) xs) (i : Nat) (hi : i < xs.length) :
    W.cell? ⟨g, i * 5, none⟩ = some (.int .i64 xs[i].f0) ∧ W.cell? ⟨g, i * 5 + 1, none⟩ = some (.int .u8 xs[i].f1) ∧ W.cell? ⟨g, i * 5 + 2, none⟩ = some (.int .u8 xs[i].f2) ∧ W.cell? ⟨g, i * 5 + 3, none⟩ = some (.bool xs[i].f3.f0) ∧ W.cell? ⟨g, i * 5 + 4, none⟩ = some (.int .u64 xs[i].f3.f1) ∧ ∀ o, W.frozen? ⟨g, o, none⟩ = false := by
  obtain ⟨_, _, ev, _, _, cells, hgc⟩ := Kd.R_form h (by omega)
  cases ev
  obtain ⟨ad, e2, c0, c1, c2, c3, c4⟩ := C_spotN (Kd.R_reads' h).2.2 i hi
  cases e2
  rw [add_plain] at c0 c1 c2 c3 c4
  simp only [Nat.zero_add] at c0 c1 c2 c3 c4
  exact ⟨c0, c1, c2, c3, c4, fun o => blk_frozen hgc o⟩
/-- One of a row of spots with function values that is read. -/
theorem C_partN {w : World} {g n : Nat} {l : List (Int × Int × Int)} (h : kPart.C w (some ⟨g, 0, none⟩) n l) (j : Nat) (hj : j < l.length) : ∃ b1 b2, w.cell? ⟨g, j * 6, none⟩ = some (.int .i64 l[j].1) ∧ w.cell? ⟨g, j * 6 + 1, none⟩ = some (.int .u8 l[j].2.1) ∧ w.cell? ⟨g, j * 6 + 2, none⟩ = some (.int .u8 l[j].2.2) ∧
    w.cell? ⟨g, j * 6 + 3, none⟩ = some (.bool false) ∧ w.cell? ⟨g, j * 6 + 4, none⟩ = some (.int .u64 0) ∧ w.cell? ⟨g, j * 6 + 5, none⟩ = some (.func (.func 63) #[] #[.pointer (some ⟨b1, 0, none⟩), .pointer (some ⟨b2, 0, none⟩)]) ∧
    b1 < w.heap.size ∧ b2 < w.heap.size ∧ w.cell? ⟨b1, 0, none⟩ = some (.int .i64 l[j].1) ∧ w.cell? ⟨b2, 0, none⟩ = some (.int .u8 l[j].2.1) := by
  obtain ⟨ad, e, hc⟩ := h.2.2 (by have := h.1; omega)
  cases e
  obtain ⟨c, _, ⟨b1, b2, rfl, l1, l2, q1, q2⟩, hu⟩ := hc j l[j] (List.getElem?_eq_getElem hj)
  have hh : ∀ i u, (partC l[j] b1 b2)[i]? = some u → w.cell? ⟨g, j * 6 + i, none⟩ = some u := fun i u h => by
    have := hu i u h
    rw [add_plain] at this
    exact this
  exact ⟨b1, b2, hh 0 _ rfl, hh 1 _ rfl, hh 2 _ rfl, hh 3 _ rfl, hh 4 _ rfl, hh 5 _ rfl, l1, l2, q1, q2⟩
theorem below_set {w W : World} (h : Below w.heap.size w W) {g o : Nat} (v : Value) (hg : w.heap.size ≤ g) : Below w.heap.size w (W.setCell ⟨g, o, none⟩ v) := h.setCell (p := ⟨g, o, none⟩) hg v
theorem told_step (f : Int × Int × Int → Spot) (l : List (Int × Int × Int)) (n k : Nat) (hl : l.length = n) (hk : k < n) (y : Spot) (hy : y = f (l[k]'(by omega))) : ((l.take k).map f ++ List.replicate (n - k) spotZ).set k y = (l.take (k + 1)).map f ++ List.replicate (n - (k + 1)) spotZ := by
  have h1 : ((l.take k).map f).length = k := by rw [List.length_map, List.length_take]; omega
  rw [List.set_append_right _ _ (by omega), h1, Nat.sub_self, show n - k = (n - (k + 1)) + 1 by omega, List.replicate_succ, List.set_cons_zero, List.take_succ_eq_append_getElem (by omega), List.map_append, List.map_singleton, hy, List.append_assoc, List.singleton_append]
/-- The cells of a part's term. -/
theorem term_cells {w : World} {ad : Addr} {body : List Node} (h : kNode.C w (some ad) body.length body) (j : Nat) (hj : j < body.length) (p : Int) : w.cell? ⟨(ad.add (j * 10)).block, (ad.add (j * 10)).off + partOff p, none⟩ = some (.bool (termOf body[j] p).f0) ∧ w.cell? ⟨(ad.add (j * 10)).block, (ad.add (j * 10)).off + partOff p + 1, none⟩ = some (.int .u64 (termOf body[j] p).f1) := by
  obtain ⟨ad', e, _, _, _, _, c4, c5, c6, c7, c8, c9⟩ := C_nodeN h j hj
  cases e
  unfold partOff termOf
  split
  · exact ⟨c4, c5⟩
  · split
    · exact ⟨c6, c7⟩
    · exact ⟨c8, c9⟩
set_option maxRecDepth 100000 in
set_option maxHeartbeats 4000000 in
theorem told_calls (w : World) (ad : Addr) (N c : Nat) (body : List Node) (A : Option Addr) (n c2 : Nat) (l : List (Int × Int × Int)) (hN : N = body.length) (hr : kNode.C w (some ad) body.length body) (hn : n ≤ 300) (hA : 0 < n → ∃ g, A = some ⟨g, 0, none⟩) (hl : kPart.C w A n l)
    (hx : ∀ x ∈ l, ∃ k : Nat, x.1 = k ∧ k < body.length) :
    Calls Tryd.prog 42 #[.slice (some ad) N c, .slice A n c2] w fun e w' => ∃ A5 c5, e = .returned (.slice A5 n c5) ∧ kSpot.R 50 w' w.heap.size (fun _ => True) (.slice A5 n c5) (l.map (toldS body)) ∧ Below w.heap.size w w' := by
  have HR := Aside0.mk hr
  have HN := Aside0.mk hN
  have HL := Aside0.mk hl
  have HX := Aside0.mk hx
  have HA := Aside0.mk hA
  have HLL := Aside0.mk hl.1
  clear hr hN hl hx hA
  go_enter Tryd.func42, Tryd.ntmps42
  go_wp2_with (at_make; refine Kd.R_make kSpot w.heap.size 50 rfl rfl 44 _ _ rfl (n : Int) rfl rfl rfl (.agg #[.int .i64 0, .int .u8 0, .int .u8 0, .bool false, .int .u64 0]) 32 infoSp rfl (by decide) (by decide) spotZ (ok := fun _ => True) (okp := fun _ => True) (k50_mkM _ _ _ spotZ) (fun _ _ => trivial) trivial (by omega) (by simp; omega) (Below.refl _ _) (Nat.le_refl _) ?_; intro v1 w1 hR hb hg hat; obtain ⟨A5, c5, rfl⟩ := Kd.R_slice hR; rw [List.length_replicate, Int.toNat_natCast] at hR ⊢; have HO := Aside0.mk hR; have HB := Aside0.mk hb; clear hR hb hg hat)
  go_loopg [13] (n + 1) (fun g i W => ∃ k : Nat, i = .int .i64 (k : Int) ∧ k ≤ n ∧ n + 1 - k ≤ g ∧ Aside0 (kSpot.R 50 W w.heap.size (fun _ => True) (.slice A5 n c5) ((l.take k).map (toldS body) ++ List.replicate (n - k) spotZ)) ∧ Aside0 (Below w.heap.size w W))
  case atStart => exact ⟨0, rfl, Nat.zero_le _, by omega, ⟨by simpa using HO.out⟩, HB⟩
  case round =>
    clear HO HB
    obtain ⟨k, rfl, hk, hkg, HO, HB⟩ := hrel
    rcases Nat.lt_or_ge k n with hlt | hge
    · have hd : decide (k < n) = true := decide_eq_true hlt
      have hkl : k < l.length := by rw [HLL.out]; exact hlt
      obtain ⟨g, rfl⟩ := HA.out (by omega)
      obtain ⟨b1, b2, d0, d1, d2, d3, d4, d5, l1, l2, q1, q2⟩ := C_partN HL.out k hkl
      have hgl : g < w.heap.size := by
        have := d0
        rcases Nat.lt_or_ge g w.heap.size with h | h
        · exact h
        · rw [World.cell?, Array.getElem?_eq_none h] at this; cases this
      have tr : ∀ o v, w.cell? ⟨g, o, none⟩ = some v → wr.cell? ⟨g, o, none⟩ = some v := fun o v h => (HB.out.cell (p := ⟨g, o, none⟩) hgl).trans h
      replace d0 := tr _ _ d0
      replace d1 := tr _ _ d1
      replace d2 := tr _ _ d2
      replace d3 := tr _ _ d3
      replace d4 := tr _ _ d4
      replace d5 := tr _ _ d5
      clear tr
      obtain ⟨x, hxk⟩ : ∃ x, x = l[k] := ⟨_, rfl⟩
      obtain ⟨j, hj, hjb⟩ := HX.out l[k] (List.getElem_mem _)
      rw [← hxk] at d0 d1 d2 q1 q2 hj
      obtain ⟨x1, x2, x3⟩ := x
      simp only at d0 d1 d2 q1 q2 hj
      subst hj
      have HXK := Aside0.mk hxk
      clear hxk
      have hol : ((l.take k).map (toldS body) ++ List.replicate (n - k) spotZ).length = n := by simp [HLL.out]; omega
      obtain ⟨g5, c5', ev, hBg5, hgl5, cells5, hgc5⟩ := Kd.R_form HO.out (by omega)
      injection ev with ev1 ev2 ev3
      subst ev1
      clear ev2 ev3
      obtain ⟨o0, o1, o2, o3, o4, of⟩ := spot_cells HO.out k (by rw [hol]; exact hlt)
      have P1 : Aside0 (∀ W, Below w.heap.size w W → Calls Tryd.prog 63 #[.slice (some ad) N c, .pointer (some ⟨b1, 0, none⟩), .pointer (some ⟨b2, 0, none⟩)] W fun e w' => e = .returned (.pointer (some ⟨(ad.add (j * 10)).block, (ad.add (j * 10)).off + partOff x2, none⟩)) ∧ W = w') :=
        ⟨fun W hb => part1_calls W ad N c j x2 b1 b2 (by rw [HN.out]; exact hjb) ((hb.cell (p := ⟨b1, 0, none⟩) l1).trans q1) ((hb.cell (p := ⟨b2, 0, none⟩) l2).trans q2)⟩
      have o0' := fun o => pw_cell_below (below_alloc (Below.refl wr.heap.size wr) o) o0
      have o1' := fun o => pw_cell_below (below_alloc (Below.refl wr.heap.size wr) o) o1
      have o2' := fun o => pw_cell_below (below_alloc (Below.refl wr.heap.size wr) o) o2
      have o3' := fun o => pw_cell_below (below_alloc (Below.refl wr.heap.size wr) o) o3
      have o4' := fun o => pw_cell_below (below_alloc (Below.refl wr.heap.size wr) o) o4
      have of' := fun o off => blk_frozen (blk_alloc hgc5 o) off
      have hne : ¬ g5 = wr.heap.size := by have := blk_lt hgc5; omega
      have hne' : ¬ wr.heap.size = g5 := fun h => hne h.symm
      have HBG := Aside0.mk hBg5
      clear q1 q2 l1 l2 o0 o1 o2 o3 o4 of hgc5 hgl5 hBg5
      go_wp2_with (go_at_call 63; (with_reducible refine (P1.out _ (by repeat (first | exact HB.out | exact HBG.out | apply below_alloc | refine below_set ?_ _ ?_))).mono ?_); rintro e W' ⟨rfl, hW⟩; have HB5 : Aside0 (Below w.heap.size w W') := ⟨(by rw [← hW]; repeat (first | exact HB.out | exact HBG.out | apply below_alloc | refine below_set ?_ _ ?_))⟩; have HO5 : Aside0 (kSpot.R 50 W' w.heap.size (fun _ => True) (.slice (some ⟨g5, 0, none⟩) n c5) (((l.take k).map (toldS body) ++ List.replicate (n - k) spotZ).set k ⟨j, x2, x3, ⟨false, 0⟩⟩)) := ⟨(by rw [← hW]; exact spot_put (Kd.R_below HO.out (below_alloc (Below.refl _ _) _)) k (by rw [hol]; exact hlt) _ _ _)⟩; obtain ⟨t0, t1⟩ := term_cells (Kd.C_below HR.out HB5.out) j hjb x2; obtain ⟨p0, p1, p2, p3, p4, pf⟩ := spot_cells HO5.out k (by rw [List.length_set, hol]; exact hlt); obtain ⟨t, ht⟩ : ∃ t, t = termOf body[j] x2 := ⟨_, rfl⟩; rw [← ht] at t0 t1; have HT := Aside0.mk ht; clear hW ht o0' o1' o2' o3' o4' of' d0 d1 d2 d3 d4 d5)
      go_roundg (gk - 1)
      case measure => omega
      case rel =>
        have h2 := spot_term HO5.out k (by rw [List.length_set, hol]; exact hlt) t
        rw [List.getElem_set_self, List.set_set] at h2
        rw [told_step (toldS body) l n k HLL.out hlt ⟨j, x2, x3, t⟩ (by rw [← HXK.out, HT.out, toldS]; simp [List.getD_eq_getElem?_getD, List.getElem?_eq_getElem hjb])] at h2
        exact ⟨k + 1, by go_num, by omega, by omega, ⟨h2⟩, ⟨by repeat (first | exact HB5.out | exact HBG.out | refine below_set ?_ _ ?_)⟩⟩
    · have hd : decide (k < n) = false := decide_eq_false (by omega)
      obtain rfl : k = n := by omega
      go_wp2
      go_ret
      refine ⟨A5, c5, rfl, ?_, HB.out⟩
      have := HO.out
      rw [List.take_of_length_le (by rw [HLL.out]; exact Nat.le_refl _), Nat.sub_self, List.replicate_zero, List.append_nil] at this
      exact this
end Go.Proofs.YtoohandacpalpaaDoor
namespace Go.Proofs.YtoohandacpalpaaDoor
open Go.RowKit Go.Shelf Go.Proofs.YtoohandacpalpaaDoorW.PrintWords Go.Proofs.YtoohandacpalpaaDoorW.PrintLast Go.Proofs.YtoohandacpalpaaDoorW.PrintMore
set_option linter.unusedVariables false
set_option linter.unusedSimpArgs false
theorem labL_mem : ∀ (i : Nat) (l : List Node) (ss : List Int), ∀ x ∈ labL i l ss, ∃ k : Nat, x.f0 = k ∧ i ≤ k ∧ k < i + l.length
  | i, [], ss, x, h => by cases ss <;> simp [labL] at h
  | i, n :: t, [], x, h => by simp [labL] at h
  | i, n :: t, s :: ss, x, h => by
    rw [labL] at h
    rcases List.mem_append.1 h with h | h
    · refine ⟨i, ?_, Nat.le_refl _, by simp⟩
      unfold labN at h
      split at h
      · simp at h
        rcases h with rfl | rfl <;> rfl
      · simp at h
        subst h
        rfl
    · obtain ⟨k, e, h1, h2⟩ := labL_mem (i + 1) t ss x h
      exact ⟨k, e, by omega, by simp only [List.length_cons]; omega⟩
theorem effL_mem : ∀ (i : Nat) (l : List Node) (ss : List Int), ∀ x ∈ effL i l ss, ∃ k : Nat, x.f0 = k ∧ i ≤ k ∧ k < i + l.length
  | i, [], ss, x, h => by cases ss <;> simp [effL] at h
  | i, n :: t, [], x, h => by simp [effL] at h
  | i, n :: t, s :: ss, x, h => by
    rw [effL] at h
    rcases List.mem_append.1 h with h | h
    · refine ⟨i, ?_, Nat.le_refl _, by simp⟩
      unfold effN at h
      split at h
      · simp at h
        subst h
        rfl
      · simp at h
    · obtain ⟨k, e, h1, h2⟩ := effL_mem (i + 1) t ss x h
      exact ⟨k, e, by omega, by simp only [List.length_cons]; omega⟩
theorem told_lab : ∀ (pre l : List Node) (ss : List Int), (labL pre.length l ss).map (fun x => toldS (pre ++ l) (partOf x)) = labL pre.length l ss
  | pre, [], ss => by cases ss <;> rfl
  | pre, n :: t, [] => rfl
  | pre, n :: t, s :: ss => by
    have h := told_lab (pre ++ [n]) t ss
    rw [List.length_append, List.length_singleton, List.append_assoc, List.singleton_append] at h
    rw [labL, List.map_append, h]
    congr 1
    unfold labN
    split <;> simp [toldS, partOf, termOf, List.getD_eq_getElem?_getD]
theorem told_eff : ∀ (pre l : List Node) (ss : List Int), (effL pre.length l ss).map (fun x => toldS (pre ++ l) (partOf x)) = effL pre.length l ss
  | pre, [], ss => by cases ss <;> rfl
  | pre, n :: t, [] => rfl
  | pre, n :: t, s :: ss => by
    have h := told_eff (pre ++ [n]) t ss
    rw [List.length_append, List.length_singleton, List.append_assoc, List.singleton_append] at h
    rw [effL, List.map_append, h]
    congr 1
    unfold effN
    split <;> simp [toldS, partOf, termOf, List.getD_eq_getElem?_getD]
theorem labP_all {body : List Node} (hz : checkB body = 0) : (labP body body.length).map (toldS body) = labB body := by
  unfold labP labB
  rw [if_pos hz, List.take_of_length_le (Nat.le_refl _), List.take_of_length_le (by rw [show (sidesB body).length = body.length from sidesB_len hz 0]; exact Nat.le_refl _), List.map_map]
  exact told_lab [] body _
theorem effP_all {body : List Node} (hz : checkB body = 0) : (effP body body.length).map (toldS body) = effB body := by
  unfold effP effB
  rw [if_pos hz, List.take_of_length_le (Nat.le_refl _), List.take_of_length_le (by rw [show (sidesB body).length = body.length from sidesB_len hz 0]; exact Nat.le_refl _), List.map_map]
  exact told_eff [] body _
theorem labP_mem (body : List Node) (k : Nat) : ∀ x ∈ labP body k, ∃ j : Nat, x.1 = j ∧ j < body.length := by
  intro x hx
  obtain ⟨y, hy, rfl⟩ := List.mem_map.1 hx
  obtain ⟨j, e, _, h⟩ := labL_mem _ _ _ y hy
  refine ⟨j, e, ?_⟩
  rw [List.length_take] at h
  omega
theorem effP_mem (body : List Node) (k : Nat) : ∀ x ∈ effP body k, ∃ j : Nat, x.1 = j ∧ j < body.length := by
  intro x hx
  obtain ⟨y, hy, rfl⟩ := List.mem_map.1 hx
  obtain ⟨j, e, _, h⟩ := effL_mem _ _ _ y hy
  refine ⟨j, e, ?_⟩
  rw [List.length_take] at h
  omega
theorem R_pos {α : Type} {d : Kd α} {e base n cap : Nat} {A : Option Addr} {W : World} {ok : Nat → Prop} {xs : List α} (h : d.R e W base ok (.slice A n cap) xs) (hn : 0 < n) : ∃ g, A = some ⟨g, 0, none⟩ := by
  obtain ⟨g, c', ev, _⟩ := Kd.R_form h (by rw [← R_len h]; exact hn)
  injection ev with e1
  exact ⟨g, e1⟩
set_option maxRecDepth 100000 in
set_option maxHeartbeats 4000000 in
theorem of_calls (w : World) (A : Option Addr) (c : Nat) (body : List Node) (hr : kNode.C w A body.length body) :
    Calls Tryd.prog 27 #[.slice A body.length c] w fun e w' => ∃ v1 v2, e = .returned (.tuple #[v1, v2]) ∧ kSpot.R 50 w' w.heap.size (fun k => some k ≠ v2.ownBlock) v1 (labB body) ∧ kSpot.R 50 w' w.heap.size (fun k => some k ≠ v1.ownBlock) v2 (effB body) ∧ Below w.heap.size w w' := by
  have CK := Aside0.mk (check_calls w A c body hr)
  by_cases hz : checkB body = 0
  · rw [hz] at CK
    have hp := (checkB_L hz).1
    have hl128 := (checkB_L hz).2.1
    obtain ⟨ad, rfl, -⟩ := C_nodeN hr 0 hp
    have HZ := Aside0.mk hz
    have HR := Aside0.mk hr
    obtain ⟨N, hN⟩ : ∃ N, N = body.length := ⟨_, rfl⟩
    have HN := Aside0.mk hN
    rw [← hN] at CK ⊢
    clear hz hr hN hp
    go_enter Tryd.func27, Tryd.ntmps27
    go_wp2_with (go_at_call 14; (with_reducible refine (CK.out).mono ?_); rintro e w1 ⟨rfl, hb1⟩; have HB1 := Aside0.mk hb1; clear hb1)
    have AC := all_calls w1 (some ad) c body HZ.out (Kd.C_below HR.out HB1.out)
    rw [← HN.out] at AC
    refine AC.mono ?_
    rintro e w2 ⟨v1, v2, rfl, r1, r2, hb2⟩
    clear AC
    obtain ⟨A1, c1, rfl⟩ := Kd.R_slice r1
    obtain ⟨A2, c2, rfl⟩ := Kd.R_slice r2
    have hb12 := labP_len body N
    have hb13 := effP_len body N
    obtain ⟨n1, hn1⟩ : ∃ n, n = (labP body N).length := ⟨_, rfl⟩
    obtain ⟨n2, hn2⟩ : ∃ n, n = (effP body N).length := ⟨_, rfl⟩
    rw [← hn1] at r1 r2 hb12 ⊢
    rw [← hn2] at r1 r2 hb13 ⊢
    have HB2 := Aside0.mk (below_step HB1.out hb2)
    have R1 := Aside0.mk r1
    have R2 := Aside0.mk r2
    have HN1 := Aside0.mk hn1
    have HN2 := Aside0.mk hn2
    clear r1 r2 hb2 HB1 hn1 hn2
    go_wp2_with fail
    refine (told_calls w2 ad N c body A1 n1 c1 (labP body N) HN.out (Kd.C_below HR.out HB2.out) (by omega) (R_pos R1.out) (by have h := (Kd.R_reads' R1.out).2.2; rw [HN1.out]; exact h) (labP_mem body N)).mono ?_
    rintro e w3 ⟨A5, c5, rfl, r5, hb3⟩
    have HB3 := Aside0.mk (below_step HB2.out hb3)
    have R3 := Aside0.mk r5
    have R4 := Aside0.mk (Kd.R_below R2.out hb3)
    have HB23 := Aside0.mk hb3.size
    clear r5 hb3
    go_wp2_with fail
    refine (told_calls w3 ad N c body A2 n2 c2 (effP body N) HN.out (Kd.C_below HR.out HB3.out) (by omega) (R_pos R2.out) (by have h := (Kd.R_reads' R4.out).2.2; rw [HN2.out]; exact h) (effP_mem body N)).mono ?_
    rintro e w4 ⟨A6, c6, rfl, r6, hb4⟩
    have HB4 := Aside0.mk (below_step HB3.out hb4)
    have R5 := Aside0.mk (Kd.R_below R3.out hb4)
    have R6 := Aside0.mk r6
    have HS := Aside0.mk (Kd.R_bound R3.out)
    have HB34 := Aside0.mk hb4
    clear r6 hb4
    go_wp2
    go_ret2
    have e1 : (labP body N).map (toldS body) = labB body := by rw [HN.out]; exact labP_all HZ.out
    have e2 : (effP body N).map (toldS body) = effB body := by rw [HN.out]; exact effP_all HZ.out
    rw [← e1, ← e2]
    have o2 : ∀ k, (Value.slice A6 n2 c6).ownBlock = some k → w3.heap.size ≤ k := fun k e => own_base (Kd.R_own R6.out).choose_spec k e
    have o1 : ∀ k, (Value.slice A5 n1 c5).ownBlock = some k → k < w3.heap.size := fun k e => own_lt (Kd.R_own R3.out).choose_spec k e
    refine ⟨_, _, rfl, ?_, ?_, HB4.out⟩
    · have h1 : kSpot.R 50 w3 w2.heap.size (fun k => k < w3.heap.size) (.slice A5 n1 c5) ((labP body N).map (toldS body)) := Kd.R_mono (Kd.R_bound R3.out) (fun k hk => hk.2.2.1)
      have h2 := Kd.R_below h1 HB34.out
      exact Kd.R_mono (Kd.R_lower h2 HB2.out.size) (fun k hk e => by have := o2 k e.symm; omega)
    · exact Kd.R_lower (Kd.R_mono (Kd.R_bound R6.out) (fun k hk e => by have := o1 k e.symm; have := hk.2.1; omega)) HB3.out.size
  · obtain ⟨q, hq⟩ : ∃ q, q = checkB body := ⟨_, rfl⟩
    rw [← hq] at CK
    have e0 : (q != 0) = true := bne_iff_ne.mpr (by rw [hq]; exact hz)
    have e1 : labB body = [] := by unfold labB; rw [if_neg hz]
    have e2 : effB body = [] := by unfold effB; rw [if_neg hz]
    rw [e1, e2]
    clear hq hz e1 e2 hr
    go_enter Tryd.func27, Tryd.ntmps27
    go_wp2_with (go_at_call 14; (with_reducible refine (CK.out).mono ?_); rintro e w1 ⟨rfl, hb1⟩; have HB1 := Aside0.mk hb1; clear hb1)
    go_ret2
    exact ⟨_, _, rfl, Kd.R_nil _ _ _ _ _, Kd.R_nil _ _ _ _ _, HB1.out⟩
end Go.Proofs.YtoohandacpalpaaDoor
