/- The document's spots (cartoucheref08): below, Of. -/
import Derived.Test.YtbdecnagdnancaaGreatDoorME
import Derived.Test.YtbdecnagdnancaaGreatDoorTyUa
import Derived.Test.YtbdecnagdnancaaGreatDoorAp
import Derived.Deep.Cut
import Derived.Deep.RegionWith

namespace Go.Proofs.YtbdecnagdnancaaGreatDoor
open Go.RowKit Go.Proofs.YtbdecnagdnancaaGreatDoorW.PrintWords Go.Proofs.YtbdecnagdnancaaGreatDoorW.PrintLast Go.Proofs.YtbdecnagdnancaaGreatDoorW.PrintMore
set_option linter.unusedVariables false
set_option linter.unusedSimpArgs false
namespace Ref08
theorem labL_app : ∀ (i : Nat) (l l' : List Node) (ss ss' : List Int), ss.length = l.length → labL i (l ++ l') (ss ++ ss') = labL i l ss ++ labL (i + l.length) l' ss'
  | i, [], l', [], ss', _ => by simp [labL]
  | i, n :: l, l', s :: ss, ss', h => by
    rw [List.cons_append, List.cons_append, labL, labL, labL_app (i + 1) l l' ss ss' (by simpa using h), List.append_assoc, List.length_cons, show i + 1 + l.length = i + (l.length + 1) by omega]
  | i, [], l', s :: ss, ss', h => by simp at h
  | i, n :: l, l', [], ss', h => by simp at h
theorem effL_app : ∀ (i : Nat) (l l' : List Node) (ss ss' : List Int), ss.length = l.length → effL i (l ++ l') (ss ++ ss') = effL i l ss ++ effL (i + l.length) l' ss'
  | i, [], l', [], ss', _ => by simp [effL]
  | i, n :: l, l', s :: ss, ss', h => by
    rw [List.cons_append, List.cons_append, effL, effL, effL_app (i + 1) l l' ss ss' (by simpa using h), List.append_assoc, List.length_cons, show i + 1 + l.length = i + (l.length + 1) by omega]
  | i, [], l', s :: ss, ss', h => by simp at h
  | i, n :: l, l', [], ss', h => by simp at h
/-- One tree of a forest: its first one's spots, then those of the others. -/
theorem lab_cons (e : Nat) (n : Node) (ks f : Fo) (s : Int) (ss : List Int) (hf : (Fo.cons n ks f).fit) (hs : ss.length = f.count) : labL e (Fo.cons n ks f).flat ((Fo.cons n ks f).sides (s :: ss)) = labL e (n :: ks.flat) (s :: ks.sides (belowS n s)) ++ labL (e + 1 + ks.flat.length) f.flat (f.sides ss) := by
  obtain ⟨h1, h2, h3, h4, h5⟩ := hf
  have hl := Fo.sides_len ks (belowS n s) h4 (by rw [belowS_len, h2]; rfl)
  rw [Fo.flat, Fo.sides, ← List.cons_append, ← List.cons_append, labL_app _ _ _ _ _ (by rw [List.length_cons, List.length_cons, hl]), List.length_cons, show e + (ks.flat.length + 1) = e + 1 + ks.flat.length by omega]
theorem eff_cons (e : Nat) (n : Node) (ks f : Fo) (s : Int) (ss : List Int) (hf : (Fo.cons n ks f).fit) (hs : ss.length = f.count) : effL e (Fo.cons n ks f).flat ((Fo.cons n ks f).sides (s :: ss)) = effL e (n :: ks.flat) (s :: ks.sides (belowS n s)) ++ effL (e + 1 + ks.flat.length) f.flat (f.sides ss) := by
  obtain ⟨h1, h2, h3, h4, h5⟩ := hf
  have hl := Fo.sides_len ks (belowS n s) h4 (by rw [belowS_len, h2]; rfl)
  rw [Fo.flat, Fo.sides, ← List.cons_append, ← List.cons_append, effL_app _ _ _ _ _ (by rw [List.length_cons, List.length_cons, hl]), List.length_cons, show e + (ks.flat.length + 1) = e + 1 + ks.flat.length by omega]
theorem turned_calls (w : World) (s : Int) (hs : 0 ≤ s ∧ s ≤ 2) : Calls Tryz.prog 189 #[.int .u8 s] w fun e w' => e = .returned (.int .u8 (turnI s)) ∧ w' = w := by
  have h3 : s = 0 ∨ s = 1 ∨ s = 2 := by omega
  rcases h3 with rfl | rfl | rfl
  · go_enter Tryz.func189, Tryz.ntmps189
    go_wp2
    go_ret
    exact ⟨rfl, rfl⟩
  · go_enter Tryz.func189, Tryz.ntmps189
    go_wp2
    go_ret
    exact ⟨rfl, rfl⟩
  · go_enter Tryz.func189, Tryz.ntmps189
    go_wp2
    go_ret
    exact ⟨rfl, rfl⟩
/-- The side of the child with number i. -/
theorem belowS_get (n : Node) (s : Int) (i : Nat) (h : i < n.f3.toNat) : (belowS n s)[i]? = some (if n.f0 = 5 ∧ i = 0 then turnI s else if n.f0 = 4 then 2 else s) := by
  unfold belowS
  by_cases h5 : n.f0 = 5
  · rw [if_pos h5]
    cases i with
    | zero =>
      rw [if_pos ⟨h5, rfl⟩, List.getElem?_set_self (by simpa using h)]
    | succ i =>
      rw [if_neg (fun hh => by cases hh.2 : ¬(n.f0 = 5 ∧ i + 1 = 0)), if_neg (by rw [h5]; decide : ¬ n.f0 = 4), List.getElem?_set_ne (by omega), List.getElem?_replicate, if_pos h]
  · rw [if_neg h5, if_neg (fun hh => h5 hh.1 : ¬(n.f0 = 5 ∧ i = 0))]
    by_cases h4 : n.f0 = 4
    · rw [if_pos h4, if_pos h4, List.getElem?_replicate, if_pos h]
    · rw [if_neg h4, if_neg h4, List.getElem?_replicate, if_pos h]
theorem turn_range {s : Int} (h : 0 ≤ s ∧ s ≤ 2) : 0 ≤ turnI s ∧ turnI s ≤ 2 := by
  unfold turnI
  split
  · omega
  split <;> omega
theorem spotM {W : World} {base : Nat} {ok : Nat → Prop} {x : Spot} {w : World} {cs : List Value} (h : kSpot.K w x cs) : kSpot.M W base ok x cs := by
  rw [k130_open h]
  exact k130_mkM W base ok x
theorem spot_C (w : World) (a b c : Int) (t : Term) : kSpot.C (w.alloc (.cells #[.int .i64 a, .int .u8 b, .int .u8 c, .bool t.f0, .int .u64 t.f1] 130)) (some ⟨w.heap.size, 0, none⟩) 1 [⟨a, b, c, t⟩] := by
  have h := reps_cons (R := kSpot.K (w.alloc (.cells ([Value.int .i64 a, .int .u8 b, .int .u8 c, .bool t.f0, .int .u64 t.f1] ++ []).toArray 130))) (k130_mk _ ⟨a, b, c, t⟩) rfl (Reps.none _ kSpot.sz)
  exact C_block (blk_new w _) h (show 1 ≤ 9223372036854775807 by decide)
theorem spot_C1 (w : World) (o : Obj) (a b c : Int) (t : Term) : kSpot.C ((w.alloc o).alloc (.cells #[.int .i64 a, .int .u8 b, .int .u8 c, .bool t.f0, .int .u64 t.f1] 130)) (some ⟨w.heap.size + 1, 0, none⟩) 1 [⟨a, b, c, t⟩] := by
  have h := spot_C (w.alloc o) a b c t
  rwa [show (w.alloc o).heap.size = w.heap.size + 1 by simp] at h
/-- Two rows of spots that grow side by side. -/
def Two (base : Nat) (W : World) (v1 v2 : Value) (l1 l2 : List Spot) : Prop := kSpot.R 130 W base (fun k => some k ≠ v2.ownBlock) v1 l1 ∧ kSpot.R 130 W base (fun k => some k ≠ v1.ownBlock) v2 l2
theorem Two.nil (base : Nat) (W : World) : Two base W (.slice none 0 0) (.slice none 0 0) [] [] := ⟨Kd.R_nil _ _ _ _ _, Kd.R_nil _ _ _ _ _⟩
theorem Two.swap {base : Nat} {W : World} {v1 v2 : Value} {l1 l2 : List Spot} (h : Two base W v1 v2 l1 l2) : Two base W v2 v1 l2 l1 := ⟨h.2, h.1⟩
theorem Two.below {base : Nat} {W W1 : World} {v1 v2 : Value} {l1 l2 : List Spot} (h : Two base W v1 v2 l1 l2) (hb : Below W.heap.size W W1) : Two base W1 v1 v2 l1 l2 := ⟨Kd.R_below h.1 hb, Kd.R_below h.2 hb⟩
theorem Two.own {base : Nat} {W : World} {v1 v2 : Value} {l1 l2 : List Spot} (h : Two base W v1 v2 l1 l2) (r : Nat) (e : v1.ownBlock = some r) : base ≤ r ∧ r < W.heap.size := ⟨own_base (Kd.R_own h.1).choose_spec r e, own_lt (Kd.R_own h.1).choose_spec r e⟩
theorem Two.fresh {base : Nat} {W : World} {v1 v2 : Value} {l1 l2 : List Spot} (h : Two base W v1 v2 l1 l2) (k : Nat) (hk : W.heap.size ≤ k) : some k ≠ v2.ownBlock := fun e => by have := (h.swap.own k e.symm).2; omega
theorem Two.add {base : Nat} {W W1 : World} {v1 v2 v1' : Value} {l1 l2 ys : List Spot} (h : Two base W v1 v2 l1 l2) (hR : kSpot.R 130 W1 base (fun k => some k ≠ v2.ownBlock) v1' ys) (hg : W.grownBy W1 v1.ownBlock) (hat : v1'.ownBlock = v1.ownBlock ∨ ∃ b, v1'.ownBlock = some b ∧ W.heap.size ≤ b) : Two base W1 v1' v2 ys l2 := by
  refine ⟨hR, ?_⟩
  have h2 : kSpot.R 130 W base (fun k => some k ≠ v1'.ownBlock ∧ some k ≠ v1.ownBlock) v2 l2 := by
    refine Kd.R_mono (Kd.R_bound h.2) (fun k hk => ⟨?_, hk.1⟩)
    rcases hat with e | ⟨b, e, hle⟩
    · rw [e]; exact hk.1
    · rw [e]
      intro he
      injection he with he
      have := hk.2.2.1
      omega
  exact Kd.R_mono (Kd.R_grown h2 hg (fun k hk => hk.2)) (fun k hk => hk.1)
theorem Two.reads1 {base : Nat} {W : World} {A : Option Addr} {n c : Nat} {v2 : Value} {l1 l2 : List Spot} (h : Two base W (.slice A n c) v2 l1 l2) : n = l1.length ∧ kSpot.C W A l1.length l1 := ⟨(Kd.R_reads' h.1).1, (Kd.R_reads' h.1).2.2⟩
set_option maxRecDepth 100000 in
set_option maxHeartbeats 16000000 in
theorem below_calls (q : Nat) : ∀ (w : World) (A : Option Addr) (c N : Nat) (body : List Node) (hN : N = body.length) (hl : N ≤ 300) (hr : kNode.C w A N body) (at_ : Nat) (n : Node) (ks : Fo) (r : List Node) (s : Int) (hd : body.drop at_ = n :: (ks.flat ++ r)) (hf : (Fo.cons n ks .nil).fit) (hs : 0 ≤ s ∧ s ≤ 2) (hq : ks.flat.length < q),
    Calls Tryz.prog 109 #[.slice A N c, .int .i64 (at_ : Int), .int .u8 s] w fun e w' => ∃ A1 c1 A2 c2, e = .returned (.tuple #[.slice A1 (labL at_ (n :: ks.flat) (s :: ks.sides (belowS n s))).length c1, .slice A2 (effL at_ (n :: ks.flat) (s :: ks.sides (belowS n s))).length c2, .int .i64 ((at_ + 1 + ks.flat.length : Nat) : Int)]) ∧ kSpot.R 130 w' w.heap.size (fun _ => True) (.slice A1 (labL at_ (n :: ks.flat) (s :: ks.sides (belowS n s))).length c1) (labL at_ (n :: ks.flat) (s :: ks.sides (belowS n s))) ∧ kSpot.R 130 w' w.heap.size (fun _ => True) (.slice A2 (effL at_ (n :: ks.flat) (s :: ks.sides (belowS n s))).length c2) (effL at_ (n :: ks.flat) (s :: ks.sides (belowS n s))) ∧ Below w.heap.size w w' := by
  induction q with
  | zero => intro w A c N body hN hl hr at_ n ks r s hd hf hs hq; omega
  | succ q ih =>
    intro w A c N body hN hl hr at_ n ks r s hd hf hs hq
    have hat : at_ < body.length := by
      rcases Nat.lt_or_ge at_ body.length with h | h
      · exact h
      · rw [List.drop_eq_nil_of_le h] at hd; cases hd
    have hbn : body[at_] = n := by
      have := List.drop_eq_getElem_cons hat
      rw [hd] at this
      exact (List.cons.inj this).1.symm
    have hdr : body.drop (at_ + 1) = ks.flat ++ r := by
      have := List.drop_eq_getElem_cons hat
      rw [hd] at this
      exact (List.cons.inj this).2.symm
    have HR := Aside0.mk hr
    have HN := Aside0.mk hN
    have HF := Aside0.mk hf
    obtain ⟨ad, rfl, x0, x1, x2, x3, x4, x5, x6, x7, x8, x9⟩ := C_nodeN (by rw [← hN]; exact hr) at_ hat
    rw [hbn] at x0 x1 x2 x3 x4 x5 x6 x7 x8 x9
    obtain ⟨k0, k1, k2, k3, ⟨t0, t1⟩, ⟨p0, p1⟩, ⟨e0, e1⟩⟩ := n
    dsimp only at x0 x1 x2 x3 x4 x5 x6 x7 x8 x9
    obtain ⟨LL, hLL⟩ : ∃ l, labL at_ ((⟨k0, k1, k2, k3, ⟨t0, t1⟩, ⟨p0, p1⟩, ⟨e0, e1⟩⟩ : Node) :: ks.flat) (s :: ks.sides (belowS ⟨k0, k1, k2, k3, ⟨t0, t1⟩, ⟨p0, p1⟩, ⟨e0, e1⟩⟩ s)) = l := ⟨_, rfl⟩
    obtain ⟨XX, hXX⟩ : ∃ l, effL at_ ((⟨k0, k1, k2, k3, ⟨t0, t1⟩, ⟨p0, p1⟩, ⟨e0, e1⟩⟩ : Node) :: ks.flat) (s :: ks.sides (belowS ⟨k0, k1, k2, k3, ⟨t0, t1⟩, ⟨p0, p1⟩, ⟨e0, e1⟩⟩ s)) = l := ⟨_, rfl⟩
    have hlen : 1 + ks.flat.length + r.length + at_ = N := by
      have := congrArg List.length hd
      simp only [List.length_drop, List.length_cons, List.length_append] at this
      omega
    have hLN : LL.length ≤ 600 := by
      have := labL_len at_ ((⟨k0, k1, k2, k3, ⟨t0, t1⟩, ⟨p0, p1⟩, ⟨e0, e1⟩⟩ : Node) :: ks.flat) (s :: ks.sides (belowS ⟨k0, k1, k2, k3, ⟨t0, t1⟩, ⟨p0, p1⟩, ⟨e0, e1⟩⟩ s))
      rw [hLL, List.length_cons] at this
      omega
    have hXN : XX.length ≤ 600 := by
      have := effL_len at_ ((⟨k0, k1, k2, k3, ⟨t0, t1⟩, ⟨p0, p1⟩, ⟨e0, e1⟩⟩ : Node) :: ks.flat) (s :: ks.sides (belowS ⟨k0, k1, k2, k3, ⟨t0, t1⟩, ⟨p0, p1⟩, ⟨e0, e1⟩⟩ s))
      rw [hXX, List.length_cons] at this
      omega
    rw [hLL, hXX]
    have HLL := Aside0.mk (And.intro hLL hXX)
    have HIH := Aside0.mk ih
    have HDR := Aside0.mk (And.intro hdr (And.intro hq hlen))
    obtain ⟨wb, hwb⟩ : ∃ v, v = w.alloc (.cells #[.int .u8 k0, .int .i64 k1, .string k2, .int .i64 k3, .bool t0, .int .u64 t1, .bool p0, .int .u64 p1, .bool e0, .int .u64 e1] 122) := ⟨_, rfl⟩
    have hws : wb.heap.size = w.heap.size + 1 := by rw [hwb]; simp
    have HX : Aside0 (wb.heap[w.heap.size]? = some (.cells #[.int .u8 k0, .int .i64 k1, .string k2, .int .i64 k3, .bool t0, .int .u64 t1, .bool p0, .int .u64 p1, .bool e0, .int .u64 e1] 122 (0, 0))) := ⟨by rw [hwb]; exact blk_new _ _⟩
    have HWB := Aside0.mk (And.intro hwb hws)
    have HB0 : Aside0 (Below w.heap.size w wb) := ⟨by rw [hwb]; exact below_alloc (Below.refl _ _) _⟩
    rw [← hN] at hat
    clear hLL hXX ih hdr hq hd hr hN hf hbn hlen hwb hws
    go_enter Tryz.func109, Tryz.ntmps109
    go_upto_if 29 with (at_builtin; (refine wpList_append_R rfl kSpot wb.heap.size (.tmp 19) (.tmp 25) 64 64 130 130 (.agg #[.int .i64 0, .int .u8 0, .int .u8 0, .bool false, .int .u64 0]) 32 rfl (by kernel_rfl) (by kernel_rfl) infoSp rfl (by decide) (by decide) (.slice none 0 0) [] [⟨at_, 0, s, ⟨t0, t1⟩⟩] _ 1 1 (fun k => some k ≠ (Value.slice none 0 0).ownBlock) (fun _ => False) rfl rfl (Kd.R_nil _ _ _ _ _) (spot_C1 _ _ at_ 0 s ⟨t0, t1⟩) (fun x cs h => spotM h) (fun _ h => h.elim) (fun _ _ h => by cases h) (by rw [HWB.out.1]; simp) (by simp) ?_; intro v1 w1 HO1 hg1 hat1; rw [← HWB.out.1] at hg1 hat1; obtain ⟨A1, c1, rfl⟩ := Kd.R_slice HO1; have HT := Aside0.mk (show Two wb.heap.size w1 (.slice A1 1 c1) (.slice none 0 0) [⟨at_, 0, s, ⟨t0, t1⟩⟩] [] from ((Two.nil wb.heap.size (wb.alloc _)).add HO1 hg1 hat1)); have HB := Aside0.mk ((below_alloc (Below.refl _ wb) _).grown hg1 (by simp) (fun k hk => by cases hk)); clear HO1 hg1 hat1; have gx := blk_below HX.out HB.out; have y0 := (blk_cell gx 0).trans (show _ = some (Value.int .u8 k0) from rfl); have y3 := (blk_cell gx 3).trans (show _ = some (Value.int .i64 k3) from rfl); have y6 := (blk_cell gx 6).trans (show _ = some (Value.bool p0) from rfl); have y7 := (blk_cell gx 7).trans (show _ = some (Value.int .u64 p1) from rfl); have y8 := (blk_cell gx 8).trans (show _ = some (Value.bool e0) from rfl); have y9 := (blk_cell gx 9).trans (show _ = some (Value.int .u64 e1) from rfl); clear gx))
    go_cut [6, 7] from 15 (fun s6 s7 W => ∃ v1 v2, s6 = v1 ∧ s7 = v2 ∧ Aside0 (Two wb.heap.size W v1 v2 (labN at_ ⟨k0, k1, k2, k3, ⟨t0, t1⟩, ⟨p0, p1⟩, ⟨e0, e1⟩⟩ s) (effN at_ ⟨k0, k1, k2, k3, ⟨t0, t1⟩, ⟨p0, p1⟩, ⟨e0, e1⟩⟩ s)) ∧ Aside0 (Below wb.heap.size wb W))
    case first =>
      by_cases h5 : k0 = 5
      · have z5 : (k0 == 5) = true := beq_iff_eq.mpr h5
        have HL : Aside0 (labN at_ ⟨k0, k1, k2, k3, ⟨t0, t1⟩, ⟨p0, p1⟩, ⟨e0, e1⟩⟩ s = ([] ++ [⟨at_, 0, s, ⟨t0, t1⟩⟩]) ++ [⟨at_, 1, turnI s, ⟨p0, p1⟩⟩]) := ⟨by unfold labN; rw [if_pos h5]; rfl⟩
        have HE : Aside0 (effN at_ ⟨k0, k1, k2, k3, ⟨t0, t1⟩, ⟨p0, p1⟩, ⟨e0, e1⟩⟩ s = [] ++ [⟨at_, 2, s, ⟨e0, e1⟩⟩]) := ⟨by unfold effN; rw [if_pos h5]; rfl⟩
        clear h5
        go_wp2
        go_region_law (first | (go_simp; go_at_call 189; ((with_reducible refine (turned_calls _ s hs).mono ?_); rintro e W4 ⟨rfl, rfl⟩)) | (refine step_append_R rfl kSpot wb.heap.size (.tmp 30) (.tmp 37) 64 64 130 130 (.agg #[.int .i64 0, .int .u8 0, .int .u8 0, .bool false, .int .u64 0]) 32 rfl (by kernel_rfl) (by kernel_rfl) infoSp rfl (by decide) (by decide) (.slice A1 1 c1) [⟨at_, 0, s, ⟨t0, t1⟩⟩] [⟨at_, 1, turnI s, ⟨p0, p1⟩⟩] (some ⟨w1.heap.size, 0, none⟩) 1 1 (fun k => some k ≠ (Value.slice none 0 0).ownBlock) (fun _ => False) rfl rfl (HT.out.below (below_alloc (Below.refl _ w1).drew _)).1 (spot_C w1.drew at_ 1 (turnI s) ⟨p0, p1⟩) (fun x cs h => spotM h) (fun _ h => h.elim) (fun _ _ h => by cases h) (below_alloc HB.out.drew _).size (by simp) ?_; intro v2 w2 HO1 hg1 hat1; obtain ⟨A2, c2, rfl⟩ := Kd.R_slice HO1; have HT2 := Aside0.mk (show Two wb.heap.size w2 (.slice A2 2 c2) (.slice none 0 0) [⟨at_, 0, s, ⟨t0, t1⟩⟩, ⟨at_, 1, turnI s, ⟨p0, p1⟩⟩] [] from ((HT.out.below (below_alloc (Below.refl _ w1).drew _)).add HO1 hg1 hat1)); have HB2 := Aside0.mk ((below_alloc HB.out.drew _).grown hg1 (below_alloc HB.out.drew _).size (fun k hk => (HT.out.own k hk).1)); clear HO1 hg1 hat1; have gx := blk_below HX.out HB2.out; have v8 := (blk_cell gx 8).trans (show _ = some (Value.bool e0) from rfl); have v9 := (blk_cell gx 9).trans (show _ = some (Value.int .u64 e1) from rfl); clear gx))
        all_goals (
          go_wp2_with (at_builtin; (refine wpList_append_R rfl kSpot wb.heap.size (.tmp 39) (.tmp 45) 64 64 130 130 (.agg #[.int .i64 0, .int .u8 0, .int .u8 0, .bool false, .int .u64 0]) 32 rfl (by kernel_rfl) (by kernel_rfl) infoSp rfl (by decide) (by decide) (.slice none 0 0) [] [⟨at_, 2, s, ⟨e0, e1⟩⟩] (some ⟨w2.heap.size, 0, none⟩) 1 1 (fun k => some k ≠ (Value.slice A2 2 c2).ownBlock) (fun _ => False) rfl rfl (Kd.R_nil _ _ _ _ _) (spot_C w2 at_ 2 s ⟨e0, e1⟩) (fun x cs h => spotM h) (fun _ h => h.elim) (fun k hk => HT2.out.swap.fresh k (Nat.le_trans (Nat.le_succ _) (by simpa using hk))) (below_alloc HB2.out _).size (by simp) ?_; intro v3 w3 HO1 hg1 hat1; obtain ⟨A3, c3, rfl⟩ := Kd.R_slice HO1; have HT3 := Aside0.mk (show Two wb.heap.size w3 (.slice A2 2 c2) (.slice A3 1 c3) [⟨at_, 0, s, ⟨t0, t1⟩⟩, ⟨at_, 1, turnI s, ⟨p0, p1⟩⟩] [⟨at_, 2, s, ⟨e0, e1⟩⟩] from ((HT2.out.below (below_alloc (Below.refl _ w2) _)).swap.add HO1 hg1 hat1).swap); have HB3 := Aside0.mk ((below_alloc HB2.out _).grown hg1 (below_alloc HB2.out _).size (fun k hk => by cases hk)); clear HO1 hg1 hat1))
          go_meet
          case rel => exact ⟨_, _, rfl, rfl, by rw [HL.out, HE.out]; exact HT3, HB3⟩)
      · have z5 : (k0 == 5) = false := beq_false_of_ne h5
        have HL : Aside0 (labN at_ ⟨k0, k1, k2, k3, ⟨t0, t1⟩, ⟨p0, p1⟩, ⟨e0, e1⟩⟩ s = [] ++ [⟨at_, 0, s, ⟨t0, t1⟩⟩]) := ⟨by unfold labN; rw [if_neg h5]; rfl⟩
        have HE : Aside0 (effN at_ ⟨k0, k1, k2, k3, ⟨t0, t1⟩, ⟨p0, p1⟩, ⟨e0, e1⟩⟩ s = []) := ⟨by unfold effN; rw [if_neg h5]⟩
        clear h5
        go_wp2
        go_meet
        case rel => exact ⟨_, _, rfl, rfl, by rw [HL.out, HE.out]; exact HT, HB⟩
    case rest =>
      obtain ⟨v1, v2, rfl, rfl, HT, HB⟩ := hcut
      clear y0 y3 y6 y7 y8 y9 x0 x1 x2 x3 x4 x5 x6 x7 x8 x9
      have hk3 : k3 = (ks.count : Int) := HF.out.2.1
      obtain ⟨K, hKK⟩ : ∃ K, K = ks.count := ⟨_, rfl⟩
      rw [← hKK] at hk3
      subst hk3
      have hK8 : K ≤ 8 := by have := HF.out.2.2.1; dsimp only at this; omega
      have HKK := Aside0.mk hKK
      clear hKK
      go_wp2
      go_loopg [6, 7, 8, 10] (K + 1) (fun gk b6 b7 b8 b10 W => ∃ (i e : Nat) (f : Fo) (L X : List Spot), b10 = .int .i64 (i : Int) ∧ b8 = .int .i64 (e : Int) ∧ i + f.count = K ∧ K + 1 - i ≤ gk ∧ e ≤ 300 ∧ Aside0 (f.fit ∧ f.flat.length ≤ ks.flat.length ∧ body.drop e = f.flat ++ r ∧ e + f.flat.length = at_ + 1 + ks.flat.length ∧ L ++ labL e f.flat (f.sides ((belowS ⟨k0, k1, k2, (K : Int), ⟨t0, t1⟩, ⟨p0, p1⟩, ⟨e0, e1⟩⟩ s).drop i)) = LL ∧ X ++ effL e f.flat (f.sides ((belowS ⟨k0, k1, k2, (K : Int), ⟨t0, t1⟩, ⟨p0, p1⟩, ⟨e0, e1⟩⟩ s).drop i)) = XX) ∧ Aside0 (Two wb.heap.size W b6 b7 L X) ∧ Aside0 (Below wb.heap.size wb W))
      case atStart => exact ⟨0, at_ + 1, ks, _, _, rfl, by go_num, by have := HKK.out; omega, by omega, by omega, ⟨HF.out.2.2.2.1, Nat.le_refl _, HDR.out.1, rfl, HLL.out.1, HLL.out.2⟩, HT, HB⟩
      case round =>
        obtain ⟨i, e, f, L, X, rfl, rfl, hfc, hkg, he3, HI, HTW, HBW⟩ := hrel
        clear HT HB
        have gx := blk_below HX.out HBW.out
        have y0 := (blk_cell gx 0).trans (show _ = some (Value.int .u8 k0) from rfl)
        have y3 := (blk_cell gx 3).trans (show _ = some (Value.int .i64 (K : Int)) from rfl)
        clear gx
        rcases Nat.lt_or_ge i K with hlt | hge
        · have hd : decide (i < K) = true := decide_eq_true hlt
          cases f with
          | nil => simp only [Fo.count] at hfc; omega
          | cons n' ks' f' =>
          obtain ⟨s4, hs4⟩ : ∃ s4, s4 = (if k0 = 4 then 2 else s) := ⟨_, rfl⟩
          have HS4 := Aside0.mk hs4
          clear hs4
          obtain ⟨sd, hsd⟩ : ∃ sd, sd = (if k0 = 5 ∧ i = 0 then turnI s else if k0 = 4 then 2 else s) := ⟨_, rfl⟩
          have hsr : 0 ≤ sd ∧ sd ≤ 2 := by
            rw [hsd]
            split
            · exact turn_range hs
            · split <;> omega
          have hsg := belowS_get ⟨k0, k1, k2, (K : Int), ⟨t0, t1⟩, ⟨p0, p1⟩, ⟨e0, e1⟩⟩ s i (by simpa using hlt)
          rw [show (if (⟨k0, k1, k2, (K : Int), ⟨t0, t1⟩, ⟨p0, p1⟩, ⟨e0, e1⟩⟩ : Node).f0 = 5 ∧ i = 0 then turnI s else if (⟨k0, k1, k2, (K : Int), ⟨t0, t1⟩, ⟨p0, p1⟩, ⟨e0, e1⟩⟩ : Node).f0 = 4 then 2 else s) = sd from hsd.symm] at hsg
          have hdr : (belowS ⟨k0, k1, k2, (K : Int), ⟨t0, t1⟩, ⟨p0, p1⟩, ⟨e0, e1⟩⟩ s).drop i = sd :: (belowS ⟨k0, k1, k2, (K : Int), ⟨t0, t1⟩, ⟨p0, p1⟩, ⟨e0, e1⟩⟩ s).drop (i + 1) := by
            have hil := (List.getElem?_eq_some_iff.1 hsg)
            rw [List.drop_eq_getElem_cons hil.1, hil.2]
          have hfl : ((belowS ⟨k0, k1, k2, (K : Int), ⟨t0, t1⟩, ⟨p0, p1⟩, ⟨e0, e1⟩⟩ s).drop (i + 1)).length = f'.count := by
            rw [List.length_drop, belowS_len]
            simp only [Fo.count, Int.toNat_natCast] at hfc ⊢
            omega
          have hlc := lab_cons e n' ks' f' sd ((belowS ⟨k0, k1, k2, (K : Int), ⟨t0, t1⟩, ⟨p0, p1⟩, ⟨e0, e1⟩⟩ s).drop (i + 1)) HI.out.1 hfl
          have hxc := eff_cons e n' ks' f' sd ((belowS ⟨k0, k1, k2, (K : Int), ⟨t0, t1⟩, ⟨p0, p1⟩, ⟨e0, e1⟩⟩ s).drop (i + 1)) HI.out.1 hfl
          have hI1 := HI.out.2.2.2.2.1
          have hI2 := HI.out.2.2.2.2.2
          rw [hdr, hlc, ← List.append_assoc] at hI1
          rw [hdr, hxc, ← List.append_assoc] at hI2
          obtain ⟨e', he'⟩ : ∃ e', e' = e + 1 + ks'.flat.length := ⟨_, rfl⟩
          rw [← he'] at hI1 hI2
          have hff : (Fo.cons n' ks' f').flat.length = 1 + ks'.flat.length + f'.flat.length := by simp [Fo.flat]; omega
          have hle := HI.out.2.1
          have hee := HI.out.2.2.2.1
          rw [hff] at hle hee
          have hdb : body.drop e = n' :: (ks'.flat ++ (f'.flat ++ r)) := by rw [HI.out.2.2.1, Fo.flat, List.cons_append, List.append_assoc]
          have hde : body.drop e' = f'.flat ++ r := by
            rw [he', show e + 1 + ks'.flat.length = e + (1 + ks'.flat.length) by omega, ← List.drop_drop, hdb, show 1 + ks'.flat.length = ks'.flat.length + 1 by omega, List.drop_succ_cons, List.drop_left]
          have CB0 := fun W (hW : kNode.C W (some ad) N body) => HIH.out W (some ad) c N body HN.out hl hW e n' ks' (f'.flat ++ r) sd hdb ⟨HI.out.1.1, HI.out.1.2.1, HI.out.1.2.2.1, HI.out.1.2.2.2.1, trivial⟩ hsr (by have := HDR.out.2.1; omega)
          obtain ⟨l1, hl1⟩ : ∃ l, labL e (n' :: ks'.flat) (sd :: ks'.sides (belowS n' sd)) = l := ⟨_, rfl⟩
          obtain ⟨x1, hx1⟩ : ∃ l, effL e (n' :: ks'.flat) (sd :: ks'.sides (belowS n' sd)) = l := ⟨_, rfl⟩
          rw [hl1] at hI1
          rw [hx1] at hI2
          rw [hl1, hx1, ← he'] at CB0
          obtain ⟨m1, hm1⟩ : ∃ m, m = l1.length := ⟨_, rfl⟩
          obtain ⟨m2, hm2⟩ : ∃ m, m = x1.length := ⟨_, rfl⟩
          rw [← hm1, ← hm2] at CB0
          have CB := Aside0.mk (CB0 wr (Kd.C_below HR.out (HB0.out.trans (HBW.out.mono HB0.out.size))))
          have HLM : Aside0 (L.length + m1 ≤ 600 ∧ X.length + m2 ≤ 600) := ⟨by
            have h1 := congrArg List.length hI1
            have h2 := congrArg List.length hI2
            simp only [List.length_append] at h1 h2
            omega⟩
          have HNX := Aside0.mk (And.intro hI1 (And.intro hI2 (And.intro hde (And.intro hle hee))))
          have HE' := Aside0.mk he'
          have HSD := Aside0.mk hsd
          have HFC := Aside0.mk hfc
          clear CB0 hI1 hI2 hde hle hee he' hsd hfc hl1 hx1 hm1 hm2 hdb hff hfl hlc hxc hdr hsg
          go_upto_if 58 with fail
          go_cut [11] from 49 to 82 (fun s11 W => s11 = .int .u8 s4 ∧ wr = W)
          case first =>
            by_cases h4 : k0 = 4
            · have z4 : (k0 == 4) = true := beq_iff_eq.mpr h4
              go_wp2
              go_meet
              case rel => exact ⟨by rw [HS4.out, if_pos h4], rfl⟩
            · have z4 : (k0 == 4) = false := beq_false_of_ne h4
              go_wp2
              go_meet
              case rel => exact ⟨by rw [HS4.out, if_neg h4], rfl⟩
          case rest =>
            obtain ⟨rfl, rfl⟩ := hcut
            obtain ⟨bb, hbb⟩ : ∃ bb : Bool, bb = decide (k0 = 5 ∧ i = 0) := ⟨_, rfl⟩
            have HBB := Aside0.mk hbb
            clear hbb
            go_upto_region 13 with fail
            go_cut [65] from 49 to 82 (fun s65 W => s65 = .bool bb ∧ wr = W)
            case first =>
              by_cases h5 : k0 = 5
              · have z5 : (k0 == 5) = true := beq_iff_eq.mpr h5
                have zi : ((i : Int) == 0) = bb := by
                  rw [HBB.out]
                  by_cases hi : i = 0
                  · rw [decide_eq_true ⟨h5, hi⟩]; exact beq_iff_eq.mpr (by omega)
                  · rw [decide_eq_false (fun h => hi h.2)]; exact beq_false_of_ne (by omega)
                clear h5
                go_wp2
                go_meet
                case rel => exact ⟨rfl, rfl⟩
              · have z5 : (k0 == 5) = false := beq_false_of_ne h5
                have HB3 : Aside0 (bb = false) := ⟨by rw [HBB.out]; exact decide_eq_false (fun h => h5 h.1)⟩
                clear h5
                go_wp2
                go_meet
                case rel => exact ⟨by rw [HB3.out], rfl⟩
            case rest =>
            obtain ⟨rfl, rfl⟩ := hcut
            go_upto_if 65 with fail
            go_cut [11] from 49 to 82 (fun s11 W => s11 = .int .u8 sd ∧ wr = W)
            case first =>
              cases bb with
              | true =>
                have HS2 : Aside0 (sd = turnI s) := ⟨by rw [HSD.out, if_pos (of_decide_eq_true HBB.out.symm)]⟩
                go_wp2_with (go_at_call 189; (with_reducible refine (turned_calls _ s hs).mono ?_); rintro e W4 ⟨rfl, rfl⟩)
                go_meet
                case rel => exact ⟨by rw [HS2.out], rfl⟩
              | false =>
                have HS2 : Aside0 (sd = s4) := ⟨by rw [HS4.out, HSD.out, if_neg (of_decide_eq_false HBB.out.symm)]⟩
                go_wp2
                go_meet
                case rel => exact ⟨by rw [HS2.out], rfl⟩
            case rest =>
              obtain ⟨rfl, rfl⟩ := hcut
              go_wp2_with (first
                | (go_at_call 109; ((with_reducible refine CB.out.mono ?_); rintro ee W5 ⟨A5, c5, A6, c6, rfl, R5, R6, hb5⟩; have HR5 := Aside0.mk (And.intro R5 R6); have HT5 := Aside0.mk (HTW.out.below hb5); have HB5 := Aside0.mk (below_step HBW.out hb5); have HZ5 := Aside0.mk hb5; clear R5 R6 hb5))
                | (at_builtin; (refine wpList_append_R rfl kSpot wb.heap.size (.tmp 76) (.tmp 77) 64 64 130 130 (.agg #[.int .i64 0, .int .u8 0, .int .u8 0, .bool false, .int .u64 0]) 32 rfl (by kernel_rfl) (by kernel_rfl) infoSp rfl (by decide) (by decide) _ L l1 A5 m1 c5 (fun k => some k ≠ u7.ownBlock) (fun _ => False) rfl rfl HT5.out.1 (by have := (Kd.R_reads' HR5.out.1); rw [this.1]; exact this.2.2) (fun x cs h => spotM h) (fun _ h => h.elim) (fun k hk => HT5.out.fresh k hk) HB5.out.size (by have := HLM.out.1; omega) ?_; intro v7 w7 HO1 hg1 hat1; have HT7 := Aside0.mk (HT5.out.add HO1 hg1 hat1); have HB7 := Aside0.mk (HB5.out.grown hg1 HB5.out.size (fun k hk => (HT5.out.own k hk).1)); have HR7 := Aside0.mk (Kd.R_grown2 HR5.out.2 rfl hg1 (fun k hk e => by have h1 := (HTW.out.own k hk).2; have h2 := Kd.R_base HR5.out.2 k e.symm; omega)); clear HO1 hg1 hat1))
                | (at_builtin; (refine wpList_append_R rfl kSpot wb.heap.size (.tmp 79) (.tmp 80) 64 64 130 130 (.agg #[.int .i64 0, .int .u8 0, .int .u8 0, .bool false, .int .u64 0]) 32 rfl (by kernel_rfl) (by kernel_rfl) infoSp rfl (by decide) (by decide) _ X x1 A6 m2 c6 (fun k => some k ≠ v7.ownBlock) (fun _ => False) rfl rfl HT7.out.2 (by have := (Kd.R_reads' HR7.out); rw [this.1]; exact this.2.2) (fun x cs h => spotM h) (fun _ h => h.elim) (fun k hk => HT7.out.swap.fresh k hk) HB7.out.size (by have := HLM.out.2; omega) ?_; intro v8 w8 HO1 hg1 hat1; have HT8 := Aside0.mk ((HT7.out.swap.add HO1 hg1 hat1).swap); have HB8 := Aside0.mk (HB7.out.grown hg1 HB7.out.size (fun k hk => (HT7.out.swap.own k hk).1)); clear HO1 hg1 hat1)))
              go_roundg (gk - 1)
              case measure => omega
              case rel => exact ⟨i + 1, e', f', L ++ l1, X ++ x1, by go_num, rfl, by have := HFC.out; simp only [Fo.count] at this; omega, by omega, by have := HNX.out.2.2.2.2; have := HDR.out.2.2; have := HE'.out; omega, ⟨HI.out.1.2.2.2.2, by have := HNX.out.2.2.2.1; omega, HNX.out.2.2.1, by have := HNX.out.2.2.2.2; have := HE'.out; omega, HNX.out.1, HNX.out.2.1⟩, HT8, HB8⟩
        · have hd : decide (i < K) = false := decide_eq_false (by omega)
          obtain rfl : f = Fo.nil := by
            cases f with
            | nil => rfl
            | cons a b c => simp only [Fo.count] at hfc; omega
          have h1 : L = LL := by have := HI.out.2.2.2.2.1; rw [Fo.flat] at this; simpa [labL] using this
          have h2 : X = XX := by have := HI.out.2.2.2.2.2; rw [Fo.flat] at this; simpa [effL] using this
          have h3 : e = at_ + 1 + ks.flat.length := by have := HI.out.2.2.2.1; rw [Fo.flat] at this; simpa using this
          obtain ⟨A1, c1, hv1⟩ := Kd.R_slice HTW.out.1
          obtain ⟨A2, c2, hv2⟩ := Kd.R_slice HTW.out.2
          subst hv1 hv2
          have H3 := Aside0.mk (And.intro h1 (And.intro h2 h3))
          clear h1 h2 h3 hfc hkg
          go_wp2
          go_ret3
          obtain ⟨rfl, rfl, rfl⟩ := H3.out
          have ht1 := Kd.R_mono (Kd.R_lower HTW.out.1 (show w.heap.size ≤ wb.heap.size by rw [HWB.out.2]; exact Nat.le_succ _)) (fun _ _ => trivial : ∀ k, _ → (fun _ : Nat => True) k)
          have ht2 := Kd.R_mono (Kd.R_lower HTW.out.2 (show w.heap.size ≤ wb.heap.size by rw [HWB.out.2]; exact Nat.le_succ _)) (fun _ _ => trivial : ∀ k, _ → (fun _ : Nat => True) k)
          exact ⟨A1, c1, A2, c2, rfl, ht1, ht2, HB0.out.trans (HBW.out.mono HB0.out.size)⟩
theorem lab_tree {body : List Node} (hz : checkB body = 0) : ∃ n ks, body = n :: (Fo.flat ks ++ []) ∧ (Fo.cons n ks .nil).fit ∧ labL 0 (n :: ks.flat) (0 :: ks.sides (belowS n 0)) = labB body ∧ effL 0 (n :: ks.flat) (0 :: ks.sides (belowS n 0)) = effB body := by
  obtain ⟨f, hf, hc, rfl, -, -, -, -⟩ := body_tree hz
  cases f with
  | nil => cases hc
  | cons n ks r =>
    cases r with
    | cons a b c => simp [Fo.count] at hc
    | nil =>
      have h := sidesB_tree (Fo.cons n ks .nil) hf hc 0
      have hs : sidesB (Fo.cons n ks .nil).flat = 0 :: ks.sides (belowS n 0) := by
        show sidesL _ [0] = _
        rw [h]
        simp [Fo.sides]
      refine ⟨n, ks, rfl, hf, ?_, ?_⟩
      · rw [labB, if_pos hz, hs, Fo.flat, Fo.flat, List.append_nil]
      · rw [effB, if_pos hz, hs, Fo.flat, Fo.flat, List.append_nil]
/-- cartoucheref08.Of: the document's answer. -/
theorem of_calls (w : World) (A : Option Addr) (n c : Nat) (body : List Node) (hn : n = body.length) (hl : n ≤ 300) (hr : kNode.C w A n body) :
    Calls Tryz.prog 21 #[.slice A n c] w fun e w' => ∃ A1 c1 A2 c2, e = .returned (.tuple #[.slice A1 (labB body).length c1, .slice A2 (effB body).length c2]) ∧ kSpot.R 130 w' w.heap.size (fun _ => True) (.slice A1 (labB body).length c1) (labB body) ∧ kSpot.R 130 w' w.heap.size (fun _ => True) (.slice A2 (effB body).length c2) (effB body) ∧ Below w.heap.size w w' := by
  have CK : Aside0 (Calls Tryz.prog 101 #[.slice A n c] w fun e w' => e = .returned (.int .i64 (checkB body)) ∧ Below w.heap.size w w') := ⟨by rw [hn] at hr ⊢; exact Ref07.check_calls w A c body (by omega) hr⟩
  obtain ⟨q, hq⟩ : ∃ q, q = checkB body := ⟨_, rfl⟩
  rw [← hq] at CK
  by_cases hz : q = 0
  · have z1 : (q != 0) = false := by rw [hz]; rfl
    obtain ⟨n0, ks, hb, hf, hl1, hl2⟩ := lab_tree (hq.symm.trans hz)
    have BL : Aside0 (∀ W, Below w.heap.size w W → Calls Tryz.prog 109 #[.slice A n c, .int .i64 0, .int .u8 0] W fun e w' => ∃ A1 c1 A2 c2, e = .returned (.tuple #[.slice A1 (labB body).length c1, .slice A2 (effB body).length c2, .int .i64 ((0 + 1 + ks.flat.length : Nat) : Int)]) ∧ kSpot.R 130 w' W.heap.size (fun _ => True) (.slice A1 (labB body).length c1) (labB body) ∧ kSpot.R 130 w' W.heap.size (fun _ => True) (.slice A2 (effB body).length c2) (effB body) ∧ Below W.heap.size W w') := ⟨fun W hW => by
      have := below_calls (ks.flat.length + 1) W A c n body hn hl (Kd.C_below hr hW) 0 n0 ks [] 0 hb hf (by decide) (Nat.lt_succ_self _)
      rwa [hl1, hl2] at this⟩
    obtain ⟨L, hL⟩ : ∃ L, L = labB body := ⟨_, rfl⟩
    obtain ⟨X, hX⟩ : ∃ X, X = effB body := ⟨_, rfl⟩
    rw [← hL, ← hX] at BL ⊢
    clear hq hz hb hf hl1 hl2 hr hL hX hn
    go_enter Tryz.func21, Tryz.ntmps21
    go_wp2_with (first
      | (go_at_call 101; (with_reducible refine CK.out.mono ?_); rintro e W1 ⟨rfl, hb1⟩; have HB := Aside0.mk hb1; clear hb1)
      | (go_at_call 109; (with_reducible refine (BL.out _ HB.out).mono ?_); rintro e W2 ⟨A1, c1, A2, c2, rfl, r1, r2, hb2⟩; have HR := Aside0.mk (And.intro r1 (And.intro r2 hb2)); clear r1 r2 hb2))
    go_ret2
    exact ⟨A1, c1, A2, c2, rfl, Kd.R_lower HR.out.1 HB.out.size, Kd.R_lower HR.out.2.1 HB.out.size, HB.out.trans (HR.out.2.2.mono HB.out.size)⟩
  · have z1 : (q != 0) = true := bne_iff_ne.mpr hz
    have hl1 : labB body = [] := if_neg (by rw [← hq]; exact hz)
    have hl2 : effB body = [] := if_neg (by rw [← hq]; exact hz)
    rw [hl1, hl2]
    clear hq hz hr hl1 hl2 hn
    go_enter Tryz.func21, Tryz.ntmps21
    go_wp2_with (go_at_call 101; (with_reducible refine CK.out.mono ?_); rintro e W1 ⟨rfl, hb1⟩; have HB := Aside0.mk hb1; clear hb1)
    go_ret2
    exact ⟨none, 0, none, 0, rfl, Kd.R_nil _ _ _ _ _, Kd.R_nil _ _ _ _ _, HB.out⟩
end Ref08
end Go.Proofs.YtbdecnagdnancaaGreatDoor
