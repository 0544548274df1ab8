
/- Several texts as one: SpJ, R8, R8P. -/
import Derived.Test.YtdecijmncpbheaaGreatDoorME
import Derived.Test.YtdecijmncpbheaaGreatDoorMT
import Derived.Test.YtdecijmncpbheaaGreatDoorMU
import Derived.Test.YtdecijmncpbheaaGreatDoorMQ
import Derived.Deep.Cut
import Derived.Deep.RegionWith
import Derived.Test.YtdecijmncpbheaaGreatDoorMK

namespace Go.Proofs.YtdecijmncpbheaaGreatDoor
open Go.RowKit Go.Shelf Go.Proofs.YtdecijmncpbheaaGreatDoorW.PrintWords Go.Proofs.YtdecijmncpbheaaGreatDoorW.PrintLast Go.Proofs.YtdecijmncpbheaaGreatDoorW.PrintMore
set_option linter.unusedVariables false
set_option linter.unusedSimpArgs false
set_option maxRecDepth 100000 in
set_option maxHeartbeats 4000000 in
theorem sameNodes_calls (w : World) (A A2 : Option Addr) (c c2 : Nat) (xs : List _) (hr : Kd.C kNode w A xs.length xs) (hr2 : Kd.C kNode w A2 xs.length xs) :
    Calls Tryz.prog 15 #[.slice A xs.length c, .slice A2 xs.length c2] w fun e w' => e = .returned (.bool true) ∧ Below w.heap.size w w' := by
  have hm : xs.length ≤ 9223372036854775807 := hr.2.1
  have HR := Aside0.mk hr
  have HR2 := Aside0.mk hr2
  clear hr hr2
  obtain ⟨n, hn⟩ : ∃ n, n = xs.length := ⟨_, rfl⟩
  have HN := Aside0.mk hn
  rw [← hn] at hm ⊢
  clear hn
  have z0 : ((n : Int) != (n : Int)) = false := bne_self_eq_false _
  go_enter Tryz.func15, Tryz.ntmps15
  go_wp2
  go_loopg [5] (n + 1) (fun g i W => ∃ (k : Nat), i = .int .i64 k ∧ k ≤ n ∧ n + 1 - k ≤ g ∧ Aside0 (Below w.heap.size w W))
  case atStart => exact ⟨0, rfl, by omega, by omega, ⟨Below.refl _ _⟩⟩
  case round =>
    obtain ⟨k, rfl, hk, hkg, HB⟩ := hrel
    rcases Nat.lt_or_ge k n with hlt | hge
    · have hd : decide (k < n) = true := decide_eq_true hlt
      obtain ⟨ad, rfl, c0', c1', c2', c3', c4', c5', c6', c7', c8', c9'⟩ := C_nodeN (Kd.C_below HR.out HB.out) k (by rw [← HN.out]; exact hlt)
      obtain ⟨bd, rfl, d0', d1', d2', d3', d4', d5', d6', d7', d8', d9'⟩ := C_nodeN (Kd.C_below HR2.out HB.out) k (by rw [← HN.out]; exact hlt)
      obtain ⟨m, hm⟩ : ∃ m, m = xs[k]'(by rw [← HN.out]; exact hlt) := ⟨_, rfl⟩
      rw [← hm] at c0' c1' c2' c3' c4' c5' c6' c7' c8' c9' d0' d1' d2' d3' d4' d5' d6' d7' d8' d9'
      clear hm
      go_wp2
      go_quiet (fail)
      go_wp2
      go_roundg (gk - 1)
      case measure => omega
      case rel => exact ⟨k + 1, by go_num, by omega, by omega, ⟨pw_below_drewN HB.out _⟩⟩
    · have hd : decide (k < n) = false := decide_eq_false (by omega)
      go_wp2
      go_ret
      exact ⟨rfl, HB.out⟩
theorem term_C (w : World) (t : Term) : kTerm.C (w.alloc (.cells #[.bool t.f0, .int .u64 t.f1] 100)) (some ⟨w.heap.size, 0, none⟩) 1 [t] := by
  have h := reps_cons (R := kTerm.K (w.alloc (.cells ([Value.bool t.f0, .int .u64 t.f1] ++ []).toArray 100))) (k100_mk _ t) rfl (Reps.none _ kTerm.sz)
  exact C_block (blk_new w _) h (show 1 ≤ 9223372036854775807 by decide)
theorem infoT : (Tryz.prog.info? 100).map (fun i => (i.zero, i.size, i.bytes)) = some (some (.agg #[.bool false, .int .u64 0]), 2, 16) := by kernel_rfl
theorem termM {w w1 : World} {base : Nat} {ok : Nat → Prop} {x : Term} {c : List Value} (h : kTerm.K w x c) : kTerm.M w1 base ok x c := by
  rw [k100_open h]
  exact k100_mkM w1 base ok x
end Go.Proofs.YtdecijmncpbheaaGreatDoor

namespace Go.Proofs.YtdecijmncpbheaaGreatDoor
open Go.RowKit Go.Proofs.YtdecijmncpbheaaGreatDoorW.PrintWords Go.Proofs.YtdecijmncpbheaaGreatDoorW.PrintLast Go.Proofs.YtdecijmncpbheaaGreatDoorW.PrintMore
set_option linter.unusedVariables false
set_option linter.unusedSimpArgs false
namespace Ref08
theorem labL_app : ∀ (i : Nat) (l l' : List Node) (ss ss' : List Int), ss.length = l.length → labL i (l ++ l') (ss ++ ss') = labL i l ss ++ labL (i + l.length) l' ss'
  | i, [], l', [], ss', _ => by simp [labL]
  | i, n :: l, l', s :: ss, ss', h => by
    rw [List.cons_append, List.cons_append, labL, labL, labL_app (i + 1) l l' ss ss' (by simpa using h), List.append_assoc, List.length_cons, show i + 1 + l.length = i + (l.length + 1) by omega]
  | i, [], l', s :: ss, ss', h => by simp at h
  | i, n :: l, l', [], ss', h => by simp at h
theorem effL_app : ∀ (i : Nat) (l l' : List Node) (ss ss' : List Int), ss.length = l.length → effL i (l ++ l') (ss ++ ss') = effL i l ss ++ effL (i + l.length) l' ss'
  | i, [], l', [], ss', _ => by simp [effL]
  | i, n :: l, l', s :: ss, ss', h => by
    rw [List.cons_append, List.cons_append, effL, effL, effL_app (i + 1) l l' ss ss' (by simpa using h), List.append_assoc, List.length_cons, show i + 1 + l.length = i + (l.length + 1) by omega]
  | i, [], l', s :: ss, ss', h => by simp at h
  | i, n :: l, l', [], ss', h => by simp at h
/-- One tree of a forest: its first one's spots, then those of the others. -/
theorem lab_cons (e : Nat) (n : Node) (ks f : Fo) (s : Int) (ss : List Int) (hf : (Fo.cons n ks f).fit) (hs : ss.length = f.count) : labL e (Fo.cons n ks f).flat ((Fo.cons n ks f).sides (s :: ss)) = labL e (n :: ks.flat) (s :: ks.sides (belowS n s)) ++ labL (e + 1 + ks.flat.length) f.flat (f.sides ss) := by
  obtain ⟨h1, h2, h3, h4, h5⟩ := hf
  have hl := Fo.sides_len ks (belowS n s) h4 (by rw [belowS_len, h2]; rfl)
  rw [Fo.flat, Fo.sides, ← List.cons_append, ← List.cons_append, labL_app _ _ _ _ _ (by rw [List.length_cons, List.length_cons, hl]), List.length_cons, show e + (ks.flat.length + 1) = e + 1 + ks.flat.length by omega]
theorem eff_cons (e : Nat) (n : Node) (ks f : Fo) (s : Int) (ss : List Int) (hf : (Fo.cons n ks f).fit) (hs : ss.length = f.count) : effL e (Fo.cons n ks f).flat ((Fo.cons n ks f).sides (s :: ss)) = effL e (n :: ks.flat) (s :: ks.sides (belowS n s)) ++ effL (e + 1 + ks.flat.length) f.flat (f.sides ss) := by
  obtain ⟨h1, h2, h3, h4, h5⟩ := hf
  have hl := Fo.sides_len ks (belowS n s) h4 (by rw [belowS_len, h2]; rfl)
  rw [Fo.flat, Fo.sides, ← List.cons_append, ← List.cons_append, effL_app _ _ _ _ _ (by rw [List.length_cons, List.length_cons, hl]), List.length_cons, show e + (ks.flat.length + 1) = e + 1 + ks.flat.length by omega]
theorem turned_calls (w : World) (s : Int) (hs : 0 ≤ s ∧ s ≤ 2) : Calls Tryz.prog 176 #[.int .u8 s] w fun e w' => e = .returned (.int .u8 (turnI s)) ∧ w' = w := by
  have h3 : s = 0 ∨ s = 1 ∨ s = 2 := by omega
  rcases h3 with rfl | rfl | rfl
  · go_enter Tryz.func176, Tryz.ntmps176
    go_wp2
    go_ret
    exact ⟨rfl, rfl⟩
  · go_enter Tryz.func176, Tryz.ntmps176
    go_wp2
    go_ret
    exact ⟨rfl, rfl⟩
  · go_enter Tryz.func176, Tryz.ntmps176
    go_wp2
    go_ret
    exact ⟨rfl, rfl⟩
/-- The side of the child with number i. -/
theorem belowS_get (n : Node) (s : Int) (i : Nat) (h : i < n.f3.toNat) : (belowS n s)[i]? = some (if n.f0 = 5 ∧ i = 0 then turnI s else if n.f0 = 4 then 2 else s) := by
  unfold belowS
  by_cases h5 : n.f0 = 5
  · rw [if_pos h5]
    cases i with
    | zero =>
      rw [if_pos ⟨h5, rfl⟩, List.getElem?_set_self (by simpa using h)]
    | succ i =>
      rw [if_neg (fun hh => by cases hh.2 : ¬(n.f0 = 5 ∧ i + 1 = 0)), if_neg (by rw [h5]; decide : ¬ n.f0 = 4), List.getElem?_set_ne (by omega), List.getElem?_replicate, if_pos h]
  · rw [if_neg h5, if_neg (fun hh => h5 hh.1 : ¬(n.f0 = 5 ∧ i = 0))]
    by_cases h4 : n.f0 = 4
    · rw [if_pos h4, if_pos h4, List.getElem?_replicate, if_pos h]
    · rw [if_neg h4, if_neg h4, List.getElem?_replicate, if_pos h]
theorem turn_range {s : Int} (h : 0 ≤ s ∧ s ≤ 2) : 0 ≤ turnI s ∧ turnI s ≤ 2 := by
  unfold turnI
  split
  · omega
  split <;> omega
theorem spotM {W : World} {base : Nat} {ok : Nat → Prop} {x : Spot} {w : World} {cs : List Value} (h : kSpot.K w x cs) : kSpot.M W base ok x cs := by
  rw [k102_open h]
  exact k102_mkM W base ok x
theorem spot_C (w : World) (a b c : Int) (t : Term) : kSpot.C (w.alloc (.cells #[.int .i64 a, .int .u8 b, .int .u8 c, .bool t.f0, .int .u64 t.f1] 102)) (some ⟨w.heap.size, 0, none⟩) 1 [⟨a, b, c, t⟩] := by
  have h := reps_cons (R := kSpot.K (w.alloc (.cells ([Value.int .i64 a, .int .u8 b, .int .u8 c, .bool t.f0, .int .u64 t.f1] ++ []).toArray 102))) (k102_mk _ ⟨a, b, c, t⟩) rfl (Reps.none _ kSpot.sz)
  exact C_block (blk_new w _) h (show 1 ≤ 9223372036854775807 by decide)
theorem spot_C1 (w : World) (o : Obj) (a b c : Int) (t : Term) : kSpot.C ((w.alloc o).alloc (.cells #[.int .i64 a, .int .u8 b, .int .u8 c, .bool t.f0, .int .u64 t.f1] 102)) (some ⟨w.heap.size + 1, 0, none⟩) 1 [⟨a, b, c, t⟩] := by
  have h := spot_C (w.alloc o) a b c t
  rwa [show (w.alloc o).heap.size = w.heap.size + 1 by simp] at h
/-- Two rows of spots that grow side by side. -/
def Two (base : Nat) (W : World) (v1 v2 : Value) (l1 l2 : List Spot) : Prop := kSpot.R 102 W base (fun k => some k ≠ v2.ownBlock) v1 l1 ∧ kSpot.R 102 W base (fun k => some k ≠ v1.ownBlock) v2 l2
theorem Two.nil (base : Nat) (W : World) : Two base W (.slice none 0 0) (.slice none 0 0) [] [] := ⟨Kd.R_nil _ _ _ _ _, Kd.R_nil _ _ _ _ _⟩
theorem Two.swap {base : Nat} {W : World} {v1 v2 : Value} {l1 l2 : List Spot} (h : Two base W v1 v2 l1 l2) : Two base W v2 v1 l2 l1 := ⟨h.2, h.1⟩
theorem Two.below {base : Nat} {W W1 : World} {v1 v2 : Value} {l1 l2 : List Spot} (h : Two base W v1 v2 l1 l2) (hb : Below W.heap.size W W1) : Two base W1 v1 v2 l1 l2 := ⟨Kd.R_below h.1 hb, Kd.R_below h.2 hb⟩
theorem Two.own {base : Nat} {W : World} {v1 v2 : Value} {l1 l2 : List Spot} (h : Two base W v1 v2 l1 l2) (r : Nat) (e : v1.ownBlock = some r) : base ≤ r ∧ r < W.heap.size := ⟨own_base (Kd.R_own h.1).choose_spec r e, own_lt (Kd.R_own h.1).choose_spec r e⟩
theorem Two.fresh {base : Nat} {W : World} {v1 v2 : Value} {l1 l2 : List Spot} (h : Two base W v1 v2 l1 l2) (k : Nat) (hk : W.heap.size ≤ k) : some k ≠ v2.ownBlock := fun e => by have := (h.swap.own k e.symm).2; omega
theorem Two.add {base : Nat} {W W1 : World} {v1 v2 v1' : Value} {l1 l2 ys : List Spot} (h : Two base W v1 v2 l1 l2) (hR : kSpot.R 102 W1 base (fun k => some k ≠ v2.ownBlock) v1' ys) (hg : W.grownBy W1 v1.ownBlock) (hat : v1'.ownBlock = v1.ownBlock ∨ ∃ b, v1'.ownBlock = some b ∧ W.heap.size ≤ b) : Two base W1 v1' v2 ys l2 := by
  refine ⟨hR, ?_⟩
  have h2 : kSpot.R 102 W base (fun k => some k ≠ v1'.ownBlock ∧ some k ≠ v1.ownBlock) v2 l2 := by
    refine Kd.R_mono (Kd.R_bound h.2) (fun k hk => ⟨?_, hk.1⟩)
    rcases hat with e | ⟨b, e, hle⟩
    · rw [e]; exact hk.1
    · rw [e]
      intro he
      injection he with he
      have := hk.2.2.1
      omega
  exact Kd.R_mono (Kd.R_grown h2 hg (fun k hk => hk.2)) (fun k hk => hk.1)
set_option maxRecDepth 100000 in
set_option maxHeartbeats 16000000 in
theorem below_calls (q : Nat) : ∀ (w : World) (A : Option Addr) (c N : Nat) (body : List Node) (hN : N = body.length) (hl : N ≤ 300) (hr : kNode.C w A N body) (at_ : Nat) (n : Node) (ks : Fo) (r : List Node) (s : Int) (hd : body.drop at_ = n :: (ks.flat ++ r)) (hf : (Fo.cons n ks .nil).fit) (hs : 0 ≤ s ∧ s ≤ 2) (hq : ks.flat.length < q),
    Calls Tryz.prog 113 #[.slice A N c, .int .i64 (at_ : Int), .int .u8 s] w fun e w' => ∃ A1 c1 A2 c2, e = .returned (.tuple #[.slice A1 (labL at_ (n :: ks.flat) (s :: ks.sides (belowS n s))).length c1, .slice A2 (effL at_ (n :: ks.flat) (s :: ks.sides (belowS n s))).length c2, .int .i64 ((at_ + 1 + ks.flat.length : Nat) : Int)]) ∧ kSpot.R 102 w' w.heap.size (fun _ => True) (.slice A1 (labL at_ (n :: ks.flat) (s :: ks.sides (belowS n s))).length c1) (labL at_ (n :: ks.flat) (s :: ks.sides (belowS n s))) ∧ kSpot.R 102 w' w.heap.size (fun _ => True) (.slice A2 (effL at_ (n :: ks.flat) (s :: ks.sides (belowS n s))).length c2) (effL at_ (n :: ks.flat) (s :: ks.sides (belowS n s))) ∧ Below w.heap.size w w' := by
  induction q with
  | zero => intro w A c N body hN hl hr at_ n ks r s hd hf hs hq; omega
  | succ q ih =>
    intro w A c N body hN hl hr at_ n ks r s hd hf hs hq
    have hat : at_ < body.length := by
      rcases Nat.lt_or_ge at_ body.length with h | h
      · exact h
      · rw [List.drop_eq_nil_of_le h] at hd; cases hd
    have hbn : body[at_] = n := by
      have := List.drop_eq_getElem_cons hat
      rw [hd] at this
      exact (List.cons.inj this).1.symm
    have hdr : body.drop (at_ + 1) = ks.flat ++ r := by
      have := List.drop_eq_getElem_cons hat
      rw [hd] at this
      exact (List.cons.inj this).2.symm
    have HR := Aside0.mk hr
    have HN := Aside0.mk hN
    have HF := Aside0.mk hf
    obtain ⟨ad, rfl, x0, x1, x2, x3, x4, x5, x6, x7, x8, x9⟩ := C_nodeN (by rw [← hN]; exact hr) at_ hat
    rw [hbn] at x0 x1 x2 x3 x4 x5 x6 x7 x8 x9
    obtain ⟨k0, k1, k2, k3, ⟨t0, t1⟩, ⟨p0, p1⟩, ⟨e0, e1⟩⟩ := n
    dsimp only at x0 x1 x2 x3 x4 x5 x6 x7 x8 x9
    obtain ⟨LL, hLL⟩ : ∃ l, labL at_ ((⟨k0, k1, k2, k3, ⟨t0, t1⟩, ⟨p0, p1⟩, ⟨e0, e1⟩⟩ : Node) :: ks.flat) (s :: ks.sides (belowS ⟨k0, k1, k2, k3, ⟨t0, t1⟩, ⟨p0, p1⟩, ⟨e0, e1⟩⟩ s)) = l := ⟨_, rfl⟩
    obtain ⟨XX, hXX⟩ : ∃ l, effL at_ ((⟨k0, k1, k2, k3, ⟨t0, t1⟩, ⟨p0, p1⟩, ⟨e0, e1⟩⟩ : Node) :: ks.flat) (s :: ks.sides (belowS ⟨k0, k1, k2, k3, ⟨t0, t1⟩, ⟨p0, p1⟩, ⟨e0, e1⟩⟩ s)) = l := ⟨_, rfl⟩
    have hlen : 1 + ks.flat.length + r.length + at_ = N := by
      have := congrArg List.length hd
      simp only [List.length_drop, List.length_cons, List.length_append] at this
      omega
    have hLN : LL.length ≤ 600 := by
      have := labL_len at_ ((⟨k0, k1, k2, k3, ⟨t0, t1⟩, ⟨p0, p1⟩, ⟨e0, e1⟩⟩ : Node) :: ks.flat) (s :: ks.sides (belowS ⟨k0, k1, k2, k3, ⟨t0, t1⟩, ⟨p0, p1⟩, ⟨e0, e1⟩⟩ s))
      rw [hLL, List.length_cons] at this
      omega
    have hXN : XX.length ≤ 600 := by
      have := effL_len at_ ((⟨k0, k1, k2, k3, ⟨t0, t1⟩, ⟨p0, p1⟩, ⟨e0, e1⟩⟩ : Node) :: ks.flat) (s :: ks.sides (belowS ⟨k0, k1, k2, k3, ⟨t0, t1⟩, ⟨p0, p1⟩, ⟨e0, e1⟩⟩ s))
      rw [hXX, List.length_cons] at this
      omega
    rw [hLL, hXX]
    have HLL := Aside0.mk (And.intro hLL hXX)
    have HIH := Aside0.mk ih
    have HDR := Aside0.mk (And.intro hdr (And.intro hq hlen))
    obtain ⟨wb, hwb⟩ : ∃ v, v = w.alloc (.cells #[.int .u8 k0, .int .i64 k1, .string k2, .int .i64 k3, .bool t0, .int .u64 t1, .bool p0, .int .u64 p1, .bool e0, .int .u64 e1] 119) := ⟨_, rfl⟩
    have hws : wb.heap.size = w.heap.size + 1 := by rw [hwb]; simp
    have HX : Aside0 (wb.heap[w.heap.size]? = some (.cells #[.int .u8 k0, .int .i64 k1, .string k2, .int .i64 k3, .bool t0, .int .u64 t1, .bool p0, .int .u64 p1, .bool e0, .int .u64 e1] 119 (0, 0))) := ⟨by rw [hwb]; exact blk_new _ _⟩
    have HWB := Aside0.mk (And.intro hwb hws)
    have HB0 : Aside0 (Below w.heap.size w wb) := ⟨by rw [hwb]; exact below_alloc (Below.refl _ _) _⟩
    rw [← hN] at hat
    clear hLL hXX ih hdr hq hd hr hN hf hbn hlen hwb hws
    go_enter Tryz.func113, Tryz.ntmps113
    go_upto_if 29 with (at_builtin; (refine wpList_append_R rfl kSpot wb.heap.size (.tmp 19) (.tmp 25) 93 93 102 102 (.agg #[.int .i64 0, .int .u8 0, .int .u8 0, .bool false, .int .u64 0]) 32 rfl (by kernel_rfl) (by kernel_rfl) infoSp rfl (by decide) (by decide) (.slice none 0 0) [] [⟨at_, 0, s, ⟨t0, t1⟩⟩] _ 1 1 (fun k => some k ≠ (Value.slice none 0 0).ownBlock) (fun _ => False) rfl rfl (Kd.R_nil _ _ _ _ _) (spot_C1 _ _ at_ 0 s ⟨t0, t1⟩) (fun x cs h => spotM h) (fun _ h => h.elim) (fun _ _ h => by cases h) (by rw [HWB.out.1]; simp) (by simp) ?_; intro v1 w1 HO1 hg1 hat1; rw [← HWB.out.1] at hg1 hat1; obtain ⟨A1, c1, rfl⟩ := Kd.R_slice HO1; have HT := Aside0.mk (show Two wb.heap.size w1 (.slice A1 1 c1) (.slice none 0 0) [⟨at_, 0, s, ⟨t0, t1⟩⟩] [] from ((Two.nil wb.heap.size (wb.alloc _)).add HO1 hg1 hat1)); have HB := Aside0.mk ((below_alloc (Below.refl _ wb) _).grown hg1 (by simp) (fun k hk => by cases hk)); clear HO1 hg1 hat1; have gx := blk_below HX.out HB.out; have y0 := (blk_cell gx 0).trans (show _ = some (Value.int .u8 k0) from rfl); have y3 := (blk_cell gx 3).trans (show _ = some (Value.int .i64 k3) from rfl); have y6 := (blk_cell gx 6).trans (show _ = some (Value.bool p0) from rfl); have y7 := (blk_cell gx 7).trans (show _ = some (Value.int .u64 p1) from rfl); have y8 := (blk_cell gx 8).trans (show _ = some (Value.bool e0) from rfl); have y9 := (blk_cell gx 9).trans (show _ = some (Value.int .u64 e1) from rfl); clear gx))
    go_cut [6, 7] from 15 (fun s6 s7 W => ∃ v1 v2, s6 = v1 ∧ s7 = v2 ∧ Aside0 (Two wb.heap.size W v1 v2 (labN at_ ⟨k0, k1, k2, k3, ⟨t0, t1⟩, ⟨p0, p1⟩, ⟨e0, e1⟩⟩ s) (effN at_ ⟨k0, k1, k2, k3, ⟨t0, t1⟩, ⟨p0, p1⟩, ⟨e0, e1⟩⟩ s)) ∧ Aside0 (Below wb.heap.size wb W))
    case first =>
      by_cases h5 : k0 = 5
      · have z5 : (k0 == 5) = true := beq_iff_eq.mpr h5
        have HL : Aside0 (labN at_ ⟨k0, k1, k2, k3, ⟨t0, t1⟩, ⟨p0, p1⟩, ⟨e0, e1⟩⟩ s = ([] ++ [⟨at_, 0, s, ⟨t0, t1⟩⟩]) ++ [⟨at_, 1, turnI s, ⟨p0, p1⟩⟩]) := ⟨by unfold labN; rw [if_pos h5]; rfl⟩
        have HE : Aside0 (effN at_ ⟨k0, k1, k2, k3, ⟨t0, t1⟩, ⟨p0, p1⟩, ⟨e0, e1⟩⟩ s = [] ++ [⟨at_, 2, s, ⟨e0, e1⟩⟩]) := ⟨by unfold effN; rw [if_pos h5]; rfl⟩
        clear h5
        go_wp2
        go_region_law (first | (go_simp; go_at_call 176; ((with_reducible refine (turned_calls _ s hs).mono ?_); rintro e W4 ⟨rfl, rfl⟩)) | (refine step_append_R rfl kSpot wb.heap.size (.tmp 30) (.tmp 37) 93 93 102 102 (.agg #[.int .i64 0, .int .u8 0, .int .u8 0, .bool false, .int .u64 0]) 32 rfl (by kernel_rfl) (by kernel_rfl) infoSp rfl (by decide) (by decide) (.slice A1 1 c1) [⟨at_, 0, s, ⟨t0, t1⟩⟩] [⟨at_, 1, turnI s, ⟨p0, p1⟩⟩] (some ⟨w1.heap.size, 0, none⟩) 1 1 (fun k => some k ≠ (Value.slice none 0 0).ownBlock) (fun _ => False) rfl rfl (HT.out.below (below_alloc (Below.refl _ w1).drew _)).1 (spot_C w1.drew at_ 1 (turnI s) ⟨p0, p1⟩) (fun x cs h => spotM h) (fun _ h => h.elim) (fun _ _ h => by cases h) (below_alloc HB.out.drew _).size (by simp) ?_; intro v2 w2 HO1 hg1 hat1; obtain ⟨A2, c2, rfl⟩ := Kd.R_slice HO1; have HT2 := Aside0.mk (show Two wb.heap.size w2 (.slice A2 2 c2) (.slice none 0 0) [⟨at_, 0, s, ⟨t0, t1⟩⟩, ⟨at_, 1, turnI s, ⟨p0, p1⟩⟩] [] from ((HT.out.below (below_alloc (Below.refl _ w1).drew _)).add HO1 hg1 hat1)); have HB2 := Aside0.mk ((below_alloc HB.out.drew _).grown hg1 (below_alloc HB.out.drew _).size (fun k hk => (HT.out.own k hk).1)); clear HO1 hg1 hat1; have gx := blk_below HX.out HB2.out; have v8 := (blk_cell gx 8).trans (show _ = some (Value.bool e0) from rfl); have v9 := (blk_cell gx 9).trans (show _ = some (Value.int .u64 e1) from rfl); clear gx))
        all_goals (
          go_wp2_with (at_builtin; (refine wpList_append_R rfl kSpot wb.heap.size (.tmp 39) (.tmp 45) 93 93 102 102 (.agg #[.int .i64 0, .int .u8 0, .int .u8 0, .bool false, .int .u64 0]) 32 rfl (by kernel_rfl) (by kernel_rfl) infoSp rfl (by decide) (by decide) (.slice none 0 0) [] [⟨at_, 2, s, ⟨e0, e1⟩⟩] (some ⟨w2.heap.size, 0, none⟩) 1 1 (fun k => some k ≠ (Value.slice A2 2 c2).ownBlock) (fun _ => False) rfl rfl (Kd.R_nil _ _ _ _ _) (spot_C w2 at_ 2 s ⟨e0, e1⟩) (fun x cs h => spotM h) (fun _ h => h.elim) (fun k hk => HT2.out.swap.fresh k (Nat.le_trans (Nat.le_succ _) (by simpa using hk))) (below_alloc HB2.out _).size (by simp) ?_; intro v3 w3 HO1 hg1 hat1; obtain ⟨A3, c3, rfl⟩ := Kd.R_slice HO1; have HT3 := Aside0.mk (show Two wb.heap.size w3 (.slice A2 2 c2) (.slice A3 1 c3) [⟨at_, 0, s, ⟨t0, t1⟩⟩, ⟨at_, 1, turnI s, ⟨p0, p1⟩⟩] [⟨at_, 2, s, ⟨e0, e1⟩⟩] from ((HT2.out.below (below_alloc (Below.refl _ w2) _)).swap.add HO1 hg1 hat1).swap); have HB3 := Aside0.mk ((below_alloc HB2.out _).grown hg1 (below_alloc HB2.out _).size (fun k hk => by cases hk)); clear HO1 hg1 hat1))
          go_meet
          case rel => exact ⟨_, _, rfl, rfl, by rw [HL.out, HE.out]; exact HT3, HB3⟩)
      · have z5 : (k0 == 5) = false := beq_false_of_ne h5
        have HL : Aside0 (labN at_ ⟨k0, k1, k2, k3, ⟨t0, t1⟩, ⟨p0, p1⟩, ⟨e0, e1⟩⟩ s = [] ++ [⟨at_, 0, s, ⟨t0, t1⟩⟩]) := ⟨by unfold labN; rw [if_neg h5]; rfl⟩
        have HE : Aside0 (effN at_ ⟨k0, k1, k2, k3, ⟨t0, t1⟩, ⟨p0, p1⟩, ⟨e0, e1⟩⟩ s = []) := ⟨by unfold effN; rw [if_neg h5]⟩
        clear h5
        go_wp2
        go_meet
        case rel => exact ⟨_, _, rfl, rfl, by rw [HL.out, HE.out]; exact HT, HB⟩
    case rest =>
      obtain ⟨v1, v2, rfl, rfl, HT, HB⟩ := hcut
      clear y0 y3 y6 y7 y8 y9 x0 x1 x2 x3 x4 x5 x6 x7 x8 x9
      have hk3 : k3 = (ks.count : Int) := HF.out.2.1
      obtain ⟨K, hKK⟩ : ∃ K, K = ks.count := ⟨_, rfl⟩
      rw [← hKK] at hk3
      subst hk3
      have hK8 : K ≤ 8 := by have := HF.out.2.2.1; dsimp only at this; omega
      have HKK := Aside0.mk hKK
      clear hKK
      go_wp2
      go_loopg [6, 7, 8, 10] (K + 1) (fun gk b6 b7 b8 b10 W => ∃ (i e : Nat) (f : Fo) (L X : List Spot), b10 = .int .i64 (i : Int) ∧ b8 = .int .i64 (e : Int) ∧ i + f.count = K ∧ K + 1 - i ≤ gk ∧ e ≤ 300 ∧ Aside0 (f.fit ∧ f.flat.length ≤ ks.flat.length ∧ body.drop e = f.flat ++ r ∧ e + f.flat.length = at_ + 1 + ks.flat.length ∧ L ++ labL e f.flat (f.sides ((belowS ⟨k0, k1, k2, (K : Int), ⟨t0, t1⟩, ⟨p0, p1⟩, ⟨e0, e1⟩⟩ s).drop i)) = LL ∧ X ++ effL e f.flat (f.sides ((belowS ⟨k0, k1, k2, (K : Int), ⟨t0, t1⟩, ⟨p0, p1⟩, ⟨e0, e1⟩⟩ s).drop i)) = XX) ∧ Aside0 (Two wb.heap.size W b6 b7 L X) ∧ Aside0 (Below wb.heap.size wb W))
      case atStart => exact ⟨0, at_ + 1, ks, _, _, rfl, by go_num, by have := HKK.out; omega, by omega, by omega, ⟨HF.out.2.2.2.1, Nat.le_refl _, HDR.out.1, rfl, HLL.out.1, HLL.out.2⟩, HT, HB⟩
      case round =>
        obtain ⟨i, e, f, L, X, rfl, rfl, hfc, hkg, he3, HI, HTW, HBW⟩ := hrel
        clear HT HB
        have gx := blk_below HX.out HBW.out
        have y0 := (blk_cell gx 0).trans (show _ = some (Value.int .u8 k0) from rfl)
        have y3 := (blk_cell gx 3).trans (show _ = some (Value.int .i64 (K : Int)) from rfl)
        clear gx
        rcases Nat.lt_or_ge i K with hlt | hge
        · have hd : decide (i < K) = true := decide_eq_true hlt
          cases f with
          | nil => simp only [Fo.count] at hfc; omega
          | cons n' ks' f' =>
          obtain ⟨s4, hs4⟩ : ∃ s4, s4 = (if k0 = 4 then 2 else s) := ⟨_, rfl⟩
          have HS4 := Aside0.mk hs4
          clear hs4
          obtain ⟨sd, hsd⟩ : ∃ sd, sd = (if k0 = 5 ∧ i = 0 then turnI s else if k0 = 4 then 2 else s) := ⟨_, rfl⟩
          have hsr : 0 ≤ sd ∧ sd ≤ 2 := by
            rw [hsd]
            split
            · exact turn_range hs
            · split <;> omega
          have hsg := belowS_get ⟨k0, k1, k2, (K : Int), ⟨t0, t1⟩, ⟨p0, p1⟩, ⟨e0, e1⟩⟩ s i (by simpa using hlt)
          rw [show (if (⟨k0, k1, k2, (K : Int), ⟨t0, t1⟩, ⟨p0, p1⟩, ⟨e0, e1⟩⟩ : Node).f0 = 5 ∧ i = 0 then turnI s else if (⟨k0, k1, k2, (K : Int), ⟨t0, t1⟩, ⟨p0, p1⟩, ⟨e0, e1⟩⟩ : Node).f0 = 4 then 2 else s) = sd from hsd.symm] at hsg
          have hdr : (belowS ⟨k0, k1, k2, (K : Int), ⟨t0, t1⟩, ⟨p0, p1⟩, ⟨e0, e1⟩⟩ s).drop i = sd :: (belowS ⟨k0, k1, k2, (K : Int), ⟨t0, t1⟩, ⟨p0, p1⟩, ⟨e0, e1⟩⟩ s).drop (i + 1) := by
            have hil := (List.getElem?_eq_some_iff.1 hsg)
            rw [List.drop_eq_getElem_cons hil.1, hil.2]
          have hfl : ((belowS ⟨k0, k1, k2, (K : Int), ⟨t0, t1⟩, ⟨p0, p1⟩, ⟨e0, e1⟩⟩ s).drop (i + 1)).length = f'.count := by
            rw [List.length_drop, belowS_len]
            simp only [Fo.count, Int.toNat_natCast] at hfc ⊢
            omega
          have hlc := lab_cons e n' ks' f' sd ((belowS ⟨k0, k1, k2, (K : Int), ⟨t0, t1⟩, ⟨p0, p1⟩, ⟨e0, e1⟩⟩ s).drop (i + 1)) HI.out.1 hfl
          have hxc := eff_cons e n' ks' f' sd ((belowS ⟨k0, k1, k2, (K : Int), ⟨t0, t1⟩, ⟨p0, p1⟩, ⟨e0, e1⟩⟩ s).drop (i + 1)) HI.out.1 hfl
          have hI1 := HI.out.2.2.2.2.1
          have hI2 := HI.out.2.2.2.2.2
          rw [hdr, hlc, ← List.append_assoc] at hI1
          rw [hdr, hxc, ← List.append_assoc] at hI2
          obtain ⟨e', he'⟩ : ∃ e', e' = e + 1 + ks'.flat.length := ⟨_, rfl⟩
          rw [← he'] at hI1 hI2
          have hff : (Fo.cons n' ks' f').flat.length = 1 + ks'.flat.length + f'.flat.length := by simp [Fo.flat]; omega
          have hle := HI.out.2.1
          have hee := HI.out.2.2.2.1
          rw [hff] at hle hee
          have hdb : body.drop e = n' :: (ks'.flat ++ (f'.flat ++ r)) := by rw [HI.out.2.2.1, Fo.flat, List.cons_append, List.append_assoc]
          have hde : body.drop e' = f'.flat ++ r := by
            rw [he', show e + 1 + ks'.flat.length = e + (1 + ks'.flat.length) by omega, ← List.drop_drop, hdb, show 1 + ks'.flat.length = ks'.flat.length + 1 by omega, List.drop_succ_cons, List.drop_left]
          have CB0 := fun W (hW : kNode.C W (some ad) N body) => HIH.out W (some ad) c N body HN.out hl hW e n' ks' (f'.flat ++ r) sd hdb ⟨HI.out.1.1, HI.out.1.2.1, HI.out.1.2.2.1, HI.out.1.2.2.2.1, trivial⟩ hsr (by have := HDR.out.2.1; omega)
          obtain ⟨l1, hl1⟩ : ∃ l, labL e (n' :: ks'.flat) (sd :: ks'.sides (belowS n' sd)) = l := ⟨_, rfl⟩
          obtain ⟨x1, hx1⟩ : ∃ l, effL e (n' :: ks'.flat) (sd :: ks'.sides (belowS n' sd)) = l := ⟨_, rfl⟩
          rw [hl1] at hI1
          rw [hx1] at hI2
          rw [hl1, hx1, ← he'] at CB0
          obtain ⟨m1, hm1⟩ : ∃ m, m = l1.length := ⟨_, rfl⟩
          obtain ⟨m2, hm2⟩ : ∃ m, m = x1.length := ⟨_, rfl⟩
          rw [← hm1, ← hm2] at CB0
          have CB := Aside0.mk (CB0 wr (Kd.C_below HR.out (HB0.out.trans (HBW.out.mono HB0.out.size))))
          have HLM : Aside0 (L.length + m1 ≤ 600 ∧ X.length + m2 ≤ 600) := ⟨by
            have h1 := congrArg List.length hI1
            have h2 := congrArg List.length hI2
            simp only [List.length_append] at h1 h2
            omega⟩
          have HNX := Aside0.mk (And.intro hI1 (And.intro hI2 (And.intro hde (And.intro hle hee))))
          have HE' := Aside0.mk he'
          have HSD := Aside0.mk hsd
          have HFC := Aside0.mk hfc
          clear CB0 hI1 hI2 hde hle hee he' hsd hfc hl1 hx1 hm1 hm2 hdb hff hfl hlc hxc hdr hsg
          go_upto_if 58 with fail
          go_cut [11] from 49 to 82 (fun s11 W => s11 = .int .u8 s4 ∧ wr = W)
          case first =>
            by_cases h4 : k0 = 4
            · have z4 : (k0 == 4) = true := beq_iff_eq.mpr h4
              go_wp2
              go_meet
              case rel => exact ⟨by rw [HS4.out, if_pos h4], rfl⟩
            · have z4 : (k0 == 4) = false := beq_false_of_ne h4
              go_wp2
              go_meet
              case rel => exact ⟨by rw [HS4.out, if_neg h4], rfl⟩
          case rest =>
            obtain ⟨rfl, rfl⟩ := hcut
            obtain ⟨bb, hbb⟩ : ∃ bb : Bool, bb = decide (k0 = 5 ∧ i = 0) := ⟨_, rfl⟩
            have HBB := Aside0.mk hbb
            clear hbb
            go_upto_region 13 with fail
            go_cut [65] from 49 to 82 (fun s65 W => s65 = .bool bb ∧ wr = W)
            case first =>
              by_cases h5 : k0 = 5
              · have z5 : (k0 == 5) = true := beq_iff_eq.mpr h5
                have zi : ((i : Int) == 0) = bb := by
                  rw [HBB.out]
                  by_cases hi : i = 0
                  · rw [decide_eq_true ⟨h5, hi⟩]; exact beq_iff_eq.mpr (by omega)
                  · rw [decide_eq_false (fun h => hi h.2)]; exact beq_false_of_ne (by omega)
                clear h5
                go_wp2
                go_meet
                case rel => exact ⟨rfl, rfl⟩
              · have z5 : (k0 == 5) = false := beq_false_of_ne h5
                have HB3 : Aside0 (bb = false) := ⟨by rw [HBB.out]; exact decide_eq_false (fun h => h5 h.1)⟩
                clear h5
                go_wp2
                go_meet
                case rel => exact ⟨by rw [HB3.out], rfl⟩
            case rest =>
            obtain ⟨rfl, rfl⟩ := hcut
            go_upto_if 65 with fail
            go_cut [11] from 49 to 82 (fun s11 W => s11 = .int .u8 sd ∧ wr = W)
            case first =>
              cases bb with
              | true =>
                have HS2 : Aside0 (sd = turnI s) := ⟨by rw [HSD.out, if_pos (of_decide_eq_true HBB.out.symm)]⟩
                go_wp2_with (go_at_call 176; (with_reducible refine (turned_calls _ s hs).mono ?_); rintro e W4 ⟨rfl, rfl⟩)
                go_meet
                case rel => exact ⟨by rw [HS2.out], rfl⟩
              | false =>
                have HS2 : Aside0 (sd = s4) := ⟨by rw [HS4.out, HSD.out, if_neg (of_decide_eq_false HBB.out.symm)]⟩
                go_wp2
                go_meet
                case rel => exact ⟨by rw [HS2.out], rfl⟩
            case rest =>
              obtain ⟨rfl, rfl⟩ := hcut
              go_wp2_with (first
                | (go_at_call 113; ((with_reducible refine CB.out.mono ?_); rintro ee W5 ⟨A5, c5, A6, c6, rfl, R5, R6, hb5⟩; have HR5 := Aside0.mk (And.intro R5 R6); have HT5 := Aside0.mk (HTW.out.below hb5); have HB5 := Aside0.mk (below_step HBW.out hb5); have HZ5 := Aside0.mk hb5; clear R5 R6 hb5))
                | (at_builtin; (refine wpList_append_R rfl kSpot wb.heap.size (.tmp 76) (.tmp 77) 93 93 102 102 (.agg #[.int .i64 0, .int .u8 0, .int .u8 0, .bool false, .int .u64 0]) 32 rfl (by kernel_rfl) (by kernel_rfl) infoSp rfl (by decide) (by decide) _ L l1 A5 m1 c5 (fun k => some k ≠ u7.ownBlock) (fun _ => False) rfl rfl HT5.out.1 (by have := (Kd.R_reads' HR5.out.1); rw [this.1]; exact this.2.2) (fun x cs h => spotM h) (fun _ h => h.elim) (fun k hk => HT5.out.fresh k hk) HB5.out.size (by have := HLM.out.1; omega) ?_; intro v7 w7 HO1 hg1 hat1; have HT7 := Aside0.mk (HT5.out.add HO1 hg1 hat1); have HB7 := Aside0.mk (HB5.out.grown hg1 HB5.out.size (fun k hk => (HT5.out.own k hk).1)); have HR7 := Aside0.mk (Kd.R_grown2 HR5.out.2 rfl hg1 (fun k hk e => by have h1 := (HTW.out.own k hk).2; have h2 := Kd.R_base HR5.out.2 k e.symm; omega)); clear HO1 hg1 hat1))
                | (at_builtin; (refine wpList_append_R rfl kSpot wb.heap.size (.tmp 79) (.tmp 80) 93 93 102 102 (.agg #[.int .i64 0, .int .u8 0, .int .u8 0, .bool false, .int .u64 0]) 32 rfl (by kernel_rfl) (by kernel_rfl) infoSp rfl (by decide) (by decide) _ X x1 A6 m2 c6 (fun k => some k ≠ v7.ownBlock) (fun _ => False) rfl rfl HT7.out.2 (by have := (Kd.R_reads' HR7.out); rw [this.1]; exact this.2.2) (fun x cs h => spotM h) (fun _ h => h.elim) (fun k hk => HT7.out.swap.fresh k hk) HB7.out.size (by have := HLM.out.2; omega) ?_; intro v8 w8 HO1 hg1 hat1; have HT8 := Aside0.mk ((HT7.out.swap.add HO1 hg1 hat1).swap); have HB8 := Aside0.mk (HB7.out.grown hg1 HB7.out.size (fun k hk => (HT7.out.swap.own k hk).1)); clear HO1 hg1 hat1)))
              go_roundg (gk - 1)
              case measure => omega
              case rel => exact ⟨i + 1, e', f', L ++ l1, X ++ x1, by go_num, rfl, by have := HFC.out; simp only [Fo.count] at this; omega, by omega, by have := HNX.out.2.2.2.2; have := HDR.out.2.2; have := HE'.out; omega, ⟨HI.out.1.2.2.2.2, by have := HNX.out.2.2.2.1; omega, HNX.out.2.2.1, by have := HNX.out.2.2.2.2; have := HE'.out; omega, HNX.out.1, HNX.out.2.1⟩, HT8, HB8⟩
        · have hd : decide (i < K) = false := decide_eq_false (by omega)
          obtain rfl : f = Fo.nil := by
            cases f with
            | nil => rfl
            | cons a b c => simp only [Fo.count] at hfc; omega
          have h1 : L = LL := by have := HI.out.2.2.2.2.1; rw [Fo.flat] at this; simpa [labL] using this
          have h2 : X = XX := by have := HI.out.2.2.2.2.2; rw [Fo.flat] at this; simpa [effL] using this
          have h3 : e = at_ + 1 + ks.flat.length := by have := HI.out.2.2.2.1; rw [Fo.flat] at this; simpa using this
          obtain ⟨A1, c1, hv1⟩ := Kd.R_slice HTW.out.1
          obtain ⟨A2, c2, hv2⟩ := Kd.R_slice HTW.out.2
          subst hv1 hv2
          have H3 := Aside0.mk (And.intro h1 (And.intro h2 h3))
          clear h1 h2 h3 hfc hkg
          go_wp2
          go_ret3
          obtain ⟨rfl, rfl, rfl⟩ := H3.out
          have ht1 := Kd.R_mono (Kd.R_lower HTW.out.1 (show w.heap.size ≤ wb.heap.size by rw [HWB.out.2]; exact Nat.le_succ _)) (fun _ _ => trivial : ∀ k, _ → (fun _ : Nat => True) k)
          have ht2 := Kd.R_mono (Kd.R_lower HTW.out.2 (show w.heap.size ≤ wb.heap.size by rw [HWB.out.2]; exact Nat.le_succ _)) (fun _ _ => trivial : ∀ k, _ → (fun _ : Nat => True) k)
          exact ⟨A1, c1, A2, c2, rfl, ht1, ht2, HB0.out.trans (HBW.out.mono HB0.out.size)⟩
theorem lab_tree {body : List Node} (hz : checkB body = 0) : ∃ n ks, body = n :: (Fo.flat ks ++ []) ∧ (Fo.cons n ks .nil).fit ∧ labL 0 (n :: ks.flat) (0 :: ks.sides (belowS n 0)) = labB body ∧ effL 0 (n :: ks.flat) (0 :: ks.sides (belowS n 0)) = effB body := by
  obtain ⟨f, hf, hc, rfl, -, -, -, -⟩ := body_tree hz
  cases f with
  | nil => cases hc
  | cons n ks r =>
    cases r with
    | cons a b c => simp [Fo.count] at hc
    | nil =>
      have h := sidesB_tree (Fo.cons n ks .nil) hf hc 0
      have hs : sidesB (Fo.cons n ks .nil).flat = 0 :: ks.sides (belowS n 0) := by
        show sidesL _ [0] = _
        rw [h]
        simp [Fo.sides]
      refine ⟨n, ks, rfl, hf, ?_, ?_⟩
      · rw [labB, if_pos hz, hs, Fo.flat, Fo.flat, List.append_nil]
      · rw [effB, if_pos hz, hs, Fo.flat, Fo.flat, List.append_nil]
/-- cartoucheref08.Of: the document's answer. -/
theorem of_calls (w : World) (A : Option Addr) (n c : Nat) (body : List Node) (hn : n = body.length) (hl : n ≤ 300) (hr : kNode.C w A n body) :
    Calls Tryz.prog 41 #[.slice A n c] w fun e w' => ∃ A1 c1 A2 c2, e = .returned (.tuple #[.slice A1 (labB body).length c1, .slice A2 (effB body).length c2]) ∧ kSpot.R 102 w' w.heap.size (fun _ => True) (.slice A1 (labB body).length c1) (labB body) ∧ kSpot.R 102 w' w.heap.size (fun _ => True) (.slice A2 (effB body).length c2) (effB body) ∧ Below w.heap.size w w' := by
  have CK : Aside0 (Calls Tryz.prog 40 #[.slice A n c] w fun e w' => e = .returned (.int .i64 (checkB body)) ∧ Below w.heap.size w w') := ⟨by rw [hn] at hr ⊢; exact Ref07.check_calls w A c body (by omega) hr⟩
  obtain ⟨q, hq⟩ : ∃ q, q = checkB body := ⟨_, rfl⟩
  rw [← hq] at CK
  by_cases hz : q = 0
  · have z1 : (q != 0) = false := by rw [hz]; rfl
    obtain ⟨n0, ks, hb, hf, hl1, hl2⟩ := lab_tree (hq.symm.trans hz)
    have BL : Aside0 (∀ W, Below w.heap.size w W → Calls Tryz.prog 113 #[.slice A n c, .int .i64 0, .int .u8 0] W fun e w' => ∃ A1 c1 A2 c2, e = .returned (.tuple #[.slice A1 (labB body).length c1, .slice A2 (effB body).length c2, .int .i64 ((0 + 1 + ks.flat.length : Nat) : Int)]) ∧ kSpot.R 102 w' W.heap.size (fun _ => True) (.slice A1 (labB body).length c1) (labB body) ∧ kSpot.R 102 w' W.heap.size (fun _ => True) (.slice A2 (effB body).length c2) (effB body) ∧ Below W.heap.size W w') := ⟨fun W hW => by
      have := below_calls (ks.flat.length + 1) W A c n body hn hl (Kd.C_below hr hW) 0 n0 ks [] 0 hb hf (by decide) (Nat.lt_succ_self _)
      rwa [hl1, hl2] at this⟩
    obtain ⟨L, hL⟩ : ∃ L, L = labB body := ⟨_, rfl⟩
    obtain ⟨X, hX⟩ : ∃ X, X = effB body := ⟨_, rfl⟩
    rw [← hL, ← hX] at BL ⊢
    clear hq hz hb hf hl1 hl2 hr hL hX hn
    go_enter Tryz.func41, Tryz.ntmps41
    go_wp2_with (first
      | (go_at_call 40; (with_reducible refine CK.out.mono ?_); rintro e W1 ⟨rfl, hb1⟩; have HB := Aside0.mk hb1; clear hb1)
      | (go_at_call 113; (with_reducible refine (BL.out _ HB.out).mono ?_); rintro e W2 ⟨A1, c1, A2, c2, rfl, r1, r2, hb2⟩; have HR := Aside0.mk (And.intro r1 (And.intro r2 hb2)); clear r1 r2 hb2))
    go_ret2
    exact ⟨A1, c1, A2, c2, rfl, Kd.R_lower HR.out.1 HB.out.size, Kd.R_lower HR.out.2.1 HB.out.size, HB.out.trans (HR.out.2.2.mono HB.out.size)⟩
  · have z1 : (q != 0) = true := bne_iff_ne.mpr hz
    have hl1 : labB body = [] := if_neg (by rw [← hq]; exact hz)
    have hl2 : effB body = [] := if_neg (by rw [← hq]; exact hz)
    rw [hl1, hl2]
    clear hq hz hr hl1 hl2 hn
    go_enter Tryz.func41, Tryz.ntmps41
    go_wp2_with (go_at_call 40; (with_reducible refine CK.out.mono ?_); rintro e W1 ⟨rfl, hb1⟩; have HB := Aside0.mk hb1; clear hb1)
    go_ret2
    exact ⟨none, 0, none, 0, rfl, Kd.R_nil _ _ _ _ _, Kd.R_nil _ _ _ _ _, HB.out⟩
end Ref08
end Go.Proofs.YtdecijmncpbheaaGreatDoor

namespace Go.Proofs.YtdecijmncpbheaaGreatDoor
open Go.RowKit Go.Shelf Go.Proofs.YtdecijmncpbheaaGreatDoorW.PrintWords Go.Proofs.YtdecijmncpbheaaGreatDoorW.PrintLast Go.Proofs.YtdecijmncpbheaaGreatDoorW.PrintMore
set_option linter.unusedVariables false
set_option linter.unusedSimpArgs false
/-- What Put answers. -/
def putA (body : List Node) (ls es : List Term) : List Node × Int :=
  if checkB body ≠ 0 then ([], 4) else if ls.length ≠ (labB body).length ∨ es.length ≠ (effB body).length then ([], 1) else (putB body ls es, 0)
theorem lab_part : ∀ (i : Nat) (l : List Node) (ss : List Int), ∀ x ∈ labL i l ss, x.f1 = 0 ∨ x.f1 = 1
  | i, [], ss, x, h => by cases ss <;> simp [labL] at h
  | i, n :: t, [], x, h => by simp [labL] at h
  | i, n :: t, s :: ss, x, h => by
    rw [labL] at h
    rcases List.mem_append.1 h with h | h
    · unfold labN at h
      split at h
      · simp at h
        rcases h with rfl | rfl
        · exact .inl rfl
        · exact .inr rfl
      · simp at h
        subst h
        exact .inl rfl
    · exact lab_part (i + 1) t ss x h
theorem eff_part : ∀ (i : Nat) (l : List Node) (ss : List Int), ∀ x ∈ effL i l ss, x.f1 = 2
  | i, [], ss, x, h => by cases ss <;> simp [effL] at h
  | i, n :: t, [], x, h => by simp [effL] at h
  | i, n :: t, s :: ss, x, h => by
    rw [effL] at h
    rcases List.mem_append.1 h with h | h
    · unfold effN at h
      split at h
      · simp at h
        subst h
        rfl
      · simp at h
    · exact eff_part (i + 1) t ss x h
theorem labB_spot {body : List Node} (hz : checkB body = 0) : ∀ x ∈ labB body, (x.f1 = 0 ∨ x.f1 = 1) ∧ ∃ j : Nat, x.f0 = j ∧ j < body.length := by
  intro x hx
  rw [labB, if_pos hz] at hx
  obtain ⟨j, h1, _, h2⟩ := labL_mem 0 body _ x hx
  exact ⟨lab_part 0 body _ x hx, j, h1, by omega⟩
theorem effB_spot {body : List Node} (hz : checkB body = 0) : ∀ x ∈ effB body, x.f1 = 2 ∧ ∃ j : Nat, x.f0 = j ∧ j < body.length := by
  intro x hx
  rw [effB, if_pos hz] at hx
  obtain ⟨j, h1, _, h2⟩ := effL_mem 0 body _ x hx
  exact ⟨eff_part 0 body _ x hx, j, h1, by omega⟩
theorem labP_B {body : List Node} (hz : checkB body = 0) : labP body body.length = (labB body).map partOf := by
  have hs : (sidesB body).length = body.length := sidesB_len hz 0
  rw [labB, if_pos hz, labP, List.take_of_length_le (Nat.le_refl _), List.take_of_length_le (by rw [hs]; exact Nat.le_refl _)]
theorem effP_B {body : List Node} (hz : checkB body = 0) : effP body body.length = (effB body).map partOf := by
  have hs : (sidesB body).length = body.length := sidesB_len hz 0
  rw [effB, if_pos hz, effP, List.take_of_length_le (Nat.le_refl _), List.take_of_length_le (by rw [hs]; exact Nat.le_refl _)]
theorem putB_spots {body : List Node} (hz : checkB body = 0) (ls es : List Term) (hl : ls.length = (labB body).length) (he : es.length = (effB body).length) : putRow (putRow body ((labB body).map partOf) ls) ((effB body).map partOf) es = putB body ls es := by
  rw [← labP_B hz, ← effP_B hz]
  exact putB_rows hz ls es (by rw [labP_B hz, List.length_map]; exact hl) (by rw [effP_B hz, List.length_map]; exact he)
namespace Ref08
set_option maxRecDepth 200000 in
set_option maxHeartbeats 16000000 in
theorem put_calls (w : World) (A B1 B2 : Option Addr) (n c m1 m2 d1' d2' : Nat) (body : List Node) (ls es : List Term) (hn : n = body.length) (hl : n ≤ 300) (hm1 : m1 = ls.length) (hm2 : m2 = es.length) (hr : kNode.C w A n body) (hl1 : kTerm.C w B1 m1 ls) (hl2 : kTerm.C w B2 m2 es) :
    Calls Tryz.prog 43 #[.slice A n c, .slice B1 m1 d1', .slice B2 m2 d2'] w fun e w' => (∃ A' c', e = .returned (.tuple #[.slice A' (putA body ls es).1.length c', .int .i64 (putA body ls es).2]) ∧ kNode.C w' A' (putA body ls es).1.length (putA body ls es).1) ∧ Below w.heap.size w w' := by
  have CK : Aside0 (Calls Tryz.prog 40 #[.slice A n c] w fun e w' => e = .returned (.int .i64 (checkB body)) ∧ Below w.heap.size w w') := ⟨by rw [hn] at hr ⊢; exact Ref07.check_calls w A c body (by omega) hr⟩
  have OF : Aside0 (∀ W, Below w.heap.size w W → Calls Tryz.prog 41 #[.slice A n c] W fun e w' => ∃ A1 c1 A2 c2, e = .returned (.tuple #[.slice A1 (labB body).length c1, .slice A2 (effB body).length c2]) ∧ kSpot.R 102 w' W.heap.size (fun _ => True) (.slice A1 (labB body).length c1) (labB body) ∧ kSpot.R 102 w' W.heap.size (fun _ => True) (.slice A2 (effB body).length c2) (effB body) ∧ Below W.heap.size W w') := ⟨fun W hW => of_calls W A n c body hn hl (Kd.C_below hr hW)⟩
  obtain ⟨q, hq⟩ : ∃ q, q = checkB body := ⟨_, rfl⟩
  rw [← hq] at CK
  by_cases hz : q = 0
  case neg =>
    have z1 : (q != 0) = true := bne_iff_ne.mpr hz
    have HE : Aside0 (putA body ls es = ([], 4)) := ⟨by rw [putA, if_pos (by rw [← hq]; exact hz)]⟩
    clear hq hz hr hl1 hl2 hn hm1 hm2 OF
    go_enter Tryz.func43, Tryz.ntmps43
    go_wp2_with (go_at_call 40; (with_reducible refine CK.out.mono ?_); rintro e W1 ⟨rfl, hb1⟩; have HB := Aside0.mk hb1; clear hb1)
    go_ret2
    rw [HE.out]
    exact ⟨⟨none, 0, rfl, Kd.C_nil _ _⟩, HB.out⟩
  have z1 : (q != 0) = false := by rw [hz]; rfl
  have hz' : checkB body = 0 := hq.symm.trans hz
  have HZ := Aside0.mk hz'
  have HD : Aside0 (putA body ls es = if ls.length ≠ (labB body).length ∨ es.length ≠ (effB body).length then ([], 1) else (putB body ls es, 0)) := ⟨by rw [putA, if_neg (by rw [hz']; simp)]⟩
  obtain ⟨L, hL⟩ : ∃ L, L = labB body := ⟨_, rfl⟩
  obtain ⟨X, hX⟩ : ∃ X, X = effB body := ⟨_, rfl⟩
  have HLX := Aside0.mk (And.intro hL hX)
  rw [← hL, ← hX] at OF
  obtain ⟨p1, hp1⟩ : ∃ p, p = L.length := ⟨_, rfl⟩
  obtain ⟨p2, hp2⟩ : ∃ p, p = X.length := ⟨_, rfl⟩
  rw [← hp1, ← hp2] at OF
  have HP := Aside0.mk (And.intro hp1 hp2)
  have HM := Aside0.mk (And.intro hm1 hm2)
  have hp1m : p1 ≤ 256 := by
    rw [hp1, hL, labB, if_pos hz']
    have := labL_len 0 body (sidesB body)
    have := (checkB_L hz').2.1
    omega
  have hp2m : p2 ≤ 256 := by
    rw [hp2, hX, effB, if_pos hz']
    have := effL_len 0 body (sidesB body)
    have := (checkB_L hz').2.1
    omega
  by_cases hsz : m1 = p1 ∧ m2 = p2
  case neg =>
    have HE : Aside0 (putA body ls es = ([], 1)) := ⟨by
      rw [HD.out, if_pos]
      rw [← hL, ← hX, ← hp1, ← hp2, ← hm1, ← hm2]
      by_cases h : m1 = p1
      · exact .inr (fun h2 => hsz ⟨h, h2⟩)
      · exact .inl h⟩
    clear hq hz hz' hr hl1 hl2 hn hm1 hm2 hL hX hp1 hp2 HD
    by_cases h1 : m1 = p1
    · have y1 : ((m1 : Int) != (p1 : Int)) = false := bne_eq_false_iff_eq.mpr (by omega)
      have y2 : ((m2 : Int) != (p2 : Int)) = true := bne_iff_ne.mpr (by intro h; exact hsz ⟨h1, by omega⟩)
      clear h1 hsz
      go_enter Tryz.func43, Tryz.ntmps43
      go_wp2_with (first
        | (go_at_call 40; (with_reducible refine CK.out.mono ?_); rintro e W1 ⟨rfl, hb1⟩; have HB := Aside0.mk hb1; clear hb1)
        | (go_at_call 41; (with_reducible refine (OF.out _ HB.out).mono ?_); rintro e W2 ⟨A1, c1, A2, c2, rfl, r1, r2, hb2⟩; have HB2 := Aside0.mk (below_step HB.out hb2); clear r1 r2 hb2))
      go_ret2
      rw [HE.out]
      exact ⟨⟨none, 0, rfl, Kd.C_nil _ _⟩, HB2.out⟩
    · have y1 : ((m1 : Int) != (p1 : Int)) = true := bne_iff_ne.mpr (by omega)
      clear h1 hsz
      go_enter Tryz.func43, Tryz.ntmps43
      go_wp2_with (first
        | (go_at_call 40; (with_reducible refine CK.out.mono ?_); rintro e W1 ⟨rfl, hb1⟩; have HB := Aside0.mk hb1; clear hb1)
        | (go_at_call 41; (with_reducible refine (OF.out _ HB.out).mono ?_); rintro e W2 ⟨A1, c1, A2, c2, rfl, r1, r2, hb2⟩; have HB2 := Aside0.mk (below_step HB.out hb2); clear r1 r2 hb2))
      go_ret2
      rw [HE.out]
      exact ⟨⟨none, 0, rfl, Kd.C_nil _ _⟩, HB2.out⟩
  obtain ⟨e1, e2⟩ := hsz
  subst e1 e2
  have HE : Aside0 (putA body ls es = (putB body ls es, 0)) := ⟨by
    rw [HD.out, if_neg]
    rw [← hL, ← hX, ← hp1, ← hp2, ← hm1, ← hm2]
    simp⟩
  have HPB : Aside0 (putRow (putRow body (L.map partOf) ls) (X.map partOf) es = putB body ls es) := ⟨by
    rw [hL, hX]
    exact putB_spots hz' ls es (by rw [← hL, ← hp1, ← hm1]) (by rw [← hX, ← hp2, ← hm2])⟩
  have HSP : Aside0 ((∀ x ∈ L, (x.f1 = 0 ∨ x.f1 = 1) ∧ ∃ j : Nat, x.f0 = j ∧ j < n) ∧ ∀ x ∈ X, x.f1 = 2 ∧ ∃ j : Nat, x.f0 = j ∧ j < n) := ⟨by rw [hL, hX, hn]; exact ⟨labB_spot hz', effB_spot hz'⟩⟩
  have hpos : 0 < n := by rw [hn]; exact (checkB_L hz').1
  obtain ⟨ad, rfl, -⟩ := C_nodeN (by rw [hn] at hr; exact hr) 0 (by rw [← hn]; exact hpos)
  have HR := Aside0.mk hr
  have HT := Aside0.mk (And.intro hl1 hl2)
  have HN := Aside0.mk hn
  have y1 : ((m1 : Int) != (m1 : Int)) = false := bne_self_eq_false _
  have y2 : ((m2 : Int) != (m2 : Int)) = false := bne_self_eq_false _
  have n1 : (([] : List Node) ++ body).length = n := hn.symm
  have N1 := Aside0.mk n1
  clear hq hz hz' hr hl1 hl2 hn hm1 hm2 hL hX hp1 hp2 HD n1
  go_enter Tryz.func43, Tryz.ntmps43
  go_wp2_with (first
    | (go_at_call 40; (with_reducible refine CK.out.mono ?_); rintro e W1 ⟨rfl, hb1⟩; have HB := Aside0.mk hb1; clear hb1)
    | (go_at_call 41; (with_reducible refine (OF.out _ HB.out).mono ?_); rintro e W2 ⟨A1, c1, A2, c2, rfl, r1, r2, hb2⟩; have HB2 := Aside0.mk (below_step HB.out hb2); have R1 := Aside0.mk r1; have R2 := Aside0.mk r2; clear r1 r2 hb2)
    | (at_builtin; refine wpList_append_R rfl kNode W2.heap.size (.const (.slice none 0 0)) (.tmp 33) 22 22 119 119 (.agg #[.int .u8 0, .int .i64 0, .string ⟨#[]⟩, .int .i64 0, .bool false, .int .u64 0, .bool false, .int .u64 0, .bool false, .int .u64 0]) 88 rfl (by kernel_rfl) (by kernel_rfl) L07.infoN rfl (by decide) (by decide) (.slice none 0 0) [] body (some ad) n c (fun _ => True) (fun _ => False) rfl rfl (Kd.R_nil _ _ _ _ _) (Kd.C_below HR.out HB2.out) (fun x cs h => nodeM h) (fun _ h => h.elim) (fun _ _ => trivial) (Nat.le_refl _) (by simp; omega) ?_; intro v1 w1 HO1 hg1 hat; rw [List.nil_append] at HO1; obtain ⟨A3, c3, rfl⟩ := Kd.R_slice HO1; rw [← HN.out] at HO1 ⊢; have HB3 := Aside0.mk ((Below.refl W2.heap.size W2).grown hg1 (Nat.le_refl _) (fun k hk => by cases hk)); have HO := Aside0.mk HO1; clear HO1 hg1 hat))
  obtain ⟨g, hg⟩ := R_pos HO.out hpos
  cases hg
  go_loopg [11] (m1 + 1) (fun gk i W => ∃ k : Nat, i = .int .i64 (k : Int) ∧ k ≤ m1 ∧ m1 + 1 - k ≤ gk ∧ Aside0 (kNode.R 119 W W2.heap.size (fun _ => True) (.slice (some ⟨g, 0, none⟩) n c3) (putRow body ((L.map partOf).take k) (ls.take k))) ∧ Aside0 (Below W2.heap.size W2 W))
  case atStart => exact ⟨0, rfl, Nat.zero_le _, by omega, ⟨by simpa [putRow] using HO.out⟩, HB3⟩
  case round =>
    clear HO HB3
    obtain ⟨k, rfl, hk, hkg, HO, HB3⟩ := hrel
    rcases Nat.lt_or_ge k m1 with hlt | hge
    · have hd : decide (k < m1) = true := decide_eq_true hlt
      have hkl : k < L.length := by rw [← HP.out.1]; exact hlt
      have hkt : k < ls.length := by rw [← HM.out.1]; exact hlt
      obtain ⟨sd, se, s0, s1, s2, s3, s4⟩ := C_spotN (Kd.C_below (Kd.R_reads' R1.out).2.2 HB3.out) k hkl
      obtain ⟨x, hx⟩ : ∃ x, x = L[k] := ⟨_, rfl⟩
      obtain ⟨hpart, j, hj, hjb⟩ := HSP.out.1 L[k] (List.getElem_mem _)
      rw [← hx] at s0 s1 hpart hj
      obtain ⟨x0, x1, x2, x3⟩ := x
      simp only at s0 s1 hpart hj
      subst hj
      have HXK := Aside0.mk hx
      have hol : (putRow body ((L.map partOf).take k) (ls.take k)).length = n := by rw [putRow_len, HN.out]
      obtain ⟨⟨u0, o0⟩, ⟨u1, o1⟩, of, hBg, cells, hgc⟩ := node_cells HO.out j (by rw [hol]; exact hjb) x1
      obtain ⟨td, te, t0, t1⟩ := C_termN (Kd.C_below (by rw [← HM.out.1]; exact HT.out.1) (below_step HB2.out HB3.out)) k hkt
      obtain ⟨t, ht⟩ : ∃ t, t = ls[k] := ⟨_, rfl⟩
      rw [← ht] at t0 t1
      have HTT := Aside0.mk ht
      have HBG := Aside0.mk hBg
      have hjn : (j : Int) < (n : Int) := by omega
      clear hx ht s2 s3 s4 hBg hgc
      cases se
      cases te
      have hnext : Aside0 (∀ W, kNode.R 119 W W2.heap.size (fun _ => True) (.slice (some ⟨g, 0, none⟩) n c3) (putRow body ((L.map partOf).take k) (ls.take k)) → kNode.R 119 ((W.setCell ⟨g, j * 10 + partOff x1, none⟩ (.bool t.f0)).setCell ⟨g, j * 10 + partOff x1 + 1, none⟩ (.int .u64 t.f1)) W2.heap.size (fun _ => True) (.slice (some ⟨g, 0, none⟩) n c3) (putRow body ((L.map partOf).take (k + 1)) (ls.take (k + 1)))) := ⟨fun W h => by
        rw [putRow_next _ _ _ k (by rw [List.length_map]; exact hkl) hkt, List.getElem_map, ← HXK.out, ← HTT.out]
        show kNode.R _ _ _ _ _ (putOne _ ((j : Int), x1, x2) t)
        rw [putOne_set _ j x1 x2 t (by rw [hol]; exact hjb)]
        exact node_term h j (by rw [hol]; exact hjb) x1 t⟩
      clear hol
      rcases hpart with rfl | rfl
      · have o0' : wr.cell? ⟨g, j * 10 + 4, none⟩ = some (.bool u0) := o0
        have o1' : wr.cell? ⟨g, j * 10 + 4 + 1, none⟩ = some (.int .u64 u1) := o1
        clear o0 o1
        go_wp2
        go_region_with (fail)
        all_goals (
          go_wp2
          go_roundg (gk - 1)
          case measure => omega
          case rel => exact ⟨k + 1, by go_num, by omega, by omega, ⟨hnext.out _ HO.out⟩, ⟨by repeat (first | exact HB3.out | exact HBG.out | refine Below.drew ?_ | refine below_set ?_ _ ?_)⟩⟩)
      · have o0' : wr.cell? ⟨g, j * 10 + 6, none⟩ = some (.bool u0) := o0
        have o1' : wr.cell? ⟨g, j * 10 + 6 + 1, none⟩ = some (.int .u64 u1) := o1
        clear o0 o1
        go_wp2
        go_region_with (fail)
        all_goals (
          go_wp2
          go_roundg (gk - 1)
          case measure => omega
          case rel => exact ⟨k + 1, by go_num, by omega, by omega, ⟨hnext.out _ HO.out⟩, ⟨by repeat (first | exact HB3.out | exact HBG.out | refine Below.drew ?_ | refine below_set ?_ _ ?_)⟩⟩)
    · have hd : decide (k < m1) = false := decide_eq_false (by omega)
      obtain rfl : m1 = k := by omega
      have HO1 := HO.out
      rw [List.take_of_length_le (by rw [List.length_map, ← HP.out.1]; exact Nat.le_refl _), List.take_of_length_le (by rw [← HM.out.1]; exact Nat.le_refl _)] at HO1
      clear HO
      have HO := Aside0.mk HO1
      clear HO1 hd hge hkg hk
      go_wp2
      go_loopg [12] (m2 + 1) (fun gk i W => ∃ k : Nat, i = .int .i64 (k : Int) ∧ k ≤ m2 ∧ m2 + 1 - k ≤ gk ∧ Aside0 (kNode.R 119 W W2.heap.size (fun _ => True) (.slice (some ⟨g, 0, none⟩) n c3) (putRow (putRow body (L.map partOf) ls) ((X.map partOf).take k) (es.take k))) ∧ Aside0 (Below W2.heap.size W2 W))
      case atStart => exact ⟨0, rfl, Nat.zero_le _, by omega, ⟨by simpa [putRow] using HO.out⟩, HB3⟩
      case round =>
        clear HO HB3
        obtain ⟨k, rfl, hk, hkg, HO, HB3⟩ := hrel
        rcases Nat.lt_or_ge k m2 with hlt | hge
        · have hd : decide (k < m2) = true := decide_eq_true hlt
          have hkl : k < X.length := by rw [← HP.out.2]; exact hlt
          have hkt : k < es.length := by rw [← HM.out.2]; exact hlt
          obtain ⟨sd, se, s0, s1, s2, s3, s4⟩ := C_spotN (Kd.C_below (Kd.R_reads' R2.out).2.2 HB3.out) k hkl
          obtain ⟨x, hx⟩ : ∃ x, x = X[k] := ⟨_, rfl⟩
          obtain ⟨hpart, j, hj, hjb⟩ := HSP.out.2 X[k] (List.getElem_mem _)
          rw [← hx] at s0 s1 hpart hj
          obtain ⟨x0, x1, x2, x3⟩ := x
          simp only at s0 s1 hpart hj
          subst hj
          subst hpart
          have HXK := Aside0.mk hx
          have hol : (putRow (putRow body (L.map partOf) ls) ((X.map partOf).take k) (es.take k)).length = n := by rw [putRow_len, putRow_len, HN.out]
          obtain ⟨⟨u0, o0⟩, ⟨u1, o1⟩, of, hBg, cells, hgc⟩ := node_cells HO.out j (by rw [hol]; exact hjb) 2
          obtain ⟨td, te, t0, t1⟩ := C_termN (Kd.C_below (by rw [← HM.out.2]; exact HT.out.2) (below_step HB2.out HB3.out)) k hkt
          obtain ⟨t, ht⟩ : ∃ t, t = es[k] := ⟨_, rfl⟩
          rw [← ht] at t0 t1
          have HTT := Aside0.mk ht
          have HBG := Aside0.mk hBg
          have hjn : (j : Int) < (n : Int) := by omega
          clear hx ht s1 s2 s3 s4 hBg hgc
          cases se
          cases te
          have hnext : Aside0 (∀ W, kNode.R 119 W W2.heap.size (fun _ => True) (.slice (some ⟨g, 0, none⟩) n c3) (putRow (putRow body (L.map partOf) ls) ((X.map partOf).take k) (es.take k)) → kNode.R 119 ((W.setCell ⟨g, j * 10 + partOff 2, none⟩ (.bool t.f0)).setCell ⟨g, j * 10 + partOff 2 + 1, none⟩ (.int .u64 t.f1)) W2.heap.size (fun _ => True) (.slice (some ⟨g, 0, none⟩) n c3) (putRow (putRow body (L.map partOf) ls) ((X.map partOf).take (k + 1)) (es.take (k + 1)))) := ⟨fun W h => by
            rw [putRow_next _ _ _ k (by rw [List.length_map]; exact hkl) hkt, List.getElem_map, ← HXK.out, ← HTT.out]
            show kNode.R _ _ _ _ _ (putOne _ ((j : Int), 2, x2) t)
            rw [putOne_set _ j 2 x2 t (by rw [hol]; exact hjb)]
            exact node_term h j (by rw [hol]; exact hjb) 2 t⟩
          clear hol
          have o0' : wr.cell? ⟨g, j * 10 + 8, none⟩ = some (.bool u0) := o0
          have o1' : wr.cell? ⟨g, j * 10 + 8 + 1, none⟩ = some (.int .u64 u1) := o1
          clear o0 o1
          go_wp2
          go_region_with (fail)
          all_goals (
            go_wp2
            go_roundg (gk - 1)
            case measure => omega
            case rel => exact ⟨k + 1, by go_num, by omega, by omega, ⟨hnext.out _ HO.out⟩, ⟨by repeat (first | exact HB3.out | exact HBG.out | refine Below.drew ?_ | refine below_set ?_ _ ?_)⟩⟩)
        · have hd : decide (k < m2) = false := decide_eq_false (by omega)
          obtain rfl : m2 = k := by omega
          have HO1 := HO.out
          rw [List.take_of_length_le (by rw [List.length_map, ← HP.out.2]; exact Nat.le_refl _), List.take_of_length_le (by rw [← HM.out.2]; exact Nat.le_refl _), HPB.out] at HO1
          have hlen : n = (putB body ls es).length := R_len HO1
          have HC := Aside0.mk (Kd.R_reads' HO1).2.2
          have HLN := Aside0.mk hlen
          clear HO1 hlen
          go_wp2
          go_ret2
          rw [HE.out]
          exact ⟨⟨some ⟨g, 0, none⟩, c3, by rw [← HLN.out]; rfl, HC.out⟩, below_step HB2.out HB3.out⟩
end Ref08
end Go.Proofs.YtdecijmncpbheaaGreatDoor
