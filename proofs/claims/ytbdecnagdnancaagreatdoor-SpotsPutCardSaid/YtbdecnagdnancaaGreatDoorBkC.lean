/- The book of lists: the kind Node. -/
import Derived.Test.YtbdecnagdnancaaGreatDoorBkB
import Derived.Test.YtbdecnagdnancaaGreatDoorTwB
import Derived.Deep.Cut

namespace Go.Proofs.YtbdecnagdnancaaGreatDoor
open Go.RowKit Go.Proofs.YtbdecnagdnancaaGreatDoorW.PrintWords Go.Proofs.YtbdecnagdnancaaGreatDoorW.PrintLast Go.Proofs.YtbdecnagdnancaaGreatDoorW.PrintMore
set_option linter.unusedVariables false
set_option linter.unusedSimpArgs false
namespace Bk
/-- A held list: what it is, what it has grown to, its number. -/
structure Hd where
  A : Option Addr
  n : Nat
  c : Nat
  B : Option Addr
  m : Nat
  q : Nat
  k : Nat
def heldC (x : Hd) : List Value := [.slice x.A x.n x.c, .slice x.B x.m x.q, .int .i64 (x.k : Int)]
def kHeld : Kd Hd where
  sz := 3
  E := []
  K := fun _ x cs => cs = heldC x
  M := fun _ _ _ x cs => cs = heldC x
  K_len := fun h => by rw [h]; rfl
  K_one := fun h => by rw [h]; intro v hv; simp [heldC] at hv; rcases hv with rfl | rfl | rfl <;> rfl
  K_below := fun _ h => h
  K_of_M := fun h => h
  M_mono := fun _ h => h
  M_bound := fun h => h
  M_move := fun _ h => h
  M_lower := fun _ h => h
/-- Element i of the held lists, its cells. -/
theorem C_held {w : World} {A : Option Addr} {xs : List Hd} {n : Nat} (h : kHeld.C w A n xs) (hn : n = xs.length) (j : Nat) (hj : j < xs.length) : ∃ ad, A = some ad ∧
    w.cell? (ad.add (j * 3)) = some (.slice xs[j].A xs[j].n xs[j].c) ∧ w.cell? ⟨(ad.add (j * 3)).block, (ad.add (j * 3)).off + 1, none⟩ = some (.slice xs[j].B xs[j].m xs[j].q) ∧ w.cell? ⟨(ad.add (j * 3)).block, (ad.add (j * 3)).off + 2, none⟩ = some (.int .i64 (xs[j].k : Int)) := by
  subst hn
  obtain ⟨_, _, hc⟩ := h
  obtain ⟨ad, e, hc⟩ := hc (by omega)
  obtain ⟨c, _, hk, hcc⟩ := hc j xs[j] (List.getElem?_eq_getElem hj)
  have hk : c = heldC xs[j] := hk
  subst hk
  refine ⟨ad, e, ?_, ?_, ?_⟩
  · exact hcc 0 _ rfl
  · rw [← add_field _ _ 1 (by omega)]; exact hcc 1 _ rfl
  · rw [← add_field _ _ 2 (by omega)]; exact hcc 2 _ rfl
theorem markNode_calls (w : World) (k : Nat) (hk : k ≤ 1000) : Calls Tryz.prog 152 #[.int .i64 (k : Int)] w fun e w' => e = .returned (.agg #[.int .u8 0, .int .i64 (-(k : Int)), .string ⟨#[]⟩, .int .i64 0, .bool false, .int .u64 0, .bool false, .int .u64 0, .bool false, .int .u64 0]) ∧ Below w.heap.size w w' := by
  go_enter Tryz.func152, Tryz.ntmps152
  go_wp2
  exact bodyPost_ret (v := .agg #[.int .u8 0, .int .i64 (-(k : Int)), .string ⟨#[]⟩, .int .i64 0, .bool false, .int .u64 0, .bool false, .int .u64 0, .bool false, .int .u64 0]) (by simp [results, Tryz.results152, go_sem]) rfl ⟨rfl, below_alloc (Below.refl _ _) _⟩
theorem isNode_calls (w : World) (f0 f1 f3 : Int) (f2 : ByteArray) (a0 b0 c0 : Bool) (a1 b1 c1 : Int) (k : Nat) (hk : k ≤ 1000) : Calls Tryz.prog 167 #[.agg #[.int .u8 f0, .int .i64 f1, .string f2, .int .i64 f3, .bool a0, .int .u64 a1, .bool b0, .int .u64 b1, .bool c0, .int .u64 c1], .int .i64 (k : Int)] w fun e w' => e = .returned (.bool (f1 == -(k : Int))) ∧ Below w.heap.size w w' := by
  go_enter Tryz.func167, Tryz.ntmps167
  go_wp2
  go_ret
  exact ⟨rfl, below_alloc (Below.refl _ _) _⟩
/-- Nothing but blocks of type e, from base on, has changed. -/
structure KeptE (e : TypeId) (base : Nat) (w W : World) : Prop where
  below : Below base w W
  same : ∀ (k : Nat) (o : Obj), w.heap[k]? = some o → (∀ cells, o ≠ .cells cells e (0, 0)) → W.heap[k]? = some o
  kind : ∀ (k : Nat) cells, w.heap[k]? = some (.cells cells e (0, 0)) → ∃ cells', W.heap[k]? = some (.cells cells' e (0, 0))
theorem KeptE.refl (e base : Nat) (w : World) : KeptE e base w w := ⟨Below.refl _ _, fun _ _ h _ => h, fun _ _ h => ⟨_, h⟩⟩
theorem KeptE.trans {e base : Nat} {w W V : World} (h : KeptE e base w W) (k : KeptE e base W V) : KeptE e base w V :=
  ⟨h.below.trans k.below, fun i o ho hn => k.same i o (h.same i o ho hn) hn, fun i cs hc => by obtain ⟨cs', hc'⟩ := h.kind i cs hc; exact k.kind i cs' hc'⟩
theorem KeptE.of_below {e base : Nat} {w W : World} (h : Below w.heap.size w W) (hb : base ≤ w.heap.size) : KeptE e base w W :=
  ⟨h.mono hb, fun i o ho _ => blk_below ho h, fun i cs hc => ⟨cs, blk_below hc h⟩⟩
theorem KeptE.grown {e base g : Nat} {w W : World} (hg : w.grownBy W (some g)) (hb : base ≤ g) (hs : base ≤ w.heap.size) {c c' : Array Value} (h1 : w.heap[g]? = some (.cells c e (0, 0))) (h2 : W.heap[g]? = some (.cells c' e (0, 0))) : KeptE e base w W := by
  refine ⟨(Below.refl base w).grown hg hs (fun k hk => by injection hk with hk; omega), fun k o ho hn => ?_, fun k cs hc => ?_⟩
  · refine blk_grown ho hg (fun he => ?_)
    injection he with he
    subst he
    rw [h1] at ho
    injection ho with ho
    exact hn c ho.symm
  · by_cases hk : k = g
    · subst hk; exact ⟨c', h2⟩
    · exact ⟨cs, blk_grown hc hg (fun he => hk (by injection he))⟩
theorem R_keepE {α : Type} {d : Kd α} {e e' base base' : Nat} {ok : Nat → Prop} {w W : World} {v : Value} {xs : List α} (h : d.R e' w base' ok v xs) (hE : d.E = []) (hne : e' ≠ e) (hk : KeptE e base w W) : d.R e' W base' ok v xs :=
  Kd.R_mono (Kd.R_step (Kd.R_tight hE h) (fun k hk' _ => by
    obtain ⟨cs, hc⟩ := own_typed (Kd.R_own h).choose_spec k hk'.symm
    exact (hk.same k _ hc (fun cells he => by injection he with _ h2; exact hne h2)).trans hc.symm)) (fun k hk' => h.1 k hk'.symm)
/-- The lists that are held lie apart. -/
def Apart (hs : List Hd) : Prop := ∀ (i j : Nat) (x y : Hd), hs[i]? = some x → hs[j]? = some y → i ≠ j → ∀ a b, x.A = some a → y.A = some b → a.block ≠ b.block
/-- A row of the call's own that is read through a slice of no more capacity. -/
def RC {α : Type} (d : Kd α) (e : TypeId) (W : World) (base : Nat) (A : Option Addr) (n c : Nat) (xs : List α) : Prop := ∃ q, c ≤ q ∧ d.R e W base (fun _ => True) (.slice A n q) xs
theorem RC.of {α : Type} {d : Kd α} {e : TypeId} {W : World} {base n c : Nat} {A : Option Addr} {xs : List α} (h : d.R e W base (fun _ => True) (.slice A n c) xs) : RC d e W base A n c xs := ⟨c, Nat.le_refl _, h⟩
theorem RC.below {α : Type} {d : Kd α} {e : TypeId} {W V : World} {base n c : Nat} {A : Option Addr} {xs : List α} (h : RC d e W base A n c xs) (hb : Below W.heap.size W V) : RC d e V base A n c xs := by
  obtain ⟨q, hq, h⟩ := h
  exact ⟨q, hq, Kd.R_below h hb⟩
theorem RC.grown2 {α : Type} {d : Kd α} {e : TypeId} {W V : World} {base n c : Nat} {A : Option Addr} {xs : List α} {row : Option Nat} (h : RC d e W base A n c xs) (hE : d.E = []) (hg : W.grownBy V row) (hne : ∀ k, row = some k → some k ≠ (Value.slice A n c).ownBlock) : RC d e V base A n c xs := by
  obtain ⟨q, hq, h⟩ := h
  exact ⟨q, hq, Kd.R_grown2 h hE hg (fun k hk he => hne k hk (by cases A <;> exact he))⟩
theorem RC.reads {α : Type} {d : Kd α} {e : TypeId} {W : World} {base n c : Nat} {A : Option Addr} {xs : List α} (h : RC d e W base A n c xs) : n = xs.length ∧ d.C W A n xs := by
  obtain ⟨q, hq, h⟩ := h
  obtain ⟨rfl, _, hc⟩ := Kd.R_reads' h
  exact ⟨rfl, hc⟩
theorem RC.typed {α : Type} {d : Kd α} {e : TypeId} {W : World} {base n c : Nat} {A : Option Addr} {xs : List α} (h : RC d e W base A n c xs) (a : Addr) (ha : A = some a) : base ≤ a.block ∧ a.block < W.heap.size ∧ ∃ cells, W.heap[a.block]? = some (.cells cells e (0, 0)) := by
  obtain ⟨q, hq, h⟩ := h
  have o : (Value.slice A n q).ownBlock = some a.block := by rw [ha]; rfl
  exact ⟨own_base (Kd.R_own h).choose_spec _ o, own_lt (Kd.R_own h).choose_spec _ o, own_typed (Kd.R_own h).choose_spec _ o⟩
theorem RC.keepE {α : Type} {d : Kd α} {e e' base base' : Nat} {w W : World} {n c : Nat} {A : Option Addr} {xs : List α} (h : RC d e' w base' A n c xs) (hE : d.E = []) (hne : e' ≠ e) (hk : KeptE e base w W) : RC d e' W base' A n c xs := by
  obtain ⟨q, hq, h⟩ := h
  exact ⟨q, hq, R_keepE h hE hne hk⟩
theorem RC.lower {α : Type} {d : Kd α} {e : TypeId} {W : World} {base base' n c : Nat} {A : Option Addr} {xs : List α} (h : RC d e W base A n c xs) (hb : base' ≤ base) : RC d e W base' A n c xs := by
  obtain ⟨q, hq, h⟩ := h
  exact ⟨q, hq, Kd.R_lower h hb⟩
theorem RC.set {α : Type} {d : Kd α} {e : TypeId} {w : World} {base n c : Nat} {A : Option Addr} {xs : List α} (h : RC d e w base A n c xs) {g t : Nat} {cells : Array Value} (hb : w.heap[g]? = some (.cells cells t (0, 0))) (ht : ∀ q, q ∈ e :: d.E → q ≠ t) (j : Nat) (u : Value) : RC d e (w.setCell ⟨g, j, none⟩ u) base A n c xs := by
  obtain ⟨q, hq, h⟩ := h
  exact ⟨q, hq, Kd.R_set h hb ht j u⟩
/-- Each of the lists, as it reads. -/
def Lists {α : Type} (d : Kd α) (e base : Nat) (hs : List Hd) (W : World) (cur : Nat → List α) : Prop := ∀ (j : Nat) (x : Hd), hs[j]? = some x → RC d e W base x.A x.n x.c (cur j)
theorem Lists.below {α : Type} {d : Kd α} {e base : Nat} {hs : List Hd} {W V : World} {cur : Nat → List α} (h : Lists d e base hs W cur) (hb : Below W.heap.size W V) : Lists d e base hs V cur := fun j x hx => (h j x hx).below hb
theorem Lists.put {α : Type} {d : Kd α} {e base g : Nat} {hs : List Hd} {W V : World} {cur : Nat → List α} (h : Lists d e base hs W cur) (hE : d.E = []) (ha : Apart hs) {i : Nat} {x : Hd} (hx : hs[i]? = some x) {ad : Addr} (hA : x.A = some ad) (hgb : ad.block = g) (hg : W.grownBy V (some g)) {ys : List α} (hr : RC d e V base x.A x.n x.c ys) : Lists d e base hs V (fun j => if j = i then ys else cur j) := by
  intro j y hy
  show RC d e V base y.A y.n y.c (if j = i then ys else cur j)
  by_cases hj : j = i
  · subst hj
    rw [hx] at hy
    injection hy with hy
    subst hy
    rw [if_pos rfl]
    exact hr
  · rw [if_neg hj]
    refine (h j y hy).grown2 hE hg (fun k hk he => ?_)
    injection hk with hk
    subst hk
    cases hyA : y.A with
    | none => rw [hyA] at he; cases he
    | some b =>
      rw [hyA] at he
      have hb : g = b.block := by simpa [Value.ownBlock] using he
      exact ha i j x y hx hy (fun e => hj e.symm) ad b hA hyA (by rw [hgb, hb])
theorem R_has {α : Type} {d : Kd α} {e base g n cap : Nat} {ok : Nat → Prop} {W : World} {xs : List α} (h : d.R e W base ok (.slice (some ⟨g, 0, none⟩) n cap) xs) (z : α) (k : Nat) (hk : k < n) (j : Nat) (hj : j < d.sz) : ∃ v, W.cell? ⟨g, k * d.sz + j, none⟩ = some v ∧ W.frozen? ⟨g, k * d.sz + j, none⟩ = false := by
  obtain ⟨c, hcl, _, hcc, hf⟩ := Kd.R_elem h z (k : Int) (by omega) (by omega)
  exact ⟨c[j]'(by omega), hcc j _ (List.getElem?_eq_getElem _), hf j⟩
theorem R_puts {α : Type} {d : Kd α} {e base g n cap : Nat} {W : World} {xs : List α} (h : d.R e W base (fun _ => True) (.slice (some ⟨g, 0, none⟩) n cap) xs) (k : Nat) (hk : k < n) (x' : α) (seg : List Value) (hseg : seg.length = d.sz) (hM : d.M W base (fun _ => False) x' seg) :
    d.R e (W.setCells g (k * d.sz) seg) base (fun _ => True) (.slice (some ⟨g, 0, none⟩) n cap) (xs.set k x') ∧ W.grownBy (W.setCells g (k * d.sz) seg) (some g) := by
  obtain ⟨c, hcl, _, hcc, _⟩ := Kd.R_elem h x' (k : Int) (by omega) (by omega)
  have := Kd.R_seg h (k : Int) (by omega) (by omega) (seg := seg) (j := 0) hcl hcc (by omega) (x' := x') (okp := fun _ => False) (by rw [List.take_zero, List.nil_append, Nat.zero_add, hseg, ← hcl, List.drop_length, List.append_nil]; exact hM) (fun _ h => h.elim)
  rwa [Int.toNat_natCast, Nat.add_zero] at this
theorem marks_step {α : Type} (xs : List α) (m : α) (k : Nat) (hk : k < xs.length) : (List.replicate k m ++ xs.drop k).set k m = List.replicate (k + 1) m ++ xs.drop (k + 1) := by
  rw [List.set_append_right _ _ (by simp), List.length_replicate, Nat.sub_self, List.drop_eq_getElem_cons hk, List.set_cons_zero, List.replicate_succ', List.append_assoc]
  rfl
def markN (k : Nat) : Node := ⟨0, -(k : Int), ⟨#[]⟩, 0, ⟨false, 0⟩, ⟨false, 0⟩, ⟨false, 0⟩⟩
theorem Lists.congr {α : Type} {d : Kd α} {e base : Nat} {hs : List Hd} {W : World} {cur cur' : Nat → List α} (h : Lists d e base hs W cur) (he : ∀ j, j < hs.length → cur j = cur' j) : Lists d e base hs W cur' := fun j x hx => by
  have hj : j < hs.length := (List.getElem?_eq_some_iff.1 hx).1
  rw [← he j hj]; exact h j x hx
theorem Lists.store {α : Type} {d : Kd α} {e base g : Nat} {hs : List Hd} {W V V' : World} {cur : Nat → List α} (h : Lists d e base hs W cur) (hE : d.E = []) (ha : Apart hs) {i : Nat} {x : Hd} (hx : hs[i]? = some x) (hA : x.A = some ⟨g, 0, none⟩) (hb : Below W.heap.size W V) (hbs : base ≤ W.heap.size) (hg : V.grownBy V' (some g)) {ys : List α} (hr : RC d e V' base x.A x.n x.c ys) :
    Lists d e base hs V' (fun j => if j = i then ys else cur j) ∧ KeptE e base W V' := by
  obtain ⟨r1, _, c, hc⟩ := ((h.below hb) i x hx).typed _ hA
  obtain ⟨_, _, c', hc'⟩ := hr.typed _ hA
  exact ⟨(h.below hb).put hE ha hx hA rfl hg hr, (KeptE.of_below hb hbs).trans (KeptE.grown hg r1 (Nat.le_trans hbs hb.size) hc hc')⟩
theorem sizeN : (Tryz.prog.info? 122).map (·.size) = some 10 := by kernel_rfl
def filledN (hs : List Hd) (j : Nat) : List Node := ((hs[j]?).map fun x => List.replicate x.n (markN x.k)).getD []
theorem nodeHas {e base g n cap : Nat} {ok : Nat → Prop} {W : World} {xs : List Node} (h : kNode.R e W base ok (.slice (some ⟨g, 0, none⟩) n cap) xs) (k : Nat) (hk : k < n) : (∃ v0 v1 v2 v3 v4 v5 v6 v7 v8 v9, W.cell? ⟨g, k * 10, none⟩ = some v0 ∧ W.cell? ⟨g, k * 10 + 1, none⟩ = some v1 ∧ W.cell? ⟨g, k * 10 + 2, none⟩ = some v2 ∧ W.cell? ⟨g, k * 10 + 3, none⟩ = some v3 ∧ W.cell? ⟨g, k * 10 + 4, none⟩ = some v4 ∧ W.cell? ⟨g, k * 10 + 5, none⟩ = some v5 ∧ W.cell? ⟨g, k * 10 + 6, none⟩ = some v6 ∧ W.cell? ⟨g, k * 10 + 7, none⟩ = some v7 ∧ W.cell? ⟨g, k * 10 + 8, none⟩ = some v8 ∧ W.cell? ⟨g, k * 10 + 9, none⟩ = some v9) ∧ W.frozen? ⟨g, k * 10, none⟩ = false ∧ W.frozen? ⟨g, k * 10 + 1, none⟩ = false ∧ W.frozen? ⟨g, k * 10 + 2, none⟩ = false ∧ W.frozen? ⟨g, k * 10 + 3, none⟩ = false ∧ W.frozen? ⟨g, k * 10 + 4, none⟩ = false ∧ W.frozen? ⟨g, k * 10 + 5, none⟩ = false ∧ W.frozen? ⟨g, k * 10 + 6, none⟩ = false ∧ W.frozen? ⟨g, k * 10 + 7, none⟩ = false ∧ W.frozen? ⟨g, k * 10 + 8, none⟩ = false ∧ W.frozen? ⟨g, k * 10 + 9, none⟩ = false := by
  have H := fun j (hj : j < 10) => R_has h (markN 0) k hk j hj
  obtain ⟨v0, q0, r0⟩ := H 0 (by decide)
  obtain ⟨v1, q1, r1⟩ := H 1 (by decide)
  obtain ⟨v2, q2, r2⟩ := H 2 (by decide)
  obtain ⟨v3, q3, r3⟩ := H 3 (by decide)
  obtain ⟨v4, q4, r4⟩ := H 4 (by decide)
  obtain ⟨v5, q5, r5⟩ := H 5 (by decide)
  obtain ⟨v6, q6, r6⟩ := H 6 (by decide)
  obtain ⟨v7, q7, r7⟩ := H 7 (by decide)
  obtain ⟨v8, q8, r8⟩ := H 8 (by decide)
  obtain ⟨v9, q9, r9⟩ := H 9 (by decide)
  exact ⟨⟨v0, v1, v2, v3, v4, v5, v6, v7, v8, v9, q0, q1, q2, q3, q4, q5, q6, q7, q8, q9⟩, r0, r1, r2, r3, r4, r5, r6, r7, r8, r9⟩
set_option maxRecDepth 100000 in
set_option maxHeartbeats 16000000 in
theorem fillNode_calls (w : World) (base b0 b N c : Nat) (A : Option Addr) (ok : Nat → Prop) (hs : List Hd) (xs : Nat → List Node) (cs : Array Value) (hN : N = hs.length) (hbk : w.heap[b]? = some (.cells cs 45 (0, 0))) (hc8 : cs[8]? = some (.slice A N c))
    (hH : kHeld.R 207 w b0 ok (.slice A N c) hs) (hL : Lists kNode 122 base hs w xs) (hn : ∀ x ∈ hs, x.n ≤ 1000 ∧ x.k ≤ 1000) (ha : Apart hs) (hbs : base ≤ w.heap.size) (hN9 : N ≤ 1000) :
    Calls Tryz.prog 57 #[.pointer (some ⟨b, 0, none⟩)] w fun e w' => e = .returned (.tuple #[]) ∧ KeptE 122 base w w' ∧ Lists kNode 122 base hs w' (filledN hs) := by
  have HBK := Aside0.mk (And.intro hbk (And.intro hH (And.intro ha hn)))
  have HN := Aside0.mk hN
  have HL := Aside0.mk hL
  have HC := Aside0.mk hc8
  clear hbk hH hN ha hn hL hc8
  go_enter Tryz.func57, Tryz.ntmps57
  go_wp2
  go_loopg [2] (N + 1) (fun gk v W => ∃ i : Nat, v = .int .i64 (i : Int) ∧ i ≤ N ∧ N + 1 - i ≤ gk ∧ Aside0 (Lists kNode 122 base hs W (fun j => if j < i then filledN hs j else xs j)) ∧ Aside0 (KeptE 122 base w W))
  case atStart => exact ⟨0, rfl, Nat.zero_le _, by omega, ⟨HL.out.congr (fun j _ => by simp)⟩, ⟨KeptE.refl _ _ _⟩⟩
  case round =>
    obtain ⟨i, rfl, hi, hkg, HLW, HKW⟩ := hrel
    have gx := HKW.out.same b _ HBK.out.1 (fun cells he => by injection he with _ h2; exact absurd h2 (by decide))
    have x8 := (blk_cell gx 8).trans HC.out
    clear gx
    rcases Nat.lt_or_ge i N with hlt | hge
    · have hd : decide (i < N) = true := decide_eq_true hlt
      have hil : i < hs.length := by rw [← HN.out]; exact hlt
      have hHW := R_keepE HBK.out.2.1 rfl (by decide) HKW.out
      obtain ⟨ad, rfl, y0, y1, y2⟩ := C_held (Kd.R_reads' hHW).2.2 rfl i hil
      obtain ⟨x, hx⟩ : ∃ x, hs[i] = x := ⟨_, rfl⟩
      rw [hx] at y0 y1 y2
      obtain ⟨xA, xn, xc, xB, xm, xq, xk⟩ := x
      dsimp only at y0 y1 y2
      have hxi : hs[i]? = some ⟨xA, xn, xc, xB, xm, xq, xk⟩ := by rw [List.getElem?_eq_getElem hil, hx]
      have hb := HBK.out.2.2.2 _ (hx ▸ List.getElem_mem hil)
      dsimp only at hb
      have HX := Aside0.mk hxi
      clear hHW hx hxi
      go_wp2
      have HG : Aside0 ((wr.alloc (.cells #[.slice xA xn xc, .slice xB xm xq, .int .i64 (xk : Int)] 207)).heap[wr.heap.size]? = some (.cells #[.slice xA xn xc, .slice xB xm xq, .int .i64 (xk : Int)] 207 (0, 0))) := ⟨blk_new _ _⟩
      have HLB := Aside0.mk (HLW.out.below (below_alloc (Below.refl wr.heap.size wr) (.cells #[.slice xA xn xc, .slice xB xm xq, .int .i64 (xk : Int)] 207)))
      have HKB := Aside0.mk (HKW.out.trans (KeptE.of_below (below_alloc (Below.refl wr.heap.size wr) (.cells #[.slice xA xn xc, .slice xB xm xq, .int .i64 (xk : Int)] 207)) (Nat.le_trans hbs HKW.out.below.size)))
      generalize World.alloc wr (.cells #[.slice xA xn xc, .slice xB xm xq, .int .i64 (xk : Int)] 207) = wb at *
      clear y0 y1 y2 HLW x8
      obtain ⟨g0, rfl⟩ : ∃ g0, gk = g0 + 1 := ⟨gk - 1, by omega⟩
      go_loopg [4] (xn + 1) (fun gk v W => ∃ k : Nat, v = .int .i64 (k : Int) ∧ k ≤ xn ∧ xn + 1 - k ≤ gk ∧ Aside0 (Lists kNode 122 base hs W (fun j => if j = i then List.replicate k (markN xk) ++ (xs i).drop k else if j < i then filledN hs j else xs j)) ∧ Aside0 (KeptE 122 base wb W))
      case atStart => exact ⟨0, rfl, Nat.zero_le _, by omega, ⟨HLB.out.congr (fun j _ => by by_cases hj : j = i <;> simp [hj])⟩, ⟨KeptE.refl _ _ _⟩⟩
      case round =>
        obtain ⟨k, rfl, hk, hkg2, HLW, HKW2⟩ := hrel
        have gx := HKW2.out.same _ _ HG.out (fun cells he => by injection he with _ h2; exact absurd h2 (by decide))
        have z0 := (blk_cell gx 0).trans (show _ = some (Value.slice xA xn xc) from rfl)
        have z2 := (blk_cell gx 2).trans (show _ = some (Value.int .i64 (xk : Int)) from rfl)
        clear gx
        rcases Nat.lt_or_ge k xn with hlt2 | hge2
        · have hd2 : decide (k < xn) = true := decide_eq_true hlt2
          obtain ⟨Q, hQ, hli⟩ := HLW.out i _ HX.out
          have HLI := Aside0.mk hli
          clear hli
          obtain ⟨g, rfl⟩ := R_pos HLI.out (show 0 < xn by omega)
          have hlx : (List.replicate k (markN xk) ++ (xs i).drop k).length = xn := by
            have := (Kd.R_reads' HLI.out).1
            simp only [if_pos] at this
            exact this.symm
          have HLX := Aside0.mk hlx
          clear hlx
          go_wp2
          go_region_with (go_at_call 152; (with_reducible refine (markNode_calls _ xk hb.2).mono ?_); rintro e W4 ⟨rfl, hb4⟩; have HB4 := Aside0.mk ((Below.refl wr.heap.size wr).drew.trans hb4); clear hb4; have t0 := pw_cell_below HB4.out z0; have t2 := pw_cell_below HB4.out z2; obtain ⟨⟨v0, v1, v2, v3, v4, v5, v6, v7, v8, v9, q0, q1, q2, q3, q4, q5, q6, q7, q8, q9⟩, r0, r1, r2, r3, r4, r5, r6, r7, r8, r9⟩ := nodeHas (Kd.R_below HLI.out HB4.out) k hlt2)
          all_goals (
            go_wp2
            go_roundg (gk - 1)
            case measure => omega
            case rel =>
              have hp := R_puts (Kd.R_below HLI.out HB4.out) k hlt2 (markN xk) (nodeC (markN xk)) rfl (k122_mkM W4 base (fun _ => False) (markN xk))
              have hs5 := HLW.out.store rfl HBK.out.2.2.1 HX.out rfl HB4.out (Nat.le_trans hbs (HKB.out.trans HKW2.out).below.size) hp.2 ⟨Q, hQ, hp.1⟩
              refine ⟨k + 1, by go_num, by omega, by omega, ⟨hs5.1.congr (fun j _ => ?_)⟩, ⟨HKW2.out.trans hs5.2⟩⟩
              have hxl : k < (xs i).length := by have := HLX.out; simp only [List.length_append, List.length_replicate, List.length_drop] at this; omega
              by_cases hj : j = i
              · subst hj
                simp only [if_pos]
                exact marks_step (xs j) (markN xk) k hxl
              · rw [if_neg hj, if_neg hj, if_neg hj])
        · have hd2 : decide (k < xn) = false := decide_eq_false (by omega)
          have HE : Aside0 (k = xn) := ⟨by omega⟩
          have hxl : (xs i).drop k = [] := by
            have := (HLW.out i _ HX.out).reads.1
            simp only [if_pos, List.length_append, List.length_replicate, List.length_drop] at this
            exact List.drop_eq_nil_of_le (by omega)
          have HXL := Aside0.mk hxl
          clear hge2 hkg2 hxl
          go_wp2
          go_roundg g0
          case measure => omega
          case rel =>
            refine ⟨i + 1, by go_num, by omega, by omega, ⟨HLW.out.congr (fun j _ => ?_)⟩, ⟨HKB.out.trans HKW2.out⟩⟩
            by_cases hj : j = i
            · rw [if_pos hj, if_pos (by omega), HXL.out, List.append_nil, hj, HE.out, filledN, HX.out]
              rfl
            · by_cases hj2 : j < i
              · rw [if_neg hj, if_pos hj2, if_pos (by omega)]
              · rw [if_neg hj, if_neg hj2, if_neg (by omega)]
    · have hd : decide (i < N) = false := decide_eq_false (by omega)
      have HE : Aside0 (i = N) := ⟨by omega⟩
      clear hi hge hkg
      go_wp2
      go_end0
      exact ⟨rfl, HKW.out, HLW.out.congr (fun j hj => by rw [HE.out, HN.out, if_pos hj])⟩
end Bk
end Go.Proofs.YtbdecnagdnancaaGreatDoor
