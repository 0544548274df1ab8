/- The book of lists: what grow keeps (plain). -/
import Derived.Test.YtbdecnagdnancaaGreatDoorBkC

namespace Go.Proofs.YtbdecnagdnancaaGreatDoor
open Go.RowKit Go.Proofs.YtbdecnagdnancaaGreatDoorW.PrintWords Go.Proofs.YtbdecnagdnancaaGreatDoorW.PrintLast Go.Proofs.YtbdecnagdnancaaGreatDoorW.PrintMore
set_option linter.unusedVariables false
set_option linter.unusedSimpArgs false
namespace Bk
/-- Nothing but blocks of two types, from base on, has changed. -/
structure Kept2 (e e2 : TypeId) (base : Nat) (w W : World) : Prop where
  below : Below base w W
  same : ∀ (k : Nat) (o : Obj), w.heap[k]? = some o → (∀ cells, o ≠ .cells cells e (0, 0)) → (∀ cells, o ≠ .cells cells e2 (0, 0)) → W.heap[k]? = some o
theorem Kept2.refl (e e2 base : Nat) (w : World) : Kept2 e e2 base w w := ⟨Below.refl _ _, fun _ _ h _ _ => h⟩
theorem Kept2.trans {e e2 base : Nat} {w W V : World} (h : Kept2 e e2 base w W) (k : Kept2 e e2 base W V) : Kept2 e e2 base w V := ⟨h.below.trans k.below, fun i o ho h1 h2 => k.same i o (h.same i o ho h1 h2) h1 h2⟩
theorem Kept2.of_below {e e2 base : Nat} {w W : World} (h : Below w.heap.size w W) (hb : base ≤ w.heap.size) : Kept2 e e2 base w W := ⟨h.mono hb, fun i o ho _ _ => blk_below ho h⟩
theorem Kept2.grown {e e2 base g : Nat} {w W : World} (hg : w.grownBy W (some g)) (hb : base ≤ g) (hs : base ≤ w.heap.size) {t : TypeId} (ht : t = e ∨ t = e2) {c : Array Value} (h1 : w.heap[g]? = some (.cells c t (0, 0))) : Kept2 e e2 base w W := by
  refine ⟨(Below.refl base w).grown hg hs (fun k hk => by injection hk with hk; omega), fun k o ho hn hn2 => ?_⟩
  refine blk_grown ho hg (fun he => ?_)
  injection he with he
  subst he
  rw [h1] at ho
  injection ho with ho
  rcases ht with rfl | rfl
  · exact hn c ho.symm
  · exact hn2 c ho.symm
theorem Kept2.own {α : Type} {d : Kd α} {e e2 base : Nat} {ok : Nat → Prop} {W w1 : World} {v : Value} {xs : List α} (h : d.R e W base ok v xs) (hg : W.grownBy w1 v.ownBlock) (hs : base ≤ W.heap.size) : Kept2 e e2 base W w1 := by
  cases hv : v.ownBlock with
  | none =>
    rw [hv] at hg
    exact Kept2.of_below ((Below.refl W.heap.size W).grown hg (Nat.le_refl _) (fun k hk => by cases hk)) hs
  | some g =>
    rw [hv] at hg
    obtain ⟨c, hc⟩ := own_typed (Kd.R_own h).choose_spec g hv
    exact Kept2.grown hg (own_base (Kd.R_own h).choose_spec g hv) hs (.inl rfl) hc
/-- The held lists but for what they have grown to. -/
def Same (hs hs2 : List Hd) : Prop := hs2.length = hs.length ∧ ∀ (j : Nat) (x : Hd), hs2[j]? = some x → ∃ y, hs[j]? = some y ∧ x.A = y.A ∧ x.n = y.n ∧ x.c = y.c ∧ x.k = y.k
section
variable {α : Type}
/-- What the first i lists have grown to. -/
def Longs (d : Kd α) (e base S0 : Nat) (mark : Nat → α) (hs2 : List Hd) (i : Nat) (W : World) : Prop := ∀ (j : Nat) (x : Hd), j < i → hs2[j]? = some x → x.m = x.n + 40 ∧ RC d e W base x.B x.m x.q (List.replicate x.m (mark x.k)) ∧ ∀ b, x.B = some b → ((∃ a, x.A = some a ∧ a.block = b.block) ∨ S0 ≤ b.block)
def filled (mark : Nat → α) (hs : List Hd) (j : Nat) : List α := ((hs[j]?).map fun x => List.replicate x.n (mark x.k)).getD []
/-- The state within list i's growing: w0 the world at the call, S1 the heap's size at the round's start. -/
structure G (d : Kd α) (e eH base b0 : Nat) (mark : Nat → α) (w0 : World) (hs hs2 : List Hd) (A0 : Option Addr) (N c0 i : Nat) (x : Hd) (S1 : Nat) (W : World) (B : Option Addr) (k q : Nat) : Prop where
  row : RC d e W base B (x.n + k) q (List.replicate (x.n + k) (mark x.k))
  place : (B = x.A ∧ q = x.c) ∨ ∃ b, B = some b ∧ S1 ≤ b.block
  lists : Lists d e base hs W (filled mark hs)
  longs : Longs d e base w0.heap.size mark hs2 i W
  longsLt : ∀ (j : Nat) (y : Hd), j < i → hs2[j]? = some y → ∀ b, y.B = some b → b.block < S1
  held : kHeld.R eH W b0 (fun _ => True) (.slice A0 N c0) hs2
  kept : Kept2 e eH base w0 W
theorem G.below {d : Kd α} {e eH base b0 : Nat} {mark : Nat → α} {w0 : World} {hs hs2 : List Hd} {A0 : Option Addr} {N c0 i : Nat} {x : Hd} {S1 : Nat} {W V : World} {B : Option Addr} {k q : Nat} (g : G d e eH base b0 mark w0 hs hs2 A0 N c0 i x S1 W B k q) (hbs : base ≤ w0.heap.size) (hb : Below W.heap.size W V) : G d e eH base b0 mark w0 hs hs2 A0 N c0 i x S1 V B k q :=
  ⟨g.row.below hb, g.place, g.lists.below hb, fun j y hj hy => ⟨(g.longs j y hj hy).1, (g.longs j y hj hy).2.1.below hb, (g.longs j y hj hy).2.2⟩, g.longsLt, Kd.R_below g.held hb, g.kept.trans (Kept2.of_below hb (Nat.le_trans hbs g.kept.below.size))⟩
theorem G.step {d : Kd α} {e eH base b0 : Nat} {mark : Nat → α} {w0 : World} {hs hs2 : List Hd} {A0 : Option Addr} {N c0 i : Nat} {x : Hd} {S1 : Nat} {W w1 : World} {B : Option Addr} {k q Q : Nat} {v1 : Value} (h : G d e eH base b0 mark w0 hs hs2 A0 N c0 i x S1 W B k q) (hE : d.E = []) (hne : eH ≠ e) (ha : Apart hs) (hsame : Same hs hs2) (hx : hs2[i]? = some x) (hbs : base ≤ w0.heap.size) (hS : w0.heap.size ≤ S1) (hSW : S1 ≤ W.heap.size)
    (hlt : ∀ (j : Nat) (y : Hd), hs[j]? = some y → ∀ a, y.A = some a → a.block < w0.heap.size) (hqQ : q ≤ Q)
    (hg : W.grownBy w1 (Value.slice B (x.n + k) Q).ownBlock) (hat : (v1 = .slice B (x.n + k + 1) q ∧ d.R e w1 base (fun _ => True) (.slice B (x.n + k + 1) Q) (List.replicate (x.n + k) (mark x.k) ++ [mark x.k])) ∨ ∃ b, v1.ownBlock = some b ∧ W.heap.size ≤ b ∧ W.grownBy w1 none ∧ d.R e w1 base (fun _ => True) v1 (List.replicate (x.n + k) (mark x.k) ++ [mark x.k])) :
    ∃ B' q', v1 = .slice B' (x.n + (k + 1)) q' ∧ G d e eH base b0 mark w0 hs hs2 A0 N c0 i x S1 w1 B' (k + 1) q' := by
  have hrep : List.replicate (x.n + k) (mark x.k) ++ [mark x.k] = List.replicate (x.n + (k + 1)) (mark x.k) := by rw [← Nat.add_assoc, List.replicate_succ']
  rw [hrep] at hat
  obtain ⟨y, hy, hyA, hyn, hyc, hyk⟩ := hsame.2 i x hx
  rcases hat with ⟨hv, hR⟩ | ⟨b, hb, hle, hg0, hR⟩
  · subst hv
    rw [Nat.add_assoc] at hR ⊢
    obtain ⟨g, cap, hgv, hbg, hgl, cells, hgc⟩ := Kd.R_form hR (by rw [List.length_replicate]; omega)
    injection hgv with hB _ _
    subst hB
    have hg' : W.grownBy w1 (some g) := hg
    have hglt : g < w0.heap.size ∧ x.A = some ⟨g, 0, none⟩ ∧ q = x.c ∨ S1 ≤ g := by
      rcases h.place with ⟨h1, h2⟩ | ⟨b, h1, h2⟩
      · exact .inl ⟨hlt i y hy ⟨g, 0, none⟩ (by rw [← hyA, ← h1]), h1.symm, h2⟩
      · injection h1 with h1
        rw [← h1] at h2
        exact .inr h2
    obtain ⟨_, _, cW, hcW⟩ := h.row.typed ⟨g, 0, none⟩ rfl
    refine ⟨some ⟨g, 0, none⟩, q, rfl, ⟨⟨Q, hqQ, hR⟩, h.place, fun j z hz => ?_, fun j z hj hz => ?_, h.longsLt, Kd.R_grown2 h.held rfl hg' (fun k hk => by injection hk with hk; subst hk; exact Kd.R_ne h.held hcW hne), h.kept.trans (Kept2.grown hg' (Kd.R_base hR g rfl) (Nat.le_trans hbs h.kept.below.size) (.inl rfl) hcW)⟩⟩
    · by_cases hj : j = i ∧ x.A = some ⟨g, 0, none⟩ ∧ q = x.c
      · obtain ⟨rfl, hxA, hq⟩ := hj
        rw [hz] at hy
        injection hy with hy
        subst hy
        rw [filled, hz, ← hyA, ← hyn, ← hyc, hxA, ← hq]
        have := Kd.R_take hR (m := x.n) (by rw [List.length_replicate]; omega)
        rw [List.take_replicate, Nat.min_eq_left (by omega)] at this
        show RC d e w1 base _ _ _ (List.replicate z.n (mark z.k))
        rw [← hyn, ← hyk]
        exact ⟨Q, hqQ, this⟩
      · refine (h.lists j z hz).grown2 hE hg' (fun k' hk he => ?_)
        injection hk with hk
        subst hk
        cases hzA : z.A with
        | none => rw [hzA] at he; cases he
        | some a =>
          rw [hzA] at he
          have hb : g = a.block := by simpa [Value.ownBlock] using he
          rcases hglt with ⟨h1, h2, h3⟩ | h1
          · by_cases hji : j = i
            · exact hj ⟨hji, h2, h3⟩
            · exact ha j i z y hz hy hji a ⟨g, 0, none⟩ hzA (by rw [← hyA, h2]) hb.symm
          · have := hlt j z hz a hzA
            omega
    · obtain ⟨l1, l2, l3⟩ := h.longs j z hj hz
      refine ⟨l1, l2.grown2 hE hg' (fun k' hk he => ?_), l3⟩
      injection hk with hk
      subst hk
      cases hzB : z.B with
      | none => rw [hzB] at he; cases he
      | some b =>
        rw [hzB] at he
        have hb : g = b.block := by simpa [Value.ownBlock] using he
        rcases hglt with ⟨h1, h2, h3⟩ | h1
        · rcases l3 b hzB with ⟨a, hzA, hab⟩ | h4
          · obtain ⟨u, hu, huA, _⟩ := hsame.2 j z hz
            exact ha j i u y hu hy (by omega) a ⟨g, 0, none⟩ (by rw [← huA, hzA]) (by rw [← hyA, h2]) (by rw [hab, ← hb])
          · omega
        · have := h.longsLt j z hj hz b hzB
          omega
  · obtain ⟨B', q', hv1⟩ := Kd.R_slice hR
    rw [List.length_replicate] at hv1
    subst hv1
    have hbel : Below W.heap.size W w1 := (Below.refl _ _).grown hg0 (Nat.le_refl _) (fun k hk => by cases hk)
    have h2 := h.below hbs hbel
    refine ⟨B', q', rfl, ⟨.of hR, .inr ?_, h2.lists, h2.longs, h2.longsLt, h2.held, h2.kept⟩⟩
    cases B' with
    | none => cases hb
    | some b' =>
      refine ⟨b', rfl, ?_⟩
      have : b'.block = b := by simpa [Value.ownBlock] using hb
      omega
end
end Bk
end Go.Proofs.YtbdecnagdnancaaGreatDoor
