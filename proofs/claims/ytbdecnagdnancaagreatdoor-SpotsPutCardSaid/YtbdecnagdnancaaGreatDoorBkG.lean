/- The book of lists: what one kind's lists keep while another kind's are filled, grown, looked at (plain). -/
import Derived.Test.YtbdecnagdnancaaGreatDoorBkF

namespace Go.Proofs.YtbdecnagdnancaaGreatDoor
open Go.RowKit Go.Proofs.YtbdecnagdnancaaGreatDoorW.PrintWords Go.Proofs.YtbdecnagdnancaaGreatDoorW.PrintLast Go.Proofs.YtbdecnagdnancaaGreatDoorW.PrintMore
set_option linter.unusedVariables false
set_option linter.unusedSimpArgs false
namespace Bk
theorem Kept2.refl' (e e2 base : Nat) (w : World) : Kept2 e e2 base w w := Kept2.refl e e2 base w
theorem KeptE.two {e e2 base : Nat} {w W : World} (h : KeptE e base w W) : Kept2 e e2 base w W := ⟨h.below, fun k o ho h1 _ => h.same k o ho h1⟩
theorem Kept2.box {e e2 t base b : Nat} {w W : World} {cs : Array Value} (h : Kept2 e e2 base w W) (hb : w.heap[b]? = some (.cells cs t (0, 0))) (h1 : t ≠ e) (h2 : t ≠ e2) : W.heap[b]? = some (.cells cs t (0, 0)) :=
  h.same b _ hb (fun cells he => by injection he with _ h3; exact h1 h3) (fun cells he => by injection he with _ h3; exact h2 h3)
theorem R_keep2 {α : Type} {d : Kd α} {e e2 t base base' : Nat} {ok : Nat → Prop} {w W : World} {v : Value} {xs : List α} (h : d.R t w base' ok v xs) (hE : d.E = []) (h1 : t ≠ e) (h2 : t ≠ e2) (hk : Kept2 e e2 base w W) : d.R t W base' ok v xs :=
  Kd.R_mono (Kd.R_step (Kd.R_tight hE h) (fun k hk' _ => by
    obtain ⟨cs, hc⟩ := own_typed (Kd.R_own h).choose_spec k hk'.symm
    exact (hk.box hc h1 h2).trans hc.symm)) (fun k hk' => h.1 k hk'.symm)
theorem RC.keep2 {α : Type} {d : Kd α} {e e2 t base base' : Nat} {w W : World} {n c : Nat} {A : Option Addr} {xs : List α} (h : RC d t w base' A n c xs) (hE : d.E = []) (h1 : t ≠ e) (h2 : t ≠ e2) (hk : Kept2 e e2 base w W) : RC d t W base' A n c xs := by
  obtain ⟨q, hq, h⟩ := h
  exact ⟨q, hq, R_keep2 h hE h1 h2 hk⟩
section
variable {α : Type}
/-- One kind's lists: those that are held, and what they read. -/
structure Pk (d : Kd α) (e eH b0 : Nat) (A : Option Addr) (N c : Nat) (hs : List Hd) (cur : Nat → List α) (W : World) : Prop where
  held : kHeld.R eH W b0 (fun _ => True) (.slice A N c) hs
  lists : Lists d e b0 hs W cur
theorem Pk.keep {d : Kd α} {e eH b0 : Nat} {A : Option Addr} {N c : Nat} {hs : List Hd} {cur : Nat → List α} {W V : World} {e1 e2 : Nat} (h : Pk d e eH b0 A N c hs cur W) (hE : d.E = []) (k : Kept2 e1 e2 b0 W V) (h1 : e ≠ e1) (h2 : e ≠ e2) (h3 : eH ≠ e1) (h4 : eH ≠ e2) : Pk d e eH b0 A N c hs cur V :=
  ⟨R_keep2 h.held rfl h3 h4 k, fun j x hx => (h.lists j x hx).keep2 hE h1 h2 k⟩
theorem Pk.below {d : Kd α} {e eH b0 : Nat} {A : Option Addr} {N c : Nat} {hs : List Hd} {cur : Nat → List α} {W V : World} (h : Pk d e eH b0 A N c hs cur W) (hb : Below W.heap.size W V) : Pk d e eH b0 A N c hs cur V :=
  ⟨Kd.R_below h.held hb, fun j x hx => (h.lists j x hx).below hb⟩
/-- One kind's lists, grown. -/
structure Gr (d : Kd α) (e eH b0 S0 : Nat) (mark : Nat → α) (A : Option Addr) (N c : Nat) (hs hs2 : List Hd) (W : World) : Prop where
  same : Same hs hs2
  held : kHeld.R eH W b0 (fun _ => True) (.slice A N c) hs2
  lists : Lists d e b0 hs W (filled mark hs)
  longs : Longs d e b0 S0 mark hs2 N W
theorem Gr.keep {d : Kd α} {e eH b0 S0 : Nat} {mark : Nat → α} {A : Option Addr} {N c : Nat} {hs hs2 : List Hd} {W V : World} {e1 e2 : Nat} (h : Gr d e eH b0 S0 mark A N c hs hs2 W) (hE : d.E = []) (k : Kept2 e1 e2 b0 W V) (h1 : e ≠ e1) (h2 : e ≠ e2) (h3 : eH ≠ e1) (h4 : eH ≠ e2) : Gr d e eH b0 S0 mark A N c hs hs2 V :=
  ⟨h.same, R_keep2 h.held rfl h3 h4 k, fun j x hx => (h.lists j x hx).keep2 hE h1 h2 k, fun j x hj hx => ⟨(h.longs j x hj hx).1, (h.longs j x hj hx).2.1.keep2 hE h1 h2 k, (h.longs j x hj hx).2.2⟩⟩
theorem Gr.below {d : Kd α} {e eH b0 S0 : Nat} {mark : Nat → α} {A : Option Addr} {N c : Nat} {hs hs2 : List Hd} {W V : World} (h : Gr d e eH b0 S0 mark A N c hs hs2 W) (hb : Below W.heap.size W V) : Gr d e eH b0 S0 mark A N c hs hs2 V :=
  ⟨h.same, Kd.R_below h.held hb, fun j x hx => (h.lists j x hx).below hb, fun j x hj hx => ⟨(h.longs j x hj hx).1, (h.longs j x hj hx).2.1.below hb, (h.longs j x hj hx).2.2⟩⟩
theorem Gr.reads {d : Kd α} {e eH b0 S0 : Nat} {mark : Nat → α} {A : Option Addr} {N c : Nat} {hs hs2 : List Hd} {W : World} (h : Gr d e eH b0 S0 mark A N c hs hs2 W) (hN : N = hs.length) (hn : ∀ x ∈ hs, x.n ≤ 1000 ∧ x.k ≤ 1000) : N = hs2.length ∧ kHeld.C W A N hs2 ∧ Reads d mark hs2 W := by
  have hl : N = hs2.length := by rw [hN, h.same.1]
  refine ⟨hl, ?_, fun j x hx => ?_⟩
  · have := (Kd.R_reads' h.held).2.2
    rwa [← hl] at this
  · obtain ⟨y, hy, hA, hyn, hyc, hyk⟩ := h.same.2 j x hx
    have hj : j < N := by rw [hl]; exact (List.getElem?_eq_some_iff.1 hx).1
    obtain ⟨l1, l2, _⟩ := h.longs j x hj hx
    have hb := hn y (List.mem_of_getElem? hy)
    refine ⟨l1, by omega, by omega, ?_, ?_⟩
    · have h1 := (h.lists j y hy).reads.2
      rw [filled, hy] at h1
      simp only [Option.map_some, Option.getD_some] at h1
      rwa [hA, hyn, hyk]
    · exact l2.reads.2
theorem Pk.nil (d : Kd α) (e eH b0 : Nat) (cur : Nat → List α) (W : World) : Pk d e eH b0 none 0 0 [] cur W := ⟨Kd.R_nil _ _ _ _ _, fun j x hx => by simp at hx⟩
theorem Lists.nil {d : Kd α} {e b0 : Nat} {W : World} : Lists d e b0 [] W (fun _ => []) := fun j x hx => by simp at hx
theorem Lists.add {d : Kd α} {e b0 : Nat} {hs : List Hd} {cur : Nat → List α} {W : World} (h : Lists d e b0 hs W cur) {x : Hd} {ys : List α} (hr : RC d e W b0 x.A x.n x.c ys) : Lists d e b0 (hs ++ [x]) W (fun j => if j < hs.length then cur j else ys) := by
  intro j y hy
  by_cases hj : j < hs.length
  · rw [List.getElem?_append_left hj] at hy
    simp only [if_pos hj]
    exact h j y hy
  · rw [List.getElem?_append_right (by omega)] at hy
    obtain ⟨h1, h2⟩ := List.getElem?_eq_some_iff.1 hy
    rw [List.length_singleton] at h1
    have : j - hs.length = 0 := by omega
    simp only [this, List.getElem_singleton] at h2
    subst h2
    simp only [if_neg hj]
    exact hr
end
section
variable {α : Type}
def GrE (d : Kd α) (e eH b0 : Nat) (mark : Nat → α) (A : Option Addr) (N c : Nat) (hs hs2 : List Hd) (W : World) : Prop := ∃ S0, Gr d e eH b0 S0 mark A N c hs hs2 W
theorem GrE.keep {d : Kd α} {e eH b0 : Nat} {mark : Nat → α} {A : Option Addr} {N c : Nat} {hs hs2 : List Hd} {W V : World} {e1 e2 : Nat} (h : GrE d e eH b0 mark A N c hs hs2 W) (hE : d.E = []) (k : Kept2 e1 e2 b0 W V) (h1 : e ≠ e1) (h2 : e ≠ e2) (h3 : eH ≠ e1) (h4 : eH ≠ e2) : GrE d e eH b0 mark A N c hs hs2 V := by
  obtain ⟨S0, h⟩ := h
  exact ⟨S0, h.keep hE k h1 h2 h3 h4⟩
theorem GrE.below {d : Kd α} {e eH b0 : Nat} {mark : Nat → α} {A : Option Addr} {N c : Nat} {hs hs2 : List Hd} {W V : World} (h : GrE d e eH b0 mark A N c hs hs2 W) (hb : Below W.heap.size W V) : GrE d e eH b0 mark A N c hs hs2 V := by
  obtain ⟨S0, h⟩ := h
  exact ⟨S0, h.below hb⟩
theorem GrE.reads {d : Kd α} {e eH b0 : Nat} {mark : Nat → α} {A : Option Addr} {N c : Nat} {hs hs2 : List Hd} {W : World} (h : GrE d e eH b0 mark A N c hs hs2 W) (hN : N = hs.length) (hn : ∀ x ∈ hs, x.n ≤ 1000 ∧ x.k ≤ 1000) : N = hs2.length ∧ kHeld.C W A N hs2 ∧ Reads d mark hs2 W := by
  obtain ⟨S0, h⟩ := h
  exact h.reads hN hn
end
theorem Apart.nil : Apart [] := fun i j x y h => by simp at h
theorem Apart.one (x : Hd) : Apart [x] := fun i j a b h1 h2 hne => by
  have h1 := (List.getElem?_eq_some_iff.1 h1).1
  have h2 := (List.getElem?_eq_some_iff.1 h2).1
  simp at h1 h2
  omega
theorem Apart.add {hs : List Hd} (h : Apart hs) (x : Hd) (hx : ∀ y ∈ hs, ∀ a b, y.A = some a → x.A = some b → a.block ≠ b.block) : Apart (hs ++ [x]) := by
  have key : ∀ (i : Nat) (y : Hd), (hs ++ [x])[i]? = some y → (i < hs.length ∧ hs[i]? = some y) ∨ (i = hs.length ∧ y = x) := fun i y hy => by
    by_cases hi : i < hs.length
    · rw [List.getElem?_append_left hi] at hy
      exact .inl ⟨hi, hy⟩
    · rw [List.getElem?_append_right (by omega)] at hy
      obtain ⟨h1, h2⟩ := List.getElem?_eq_some_iff.1 hy
      rw [List.length_singleton] at h1
      have : i - hs.length = 0 := by omega
      simp only [this, List.getElem_singleton] at h2
      exact .inr ⟨by omega, h2.symm⟩
  intro i j y z hy hz hne a b ha hb
  rcases key i y hy with ⟨h1, h2⟩ | ⟨h1, rfl⟩
  · rcases key j z hz with ⟨h3, h4⟩ | ⟨h3, rfl⟩
    · exact h i j y z h2 h4 hne a b ha hb
    · exact hx y (List.mem_of_getElem? h2) a b ha hb
  · rcases key j z hz with ⟨h3, h4⟩ | ⟨h3, rfl⟩
    · exact fun e => hx z (List.mem_of_getElem? h4) b a hb ha e.symm
    · omega
end Bk
end Go.Proofs.YtbdecnagdnancaaGreatDoor
