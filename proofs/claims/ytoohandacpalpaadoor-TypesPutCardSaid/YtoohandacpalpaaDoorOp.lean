/- What an argument that was read as data says of memory: kind by kind. Over any program: no function of the cartouche stands in it. -/
import Derived.Test.YtoohandacpalpaaDoorB
import Derived.RowKit
import Derived.ProofKit
import Derived.OpenShut
import Derived.ShutString
import Derived.LaidMore
import Derived.Deep.Slices
import Derived.Lay
import Derived.SevenTiedAt
import Derived.Stop.Joined
namespace Go.Proofs.YtoohandacpalpaaDoor
open Go.RowKit Go.Proofs.YtoohandacpalpaaDoorW.PrintWords Go.Proofs.YtoohandacpalpaaDoorW.PrintLast Go.Proofs.YtoohandacpalpaaDoorW.PrintMore
set_option linter.unusedVariables false
set_option linter.unusedSimpArgs false

/-- Cells of type t that read as data are of the kind d, and the value meets Wf. -/
def Opens {α : Type} (P : Program) (t : TypeId) (d : Kd α) (Wf : α → Prop) : Prop :=
  ∀ {H : Type} (enc : TypeId × Value → H) (w : World) (fuel : Nat) (cs : List Value) (x : DataW H × List MemPlace), DataW.trod enc P w 0 (fun _ => true) true fuel t cs = some x → ∃ v, d.K w v cs ∧ Wf v

section
variable {P : Program}
theorem Opens.imp {α : Type} {t : TypeId} {d : Kd α} {W W' : α → Prop} (h : Opens P t d W) (hw : ∀ x, W x → W' x) : Opens P t d W' := fun enc w fuel cs x hx => by
  obtain ⟨v, h1, h2⟩ := h enc w fuel cs x hx
  exact ⟨v, h1, hw v h2⟩
theorem opens_bool {t : TypeId} (ht : P.underlying t = some .bool) : Opens P t Kd.bool (fun _ => True) := fun enc w fuel cs x hx => by
  obtain ⟨b, h1, _⟩ := DataW.trod_bool ht hx
  exact ⟨b, h1, trivial⟩
theorem opens_int {t : TypeId} {k : IntKind} (ht : P.underlying t = some (.int k)) : Opens P t (Kd.int k) (fun n => (Lit.int k n).wf = true) := fun enc w fuel cs x hx => by
  obtain ⟨n, h1, h2, h3⟩ := DataW.trod_int ht hx
  exact ⟨n, h1, h3⟩
theorem opens_string {t : TypeId} (ht : P.underlying t = some .string) : Opens P t Kd.string (fun s => s.size ≤ maxLen) := fun enc w fuel cs x hx => by
  obtain ⟨s, h1, h2, h3⟩ := DataW.trod_string ht hx
  exact ⟨s, h1, h3⟩

/-! ### structs, field by field -/
def structFits (P : Program) (t : TypeId) (l : List (TypeId × Nat)) : Bool := match P.underlying t with
  | some (.struct fs) => fs.toList.map (fun f => (f.type, f.offset)) == l
  | _ => false
def OpensFrom {α : Type} (P : Program) (l : List (TypeId × Nat)) (off : Nat) (d : Kd α) (Wf : α → Prop) : Prop :=
  ∀ {H : Type} (enc : TypeId × Value → H) (w : World) (n : Nat) (cs : List Value), (∀ f ∈ l, ∃ y, DataW.trod enc P w 0 (fun _ => true) true n f.1 ((cs.drop f.2).take (P.cellsOf f.1)) = some y) → ∃ v, d.K w v ((cs.drop off).take d.sz) ∧ Wf v
theorem from_last {α : Type} {t : TypeId} {off : Nat} {d : Kd α} {W : α → Prop} (hc : P.cellsOf t = d.sz) (h : Opens P t d W) : OpensFrom P [(t, off)] off d W := fun enc w n cs hl => by
  obtain ⟨y, hy⟩ := hl _ (List.mem_singleton.2 rfl)
  rw [hc] at hy
  exact h enc w n _ y hy
theorem from_cons {α β : Type} {t : TypeId} {off off2 : Nat} {l : List (TypeId × Nat)} {a : Kd α} {b : Kd β} {W : α → Prop} {W' : β → Prop} (hc : P.cellsOf t = a.sz) (ho : off2 = off + a.sz) (h : Opens P t a W) (h' : OpensFrom P l off2 b W') :
    OpensFrom P ((t, off) :: l) off (Kd.pair a b) (fun v => W v.1 ∧ W' v.2) := fun enc w n cs hl => by
  obtain ⟨y, hy⟩ := hl _ List.mem_cons_self
  rw [hc] at hy
  obtain ⟨u, k1, w1⟩ := h enc w n _ y hy
  obtain ⟨v, k2, w2⟩ := h' enc w n cs (fun f hf => hl f (List.mem_cons_of_mem _ hf))
  subst ho
  refine ⟨(u, v), ⟨_, _, ?_, k1, k2⟩, w1, w2⟩
  rw [show (Kd.pair a b).sz = a.sz + b.sz from rfl, List.take_add, List.drop_drop]
theorem opens_struct {α : Type} {t : TypeId} {l : List (TypeId × Nat)} {d : Kd α} {W : α → Prop} (hf : structFits P t l = true) (hc : P.cellsOf t = d.sz) (h : OpensFrom P l 0 d W) : Opens P t d W := fun enc w fuel cs x hx => by
  unfold structFits at hf
  split at hf
  · rename_i fs ht
    have hf := eq_of_beq hf
    obtain ⟨xs, n, _, _, hlen, hxl, hel⟩ := DataW.trod_struct ht hx
    obtain ⟨v, hv, hw⟩ := h enc w n cs (fun f hm => by
      rw [← hf] at hm
      obtain ⟨g, hg, rfl⟩ := List.mem_map.1 hm
      obtain ⟨i, hi, hgi⟩ := List.mem_iff_getElem.1 hg
      have hi' : i < fs.size := by simpa using hi
      have h1 := hel i g (by rw [Array.getElem?_eq_getElem hi']; congr 1)
      exact ⟨xs[i]'(by omega), by rw [h1, List.getElem?_eq_getElem (by omega)]⟩)
    rw [List.drop_zero, ← hc, ← hlen, List.take_length] at hv
    exact ⟨v, hv, hw⟩
  · cases hf
theorem opens_iso {α β : Type} {t : TypeId} {d : Kd α} {W : α → Prop} (f : β → α) (g : α → β) (hfg : ∀ a, f (g a) = a) (h : Opens P t d W) : Opens P t (Kd.iso d f) (fun x => W (f x)) := fun enc w fuel cs x hx => by
  obtain ⟨v, h1, h2⟩ := h enc w fuel cs x hx
  exact ⟨g v, by show d.K w (f (g v)) cs; rw [hfg]; exact h1, by show W (f (g v)); rw [hfg]; exact h2⟩

/-! ### slices -/
theorem opens_slice {α : Type} {t e : TypeId} (e' : Nat) {d : Kd α} {W : α → Prop} (ht : P.underlying t = some (.slice e)) (hc : P.cellsOf e = d.sz) (h : Opens P e d W) : Opens P t (Kd.slice e' d) (fun xs => ∀ x ∈ xs, W x) := fun enc w fuel cs x hx => by
  rcases Deep.open_slice ht hx with ⟨rfl, _⟩ | ⟨a, len, cap, m, n, D, Pl, rfl, hb, hl, hm, hmm, _, hel⟩
  · exact ⟨[], ⟨none, 0, rfl, Nat.le_refl _, Kd.C_nil _ _⟩, by simp⟩
  · simp only [if_true] at hmm
    subst hmm
    have hone : ∀ i, i < len → ∃ v, ∃ c, c.length = d.sz ∧ d.K w v c ∧ (∀ j u, c[j]? = some u → w.cell? (a.add (i * d.sz + j)) = some u) ∧ W v := by
      intro i hi
      obtain ⟨cs', h1, h2⟩ := hel i (by omega)
      obtain ⟨v, hv, hw⟩ := h enc w n cs' _ h2
      rw [hc] at h1
      have hs := World.cells?_some h1
      refine ⟨v, cs', d.K_len hv, hv, fun j u hu => ?_, hw⟩
      have hj := (List.getElem?_eq_some_iff.1 hu).1
      have := hs.2.2 j (by have := d.K_len hv; omega)
      rw [← Deep.add_add, this]
      exact hu
    have hlist : ∃ xs : List α, xs.length = len ∧ ∀ j p, xs[j]? = some p → (∃ c, c.length = d.sz ∧ d.K w p c ∧ (∀ i u, c[i]? = some u → w.cell? (a.add (j * d.sz + i)) = some u)) ∧ W p := by
      have build : ∀ k, k ≤ len → ∃ xs : List α, xs.length = k ∧ ∀ j p, xs[j]? = some p → (∃ c, c.length = d.sz ∧ d.K w p c ∧ (∀ i u, c[i]? = some u → w.cell? (a.add (j * d.sz + i)) = some u)) ∧ W p := by
        intro k
        induction k with
        | zero => intro _; exact ⟨[], rfl, by simp⟩
        | succ k ih =>
          intro hk
          obtain ⟨xs, hx1, hx2⟩ := ih (by omega)
          obtain ⟨v, c, h1, h2, h3, h4⟩ := hone k (by omega)
          refine ⟨xs ++ [v], by simp [hx1], fun j p hj => ?_⟩
          rcases Nat.lt_or_ge j xs.length with hlt | hge
          · rw [List.getElem?_append_left hlt] at hj
            exact hx2 j p hj
          · have : j = k := by
              have := (List.getElem?_eq_some_iff.1 hj).1
              simp at this
              omega
            subst this
            rw [List.getElem?_append_right (by omega)] at hj
            simp [hx1] at hj
            subst hj
            exact ⟨⟨c, h1, h2, h3⟩, h4⟩
      exact build len (Nat.le_refl _)
    obtain ⟨xs, hxl, hx2⟩ := hlist
    subst hxl
    refine ⟨xs, ⟨some a, _, rfl, hl, rfl, by simp only [maxLen] at hm; omega, fun _ => ⟨a, rfl, fun j p hj => (hx2 j p hj).1⟩⟩, fun p hp => ?_⟩
    obtain ⟨j, hj, rfl⟩ := List.mem_iff_getElem.1 hp
    exact (hx2 j _ (List.getElem?_eq_getElem hj)).2

/-! ### arguments -/
/-- An argument that is a slice: its shape, and what is read. -/
theorem arg_slice {α : Type} {t e : TypeId} {d : Kd α} {W : α → Prop} (ht : P.underlying t = some (.slice e)) (hc : P.cellsOf e = d.sz) (h : Opens P e d W) {H : Type} {enc : TypeId × Value → H} {w : World} {v : Value} {x : DataW H} {ps : List MemPlace}
    (hs : ∃ a len cap, v = .slice a len cap) (hx : DataW.Trod enc P w 0 (fun _ => true) true t v x ps) : ∃ A c xs, v = .slice A xs.length c ∧ xs.length ≤ c ∧ d.C w A xs.length xs ∧ ∀ p ∈ xs, W p := by
  obtain ⟨a, len, cap, rfl⟩ := hs
  obtain ⟨fuel, hf⟩ := hx
  obtain ⟨xs, ⟨A, c, hcs, hl, hC⟩, hw⟩ := opens_slice 0 ht hc h enc w fuel _ _ hf
  simp only [Value.cells] at hcs
  obtain ⟨rfl, rfl, rfl⟩ : a = A ∧ len = xs.length ∧ cap = c := by
    injection hcs with h1
    injection h1 with h1 h2 h3
    exact ⟨h1, h2, h3⟩
  exact ⟨_, _, xs, rfl, hl, hC, hw⟩
end
end Go.Proofs.YtoohandacpalpaaDoor
