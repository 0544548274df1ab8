
/- Several texts as one: Op, OpN. -/
import Derived.Test.YtdecijmncpbheaaGreatDoorB
import Derived.RowKit
import Derived.ProofKit
import Derived.OpenShut
import Derived.ShutString
import Derived.LaidMore
import Derived.Deep.Slices
import Derived.Lay
import Derived.SevenTiedAt
import Derived.Stop.Joined
import Derived.Test.YtdecijmncpbheaaGreatDoorK

namespace Go.Proofs.YtdecijmncpbheaaGreatDoor
open Go.RowKit Go.Proofs.YtdecijmncpbheaaGreatDoorW.PrintWords Go.Proofs.YtdecijmncpbheaaGreatDoorW.PrintLast Go.Proofs.YtdecijmncpbheaaGreatDoorW.PrintMore
set_option linter.unusedVariables false
set_option linter.unusedSimpArgs false

/-- No string, slice or map of a datum reaches beyond what the row's own reach says. -/
def Light {H : Type} (P : Program) (t : TypeId) (x : DataW H) : Prop := ∀ n ∈ x.weights P t, n ≤ reachBytes
theorem weightsEach_mem {H : Type} {P : Program} {n : Nat} : ∀ (ts : List TypeId) (ds : List (DataW H)) (i : Nat) (t : TypeId) (d : DataW H), ts[i]? = some t → ds[i]? = some d → n ∈ d.weights P t → n ∈ DataW.weightsEach P ts ds
  | [], ds, i, t, d, h, _, _ => by simp at h
  | _ :: _, [], i, t, d, _, h, _ => by simp at h
  | t' :: ts, d' :: ds, 0, t, d, h1, h2, h3 => by
    simp only [List.getElem?_cons_zero, Option.some.injEq] at h1 h2
    subst h1
    subst h2
    unfold DataW.weightsEach
    exact List.mem_append_left _ h3
  | t' :: ts, d' :: ds, i + 1, t, d, h1, h2, h3 => by
    unfold DataW.weightsEach
    exact List.mem_append_right _ (weightsEach_mem ts ds i t d (by simpa using h1) (by simpa using h2) h3)
theorem weightsAll_mem {H : Type} {P : Program} {n : Nat} {e : TypeId} : ∀ (ds : List (DataW H)) (d : DataW H), d ∈ ds → n ∈ d.weights P e → n ∈ DataW.weightsAll P e ds
  | [], d, h, _ => by simp at h
  | d' :: ds, d, h, h3 => by
    unfold DataW.weightsAll
    rcases List.mem_cons.1 h with rfl | h
    · exact List.mem_append_left _ h3
    · exact List.mem_append_right _ (weightsAll_mem ds d h h3)
/-- Cells of type t that read as data are of the kind d, and the value meets Wf. -/
def Opens {α : Type} (P : Program) (t : TypeId) (d : Kd α) (Wf : α → Prop) : Prop :=
  ∀ {H : Type} (enc : TypeId × Value → H) (w : World) (fuel : Nat) (cs : List Value) (x : DataW H × List MemPlace), DataW.trod enc P w 0 (fun _ => true) true fuel t cs = some x → Light P t x.1 → ∃ v, d.K w v cs ∧ Wf v

section
variable {P : Program}
theorem Opens.imp {α : Type} {t : TypeId} {d : Kd α} {W W' : α → Prop} (h : Opens P t d W) (hw : ∀ x, W x → W' x) : Opens P t d W' := fun enc w fuel cs x hx hL => by
  obtain ⟨v, h1, h2⟩ := h enc w fuel cs x hx hL
  exact ⟨v, h1, hw v h2⟩
theorem opens_bool {t : TypeId} (ht : P.underlying t = some .bool) : Opens P t Kd.bool (fun _ => True) := fun enc w fuel cs x hx _ => by
  obtain ⟨b, h1, _⟩ := DataW.trod_bool ht hx
  exact ⟨b, h1, trivial⟩
theorem opens_int {t : TypeId} {k : IntKind} (ht : P.underlying t = some (.int k)) : Opens P t (Kd.int k) (fun n => (Lit.int k n).wf = true) := fun enc w fuel cs x hx _ => by
  obtain ⟨n, h1, h2, h3⟩ := DataW.trod_int ht hx
  exact ⟨n, h1, h3⟩
theorem opens_string {t : TypeId} (ht : P.underlying t = some .string) : Opens P t Kd.string (fun s => s.size ≤ maxLen ∧ s.size ≤ 140737488351232) := fun enc w fuel cs x hx hL => by
  obtain ⟨s, h1, h2, h3⟩ := DataW.trod_string ht hx
  refine ⟨s, h1, h3, ?_⟩
  rw [h2] at hL
  have := hL s.data.toList.length (by unfold DataW.weights; exact List.mem_singleton.2 rfl)
  simpa [reachBytes] using this

/-! ### structs, field by field -/
def structFits (P : Program) (t : TypeId) (l : List (TypeId × Nat)) : Bool := match P.underlying t with
  | some (.struct fs) => fs.toList.map (fun f => (f.type, f.offset)) == l
  | _ => false
def OpensFrom {α : Type} (P : Program) (l : List (TypeId × Nat)) (off : Nat) (d : Kd α) (Wf : α → Prop) : Prop :=
  ∀ {H : Type} (enc : TypeId × Value → H) (w : World) (n : Nat) (cs : List Value), (∀ f ∈ l, ∃ y, DataW.trod enc P w 0 (fun _ => true) true n f.1 ((cs.drop f.2).take (P.cellsOf f.1)) = some y ∧ Light P f.1 y.1) → ∃ v, d.K w v ((cs.drop off).take d.sz) ∧ Wf v
theorem from_last {α : Type} {t : TypeId} {off : Nat} {d : Kd α} {W : α → Prop} (hc : P.cellsOf t = d.sz) (h : Opens P t d W) : OpensFrom P [(t, off)] off d W := fun enc w n cs hl => by
  obtain ⟨y, hy, hL⟩ := hl _ (List.mem_singleton.2 rfl)
  rw [hc] at hy
  exact h enc w n _ y hy hL
theorem from_cons {α β : Type} {t : TypeId} {off off2 : Nat} {l : List (TypeId × Nat)} {a : Kd α} {b : Kd β} {W : α → Prop} {W' : β → Prop} (hc : P.cellsOf t = a.sz) (ho : off2 = off + a.sz) (h : Opens P t a W) (h' : OpensFrom P l off2 b W') :
    OpensFrom P ((t, off) :: l) off (Kd.pair a b) (fun v => W v.1 ∧ W' v.2) := fun enc w n cs hl => by
  obtain ⟨y, hy, hL⟩ := hl _ List.mem_cons_self
  rw [hc] at hy
  obtain ⟨u, k1, w1⟩ := h enc w n _ y hy hL
  obtain ⟨v, k2, w2⟩ := h' enc w n cs (fun f hf => hl f (List.mem_cons_of_mem _ hf))
  subst ho
  refine ⟨(u, v), ⟨_, _, ?_, k1, k2⟩, w1, w2⟩
  rw [show (Kd.pair a b).sz = a.sz + b.sz from rfl, List.take_add, List.drop_drop]
theorem opens_struct {α : Type} {t : TypeId} {l : List (TypeId × Nat)} {d : Kd α} {W : α → Prop} (hf : structFits P t l = true) (hc : P.cellsOf t = d.sz) (h : OpensFrom P l 0 d W) : Opens P t d W := fun enc w fuel cs x hx hL => by
  unfold structFits at hf
  split at hf
  · rename_i fs ht
    have hf := eq_of_beq hf
    obtain ⟨xs, n, _, hxe, hlen, hxl, hel⟩ := DataW.trod_struct ht hx
    obtain ⟨v, hv, hw⟩ := h enc w n cs (fun f hm => by
      rw [← hf] at hm
      obtain ⟨g, hg, rfl⟩ := List.mem_map.1 hm
      obtain ⟨i, hi, hgi⟩ := List.mem_iff_getElem.1 hg
      have hi' : i < fs.size := by simpa using hi
      have h1 := hel i g (by rw [Array.getElem?_eq_getElem hi']; congr 1)
      refine ⟨xs[i]'(by omega), by rw [h1, List.getElem?_eq_getElem (by omega)], fun m hm => hL m ?_⟩
      rw [hxe]
      unfold DataW.weights
      rw [ht]
      refine weightsEach_mem _ _ i g.type (xs[i]'(by omega)).1 ?_ ?_ hm
      · rw [List.getElem?_map, List.getElem?_eq_getElem hi, hgi]; rfl
      · rw [List.getElem?_map, List.getElem?_eq_getElem (by omega)]; rfl)
    rw [List.drop_zero, ← hc, ← hlen, List.take_length] at hv
    exact ⟨v, hv, hw⟩
  · cases hf
theorem opens_iso {α β : Type} {t : TypeId} {d : Kd α} {W : α → Prop} (f : β → α) (g : α → β) (hfg : ∀ a, f (g a) = a) (h : Opens P t d W) : Opens P t (Kd.iso d f) (fun x => W (f x)) := fun enc w fuel cs x hx hL => by
  obtain ⟨v, h1, h2⟩ := h enc w fuel cs x hx hL
  exact ⟨g v, by show d.K w (f (g v)) cs; rw [hfg]; exact h1, by show W (f (g v)); rw [hfg]; exact h2⟩

/-! ### slices -/
theorem opens_slice {α : Type} {t e : TypeId} (e' : Nat) {d : Kd α} {W : α → Prop} (ht : P.underlying t = some (.slice e)) (hc : P.cellsOf e = d.sz) (h : Opens P e d W) : Opens P t (Kd.slice e' d) (fun xs => (∀ x ∈ xs, W x) ∧ xs.length * P.bytesOf e ≤ 140737488351232) := fun enc w fuel cs x hx hL => by
  rcases Deep.open_slice ht hx with ⟨rfl, _⟩ | ⟨a, len, cap, m, n, D, Pl, rfl, hb, hl, hm, hmm, hxe, hel⟩
  · exact ⟨[], ⟨none, 0, rfl, Nat.le_refl _, Kd.C_nil _ _⟩, by simp, by simp⟩
  · simp only [if_true] at hmm
    subst hmm
    have hone : ∀ i, i < len → ∃ v, ∃ c, c.length = d.sz ∧ d.K w v c ∧ (∀ j u, c[j]? = some u → w.cell? (a.add (i * d.sz + j)) = some u) ∧ W v := by
      intro i hi
      obtain ⟨cs', h1, h2⟩ := hel i (by omega)
      obtain ⟨v, hv, hw⟩ := h enc w n cs' _ h2 (fun k hk => hL k (by
        rw [hxe]
        unfold DataW.weights
        rw [ht]
        refine List.mem_cons_of_mem _ (List.mem_append_left _ (weightsAll_mem _ (D i) (List.mem_map.2 ⟨i, List.mem_range.2 hi, rfl⟩) hk))))
      rw [hc] at h1
      have hs := World.cells?_some h1
      refine ⟨v, cs', d.K_len hv, hv, fun j u hu => ?_, hw⟩
      have hj := (List.getElem?_eq_some_iff.1 hu).1
      have := hs.2.2 j (by have := d.K_len hv; omega)
      rw [← Deep.add_add, this]
      exact hu
    have hlist : ∃ xs : List α, xs.length = len ∧ ∀ j p, xs[j]? = some p → (∃ c, c.length = d.sz ∧ d.K w p c ∧ (∀ i u, c[i]? = some u → w.cell? (a.add (j * d.sz + i)) = some u)) ∧ W p := by
      have build : ∀ k, k ≤ len → ∃ xs : List α, xs.length = k ∧ ∀ j p, xs[j]? = some p → (∃ c, c.length = d.sz ∧ d.K w p c ∧ (∀ i u, c[i]? = some u → w.cell? (a.add (j * d.sz + i)) = some u)) ∧ W p := by
        intro k
        induction k with
        | zero => intro _; exact ⟨[], rfl, by simp⟩
        | succ k ih =>
          intro hk
          obtain ⟨xs, hx1, hx2⟩ := ih (by omega)
          obtain ⟨v, c, h1, h2, h3, h4⟩ := hone k (by omega)
          refine ⟨xs ++ [v], by simp [hx1], fun j p hj => ?_⟩
          rcases Nat.lt_or_ge j xs.length with hlt | hge
          · rw [List.getElem?_append_left hlt] at hj
            exact hx2 j p hj
          · have : j = k := by
              have := (List.getElem?_eq_some_iff.1 hj).1
              simp at this
              omega
            subst this
            rw [List.getElem?_append_right (by omega)] at hj
            simp [hx1] at hj
            subst hj
            exact ⟨⟨c, h1, h2, h3⟩, h4⟩
      exact build len (Nat.le_refl _)
    obtain ⟨xs, hxl, hx2⟩ := hlist
    subst hxl
    refine ⟨xs, ⟨some a, _, rfl, hl, rfl, by simp only [maxLen] at hm; omega, fun _ => ⟨a, rfl, fun j p hj => (hx2 j p hj).1⟩⟩, fun p hp => ?_, ?_⟩
    · obtain ⟨j, hj, rfl⟩ := List.mem_iff_getElem.1 hp
      exact (hx2 j _ (List.getElem?_eq_getElem hj)).2
    · have h3 := hL _ (by rw [hxe]; unfold DataW.weights; rw [ht]; exact List.mem_cons_self)
      simp only [List.length_map, List.length_range, reachBytes] at h3
      exact Nat.le_trans (Nat.mul_le_mul_right _ (Nat.le_add_right _ _)) h3

/-! ### arguments -/
theorem arg_agg {α : Type} {t : TypeId} {d : Kd α} {W : α → Prop} (h : Opens P t d W) {H : Type} {enc : TypeId × Value → H} {w : World} {v : Value} {x : DataW H} {ps : List MemPlace}
    (hs : ∃ cs, v = .agg cs) (hx : DataW.Trod enc P w 0 (fun _ => true) true t v x ps) (hL : Light P t x) : ∃ cs y, v = .agg cs ∧ d.K w y cs.toList ∧ W y := by
  obtain ⟨cs, rfl⟩ := hs
  obtain ⟨fuel, hf⟩ := hx
  obtain ⟨y, hK, hw⟩ := h enc w fuel _ _ hf hL
  exact ⟨cs, y, rfl, by simpa [Value.cells] using hK, hw⟩
theorem okWide_aggS {r : Reach} {b : Nat} {w : World} {t : TypeId} {fs : Array Field} {v : Value} (ht : P.underlying t = some (.struct fs)) (h : Value.okWide P w r b t v) : ∃ cs, v = .agg cs := by
  simp only [Value.okWide, ht] at h
  obtain ⟨cs, h1, _⟩ := h
  exact ⟨cs, h1⟩

end
end Go.Proofs.YtdecijmncpbheaaGreatDoor

namespace Go.Proofs.YtdecijmncpbheaaGreatDoor
open Go.RowKit Go.Proofs.YtdecijmncpbheaaGreatDoorW.PrintWords Go.Proofs.YtdecijmncpbheaaGreatDoorW.PrintLast Go.Proofs.YtdecijmncpbheaaGreatDoorW.PrintMore
set_option linter.unusedVariables false
theorem wf_i64 {n : Int} (h : (Lit.int .i64 n).wf = true) : -9223372036854775808 ≤ n ∧ n ≤ 9223372036854775807 := by
  simpa [Lit.wf, IntKind.min, IntKind.max, IntKind.signed, IntKind.bits] using h
theorem wf_u64 {n : Int} (h : (Lit.int .u64 n).wf = true) : 0 ≤ n ∧ n ≤ 18446744073709551615 := by
  simpa [Lit.wf, IntKind.min, IntKind.max, IntKind.signed, IntKind.bits] using h
def Term.wf (t : Term) : Prop := (Lit.int .u64 t.f1).wf = true
theorem opens_term : Opens Tryz.prog 100 kTerm Term.wf :=
  Opens.imp (opens_iso (fun x : Term => (x.f0, x.f1)) (fun p => ⟨p.1, p.2⟩) (fun _ => rfl)
    (opens_struct (l := [(4, 0), (91, 1)]) (by kernel_rfl) (by kernel_rfl)
      (from_cons (by kernel_rfl) rfl (opens_bool Tryz.underlying4) (from_last (by kernel_rfl) (opens_int Tryz.underlying91))))) fun x h => h.2
def Node.wf (n : Node) : Prop := (Lit.int .u8 n.f0).wf = true ∧ (Lit.int .i64 n.f1).wf = true ∧ (n.f2.size ≤ maxLen ∧ n.f2.size ≤ 140737488351232) ∧ (Lit.int .i64 n.f3).wf = true ∧ Term.wf n.f4 ∧ Term.wf n.f5 ∧ Term.wf n.f6
theorem opens_node : Opens Tryz.prog 119 kNode Node.wf :=
  Opens.imp (opens_iso (fun x : Node => (x.f0, x.f1, x.f2, x.f3, x.f4, x.f5, x.f6)) (fun p => ⟨p.1, p.2.1, p.2.2.1, p.2.2.2.1, p.2.2.2.2.1, p.2.2.2.2.2.1, p.2.2.2.2.2.2⟩) (fun _ => rfl)
    (opens_struct (l := [(117, 0), (3, 1), (9, 2), (3, 3), (100, 4), (100, 6), (100, 8)]) (by kernel_rfl) (by kernel_rfl)
      (from_cons (by kernel_rfl) rfl (opens_int Tryz.underlying117) (from_cons (by kernel_rfl) rfl (opens_int Tryz.underlying3) (from_cons (by kernel_rfl) rfl (opens_string Tryz.underlying9)
        (from_cons (by kernel_rfl) rfl (opens_int Tryz.underlying3) (from_cons (by kernel_rfl) rfl opens_term (from_cons (by kernel_rfl) rfl opens_term (from_last (by kernel_rfl) opens_term))))))))) fun x h => h
end Go.Proofs.YtdecijmncpbheaaGreatDoor
