/- A field of an element of an own row written anew: the row's elements. Over any program: no function of the cartouche stands in it. -/
import Derived.Test.YtoohandacpalpaaDoorB
import Derived.Test.YtoohandacpalpaaDoorK
namespace Go.Proofs.YtoohandacpalpaaDoor
open Go.RowKit Go.Proofs.YtoohandacpalpaaDoorW.PrintWords Go.Proofs.YtoohandacpalpaaDoorW.PrintLast Go.Proofs.YtoohandacpalpaaDoorW.PrintMore
set_option linter.unusedVariables false
set_option linter.unusedSimpArgs false
/-- A kind whose elements are cells alone, with no rows of their own. -/
def Flat {α : Type} (d : Kd α) (enc : α → List Value) : Prop := ∀ w base ok x c, d.M w base ok x c ↔ c = enc x
theorem reps_set {α : Type} {R : α → List Value → Prop} {sz : Nat} {xs : List α} {cs : List Value} (h : Reps R sz xs cs) (i j : Nat) (hj : j < sz) (x' : α) (u : Value) (hx : ∀ c x, xs[i]? = some x → c.length = sz → R x c → R x' (c.set j u)) : Reps R sz (xs.set i x') (cs.set (i * sz + j) u) := by
  obtain ⟨hl, hr⟩ := h
  refine ⟨by simp [hl], fun k p hk => ?_⟩
  have hkl : k < xs.length := by have := (List.getElem?_eq_some_iff.1 hk).1; simpa using this
  have hmul : k * sz + sz ≤ cs.length := by rw [hl]; have := Nat.mul_le_mul_right sz (show k + 1 ≤ xs.length from hkl); rw [Nat.add_mul] at this; omega
  by_cases hki : k = i
  · subst hki
    rw [List.getElem?_set_self hkl] at hk
    injection hk with hk
    subst hk
    have e : ((cs.set (k * sz + j) u).drop (k * sz)).take sz = ((cs.drop (k * sz)).take sz).set j u := by
      rw [List.drop_set, if_neg (by omega), List.take_set]
      congr 1
      omega
    rw [e]
    exact hx _ xs[k] (List.getElem?_eq_getElem hkl) (by rw [List.length_take, List.length_drop]; omega) (hr k xs[k] (List.getElem?_eq_getElem hkl))
  · rw [List.getElem?_set_ne (fun h => hki h.symm)] at hk
    have e : ((cs.set (i * sz + j) u).drop (k * sz)).take sz = (cs.drop (k * sz)).take sz := by
      rw [List.drop_set]
      rcases Nat.lt_or_ge k i with hlt | hge
      · have := Nat.mul_le_mul_right sz (show k + 1 ≤ i from hlt)
        rw [Nat.add_mul] at this
        rw [if_neg (by omega), List.take_set, List.set_eq_of_length_le]
        rw [List.length_take, List.length_drop]
        omega
      · have := Nat.mul_le_mul_right sz (show i + 1 ≤ k by omega)
        rw [Nat.add_mul] at this
        rw [if_pos (by omega)]
    rw [e]
    exact hr k p hk
theorem R_edit {α : Type} {d : Kd α} {enc : α → List Value} (hf : Flat d enc) {e base g n cap : Nat} {W : World} {ok : Nat → Prop} {xs : List α} (h : d.R e W base ok (.slice (some ⟨g, 0, none⟩) n cap) xs) (i j : Nat) (hi : i < xs.length) (hj : j < d.sz) (x' : α) (u : Value) (hx : enc x' = (enc xs[i]).set j u) :
    d.R e (W.setCell ⟨g, i * d.sz + j, none⟩ u) base ok (.slice (some ⟨g, 0, none⟩) n cap) (xs.set i x') := by
  obtain ⟨rfl, _⟩ := Kd.R_reads' h
  obtain ⟨h0, inner, ho, hr⟩ := h
  refine ⟨h0, inner.set (i * d.sz + j) u, ?_, ?_⟩
  · rw [List.length_set]
    exact (ho.stored _ u).1
  · have hr' : Reps (d.M (W.setCell ⟨g, i * d.sz + j, none⟩ u) base (fun k => ok k ∧ some k ≠ (Value.slice (some ⟨g, 0, none⟩) xs.length cap).ownBlock)) d.sz xs inner :=
      ⟨hr.1, fun k p hk => (hf _ _ _ _ _).2 ((hf _ _ _ _ _).1 (hr.2 k p hk))⟩
    refine reps_set hr' i j hj x' u fun c x hx1 _ hM => ?_
    rw [List.getElem?_eq_getElem hi] at hx1
    injection hx1 with hx1
    subst hx1
    rw [hf] at hM ⊢
    rw [hM, hx]
/-- A literal's block is an own row. -/
theorem R_block {α : Type} {d : Kd α} {W : World} {g base : Nat} {cells : List Value} {t : TypeId} {xs : List α} {ok : Nat → Prop} (hb : W.heap[g]? = some (.cells cells.toArray t (0, 0))) (hg : base ≤ g) (hok : ok g) (hr : Reps (d.M W base (fun k => ok k ∧ some k ≠ some g)) d.sz xs cells) (hl : xs.length ≤ maxLen) :
    d.R t W base ok (.slice (some ⟨g, 0, none⟩) xs.length xs.length) xs := by
  refine ⟨fun k hk => ?_, cells, ⟨hr.1, .inr ⟨g, xs.length, cells.toArray, rfl, hg, hb, Nat.le_refl _, hl, by simpa using hr.1, ?_⟩⟩, hr⟩
  · simp only [Value.ownBlock, Option.some.injEq] at hk
    exact hk ▸ hok
  · rw [← hr.1, List.take_of_length_le (by simp)]
/-- A node's cells. -/
def nodeC (n : Node) : List Value := [.int .u8 n.f0, .int .i64 n.f1, .string n.f2, .int .i64 n.f3, .bool n.f4.f0, .int .u64 n.f4.f1, .bool n.f5.f0, .int .u64 n.f5.f1, .bool n.f6.f0, .int .u64 n.f6.f1]
theorem nodeM {w w1 : World} {base : Nat} {ok : Nat → Prop} {x : Node} {c : List Value} (h : kNode.K w x c) : kNode.M w1 base ok x c := by
  rw [k36_open h]
  exact k36_mkM w1 base ok x
theorem node_flat : Flat kNode nodeC := fun w base ok x c => ⟨k36_openM, fun h => by subst h; exact k36_mkM w base ok x⟩
theorem edit_f4 {e base g n cap : Nat} {W : World} {ok : Nat → Prop} {xs : List Node} (h : kNode.R e W base ok (.slice (some ⟨g, 0, none⟩) n cap) xs) (i : Nat) (hi : i < xs.length) (t : Term) :
    kNode.R e ((W.setCell ⟨g, i * 10 + 4, none⟩ (.bool t.f0)).setCell ⟨g, i * 10 + 5, none⟩ (.int .u64 t.f1)) base ok (.slice (some ⟨g, 0, none⟩) n cap) (xs.set i { xs[i] with f4 := t }) := by
  have h1 := R_edit node_flat h i 4 hi (by decide) { xs[i] with f4 := ⟨t.f0, xs[i].f4.f1⟩ } (.bool t.f0) (by simp [nodeC])
  have h2 := R_edit node_flat h1 i 5 (by simpa using hi) (by decide) { xs[i] with f4 := t } (.int .u64 t.f1) (by simp [nodeC])
  rwa [List.set_set] at h2
theorem edit_f5 {e base g n cap : Nat} {W : World} {ok : Nat → Prop} {xs : List Node} (h : kNode.R e W base ok (.slice (some ⟨g, 0, none⟩) n cap) xs) (i : Nat) (hi : i < xs.length) (t : Term) :
    kNode.R e ((W.setCell ⟨g, i * 10 + 6, none⟩ (.bool t.f0)).setCell ⟨g, i * 10 + 7, none⟩ (.int .u64 t.f1)) base ok (.slice (some ⟨g, 0, none⟩) n cap) (xs.set i { xs[i] with f5 := t }) := by
  have h1 := R_edit node_flat h i 6 hi (by decide) { xs[i] with f5 := ⟨t.f0, xs[i].f5.f1⟩ } (.bool t.f0) (by simp [nodeC])
  have h2 := R_edit node_flat h1 i 7 (by simpa using hi) (by decide) { xs[i] with f5 := t } (.int .u64 t.f1) (by simp [nodeC])
  rwa [List.set_set] at h2
theorem edit_f6 {e base g n cap : Nat} {W : World} {ok : Nat → Prop} {xs : List Node} (h : kNode.R e W base ok (.slice (some ⟨g, 0, none⟩) n cap) xs) (i : Nat) (hi : i < xs.length) (t : Term) :
    kNode.R e ((W.setCell ⟨g, i * 10 + 8, none⟩ (.bool t.f0)).setCell ⟨g, i * 10 + 9, none⟩ (.int .u64 t.f1)) base ok (.slice (some ⟨g, 0, none⟩) n cap) (xs.set i { xs[i] with f6 := t }) := by
  have h1 := R_edit node_flat h i 8 hi (by decide) { xs[i] with f6 := ⟨t.f0, xs[i].f6.f1⟩ } (.bool t.f0) (by simp [nodeC])
  have h2 := R_edit node_flat h1 i 9 (by simpa using hi) (by decide) { xs[i] with f6 := t } (.int .u64 t.f1) (by simp [nodeC])
  rwa [List.set_set] at h2
theorem C_termN {w : World} {A : Option Addr} {xs : List Term} (h : Kd.C kTerm w A xs.length xs) (j : Nat) (hj : j < xs.length) : ∃ ad, A = some ad ∧ w.cell? (ad.add (j * 2)) = some (.bool xs[j].f0) ∧ w.cell? ⟨(ad.add (j * 2)).block, (ad.add (j * 2)).off + 1, none⟩ = some (.int .u64 xs[j].f1) := by
  obtain ⟨ad, e, h0, h1⟩ := at_T34 h (j : Int) (by omega) (by omega)
  refine ⟨ad, e, ?_⟩
  have e2 : rd_T34 xs (j : Int) = xs[j] := by
    rw [rd_T34, Int.toNat_natCast, List.getD_eq_getElem?_getD, List.getElem?_eq_getElem hj]
    rfl
  rw [e2, Int.toNat_natCast] at h0 h1
  exact ⟨h0, h1⟩
end Go.Proofs.YtoohandacpalpaaDoor
