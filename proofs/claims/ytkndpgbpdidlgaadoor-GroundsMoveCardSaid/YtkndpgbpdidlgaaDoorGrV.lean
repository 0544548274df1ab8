/- What the law GroundsMove says, in plain Lean: one value another one. -/
import Derived.Test.YtkndpgbpdidlgaaDoorMD
namespace Go.Proofs.YtkndpgbpdidlgaaDoor
open Go.RowKit Go.Proofs.YtkndpgbpdidlgaaDoorW.PrintWords Go.Proofs.YtkndpgbpdidlgaaDoorW.PrintLast Go.Proofs.YtkndpgbpdidlgaaDoorW.PrintMore
set_option linter.unusedVariables false
set_option linter.unusedSimpArgs false
namespace L09
/-- The terms of a body's labels, one of them another value. -/
def moveT (a : List Node) (k : Nat) (v : Int) : List Term := ((labB a).map (·.f3)).set k ⟨false, v⟩
def moveB (a : List Node) (k : Nat) (v : Int) : List Node := putB a (moveT a k v) ((effB a).map (·.f3))
theorem withT_own (l : List Spot) : withT l (l.map (·.f3)) = l := by
  induction l with
  | nil => rfl
  | cons x t ih => simp only [withT, List.map_cons, List.zipWith_cons_cons] at ih ⊢; rw [ih]
theorem withT_set : ∀ (l : List Spot) (k : Nat) (hk : k < l.length) (t : Term), withT l ((l.map (·.f3)).set k t) = l.set k { l[k] with f3 := t }
  | [], _, h, _ => by simp at h
  | x :: xs, 0, _, t => by
    have := withT_own xs
    simp only [withT] at this
    simp only [withT, List.map_cons, List.set_cons_zero, List.zipWith_cons_cons, this]
    rfl
  | x :: xs, k + 1, h, t => by
    have := withT_set xs k (by simpa using h) t
    simp only [withT] at this
    simp only [withT, List.map_cons, List.set_cons_succ, List.zipWith_cons_cons, this]
    rfl
section
variable {has : Int → Bool} {le : Int → Int → Bool}
theorem belowL_set (h : SortOk has le) : ∀ (l : List Spot) (k : Nat) (hk : k < l.length) (t : Term), SpW l → termsB has l = true → belowL le l (l.set k { l[k] with f3 := t }) = holdsS le l[k].f2 l[k].f3.f1 t.f1 ∧ belowL le (l.set k { l[k] with f3 := t }) l = holdsS le l[k].f2 t.f1 l[k].f3.f1
  | [], _, hk, _, _, _ => by simp at hk
  | x :: xs, 0, _, t, hw, ht => by
    simp only [termsB, List.all_cons, Bool.and_eq_true] at ht
    have e := belowL_refl h xs (fun y hy => hw y (List.mem_cons_of_mem _ hy)) ht.2
    simp only [List.set_cons_zero, belowL, e, Bool.and_true]
    exact ⟨rfl, rfl⟩
  | x :: xs, k + 1, hk, t, hw, ht => by
    simp only [termsB, List.all_cons, Bool.and_eq_true] at ht
    have e := holds_refl h (s := x.f2) (hw x List.mem_cons_self).1 ht.1.2
    have ih := belowL_set h xs k (by simpa using hk) t (fun y hy => hw y (List.mem_cons_of_mem _ hy)) ht.2
    simp only [List.set_cons_succ, belowL, e, Bool.true_and]
    exact ih
theorem termsB_set (l : List Spot) (k : Nat) (hk : k < l.length) (v : Int) (ht : termsB has l = true) (hv : has v = true) : termsB has (l.set k { l[k] with f3 := ⟨false, v⟩ }) = true := by
  rw [termsB, List.all_eq_true] at ht ⊢
  intro x hx
  rcases List.mem_or_eq_of_mem_set hx with h | h
  · exact ht x h
  · rw [h]
    simp [hv]
theorem holds_both_eq (h : SortOk has le) {p q : Int} (hp : DU p) (hq : DU q) (hh : has p = true) (s : Int) (h0 : s ≠ 0) (h1 : s ≠ 1) : holdsS le s p q = (p == q) := by
  unfold holdsS
  rw [if_neg h0, if_neg h1]
  by_cases e : p = q
  · subst e
    rw [h.refl p hp hh]
    simp
  · rw [beq_eq_false_iff_ne.mpr e]
    cases h2 : (le p q && le q p) with
    | false => rfl
    | true =>
      rw [Bool.and_eq_true] at h2
      exact absurd (h.anti p q hp hq h2.1 h2.2) e
end
section
variable {hasL hasX : Int → Bool} {leL leX : Int → Int → Bool}
theorem move_len (a : List Node) (k : Nat) (v : Int) : (moveT a k v).length = (labB a).length := by simp [moveT]
/-- GroundsMove, in plain Lean. -/
theorem ground_move (hL : SortOk hasL leL) (hX : SortOk hasX leX) (a : List Node) (hw : ∀ n ∈ a, Node.wf n) (e : (groundB hasL hasX leL leX a a).2 = 0) (k : Nat) (hk : k < (labB a).length) (v : Int) (hv : DU v) (hh : hasL v = true) :
    groundB hasL hasX leL leX a (moveB a k v) = (holdsS leL (labB a)[k].f2 (labB a)[k].f3.f1 v, 0) ∧ groundB hasL hasX leL leX (moveB a k v) a = (holdsS leL (labB a)[k].f2 v (labB a)[k].f3.f1, 0) := by
  obtain ⟨ca, _, oa, _, _⟩ := ground_ok e
  have oa' := oa
  rw [okT, Bool.and_eq_true] at oa'
  have cm : checkB (moveB a k v) = 0 := by rw [moveB, putB_check]; exact ca
  have lm : labB (moveB a k v) = (labB a).set k { (labB a)[k] with f3 := ⟨false, v⟩ } := by rw [moveB, putB_lab ca _ _ (move_len a k v), moveT, withT_set _ k hk]
  have em : effB (moveB a k v) = effB a := by rw [moveB, putB_eff ca _ _ (by simp), withT_own]
  have om : okT hasL hasX (moveB a k v) = true := by rw [okT, lm, em, termsB_set _ k hk v oa'.1 hh, oa'.2]; rfl
  have hb : baseL a (moveB a k v) := putB_base _ _ _
  have hs := belowL_set hL (labB a) k hk ⟨false, v⟩ (labB_W hw) oa'.1
  have hx := belowL_refl hX (effB a) (effB_W hw) oa'.2
  rw [ground_zero ca cm oa om, ground_zero cm ca om oa, lm, em, hs.1, hs.2, hx, baseL_same hb, baseL_same (base_symm hb)]
  simp
end
end L09
end Go.Proofs.YtkndpgbpdidlgaaDoor
