/- What follows of 'may a scheme be', in plain Lean. -/
import Derived.Test.YtjndjmggilcngaaGreatDoorSc

namespace Go.Proofs.YtjndjmggilcngaaGreatDoor
open Go.RowKit Go.Proofs.YtjndjmggilcngaaGreatDoorW.PrintWords Go.Proofs.YtjndjmggilcngaaGreatDoorW.PrintLast Go.Proofs.YtjndjmggilcngaaGreatDoorW.PrintMore
set_option linter.unusedVariables false
set_option linter.unusedSimpArgs false
namespace L12
def eqT (t u : Term) : Bool := t.f0 == u.f0 && (t.f1 == u.f1)
section
variable {hasL hasX : Int → Bool}
theorem scheme_ok {lv ev : Int} {a : List Node} {L E : List Bound} (h : schemeB hasL hasX lv ev a L E = 0) : checkB a = 0 ∧ boundsB hasL lv L = 0 ∧ boundsB hasX ev E = 0 ∧ (∀ x ∈ labB a, termOk hasL lv x.f3 = true) ∧ ∀ x ∈ effB a, termOk hasX ev x.f3 = true := by
  unfold schemeB at h
  split at h
  · rename_i h1; exact absurd h h1
  · rename_i h1
    split at h
    · rename_i h2; exact absurd h h2
    · rename_i h2
      split at h
      · rename_i h3; exact absurd h h3
      · rename_i h3
        split at h
        · rename_i h4
          rw [Bool.and_eq_true] at h4
          exact ⟨Decidable.not_not.1 h1, Decidable.not_not.1 h2, Decidable.not_not.1 h3, List.all_eq_true.1 h4.1, List.all_eq_true.1 h4.2⟩
        · cases h
theorem scheme_mk {lv ev : Int} {a : List Node} {L E : List Bound} (h1 : checkB a = 0) (h2 : boundsB hasL lv L = 0) (h3 : boundsB hasX ev E = 0) : schemeB hasL hasX lv ev a L E = if ((labB a).all (fun x => termOk hasL lv x.f3) && (effB a).all (fun x => termOk hasX ev x.f3)) = true then 0 else 1 := by
  rw [schemeB, if_neg (by simp [h1]), if_neg (by simp [h2]), if_neg (by simp [h3])]
theorem bounds_mk {has : Int → Bool} {v : Int} {l : List Bound} (h0 : 0 ≤ v) (h1 : v ≤ 64) (h2 : l.length ≤ 256) : boundsB has v l = if (l.all fun b => termOk has v b.f0 && termOk has v b.f1) = true then 0 else 1 := by
  rw [boundsB, if_neg (by omega)]
theorem term_more {has : Int → Bool} {v : Int} {t : Term} (h : termOk has v t = true) : termOk has (v + 1) t = true := by
  unfold termOk at h ⊢
  split
  · rename_i h0
    rw [if_pos h0] at h
    have := of_decide_eq_true h
    exact decide_eq_true (by omega)
  · rename_i h0
    rw [if_neg h0] at h
    exact h
theorem bounds_more {has : Int → Bool} {v : Int} {l : List Bound} (h : boundsB has v l = 0) : boundsB has (v + 1) l = if v < 64 then 0 else 3 := by
  obtain ⟨h0, h1, h2, h3⟩ := bounds_vars h
  split
  · rename_i hlt
    rw [bounds_mk (by omega) (by omega) h2, if_pos]
    rw [List.all_eq_true]
    intro b hb
    rw [term_more (h3 b hb).1, term_more (h3 b hb).2]
    rfl
  · rename_i hlt
    rw [boundsB, if_pos (by omega)]
/-- With a variable more, of each sort. -/
theorem scheme_more {lv ev : Int} {a : List Node} {L E : List Bound} (h : schemeB hasL hasX lv ev a L E = 0) : schemeB hasL hasX (lv + 1) (ev + 1) a L E = if lv < 64 ∧ ev < 64 then 0 else 3 := by
  obtain ⟨h1, h2, h3, h4, h5⟩ := scheme_ok h
  have e2 := bounds_more h2
  have e3 := bounds_more h3
  by_cases q1 : lv < 64
  · rw [if_pos q1] at e2
    by_cases q2 : ev < 64
    · rw [if_pos q2] at e3
      rw [scheme_mk h1 e2 e3, if_pos, if_pos ⟨q1, q2⟩]
      rw [List.all_eq_true.2 fun x hx => term_more (h4 x hx), List.all_eq_true.2 fun x hx => term_more (h5 x hx)]
      rfl
    · rw [if_neg q2] at e3
      rw [schemeB, if_neg (by simp [h1]), if_neg (by simp [e2]), if_pos (by simp [e3]), e3, if_neg (by omega)]
  · rw [if_neg q1] at e2
    rw [schemeB, if_neg (by simp [h1]), if_pos (by simp [e2]), e2, if_neg (by omega)]
theorem term_less {has : Int → Bool} {v : Int} {t : Term} (h : termOk has v t = true) : termOk has (v - 1) t = !eqT t ⟨true, v - 1⟩ := by
  unfold termOk at h ⊢
  unfold eqT
  cases h0 : t.f0 with
  | true =>
    rw [h0, if_pos rfl] at h
    rw [if_pos rfl]
    have := of_decide_eq_true h
    by_cases e : t.f1 = v - 1
    · rw [decide_eq_false (by omega), beq_iff_eq.mpr e]; rfl
    · rw [decide_eq_true (by omega), beq_eq_false_iff_ne.mpr e]; rfl
  | false =>
    rw [h0, if_neg (by simp)] at h
    rw [if_neg (by simp), h]
    rfl
theorem all_congr_mem {α : Type} {p q : α → Bool} : ∀ {l : List α}, (∀ x ∈ l, p x = q x) → l.all p = l.all q
  | [], _ => rfl
  | x :: xs, h => by rw [List.all_cons, List.all_cons, h x List.mem_cons_self, all_congr_mem fun y hy => h y (List.mem_cons_of_mem _ hy)]
theorem not_any {α : Type} {p : α → Bool} : ∀ {l : List α}, (!l.any p) = l.all fun x => !p x
  | [] => rfl
  | x :: xs => by rw [List.any_cons, List.all_cons, Bool.not_or, not_any]
def askL (n : Int) (L : List Bound) : Bool := L.any fun b => eqT b.f0 ⟨true, n⟩ || eqT b.f1 ⟨true, n⟩
def askS (n : Int) (l : List Spot) : Bool := l.any fun x => eqT x.f3 ⟨true, n⟩
/-- With a variable of labels fewer. -/
theorem scheme_less {lv ev : Int} {a : List Node} {L E : List Bound} (h : schemeB hasL hasX lv ev a L E = 0) (h0 : 1 ≤ lv) : (schemeB hasL hasX (lv - 1) ev a L E == 0) = !(askL (lv - 1) L || askS (lv - 1) (labB a)) := by
  obtain ⟨h1, h2, h3, h4, h5⟩ := scheme_ok h
  obtain ⟨b0, b1, b2, b3⟩ := bounds_vars h2
  have e2 := bounds_mk (has := hasL) (v := lv - 1) (l := L) (by omega) (by omega) b2
  have f2 : (L.all fun b => termOk hasL (lv - 1) b.f0 && termOk hasL (lv - 1) b.f1) = !askL (lv - 1) L := by
    rw [askL, not_any]
    refine all_congr_mem fun b hb => ?_
    rw [term_less (b3 b hb).1, term_less (b3 b hb).2, Bool.not_or]
  have f4 : ((labB a).all fun x => termOk hasL (lv - 1) x.f3) = !askS (lv - 1) (labB a) := by
    rw [askS, not_any]
    exact all_congr_mem fun x hx => term_less (h4 x hx)
  rw [f2] at e2
  cases hq : askL (lv - 1) L with
  | true =>
    rw [hq] at e2
    have e3 : boundsB hasL (lv - 1) L = 1 := by rw [e2]; rfl
    rw [schemeB, if_neg (by simp [h1]), if_pos (by simp [e3]), e3]
    rfl
  | false =>
    rw [hq] at e2
    have e3 : boundsB hasL (lv - 1) L = 0 := by rw [e2]; rfl
    rw [scheme_mk h1 e3 h3, f4, List.all_eq_true.2 h5]
    cases askS (lv - 1) (labB a) <;> rfl
end
end L12
end Go.Proofs.YtjndjmggilcngaaGreatDoor
