/- What the law SchemesValues asks of Ground, in plain Lean: the lengths alone. -/
import Derived.Test.YtjndjmggilcngaaDoorHd

namespace Go.Proofs.YtjndjmggilcngaaDoor
open Go.RowKit Go.Proofs.YtjndjmggilcngaaDoorW.PrintWords Go.Proofs.YtjndjmggilcngaaDoorW.PrintLast Go.Proofs.YtjndjmggilcngaaDoorW.PrintMore
set_option linter.unusedVariables false
set_option linter.unusedSimpArgs false
namespace L12
section
variable {hasL hasX : Int → Bool}
theorem groun_zero {lv ev : Int} {a : List Node} {L E : List Bound} {ls xs : List Int} (h : schemeB hasL hasX lv ev a L E = 0) (h1 : (ls.length : Int) = lv) (h2 : (xs.length : Int) = ev) : (grounS lv ev a ls xs).2 = 0 := by
  have := groun_err (ls := ls) (xs := xs) h
  rw [beq_iff_eq.mpr h1, beq_iff_eq.mpr h2] at this
  exact beq_iff_eq.mp this
theorem groun_one {lv ev : Int} {a : List Node} {L E : List Bound} {ls xs : List Int} (h : schemeB hasL hasX lv ev a L E = 0) (hne : (ls.length : Int) ≠ lv ∨ (xs.length : Int) ≠ ev) : grounS lv ev a ls xs = ([], 1) := by
  obtain ⟨h1, -, -, -, -⟩ := scheme_ok h
  unfold grounS
  rw [if_neg (by simpa using h1), if_pos]
  rcases hne with q | q
  · exact .inl q
  · exact .inr (.inl q)
end
end L12
end Go.Proofs.YtjndjmggilcngaaDoor
