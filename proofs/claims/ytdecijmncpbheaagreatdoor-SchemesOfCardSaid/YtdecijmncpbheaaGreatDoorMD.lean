
/- Several texts as one: GrB, GrC, GrD, GrE, GrF, GrT, GrG. -/
import Derived.Test.YtdecijmncpbheaaGreatDoorME
import Derived.Test.YtdecijmncpbheaaGreatDoorMC
import Derived.Test.YtdecijmncpbheaaGreatDoorMB
import Derived.RangeFuncNested
import Derived.RangeFuncCalls
import Derived.RangeFuncLeaves
import Derived.Shelf.Abstract
import Derived.Shelf.RegionOpen
import Derived.WalkKit
import Derived.OwnWalkIn
import Derived.TacticsInMore
import Derived.LoopNIn
import Derived.LoopIn
import Derived.Stop.RegionWithIn
import Derived.Test.YtdecijmncpbheaaGreatDoorMO

namespace Go.Proofs.YtdecijmncpbheaaGreatDoor
open Go.RowKit Go.Shelf Go.Proofs.YtdecijmncpbheaaGreatDoorW.PrintWords Go.Proofs.YtdecijmncpbheaaGreatDoorW.PrintLast Go.Proofs.YtdecijmncpbheaaGreatDoorW.PrintMore
set_option linter.unusedVariables false
set_option linter.unusedSimpArgs false
/-- The values that stand at the same spots, by a way of the sides. -/
def holdsS (le : Int → Int → Bool) (s p q : Int) : Bool := if s = 0 then le p q else if s = 1 then le q p else le p q && le q p
def belowL (le : Int → Int → Bool) : List Spot → List Spot → Bool
  | x :: xs, y :: ys => holdsS le x.f2 x.f3.f1 y.f3.f1 && belowL le xs ys
  | _, _ => true
/-- Are all terms values of a sort? -/
def termsB (has : Int → Bool) (l : List Spot) : Bool := l.all fun x => !x.f3.f0 && has x.f3.f1
/-- What grounds.Below answers. -/
def groundB (hasL hasX : Int → Bool) (leL leX : Int → Int → Bool) (a b : List Node) : Bool × Int :=
  if checkB a ≠ 0 ∨ checkB b ≠ 0 then (false, 4)
  else if (termsB hasL (labB a) && termsB hasX (effB a) && termsB hasL (labB b) && termsB hasX (effB b)) = false then (false, 1)
  else if sameL a b = false then (false, 0)
  else (belowL leL (labB a) (labB b) && belowL leX (effB a) (effB b), 0)
end Go.Proofs.YtdecijmncpbheaaGreatDoor

namespace Go.Proofs.YtdecijmncpbheaaGreatDoor
open Go.RowKit Go.Proofs.YtdecijmncpbheaaGreatDoorW.PrintWords Go.Proofs.YtdecijmncpbheaaGreatDoorW.PrintLast Go.Proofs.YtdecijmncpbheaaGreatDoorW.PrintMore
set_option linter.unusedVariables false
set_option linter.unusedSimpArgs false
end Go.Proofs.YtdecijmncpbheaaGreatDoor

namespace Go.Proofs.YtdecijmncpbheaaGreatDoor
open Go.RowKit Go.Proofs.YtdecijmncpbheaaGreatDoorW.PrintWords Go.Proofs.YtdecijmncpbheaaGreatDoorW.PrintLast Go.Proofs.YtdecijmncpbheaaGreatDoorW.PrintMore
set_option linter.unusedVariables false
set_option linter.unusedSimpArgs false
end Go.Proofs.YtdecijmncpbheaaGreatDoor

namespace Go.Proofs.YtdecijmncpbheaaGreatDoor
open Go.RowKit Go.Proofs.YtdecijmncpbheaaGreatDoorW.PrintWords Go.Proofs.YtdecijmncpbheaaGreatDoorW.PrintLast Go.Proofs.YtdecijmncpbheaaGreatDoorW.PrintMore
set_option linter.unusedVariables false
set_option linter.unusedSimpArgs false
attribute [local go_sem] Oper.semAt_some
end Go.Proofs.YtdecijmncpbheaaGreatDoor

namespace Go.Proofs.YtdecijmncpbheaaGreatDoor
open Go.RowKit Go.Proofs.YtdecijmncpbheaaGreatDoorW.PrintWords Go.Proofs.YtdecijmncpbheaaGreatDoorW.PrintLast Go.Proofs.YtdecijmncpbheaaGreatDoorW.PrintMore
set_option linter.unusedVariables false
set_option linter.unusedSimpArgs false
attribute [local go_sem] Oper.semAt_some
end Go.Proofs.YtdecijmncpbheaaGreatDoor

namespace Go.Proofs.YtdecijmncpbheaaGreatDoor
open Go.RowKit Go.Proofs.YtdecijmncpbheaaGreatDoorW.PrintWords Go.Proofs.YtdecijmncpbheaaGreatDoorW.PrintLast Go.Proofs.YtdecijmncpbheaaGreatDoorW.PrintMore
set_option linter.unusedVariables false
set_option linter.unusedSimpArgs false
/-- A value of a sort: a word of 64 bits. -/
def DU (a : Int) : Prop := 0 ≤ a ∧ a < 2 ^ 64
/-! ### spots: whose they are -/
theorem labL_all : ∀ (i : Nat) (l : List Node) (ss : List Int), ∀ x ∈ labL i l ss, (∃ n ∈ l, x.f3 = n.f4 ∨ x.f3 = n.f5) ∧ ∃ s ∈ ss, x.f2 = s ∨ x.f2 = turnI s
  | i, [], ss, x, h => by cases ss <;> simp [labL] at h
  | i, n :: t, [], x, h => by simp [labL] at h
  | i, n :: t, s :: ss, x, h => by
    rw [labL] at h
    rcases List.mem_append.1 h with h | h
    · unfold labN at h
      split at h
      · simp at h
        rcases h with rfl | rfl
        · exact ⟨⟨n, by simp, .inl rfl⟩, s, by simp, .inl rfl⟩
        · exact ⟨⟨n, by simp, .inr rfl⟩, s, by simp, .inr rfl⟩
      · simp at h
        subst h
        exact ⟨⟨n, by simp, .inl rfl⟩, s, by simp, .inl rfl⟩
    · obtain ⟨⟨m, hm, e⟩, q, hq, e2⟩ := labL_all (i + 1) t ss x h
      exact ⟨⟨m, List.mem_cons_of_mem _ hm, e⟩, q, List.mem_cons_of_mem _ hq, e2⟩
theorem effL_all : ∀ (i : Nat) (l : List Node) (ss : List Int), ∀ x ∈ effL i l ss, (∃ n ∈ l, x.f3 = n.f6) ∧ ∃ s ∈ ss, x.f2 = s
  | i, [], ss, x, h => by cases ss <;> simp [effL] at h
  | i, n :: t, [], x, h => by simp [effL] at h
  | i, n :: t, s :: ss, x, h => by
    rw [effL] at h
    rcases List.mem_append.1 h with h | h
    · unfold effN at h
      split at h
      · simp at h
        subst h
        exact ⟨⟨n, by simp, rfl⟩, s, by simp, rfl⟩
      · simp at h
    · obtain ⟨⟨m, hm, e⟩, q, hq, e2⟩ := effL_all (i + 1) t ss x h
      exact ⟨⟨m, List.mem_cons_of_mem _ hm, e⟩, q, List.mem_cons_of_mem _ hq, e2⟩
theorem turn_range {s : Int} (h : 0 ≤ s ∧ s ≤ 2) : 0 ≤ turnI s ∧ turnI s ≤ 2 := by unfold turnI; split <;> first | omega | (split <;> omega)
theorem wf_DU {t : Term} (h : Term.wf t) : DU t.f1 := by
  have := wf_u64 h
  exact ⟨this.1, by have := this.2; omega⟩
/-- Each spot of a body that came in: its value is a word, its side one of three. -/
def SpW (l : List Spot) : Prop := ∀ x ∈ l, DU x.f3.f1 ∧ 0 ≤ x.f2 ∧ x.f2 ≤ 2
theorem labB_W {a : List Node} (hw : ∀ n ∈ a, Node.wf n) : SpW (labB a) := fun x hx => by
  unfold labB at hx
  split at hx
  · obtain ⟨⟨n, hn, e⟩, s, hs, e2⟩ := labL_all _ _ _ x hx
    have h1 := sides_mem a [0] (by simp) s hs
    have h2 := hw n hn
    refine ⟨?_, ?_⟩
    · rcases e with e | e <;> rw [e]
      · exact wf_DU h2.2.2.2.2.1
      · exact wf_DU h2.2.2.2.2.2.1
    · rcases e2 with e2 | e2 <;> rw [e2]
      · exact h1
      · exact turn_range h1
  · cases hx
theorem effB_W {a : List Node} (hw : ∀ n ∈ a, Node.wf n) : SpW (effB a) := fun x hx => by
  unfold effB at hx
  split at hx
  · obtain ⟨⟨n, hn, e⟩, s, hs, e2⟩ := effL_all _ _ _ x hx
    have h1 := sides_mem a [0] (by simp) s hs
    have h2 := hw n hn
    rw [e, e2]
    exact ⟨wf_DU h2.2.2.2.2.2.2, h1⟩
  · cases hx
/-! ### the values of a sort, spot by spot -/
section
variable {has : Int → Bool} {le : Int → Int → Bool}
end
/-! ### what grounds.Below answers -/
section
variable {hasL hasX : Int → Bool} {leL leX : Int → Int → Bool}
end
end Go.Proofs.YtdecijmncpbheaaGreatDoor

namespace Go.Proofs.YtdecijmncpbheaaGreatDoor
open Go.RowKit Go.Proofs.YtdecijmncpbheaaGreatDoorW.PrintWords Go.Proofs.YtdecijmncpbheaaGreatDoorW.PrintLast Go.Proofs.YtdecijmncpbheaaGreatDoorW.PrintMore
set_option linter.unusedVariables false
set_option linter.unusedSimpArgs false
theorem labB_nonneg {a : List Node} (hw : ∀ n ∈ a, Node.wf n) : ∀ x ∈ labB a, 0 ≤ x.f3.f1 := fun x hx => (labB_W hw x hx).1.1
theorem effB_nonneg {a : List Node} (hw : ∀ n ∈ a, Node.wf n) : ∀ x ∈ effB a, 0 ≤ x.f3.f1 := fun x hx => (effB_W hw x hx).1.1
theorem labB_max (a : List Node) : (labB a).length ≤ 256 := by
  unfold labB
  split
  · rename_i h
    have := labL_len 0 a (sidesB a)
    have := (checkB_L h).2.1
    omega
  · simp
theorem effB_max (a : List Node) : (effB a).length ≤ 256 := by
  unfold effB
  split
  · rename_i h
    have := effL_len 0 a (sidesB a)
    have := (checkB_L h).2.1
    omega
  · simp
end Go.Proofs.YtdecijmncpbheaaGreatDoor
