/- The arguments of chapter 9's statements: sorts, three bodies, two bodies, a move. -/
import Derived.Test.YtjndjmggilcngaaDoorOpS

namespace Go.Proofs.YtjndjmggilcngaaDoor
open Go.RowKit Go.Proofs.YtjndjmggilcngaaDoorW.PrintWords Go.Proofs.YtjndjmggilcngaaDoorW.PrintLast Go.Proofs.YtjndjmggilcngaaDoorW.PrintMore
set_option linter.unusedVariables false
set_option linter.unusedSimpArgs false
/-- A slice of nodes, as it comes in. -/
structure BodyY where
  A : Option Addr
  c : Nat
  l : List Node
def BodyY.ok (w : World) (y : BodyY) : Prop := y.l.length ≤ y.c ∧ kNode.C w y.A y.l.length y.l ∧ ∀ n ∈ y.l, Node.wf n
def BodyY.v (y : BodyY) : Value := .slice y.A y.l.length y.c
theorem bodyY {w : World} {xs : List Node} {cs : List Value} (h : (Kd.slice 0 kNode).K w xs cs) (hw : ∀ n ∈ xs, Node.wf n) : ∃ y : BodyY, cs = [y.v] ∧ y.ok w ∧ y.l = xs := by
  obtain ⟨A, c, rfl, hl, hC⟩ := K_slice h
  exact ⟨⟨A, c, xs⟩, rfl, ⟨hl, hC, hw⟩, rfl⟩
end Go.Proofs.YtjndjmggilcngaaDoor
