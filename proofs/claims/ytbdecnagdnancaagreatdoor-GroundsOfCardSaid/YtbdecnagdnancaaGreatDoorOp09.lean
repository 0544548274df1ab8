/- The arguments of chapter 9's statements: sorts, three bodies, two bodies, a move. -/
import Derived.Test.YtbdecnagdnancaaGreatDoorOpS

namespace Go.Proofs.YtbdecnagdnancaaGreatDoor
open Go.RowKit Go.Proofs.YtbdecnagdnancaaGreatDoorW.PrintWords Go.Proofs.YtbdecnagdnancaaGreatDoorW.PrintLast Go.Proofs.YtbdecnagdnancaaGreatDoorW.PrintMore
set_option linter.unusedVariables false
set_option linter.unusedSimpArgs false
theorem arg_sorts09 {H : Type} {enc : TypeId × Value → H} {w : World} {v : Value} {x : DataW H} {ps : List MemPlace} (hs : ∃ cs, v = .agg cs) (hx : DataW.Trod enc Tryz.prog w 0 (fun _ => true) true 52 v x ps) (hL : Light Tryz.prog 52 x) : ∃ y : SortsY, v = y.v ∧ y.ok w := by
  obtain ⟨cs, y, rfl, hK, hw⟩ := arg_agg (d := Kd.pair (Kd.slice 0 (Kd.int .u64)) (Kd.int .i64)) (opens_struct (l := [(50, 0), (3, 1)]) (by kernel_rfl) (by kernel_rfl) (from_cons (by kernel_rfl) rfl (opens_slice 0 Tryz.underlying50 (by kernel_rfl) (opens_int Tryz.underlying118)) (from_last (by kernel_rfl) (opens_int Tryz.underlying3)))) hs hx hL
  obtain ⟨c1, c2, e, k1, k2⟩ := K_pair hK
  obtain ⟨A, c, rfl, hl, hC⟩ := K_slice k1
  have k3 : c2 = [.int .i64 y.2] := k2
  subst k3
  refine ⟨⟨A, c, y.1, y.2⟩, ?_, hl, hC, fun r hr => u64_wf (hw.1.1 r hr), hw.2⟩
  show Value.agg cs = _
  rw [← Array.toArray_toList (xs := cs), e]
  rfl
/-- A slice of nodes, as it comes in. -/
structure BodyY where
  A : Option Addr
  c : Nat
  l : List Node
def BodyY.ok (w : World) (y : BodyY) : Prop := y.l.length ≤ y.c ∧ kNode.C w y.A y.l.length y.l ∧ ∀ n ∈ y.l, Node.wf n
def BodyY.v (y : BodyY) : Value := .slice y.A y.l.length y.c
theorem bodyY {w : World} {xs : List Node} {cs : List Value} (h : (Kd.slice 0 kNode).K w xs cs) (hw : ∀ n ∈ xs, Node.wf n) : ∃ y : BodyY, cs = [y.v] ∧ y.ok w ∧ y.l = xs := by
  obtain ⟨A, c, rfl, hl, hC⟩ := K_slice h
  exact ⟨⟨A, c, xs⟩, rfl, ⟨hl, hC, hw⟩, rfl⟩
end Go.Proofs.YtbdecnagdnancaaGreatDoor
