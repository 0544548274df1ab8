/- The arguments of chapter 9's statements: sorts, three bodies, two bodies, a move. -/
import Derived.Test.YtkndpgbpdidlgaaDoorOpS
namespace Go.Proofs.YtkndpgbpdidlgaaDoor
open Go.RowKit Go.Proofs.YtkndpgbpdidlgaaDoorW.PrintWords Go.Proofs.YtkndpgbpdidlgaaDoorW.PrintLast Go.Proofs.YtkndpgbpdidlgaaDoorW.PrintMore
set_option linter.unusedVariables false
set_option linter.unusedSimpArgs false
theorem arg_sorts09 {H : Type} {enc : TypeId × Value → H} {w : World} {v : Value} {x : DataW H} {ps : List MemPlace} (hs : ∃ cs, v = .agg cs) (hx : DataW.Trod enc Tryd.prog w 0 (fun _ => true) true 25 v x ps) (hL : Light Tryd.prog 25 x) : ∃ y : SortsY, v = y.v ∧ y.ok w := by
  obtain ⟨cs, y, rfl, hK, hw⟩ := arg_agg (d := Kd.pair (Kd.slice 0 (Kd.int .u64)) (Kd.int .i64)) (opens_struct (l := [(23, 0), (3, 1)]) (by kernel_rfl) (by kernel_rfl) (from_cons (by kernel_rfl) rfl (opens_slice 0 Tryd.underlying23 (by kernel_rfl) (opens_int Tryd.underlying54)) (from_last (by kernel_rfl) (opens_int Tryd.underlying3)))) hs hx hL
  obtain ⟨c1, c2, e, k1, k2⟩ := K_pair hK
  obtain ⟨A, c, rfl, hl, hC⟩ := K_slice k1
  have k3 : c2 = [.int .i64 y.2] := k2
  subst k3
  refine ⟨⟨A, c, y.1, y.2⟩, ?_, hl, hC, fun r hr => u64_wf (hw.1.1 r hr), hw.2⟩
  show Value.agg cs = _
  rw [← Array.toArray_toList (xs := cs), e]
  rfl
/-- A slice of nodes, as it comes in. -/
structure BodyY where
  A : Option Addr
  c : Nat
  l : List Node
def BodyY.ok (w : World) (y : BodyY) : Prop := y.l.length ≤ y.c ∧ kNode.C w y.A y.l.length y.l ∧ ∀ n ∈ y.l, Node.wf n
def BodyY.v (y : BodyY) : Value := .slice y.A y.l.length y.c
theorem bodyY {w : World} {xs : List Node} {cs : List Value} (h : (Kd.slice 0 kNode).K w xs cs) (hw : ∀ n ∈ xs, Node.wf n) : ∃ y : BodyY, cs = [y.v] ∧ y.ok w ∧ y.l = xs := by
  obtain ⟨A, c, rfl, hl, hC⟩ := K_slice h
  exact ⟨⟨A, c, xs⟩, rfl, ⟨hl, hC, hw⟩, rfl⟩
theorem arg_three {H : Type} {enc : TypeId × Value → H} {w : World} {v : Value} {x : DataW H} {ps : List MemPlace} (hs : ∃ cs, v = .agg cs) (hx : DataW.Trod enc Tryd.prog w 0 (fun _ => true) true 36 v x ps) (hL : Light Tryd.prog 36 x) : ∃ y : BodyY × BodyY × BodyY, v = .agg #[y.1.v, y.2.1.v, y.2.2.v] ∧ y.1.ok w ∧ y.2.1.ok w ∧ y.2.2.ok w := by
  obtain ⟨cs, y, rfl, hK, hw⟩ := arg_agg (d := Kd.pair (Kd.slice 0 kNode) (Kd.pair (Kd.slice 0 kNode) (Kd.slice 0 kNode))) (opens_three Tryd.underlying36 (by kernel_rfl) (by kernel_rfl) opens_nodes) hs hx hL
  obtain ⟨c1, c2, e, k1, k2⟩ := K_pair hK
  obtain ⟨c3, c4, rfl, k3, k4⟩ := K_pair k2
  obtain ⟨y1, rfl, h1, _⟩ := bodyY k1 hw.1.1
  obtain ⟨y2, rfl, h2, _⟩ := bodyY k3 hw.2.1.1
  obtain ⟨y3, rfl, h3, _⟩ := bodyY k4 hw.2.2.1
  refine ⟨(y1, y2, y3), ?_, h1, h2, h3⟩
  rw [← Array.toArray_toList (xs := cs), e]
  rfl
theorem arg_pair {H : Type} {enc : TypeId × Value → H} {w : World} {v : Value} {x : DataW H} {ps : List MemPlace} (hs : ∃ cs, v = .agg cs) (hx : DataW.Trod enc Tryd.prog w 0 (fun _ => true) true 39 v x ps) (hL : Light Tryd.prog 39 x) : ∃ y : BodyY × BodyY, v = .agg #[y.1.v, y.2.v] ∧ y.1.ok w ∧ y.2.ok w := by
  obtain ⟨cs, y, rfl, hK, hw⟩ := arg_agg (d := Kd.pair (Kd.slice 0 kNode) (Kd.slice 0 kNode)) (opens_two Tryd.underlying39 (by kernel_rfl) (by kernel_rfl) opens_nodes) hs hx hL
  obtain ⟨c1, c2, e, k1, k2⟩ := K_pair hK
  obtain ⟨y1, rfl, h1, _⟩ := bodyY k1 hw.1.1
  obtain ⟨y2, rfl, h2, _⟩ := bodyY k2 hw.2.1
  refine ⟨(y1, y2), ?_, h1, h2⟩
  rw [← Array.toArray_toList (xs := cs), e]
  rfl
theorem arg_moved {H : Type} {enc : TypeId × Value → H} {w : World} {v : Value} {x : DataW H} {ps : List MemPlace} (hs : ∃ cs, v = .agg cs) (hx : DataW.Trod enc Tryd.prog w 0 (fun _ => true) true 76 v x ps) (hL : Light Tryd.prog 76 x) : ∃ y : BodyY × Int × Int, v = .agg #[y.1.v, .int .u16 y.2.1, .int .u64 y.2.2] ∧ y.1.ok w ∧ (Lit.int .u16 y.2.1).wf = true ∧ (Lit.int .u64 y.2.2).wf = true := by
  obtain ⟨cs, y, rfl, hK, hw⟩ := arg_agg (d := Kd.pair (Kd.slice 0 kNode) (Kd.pair (Kd.int .u16) (Kd.int .u64))) (opens_struct (l := [(22, 0), (74, 1), (54, 2)]) (by kernel_rfl) (by kernel_rfl) (from_cons (by kernel_rfl) rfl opens_nodes (from_cons (by kernel_rfl) rfl (opens_int Tryd.underlying74) (from_last (by kernel_rfl) (opens_int Tryd.underlying54))))) hs hx hL
  obtain ⟨c1, c2, e, k1, k2⟩ := K_pair hK
  obtain ⟨c3, c4, rfl, k3, k4⟩ := K_pair k2
  obtain ⟨y1, rfl, h1, _⟩ := bodyY k1 hw.1.1
  have e3 : c3 = [.int .u16 y.2.1] := k3
  have e4 : c4 = [.int .u64 y.2.2] := k4
  subst e3 e4
  refine ⟨(y1, y.2.1, y.2.2), ?_, h1, hw.2.1, hw.2.2⟩
  rw [← Array.toArray_toList (xs := cs), e]
  rfl
end Go.Proofs.YtkndpgbpdidlgaaDoor
