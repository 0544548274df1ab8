
/- Several texts as one: Ap, Qx, Qt. -/
import Derived.Test.YtdecijmncpbheaaGreatDoorB
import Derived.BigQuiet
import Derived.Deep.Quiet
import Derived.StillTailTactics

namespace Go.Proofs.YtdecijmncpbheaaGreatDoor
open Go.RowKit Go.Proofs.YtdecijmncpbheaaGreatDoorW.PrintWords Go.Proofs.YtdecijmncpbheaaGreatDoorW.PrintLast Go.Proofs.YtdecijmncpbheaaGreatDoorW.PrintMore
set_option linter.unusedVariables false
set_option linter.unusedSimpArgs false
section
variable {P : Program} {α : Type}
theorem step_append_R {ops : Array Oper} {o : Oper} {a : Act} {K : Act → World → Prop} {Q : Exit → Act → World → Prop} {E : Prop} (hgd : o.guard = none) (d : Kd α) {Rr : α → List Value → Prop} {W : World} (base : Nat) (s x : Operand) (t t2 e e2 : TypeId) (z : Value) (bytes : Nat)
    (ho : o.op = .call { callee := .builtin .append, args := #[s, x], argTypes := #[t, t2] })
    (ht : P.underlying t = some (.slice e)) (ht2 : P.underlying t2 = some (.slice e2)) (hinfo : (P.info? e).map (fun i => (i.zero, i.size, i.bytes)) = some (some z, d.sz, bytes)) (hz : z.cells.size = d.sz) (hs0 : 0 < d.sz) (hb0 : 0 < bytes)
    (v : Value) (xs ys : List α) (A : Option Addr) (m c : Nat) (ok okp : Nat → Prop) (hs : a.eval s = v) (hx : a.eval x = .slice A m c)
    (HO : d.R e W base ok v xs) (HR : ReadsRow Rr d.sz W A m ys) (hKM : ∀ x cs, Rr x cs → d.M W base okp x cs) (hokp : ∀ k, okp k → ok k ∧ some k ≠ v.ownBlock) (hfresh : ∀ k, W.heap.size ≤ k → ok k)
    (hbase : base ≤ W.heap.size) (hl : (xs.length + m) * bytes ≤ 140737488355328)
    (h : ∀ v1 w1, d.R e w1 base ok v1 (xs ++ ys) → W.grownBy w1 v.ownBlock → (v1.ownBlock = v.ownBlock ∨ ∃ b, v1.ownBlock = some b ∧ W.heap.size ≤ b) → K (a.put o.dst v1) w1) :
    if Region.wanted o (yielded ops a.tmps) = true then Oper.wp P o a W K Q else E := by
  have hw : Region.wanted o (yielded ops a.tmps) = true := by simp [Region.wanted, hgd]
  obtain ⟨v1, w1, hrun, h1, h2, h3⟩ := run_append_R (P := P) d base t t2 o.type e e2 z bytes ht ht2 hinfo hz hs0 hb0 v xs ys A m c ok okp HO HR hKM hokp hfresh hbase hl
  rw [if_pos hw]
  unfold Oper.wp
  simp [execOp, ho, resolve, invoke, builtin, hs, hx, hrun, Result.andThen, Oper.upon]
  exact h _ _ h1 h2 h3
end
end Go.Proofs.YtdecijmncpbheaaGreatDoor

namespace Go.Proofs.YtdecijmncpbheaaGreatDoor
open Go.RowKit Go.Proofs.YtdecijmncpbheaaGreatDoorW.PrintWords Go.Proofs.YtdecijmncpbheaaGreatDoorW.PrintLast Go.Proofs.YtdecijmncpbheaaGreatDoorW.PrintMore
set_option linter.unusedVariables false
set_option linter.unusedSimpArgs false
/-- A memory that has only grown out of w. -/
structure Ext (w : World) where
  W : World
  below : Below w.heap.size w W
instance Ext.there (w : World) : Nonempty (Ext w) := ⟨⟨w, Below.refl _ _⟩⟩
theorem Ext.cell {w : World} {p : Addr} {v : Value} (h : w.cell? p = some v) (e : Ext w) : e.W.cell? p = some v := pw_cell_below e.below h
theorem Ext.drew {w : World} {p : Addr} {v : Value} (h : w.cell? p = some v) (e : Ext w.drew) : e.W.cell? p = some v := pw_cell_below e.below h
section
variable {P : Program}
theorem region_ext {id : Nat} {Q : Exit → Act → World → Prop} {a : Act} {w : World} {l : List Oper} (hm : P.follows .mixedOrders = true) (hB : Region.lexB .any l.toArray = true)
    (h : wpQuiet P l.toArray (fun W => ∃ e : Ext w, W = e.W) (fun a' => ∀ W, (∃ e : Ext w, W = e.W) → Q .normal a' W) l a) : (Code.region id l.toArray true).wp P Q a w :=
  wp_region_quiet (C := fun W => ∃ e : Ext w, W = e.W) hm hB ⟨⟨w.drew, (Below.refl _ _).drew⟩, rfl⟩ h
theorem wpQuiet_end {ops : Array Oper} {w : World} {a : Act} {Q : Exit → Act → World → Prop} (h : ∀ e : Ext w, Q .normal a e.W) : wpQuiet P ops (fun W => ∃ e : Ext w, W = e.W) (fun a' => ∀ W, (∃ e : Ext w, W = e.W) → Q .normal a' W) [] a := fun _ ⟨e, he⟩ => he ▸ h e
theorem ext_of {f : FuncId} {args : Array Value} {w : World} {e : Ext w} {v : Value} (h : Calls P f args e.W fun en W => en = .returned v ∧ Below e.W.heap.size e.W W) :
    Calls P f args e.W fun en W => en = .returned v ∧ ∃ e' : Ext w, W = e'.W :=
  h.mono fun _ W ⟨he, hb⟩ => ⟨he, ⟨W, below_step e.below hb⟩, rfl⟩
end
end Go.Proofs.YtdecijmncpbheaaGreatDoor

namespace Go.Proofs.YtdecijmncpbheaaGreatDoor
open Go.RowKit Go.Proofs.YtdecijmncpbheaaGreatDoorW.PrintWords Go.Proofs.YtdecijmncpbheaaGreatDoorW.PrintLast Go.Proofs.YtdecijmncpbheaaGreatDoorW.PrintMore
set_option linter.unusedVariables false
set_option linter.unusedSimpArgs false
section
variable {P : Program}
end
end Go.Proofs.YtdecijmncpbheaaGreatDoor
