/- A region that draws its order, whose operations read and whose callees answer alike in every memory that has only grown: one walk serves. -/
import Derived.BigQuiet
import Derived.Deep.Quiet
import Derived.Test.YtbdecnagdnancaaGreatDoorB

namespace Go.Proofs.YtbdecnagdnancaaGreatDoor
open Go.RowKit Go.Proofs.YtbdecnagdnancaaGreatDoorW.PrintWords Go.Proofs.YtbdecnagdnancaaGreatDoorW.PrintLast Go.Proofs.YtbdecnagdnancaaGreatDoorW.PrintMore
set_option linter.unusedVariables false
set_option linter.unusedSimpArgs false
/-- A memory that has only grown out of w. -/
structure Ext (w : World) where
  W : World
  below : Below w.heap.size w W
instance Ext.there (w : World) : Nonempty (Ext w) := ⟨⟨w, Below.refl _ _⟩⟩
theorem Ext.cell {w : World} {p : Addr} {v : Value} (h : w.cell? p = some v) (e : Ext w) : e.W.cell? p = some v := pw_cell_below e.below h
theorem Ext.drew {w : World} {p : Addr} {v : Value} (h : w.cell? p = some v) (e : Ext w.drew) : e.W.cell? p = some v := pw_cell_below e.below h
section
variable {P : Program}
theorem region_ext {id : Nat} {Q : Exit → Act → World → Prop} {a : Act} {w : World} {l : List Oper} (hm : P.follows .mixedOrders = true) (hB : Region.lexB .any l.toArray = true)
    (h : wpQuiet P l.toArray (fun W => ∃ e : Ext w, W = e.W) (fun a' => ∀ W, (∃ e : Ext w, W = e.W) → Q .normal a' W) l a) : (Code.region id l.toArray true).wp P Q a w :=
  wp_region_quiet (C := fun W => ∃ e : Ext w, W = e.W) hm hB ⟨⟨w.drew, (Below.refl _ _).drew⟩, rfl⟩ h
theorem wpQuiet_end {ops : Array Oper} {w : World} {a : Act} {Q : Exit → Act → World → Prop} (h : ∀ e : Ext w, Q .normal a e.W) : wpQuiet P ops (fun W => ∃ e : Ext w, W = e.W) (fun a' => ∀ W, (∃ e : Ext w, W = e.W) → Q .normal a' W) [] a := fun _ ⟨e, he⟩ => he ▸ h e
theorem ext_of {f : FuncId} {args : Array Value} {w : World} {e : Ext w} {v : Value} (h : Calls P f args e.W fun en W => en = .returned v ∧ Below e.W.heap.size e.W W) :
    Calls P f args e.W fun en W => en = .returned v ∧ ∃ e' : Ext w, W = e'.W :=
  h.mono fun _ W ⟨he, hb⟩ => ⟨he, ⟨W, below_step e.below hb⟩, rfl⟩
end
end Go.Proofs.YtbdecnagdnancaaGreatDoor
