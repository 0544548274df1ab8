
/- Several texts as one: OpS, Op09, GrU, L09A. -/
import Derived.Test.YtdecijmncpbheaaGreatDoorMO
import Derived.Test.YtdecijmncpbheaaGreatDoorMC
import Derived.Test.YtdecijmncpbheaaGreatDoorRows
import Derived.LaidMore
import Derived.OpenShut
import Derived.Test.YtdecijmncpbheaaGreatDoorMD

namespace Go.Proofs.YtdecijmncpbheaaGreatDoor
open Go.RowKit Go.Proofs.YtdecijmncpbheaaGreatDoorW.PrintWords Go.Proofs.YtdecijmncpbheaaGreatDoorW.PrintLast Go.Proofs.YtdecijmncpbheaaGreatDoorW.PrintMore
set_option linter.unusedVariables false
set_option linter.unusedSimpArgs false
/-- Sorts, as they come in: rows of labels, and how many effects. -/
structure SortsY where
  A : Option Addr
  c : Nat
  rows : List Int
  n : Int
def SortsY.ok (w : World) (y : SortsY) : Prop := y.rows.length ≤ y.c ∧ (Kd.int .u64).C w y.A y.rows.length y.rows ∧ U64s y.rows ∧ (Lit.int .i64 y.n).wf = true
def SortsY.v (y : SortsY) : Value := .agg #[.slice y.A y.rows.length y.c, .int .i64 y.n]
section
variable {P : Program}
theorem K_pair {α β : Type} {a : Kd α} {b : Kd β} {w : World} {v : α × β} {cs : List Value} (h : (Kd.pair a b).K w v cs) : ∃ c1 c2, cs = c1 ++ c2 ∧ a.K w v.1 c1 ∧ b.K w v.2 c2 := by
  obtain ⟨c1, c2, h1, h2, h3⟩ := h
  exact ⟨c1, c2, h1, h2, h3⟩
theorem K_slice {α : Type} {e : Nat} {d : Kd α} {w : World} {xs : List α} {cs : List Value} (h : (Kd.slice e d).K w xs cs) : ∃ A c, cs = [.slice A xs.length c] ∧ xs.length ≤ c ∧ d.C w A xs.length xs := h
end
theorem opens_nodes : Opens Tryz.prog 22 (Kd.slice 0 kNode) (fun xs => (∀ x ∈ xs, Node.wf x) ∧ xs.length * Tryz.prog.bytesOf 119 ≤ 140737488351232) := opens_slice 0 Tryz.underlying22 (by kernel_rfl) opens_node
theorem u64_wf {n : Int} (h : (Lit.int .u64 n).wf = true) : 0 ≤ n ∧ n < 2 ^ 64 := by have := wf_u64 h; omega
end Go.Proofs.YtdecijmncpbheaaGreatDoor

namespace Go.Proofs.YtdecijmncpbheaaGreatDoor
open Go.RowKit Go.Proofs.YtdecijmncpbheaaGreatDoorW.PrintWords Go.Proofs.YtdecijmncpbheaaGreatDoorW.PrintLast Go.Proofs.YtdecijmncpbheaaGreatDoorW.PrintMore
set_option linter.unusedVariables false
set_option linter.unusedSimpArgs false
/-- A slice of nodes, as it comes in. -/
structure BodyY where
  A : Option Addr
  c : Nat
  l : List Node
def BodyY.ok (w : World) (y : BodyY) : Prop := y.l.length ≤ y.c ∧ kNode.C w y.A y.l.length y.l ∧ ∀ n ∈ y.l, Node.wf n
def BodyY.v (y : BodyY) : Value := .slice y.A y.l.length y.c
end Go.Proofs.YtdecijmncpbheaaGreatDoor

namespace Go.Proofs.YtdecijmncpbheaaGreatDoor
open Go.RowKit Go.Proofs.YtdecijmncpbheaaGreatDoorW.PrintWords Go.Proofs.YtdecijmncpbheaaGreatDoorW.PrintLast Go.Proofs.YtdecijmncpbheaaGreatDoorW.PrintMore
set_option linter.unusedVariables false
set_option linter.unusedSimpArgs false
namespace L09
def zT : Term := ⟨false, 0⟩
def funN : Node := ⟨5, 0, ⟨#[]⟩, 2, zT, zT, zT⟩
def refN : Node := ⟨4, 0, ⟨#[]⟩, 1, zT, zT, zT⟩
section
variable {hasL hasX : Int → Bool} {leL leX : Int → Int → Bool}
end
end L09
end Go.Proofs.YtdecijmncpbheaaGreatDoor

namespace Go.Proofs.YtdecijmncpbheaaGreatDoor
open Go.RowKit Go.Proofs.YtdecijmncpbheaaGreatDoorW.PrintWords Go.Proofs.YtdecijmncpbheaaGreatDoorW.PrintLast Go.Proofs.YtdecijmncpbheaaGreatDoorW.PrintMore
set_option linter.unusedVariables false
set_option linter.unusedSimpArgs false
namespace L09
def latO (rows : List Int) : Option (List Int) := if checkO rows = 0 then some rows else none
theorem check_ord {rows : List Int} (h : checkO rows = 0) : orderedB rows = true ∧ 0 < rows.length ∧ rows.length ≤ 64 := by
  unfold checkO at h
  split at h
  · cases h
  · rename_i h1
    split at h
    · cases h
    · split at h
      · cases h
      · rename_i h2
        exact ⟨by simpa using h2, by omega, by omega⟩
theorem new_calls (w : World) (A : Option Addr) (c n : Nat) (rows : List Int) (hn : n = rows.length) (hr : (Kd.int .u64).C w A n rows) (hU : U64s rows) (HT : Aside0 (TabAt 1 Lib.deBruijn64tab w)) :
    Calls Tryz.prog 27 #[.slice A n c] w fun e w' => Below w.heap.size w w' ∧ ∃ v z, e = .returned (.tuple #[v, .int .i64 z]) ∧ LatV w' v (latO rows) := by
  by_cases h0 : checkO rows = 0
  · have hl := check_ord h0
    refine (new_ok w A c n rows hn hr.2.1 hr hU HT h0 (by omega)).mono ?_
    rintro e w' ⟨hb, g, rfl, hL⟩
    refine ⟨hb, _, _, rfl, ?_⟩
    rw [latO, if_pos h0]
    exact ⟨g, rfl, hL, hl.2.2⟩
  · refine (new_bad w A c n rows hn hr.2.1 hr hU HT (bne_iff_ne.mpr h0)).mono ?_
    rintro e w' ⟨hb, rfl⟩
    refine ⟨hb, _, _, rfl, ?_⟩
    rw [latO, if_neg h0]
    rfl
/-- A type int of a label. -/
def wN (l : Int) : Node := ⟨1, 0, ⟨#[105, 110, 116]⟩, 0, ⟨false, l⟩, zT, zT⟩
def varN : Node := ⟨1, 0, ⟨#[105, 110, 116]⟩, 0, ⟨true, 0⟩, zT, zT⟩
def oL : Option (List Int) := some [3, 2]
def oX : Option Int := some 0
abbrev gB (a b : List Node) : Bool × Int := groundB (hasLat oL) (hasEff oX) (leLat oL) (leEff oX) a b
theorem t0 : gB [wN 0] [wN 1] = (true, 0) := by decide +kernel
theorem t1 : gB [wN 1] [wN 0] = (false, 0) := by decide +kernel
theorem t2 : gB [refN, wN 0] [refN, wN 1] = (false, 0) := by decide +kernel
theorem t3 : gB [funN, wN 1, wN 0] [funN, wN 0, wN 0] = (true, 0) := by decide +kernel
theorem t4 : gB [funN, wN 0, wN 0] [funN, wN 1, wN 0] = (false, 0) := by decide +kernel
theorem t5 : gB [wN 0] [refN, wN 0] = (false, 0) := by decide +kernel
theorem t6 : gB [varN] [wN 0] = (false, 1) := by decide +kernel
theorem t7 : gB [wN 2] [wN 0] = (false, 1) := by decide +kernel
theorem t8 : gB [] [wN 0] = (false, 4) := by decide +kernel
end L09
end Go.Proofs.YtdecijmncpbheaaGreatDoor
