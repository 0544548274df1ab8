/-
  DERIVED. GIVEN WITH THE SEED: THE CARDS: each row of YtdecijmncpbheaaGreatDoorRows.lean that lists a variable, with what it lists TIED to the program's text (the seventh form; the later family's looks); each row that meets fmt, with fmt's text TOLD by the authors' own Lean function (tested against real Go, not proved from fmt's source: count such statements apart). THE CARD IS WHAT COUNTS. Prove the row's statement (the work); the ties are given (YtdecijmncpbheaaGreatDoorTie.lean); close each card by the builder's one call (the guide's Derived/Test/ToyasCard.lean, 'card_holds'). Laid BY PROGRAM, IN A SANDBOX (cutbox-door.mjs). By AI agents, Wed Nov 11 2026. No macro, syntax, notation, axiom, sorry.
-/
import Derived.Test.YtdecijmncpbheaaGreatDoorRows
import GoSem.ClaimSeven
namespace Go.Proofs.YtdecijmncpbheaaGreatDoor
namespace Rows

/-- THE TIED CARD OF 'cartouchelaw12.SchemesOf'. -/
def schemesOfCard : Claim7 := { stood := { row := schemesOfRow, standIns := [], harness := (true, "9b2e4e619dc6fbc5dfd850d17709bc8ee56f875cc82bc583b5a4bc4c699030df"), looks := true }, kinds := [], alts := [], laidByText := true, laidKinds := [.data, .data, .data, .data, .pinned], laidTests := true, laidLooks := .later }
def SchemesOfCardSaid : Prop := Claim7.holds Tryz.pinned (.plain (OpenSpec.ofChange schemesOfSpec)) schemesOfCard

/-- THE TIED CARD OF 'cartouchelaw21.TreesMay'. -/
def treesMayCard : Claim7 := { stood := { row := treesMayRow, standIns := [], harness := (true, "9b2e4e619dc6fbc5dfd850d17709bc8ee56f875cc82bc583b5a4bc4c699030df"), looks := true }, kinds := [], alts := [], laidByText := true, laidKinds := [.data, .data, .data, .data, .sentinel, .sentinel, .data, .pinned], laidTests := true, laidLooks := .later }
def TreesMayCardSaid : Prop := Claim7.holds Tryz.pinned (.plain (OpenSpec.ofChange treesMaySpec)) treesMayCard

/-- THE SECOND FORM's CARD OF 'cartouchelaw12.SchemesOf'. -/
def schemesOfUptoCard : Claim7 := { stood := { row := schemesOfUptoRow, standIns := [], harness := (true, "9b2e4e619dc6fbc5dfd850d17709bc8ee56f875cc82bc583b5a4bc4c699030df"), looks := true }, kinds := [], alts := [], laidByText := true, laidKinds := [.data, .data, .data, .data, .pinned], laidTests := true, laidLooks := .later }
def SchemesOfUptoCardSaid : Prop := Claim7.holds Tryz.pinned (.plain (OpenSpec.upto schemesOfSpec)) schemesOfUptoCard

/-- THE SECOND FORM's CARD OF 'cartouchelaw21.TreesMay'. -/
def treesMayUptoCard : Claim7 := { stood := { row := treesMayUptoRow, standIns := [], harness := (true, "9b2e4e619dc6fbc5dfd850d17709bc8ee56f875cc82bc583b5a4bc4c699030df"), looks := true }, kinds := [], alts := [], laidByText := true, laidKinds := [.data, .data, .data, .data, .sentinel, .sentinel, .data, .pinned], laidTests := true, laidLooks := .later }
def TreesMayUptoCardSaid : Prop := Claim7.holds Tryz.pinned (.plain (OpenSpec.upto treesMaySpec)) treesMayUptoCard
end Rows
end Go.Proofs.YtdecijmncpbheaaGreatDoor
