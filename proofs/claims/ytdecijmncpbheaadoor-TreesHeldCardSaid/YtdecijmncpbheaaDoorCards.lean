/-
  DERIVED. GIVEN WITH THE SEED: THE CARDS: each row of YtdecijmncpbheaaDoorRows.lean that lists a variable, with what it lists TIED to the program's text (the seventh form; the later family's looks); each row that meets fmt, with fmt's text TOLD by the authors' own Lean function (tested against real Go, not proved from fmt's source: count such statements apart). THE CARD IS WHAT COUNTS. Prove the row's statement (the work); the ties are given (YtdecijmncpbheaaDoorTie.lean); close each card by the builder's one call (the guide's Derived/Test/ToyasCard.lean, 'card_holds'). Laid BY PROGRAM, IN A SANDBOX (cutbox-door.mjs). By AI agents, Wed Nov 11 2026. No macro, syntax, notation, axiom, sorry.
-/
import Derived.Test.YtdecijmncpbheaaDoorRows
import GoSem.ClaimSeven
namespace Go.Proofs.YtdecijmncpbheaaDoor
namespace Rows

/-- THE TIED CARD OF 'cartouchelaw21.TreesBehind'. -/
def treesBehindCard : Claim7 := { stood := { row := treesBehindRow, standIns := [], harness := (true, "7112deb30eb6593069438b49e4492961231439cef14a0ea723d13b888c00968b"), looks := true }, kinds := [], alts := [], laidByText := true, laidKinds := [.data, .data, .data, .sentinel, .sentinel, .data], laidTests := true, laidLooks := .later }
def TreesBehindCardSaid : Prop := Claim7.holds Tryd.pinned (.plain (OpenSpec.ofChange treesBehindSpec)) treesBehindCard

/-- THE TIED CARD OF 'cartouchelaw21.TreesHeld'. -/
def treesHeldCard : Claim7 := { stood := { row := treesHeldRow, standIns := [], harness := (true, "7112deb30eb6593069438b49e4492961231439cef14a0ea723d13b888c00968b"), looks := true }, kinds := [], alts := [], laidByText := true, laidKinds := [.data, .data, .data, .sentinel, .sentinel, .data], laidTests := true, laidLooks := .later }
def TreesHeldCardSaid : Prop := Claim7.holds Tryd.pinned (.plain (OpenSpec.ofChange treesHeldSpec)) treesHeldCard

/-- THE TIED CARD OF 'cartouchelaw21.TreesCut'. -/
def treesCutCard : Claim7 := { stood := { row := treesCutRow, standIns := [], harness := (true, "7112deb30eb6593069438b49e4492961231439cef14a0ea723d13b888c00968b"), looks := true }, kinds := [], alts := [], laidByText := true, laidKinds := [.data, .data, .data, .sentinel, .sentinel, .data], laidTests := true, laidLooks := .later }
def TreesCutCardSaid : Prop := Claim7.holds Tryd.pinned (.plain (OpenSpec.ofChange treesCutSpec)) treesCutCard

/-- THE SECOND FORM's CARD OF 'cartouchelaw21.TreesBehind'. -/
def treesBehindUptoCard : Claim7 := { stood := { row := treesBehindUptoRow, standIns := [], harness := (true, "7112deb30eb6593069438b49e4492961231439cef14a0ea723d13b888c00968b"), looks := true }, kinds := [], alts := [], laidByText := true, laidKinds := [.data, .data, .data, .sentinel, .sentinel, .data], laidTests := true, laidLooks := .later }
def TreesBehindUptoCardSaid : Prop := Claim7.holds Tryd.pinned (.plain (OpenSpec.upto treesBehindSpec)) treesBehindUptoCard

/-- THE SECOND FORM's CARD OF 'cartouchelaw21.TreesHeld'. -/
def treesHeldUptoCard : Claim7 := { stood := { row := treesHeldUptoRow, standIns := [], harness := (true, "7112deb30eb6593069438b49e4492961231439cef14a0ea723d13b888c00968b"), looks := true }, kinds := [], alts := [], laidByText := true, laidKinds := [.data, .data, .data, .sentinel, .sentinel, .data], laidTests := true, laidLooks := .later }
def TreesHeldUptoCardSaid : Prop := Claim7.holds Tryd.pinned (.plain (OpenSpec.upto treesHeldSpec)) treesHeldUptoCard

/-- THE SECOND FORM's CARD OF 'cartouchelaw21.TreesCut'. -/
def treesCutUptoCard : Claim7 := { stood := { row := treesCutUptoRow, standIns := [], harness := (true, "7112deb30eb6593069438b49e4492961231439cef14a0ea723d13b888c00968b"), looks := true }, kinds := [], alts := [], laidByText := true, laidKinds := [.data, .data, .data, .sentinel, .sentinel, .data], laidTests := true, laidLooks := .later }
def TreesCutUptoCardSaid : Prop := Claim7.holds Tryd.pinned (.plain (OpenSpec.upto treesCutSpec)) treesCutUptoCard
end Rows
end Go.Proofs.YtdecijmncpbheaaDoor
