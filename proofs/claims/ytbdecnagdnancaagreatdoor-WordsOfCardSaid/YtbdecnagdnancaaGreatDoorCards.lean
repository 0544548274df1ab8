/-
  DERIVED. GIVEN WITH THE SEED: THE CARDS: each row of YtbdecnagdnancaaGreatDoorRows.lean that lists a variable, with what it lists TIED to the program's text (the seventh form; the later family's looks); each row that meets fmt, with fmt's text TOLD by the authors' own Lean function (tested against real Go, not proved from fmt's source: count such statements apart). THE CARD IS WHAT COUNTS. Prove the row's statement (the work); the ties are given (YtbdecnagdnancaaGreatDoorTie.lean); close each card by the builder's one call (the guide's Derived/Test/ToyasCard.lean, 'card_holds'). Laid BY PROGRAM, IN A SANDBOX (cutbox-door.mjs). By AI agents, Wed Nov 11 2026. No macro, syntax, notation, axiom, sorry.
-/
import Derived.Test.YtbdecnagdnancaaGreatDoorRows
import GoSem.ClaimSeven
namespace Go.Proofs.YtbdecnagdnancaaGreatDoor
namespace Rows

/-- THE TIED CARD OF 'cartouchelaw20.WordsOf'. -/
def wordsOfCard : Claim7 := { stood := { row := wordsOfRow, standIns := [], harness := (true, "6202d40d92c9d5d7d9e5b93c7c8cdea48c55c9dee20dee4ab4c05a2a26745850"), looks := true }, kinds := [], alts := [], laidByText := true, laidKinds := [.data, .data, .data, .sentinel, .sentinel, .data], laidTests := true, laidLooks := .later }
def WordsOfCardSaid : Prop := Claim7.holds Tryz.pinned (.plain (OpenSpec.ofChange wordsOfSpec)) wordsOfCard

/-- THE TIED CARD OF 'cartouchelaw09.GroundsOf'. -/
def groundsOfCard : Claim7 := { stood := { row := groundsOfRow, standIns := [], harness := (true, "6202d40d92c9d5d7d9e5b93c7c8cdea48c55c9dee20dee4ab4c05a2a26745850"), looks := true }, kinds := [], alts := [], laidByText := true, laidKinds := [.data, .data, .pinned], laidTests := true, laidLooks := .later }
def GroundsOfCardSaid : Prop := Claim7.holds Tryz.pinned (.plain (OpenSpec.ofChange groundsOfSpec)) groundsOfCard

/-- THE TIED CARD OF 'cartouchelaw08.SpotsOf'. -/
def spotsOfCard : Claim7 := { stood := { row := spotsOfRow, standIns := [], harness := (true, "6202d40d92c9d5d7d9e5b93c7c8cdea48c55c9dee20dee4ab4c05a2a26745850"), looks := true }, kinds := [], alts := [], laidByText := true, laidKinds := [.data, .data, .data, .data, .pinned], laidTests := true, laidLooks := .later }
def SpotsOfCardSaid : Prop := Claim7.holds Tryz.pinned (.plain (OpenSpec.ofChange spotsOfSpec)) spotsOfCard

/-- THE TIED CARD OF 'cartouchelaw08.SpotsPut'. -/
def spotsPutCard : Claim7 := { stood := { row := spotsPutRow, standIns := [], harness := (true, "6202d40d92c9d5d7d9e5b93c7c8cdea48c55c9dee20dee4ab4c05a2a26745850"), looks := true }, kinds := [], alts := [], laidByText := true, laidKinds := [.data, .data, .data, .data, .pinned], laidTests := true, laidLooks := .later }
def SpotsPutCardSaid : Prop := Claim7.holds Tryz.pinned (.plain (OpenSpec.ofChange spotsPutSpec)) spotsPutCard

/-- THE TIED CARD OF 'cartouchelaw12.SchemesOf'. -/
def schemesOfCard : Claim7 := { stood := { row := schemesOfRow, standIns := [], harness := (true, "6202d40d92c9d5d7d9e5b93c7c8cdea48c55c9dee20dee4ab4c05a2a26745850"), looks := true }, kinds := [], alts := [], laidByText := true, laidKinds := [.data, .data, .data, .data, .pinned], laidTests := true, laidLooks := .later }
def SchemesOfCardSaid : Prop := Claim7.holds Tryz.pinned (.plain (OpenSpec.ofChange schemesOfSpec)) schemesOfCard

/-- THE SECOND FORM's CARD OF 'cartouchelaw20.WordsOf'. -/
def wordsOfUptoCard : Claim7 := { stood := { row := wordsOfUptoRow, standIns := [], harness := (true, "6202d40d92c9d5d7d9e5b93c7c8cdea48c55c9dee20dee4ab4c05a2a26745850"), looks := true }, kinds := [], alts := [], laidByText := true, laidKinds := [.data, .data, .data, .sentinel, .sentinel, .data], laidTests := true, laidLooks := .later }
def WordsOfUptoCardSaid : Prop := Claim7.holds Tryz.pinned (.plain (OpenSpec.upto wordsOfSpec)) wordsOfUptoCard

/-- THE SECOND FORM's CARD OF 'cartouchelaw09.GroundsOf'. -/
def groundsOfUptoCard : Claim7 := { stood := { row := groundsOfUptoRow, standIns := [], harness := (true, "6202d40d92c9d5d7d9e5b93c7c8cdea48c55c9dee20dee4ab4c05a2a26745850"), looks := true }, kinds := [], alts := [], laidByText := true, laidKinds := [.data, .data, .pinned], laidTests := true, laidLooks := .later }
def GroundsOfUptoCardSaid : Prop := Claim7.holds Tryz.pinned (.plain (OpenSpec.upto groundsOfSpec)) groundsOfUptoCard

/-- THE SECOND FORM's CARD OF 'cartouchelaw08.SpotsOf'. -/
def spotsOfUptoCard : Claim7 := { stood := { row := spotsOfUptoRow, standIns := [], harness := (true, "6202d40d92c9d5d7d9e5b93c7c8cdea48c55c9dee20dee4ab4c05a2a26745850"), looks := true }, kinds := [], alts := [], laidByText := true, laidKinds := [.data, .data, .data, .data, .pinned], laidTests := true, laidLooks := .later }
def SpotsOfUptoCardSaid : Prop := Claim7.holds Tryz.pinned (.plain (OpenSpec.upto spotsOfSpec)) spotsOfUptoCard

/-- THE SECOND FORM's CARD OF 'cartouchelaw08.SpotsPut'. -/
def spotsPutUptoCard : Claim7 := { stood := { row := spotsPutUptoRow, standIns := [], harness := (true, "6202d40d92c9d5d7d9e5b93c7c8cdea48c55c9dee20dee4ab4c05a2a26745850"), looks := true }, kinds := [], alts := [], laidByText := true, laidKinds := [.data, .data, .data, .data, .pinned], laidTests := true, laidLooks := .later }
def SpotsPutUptoCardSaid : Prop := Claim7.holds Tryz.pinned (.plain (OpenSpec.upto spotsPutSpec)) spotsPutUptoCard

/-- THE SECOND FORM's CARD OF 'cartouchelaw12.SchemesOf'. -/
def schemesOfUptoCard : Claim7 := { stood := { row := schemesOfUptoRow, standIns := [], harness := (true, "6202d40d92c9d5d7d9e5b93c7c8cdea48c55c9dee20dee4ab4c05a2a26745850"), looks := true }, kinds := [], alts := [], laidByText := true, laidKinds := [.data, .data, .data, .data, .pinned], laidTests := true, laidLooks := .later }
def SchemesOfUptoCardSaid : Prop := Claim7.holds Tryz.pinned (.plain (OpenSpec.upto schemesOfSpec)) schemesOfUptoCard
end Rows
end Go.Proofs.YtbdecnagdnancaaGreatDoor
