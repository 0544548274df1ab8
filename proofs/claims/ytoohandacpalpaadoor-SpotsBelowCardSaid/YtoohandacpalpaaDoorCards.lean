/-
  DERIVED. GIVEN WITH THE SEED: THE CARDS: each row of YtoohandacpalpaaDoorRows.lean that lists a variable, with what it lists TIED to the program's text (the seventh form; the later family's looks); each row that meets fmt, with fmt's text TOLD by the authors' own Lean function (tested against real Go, not proved from fmt's source: count such statements apart). THE CARD IS WHAT COUNTS. Prove the row's statement (the work); the ties are given (YtoohandacpalpaaDoorTie.lean); close each card by the builder's one call (the guide's Derived/Test/ToyasCard.lean, 'card_holds'). Laid BY PROGRAM, IN A SANDBOX (cutbox-door.mjs). By AI agents, Wed Nov 11 2026. No macro, syntax, notation, axiom, sorry.
-/
import Derived.Test.YtoohandacpalpaaDoorRows
import GoSem.ClaimSeven
namespace Go.Proofs.YtoohandacpalpaaDoor
namespace Rows

/-- THE TIED CARD OF 'cartouchelaw07.TypesOf'. -/
def typesOfCard : Claim7 := { stood := { row := typesOfRow, standIns := [], harness := (true, "a4b6ed931c5fff62ba7b63aa155d624d2afb88743d9cb2a1614e3b640161559f"), looks := false }, kinds := [], alts := [], laidByText := true, laidKinds := [.data, .pinned], laidTests := true, laidLooks := .later }
def TypesOfCardSaid : Prop := Claim7.holds Tryd.pinned (.plain (OpenSpec.ofChange typesOfSpec)) typesOfCard

/-- THE TIED CARD OF 'cartouchelaw07.TypesParts'. -/
def typesPartsCard : Claim7 := { stood := { row := typesPartsRow, standIns := [], harness := (true, "a4b6ed931c5fff62ba7b63aa155d624d2afb88743d9cb2a1614e3b640161559f"), looks := false }, kinds := [], alts := [], laidByText := true, laidKinds := [.data, .pinned], laidTests := true, laidLooks := .later }
def TypesPartsCardSaid : Prop := Claim7.holds Tryd.pinned (.plain (OpenSpec.ofChange typesPartsSpec)) typesPartsCard

/-- THE TIED CARD OF 'cartouchelaw07.TypesSame'. -/
def typesSameCard : Claim7 := { stood := { row := typesSameRow, standIns := [], harness := (true, "a4b6ed931c5fff62ba7b63aa155d624d2afb88743d9cb2a1614e3b640161559f"), looks := false }, kinds := [], alts := [], laidByText := true, laidKinds := [.data, .pinned], laidTests := true, laidLooks := .later }
def TypesSameCardSaid : Prop := Claim7.holds Tryd.pinned (.plain (OpenSpec.ofChange typesSameSpec)) typesSameCard

/-- THE TIED CARD OF 'cartouchelaw07.TypesCut'. -/
def typesCutCard : Claim7 := { stood := { row := typesCutRow, standIns := [], harness := (true, "a4b6ed931c5fff62ba7b63aa155d624d2afb88743d9cb2a1614e3b640161559f"), looks := false }, kinds := [], alts := [], laidByText := true, laidKinds := [.data, .pinned], laidTests := true, laidLooks := .later }
def TypesCutCardSaid : Prop := Claim7.holds Tryd.pinned (.plain (OpenSpec.ofChange typesCutSpec)) typesCutCard

/-- THE TIED CARD OF 'cartouchelaw07.TypesPut'. -/
def typesPutCard : Claim7 := { stood := { row := typesPutRow, standIns := [], harness := (true, "a4b6ed931c5fff62ba7b63aa155d624d2afb88743d9cb2a1614e3b640161559f"), looks := false }, kinds := [], alts := [], laidByText := true, laidKinds := [.data, .pinned], laidTests := true, laidLooks := .later }
def TypesPutCardSaid : Prop := Claim7.holds Tryd.pinned (.plain (OpenSpec.ofChange typesPutSpec)) typesPutCard

/-- THE TIED CARD OF 'cartouchelaw07.TypesNames'. -/
def typesNamesCard : Claim7 := { stood := { row := typesNamesRow, standIns := [], harness := (true, "a4b6ed931c5fff62ba7b63aa155d624d2afb88743d9cb2a1614e3b640161559f"), looks := false }, kinds := [], alts := [], laidByText := true, laidKinds := [.data, .pinned], laidTests := true, laidLooks := .later }
def TypesNamesCardSaid : Prop := Claim7.holds Tryd.pinned (.plain (OpenSpec.ofChange typesNamesSpec)) typesNamesCard

/-- THE TIED CARD OF 'cartouchelaw08.SpotsMany'. -/
def spotsManyCard : Claim7 := { stood := { row := spotsManyRow, standIns := [], harness := (true, "a4b6ed931c5fff62ba7b63aa155d624d2afb88743d9cb2a1614e3b640161559f"), looks := false }, kinds := [], alts := [], laidByText := true, laidKinds := [.data, .pinned], laidTests := true, laidLooks := .later }
def SpotsManyCardSaid : Prop := Claim7.holds Tryd.pinned (.plain (OpenSpec.ofChange spotsManySpec)) spotsManyCard

/-- THE TIED CARD OF 'cartouchelaw08.SpotsBelow'. -/
def spotsBelowCard : Claim7 := { stood := { row := spotsBelowRow, standIns := [], harness := (true, "a4b6ed931c5fff62ba7b63aa155d624d2afb88743d9cb2a1614e3b640161559f"), looks := false }, kinds := [], alts := [], laidByText := true, laidKinds := [.data, .pinned], laidTests := true, laidLooks := .later }
def SpotsBelowCardSaid : Prop := Claim7.holds Tryd.pinned (.plain (OpenSpec.ofChange spotsBelowSpec)) spotsBelowCard

/-- THE TIED CARD OF 'cartouchelaw08.SpotsRefuse'. -/
def spotsRefuseCard : Claim7 := { stood := { row := spotsRefuseRow, standIns := [], harness := (true, "a4b6ed931c5fff62ba7b63aa155d624d2afb88743d9cb2a1614e3b640161559f"), looks := false }, kinds := [], alts := [], laidByText := true, laidKinds := [.data, .pinned], laidTests := true, laidLooks := .later }
def SpotsRefuseCardSaid : Prop := Claim7.holds Tryd.pinned (.plain (OpenSpec.ofChange spotsRefuseSpec)) spotsRefuseCard

/-- THE TIED CARD OF 'cartouchelaw08.SpotsBack'. -/
def spotsBackCard : Claim7 := { stood := { row := spotsBackRow, standIns := [], harness := (true, "a4b6ed931c5fff62ba7b63aa155d624d2afb88743d9cb2a1614e3b640161559f"), looks := false }, kinds := [], alts := [], laidByText := true, laidKinds := [.data, .pinned], laidTests := true, laidLooks := .later }
def SpotsBackCardSaid : Prop := Claim7.holds Tryd.pinned (.plain (OpenSpec.ofChange spotsBackSpec)) spotsBackCard

/-- THE SECOND FORM's CARD OF 'cartouchelaw07.TypesOf'. -/
def typesOfUptoCard : Claim7 := { stood := { row := typesOfUptoRow, standIns := [], harness := (true, "a4b6ed931c5fff62ba7b63aa155d624d2afb88743d9cb2a1614e3b640161559f"), looks := false }, kinds := [], alts := [], laidByText := true, laidKinds := [.data, .pinned], laidTests := true, laidLooks := .later }
def TypesOfUptoCardSaid : Prop := Claim7.holds Tryd.pinned (.plain (OpenSpec.upto typesOfSpec)) typesOfUptoCard

/-- THE SECOND FORM's CARD OF 'cartouchelaw07.TypesParts'. -/
def typesPartsUptoCard : Claim7 := { stood := { row := typesPartsUptoRow, standIns := [], harness := (true, "a4b6ed931c5fff62ba7b63aa155d624d2afb88743d9cb2a1614e3b640161559f"), looks := false }, kinds := [], alts := [], laidByText := true, laidKinds := [.data, .pinned], laidTests := true, laidLooks := .later }
def TypesPartsUptoCardSaid : Prop := Claim7.holds Tryd.pinned (.plain (OpenSpec.upto typesPartsSpec)) typesPartsUptoCard

/-- THE SECOND FORM's CARD OF 'cartouchelaw07.TypesSame'. -/
def typesSameUptoCard : Claim7 := { stood := { row := typesSameUptoRow, standIns := [], harness := (true, "a4b6ed931c5fff62ba7b63aa155d624d2afb88743d9cb2a1614e3b640161559f"), looks := false }, kinds := [], alts := [], laidByText := true, laidKinds := [.data, .pinned], laidTests := true, laidLooks := .later }
def TypesSameUptoCardSaid : Prop := Claim7.holds Tryd.pinned (.plain (OpenSpec.upto typesSameSpec)) typesSameUptoCard

/-- THE SECOND FORM's CARD OF 'cartouchelaw07.TypesCut'. -/
def typesCutUptoCard : Claim7 := { stood := { row := typesCutUptoRow, standIns := [], harness := (true, "a4b6ed931c5fff62ba7b63aa155d624d2afb88743d9cb2a1614e3b640161559f"), looks := false }, kinds := [], alts := [], laidByText := true, laidKinds := [.data, .pinned], laidTests := true, laidLooks := .later }
def TypesCutUptoCardSaid : Prop := Claim7.holds Tryd.pinned (.plain (OpenSpec.upto typesCutSpec)) typesCutUptoCard

/-- THE SECOND FORM's CARD OF 'cartouchelaw07.TypesPut'. -/
def typesPutUptoCard : Claim7 := { stood := { row := typesPutUptoRow, standIns := [], harness := (true, "a4b6ed931c5fff62ba7b63aa155d624d2afb88743d9cb2a1614e3b640161559f"), looks := false }, kinds := [], alts := [], laidByText := true, laidKinds := [.data, .pinned], laidTests := true, laidLooks := .later }
def TypesPutUptoCardSaid : Prop := Claim7.holds Tryd.pinned (.plain (OpenSpec.upto typesPutSpec)) typesPutUptoCard

/-- THE SECOND FORM's CARD OF 'cartouchelaw07.TypesNames'. -/
def typesNamesUptoCard : Claim7 := { stood := { row := typesNamesUptoRow, standIns := [], harness := (true, "a4b6ed931c5fff62ba7b63aa155d624d2afb88743d9cb2a1614e3b640161559f"), looks := false }, kinds := [], alts := [], laidByText := true, laidKinds := [.data, .pinned], laidTests := true, laidLooks := .later }
def TypesNamesUptoCardSaid : Prop := Claim7.holds Tryd.pinned (.plain (OpenSpec.upto typesNamesSpec)) typesNamesUptoCard

/-- THE SECOND FORM's CARD OF 'cartouchelaw08.SpotsMany'. -/
def spotsManyUptoCard : Claim7 := { stood := { row := spotsManyUptoRow, standIns := [], harness := (true, "a4b6ed931c5fff62ba7b63aa155d624d2afb88743d9cb2a1614e3b640161559f"), looks := false }, kinds := [], alts := [], laidByText := true, laidKinds := [.data, .pinned], laidTests := true, laidLooks := .later }
def SpotsManyUptoCardSaid : Prop := Claim7.holds Tryd.pinned (.plain (OpenSpec.upto spotsManySpec)) spotsManyUptoCard

/-- THE SECOND FORM's CARD OF 'cartouchelaw08.SpotsBelow'. -/
def spotsBelowUptoCard : Claim7 := { stood := { row := spotsBelowUptoRow, standIns := [], harness := (true, "a4b6ed931c5fff62ba7b63aa155d624d2afb88743d9cb2a1614e3b640161559f"), looks := false }, kinds := [], alts := [], laidByText := true, laidKinds := [.data, .pinned], laidTests := true, laidLooks := .later }
def SpotsBelowUptoCardSaid : Prop := Claim7.holds Tryd.pinned (.plain (OpenSpec.upto spotsBelowSpec)) spotsBelowUptoCard

/-- THE SECOND FORM's CARD OF 'cartouchelaw08.SpotsRefuse'. -/
def spotsRefuseUptoCard : Claim7 := { stood := { row := spotsRefuseUptoRow, standIns := [], harness := (true, "a4b6ed931c5fff62ba7b63aa155d624d2afb88743d9cb2a1614e3b640161559f"), looks := false }, kinds := [], alts := [], laidByText := true, laidKinds := [.data, .pinned], laidTests := true, laidLooks := .later }
def SpotsRefuseUptoCardSaid : Prop := Claim7.holds Tryd.pinned (.plain (OpenSpec.upto spotsRefuseSpec)) spotsRefuseUptoCard

/-- THE SECOND FORM's CARD OF 'cartouchelaw08.SpotsBack'. -/
def spotsBackUptoCard : Claim7 := { stood := { row := spotsBackUptoRow, standIns := [], harness := (true, "a4b6ed931c5fff62ba7b63aa155d624d2afb88743d9cb2a1614e3b640161559f"), looks := false }, kinds := [], alts := [], laidByText := true, laidKinds := [.data, .pinned], laidTests := true, laidLooks := .later }
def SpotsBackUptoCardSaid : Prop := Claim7.holds Tryd.pinned (.plain (OpenSpec.upto spotsBackSpec)) spotsBackUptoCard
end Rows
end Go.Proofs.YtoohandacpalpaaDoor
