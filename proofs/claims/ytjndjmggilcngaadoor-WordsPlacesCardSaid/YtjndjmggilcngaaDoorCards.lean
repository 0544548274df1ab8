/-
  DERIVED. GIVEN WITH THE SEED: THE CARDS: each row of YtjndjmggilcngaaDoorRows.lean that lists a variable, with what it lists TIED to the program's text (the seventh form; the later family's looks); each row that meets fmt, with fmt's text TOLD by the authors' own Lean function (tested against real Go, not proved from fmt's source: count such statements apart). THE CARD IS WHAT COUNTS. Prove the row's statement (the work); the ties are given (YtjndjmggilcngaaDoorTie.lean); close each card by the builder's one call (the guide's Derived/Test/ToyasCard.lean, 'card_holds'). Laid BY PROGRAM, IN A SANDBOX (cutbox-door.mjs). By AI agents, Wed Nov 11 2026. No macro, syntax, notation, axiom, sorry.
-/
import Derived.Test.YtjndjmggilcngaaDoorRows
import GoSem.ClaimSeven
namespace Go.Proofs.YtjndjmggilcngaaDoor
namespace Rows

/-- THE TIED CARD OF 'cartouchelaw20.WordsAgain'. -/
def wordsAgainCard : Claim7 := { stood := { row := wordsAgainRow, standIns := [], harness := (true, "b176cfee858b7262074505e6754d906f42b3782a938acf6fce3fa245e8617084"), looks := true }, kinds := [], alts := [], laidByText := true, laidKinds := [.data, .data, .data, .sentinel, .sentinel, .data], laidTests := true, laidLooks := .later }
def WordsAgainCardSaid : Prop := Claim7.holds Tryd.pinned (.plain (OpenSpec.ofChange wordsAgainSpec)) wordsAgainCard

/-- THE TIED CARD OF 'cartouchelaw20.WordsPlaces'. -/
def wordsPlacesCard : Claim7 := { stood := { row := wordsPlacesRow, standIns := [], harness := (true, "b176cfee858b7262074505e6754d906f42b3782a938acf6fce3fa245e8617084"), looks := true }, kinds := [], alts := [], laidByText := true, laidKinds := [.data, .data, .data, .sentinel, .sentinel, .data], laidTests := true, laidLooks := .later }
def WordsPlacesCardSaid : Prop := Claim7.holds Tryd.pinned (.plain (OpenSpec.ofChange wordsPlacesSpec)) wordsPlacesCard

/-- THE TIED CARD OF 'cartouchelaw20.WordsBoth'. -/
def wordsBothCard : Claim7 := { stood := { row := wordsBothRow, standIns := [], harness := (true, "b176cfee858b7262074505e6754d906f42b3782a938acf6fce3fa245e8617084"), looks := true }, kinds := [], alts := [], laidByText := true, laidKinds := [.data, .data, .data, .sentinel, .sentinel, .data], laidTests := true, laidLooks := .later }
def WordsBothCardSaid : Prop := Claim7.holds Tryd.pinned (.plain (OpenSpec.ofChange wordsBothSpec)) wordsBothCard

/-- THE TIED CARD OF 'cartouchelaw20.WordsKinds'. -/
def wordsKindsCard : Claim7 := { stood := { row := wordsKindsRow, standIns := [], harness := (true, "b176cfee858b7262074505e6754d906f42b3782a938acf6fce3fa245e8617084"), looks := true }, kinds := [], alts := [], laidByText := true, laidKinds := [.data, .data, .data, .sentinel, .sentinel, .data], laidTests := true, laidLooks := .later }
def WordsKindsCardSaid : Prop := Claim7.holds Tryd.pinned (.plain (OpenSpec.ofChange wordsKindsSpec)) wordsKindsCard

/-- THE TIED CARD OF 'cartouchelaw12.SchemesValues'. -/
def schemesValuesCard : Claim7 := { stood := { row := schemesValuesRow, standIns := [], harness := (true, "b176cfee858b7262074505e6754d906f42b3782a938acf6fce3fa245e8617084"), looks := true }, kinds := [], alts := [], laidByText := true, laidKinds := [.data, .data, .pinned], laidTests := true, laidLooks := .later }
def SchemesValuesCardSaid : Prop := Claim7.holds Tryd.pinned (.plain (OpenSpec.ofChange schemesValuesSpec)) schemesValuesCard

/-- THE SECOND FORM's CARD OF 'cartouchelaw20.WordsAgain'. -/
def wordsAgainUptoCard : Claim7 := { stood := { row := wordsAgainUptoRow, standIns := [], harness := (true, "b176cfee858b7262074505e6754d906f42b3782a938acf6fce3fa245e8617084"), looks := true }, kinds := [], alts := [], laidByText := true, laidKinds := [.data, .data, .data, .sentinel, .sentinel, .data], laidTests := true, laidLooks := .later }
def WordsAgainUptoCardSaid : Prop := Claim7.holds Tryd.pinned (.plain (OpenSpec.upto wordsAgainSpec)) wordsAgainUptoCard

/-- THE SECOND FORM's CARD OF 'cartouchelaw20.WordsPlaces'. -/
def wordsPlacesUptoCard : Claim7 := { stood := { row := wordsPlacesUptoRow, standIns := [], harness := (true, "b176cfee858b7262074505e6754d906f42b3782a938acf6fce3fa245e8617084"), looks := true }, kinds := [], alts := [], laidByText := true, laidKinds := [.data, .data, .data, .sentinel, .sentinel, .data], laidTests := true, laidLooks := .later }
def WordsPlacesUptoCardSaid : Prop := Claim7.holds Tryd.pinned (.plain (OpenSpec.upto wordsPlacesSpec)) wordsPlacesUptoCard

/-- THE SECOND FORM's CARD OF 'cartouchelaw20.WordsBoth'. -/
def wordsBothUptoCard : Claim7 := { stood := { row := wordsBothUptoRow, standIns := [], harness := (true, "b176cfee858b7262074505e6754d906f42b3782a938acf6fce3fa245e8617084"), looks := true }, kinds := [], alts := [], laidByText := true, laidKinds := [.data, .data, .data, .sentinel, .sentinel, .data], laidTests := true, laidLooks := .later }
def WordsBothUptoCardSaid : Prop := Claim7.holds Tryd.pinned (.plain (OpenSpec.upto wordsBothSpec)) wordsBothUptoCard

/-- THE SECOND FORM's CARD OF 'cartouchelaw20.WordsKinds'. -/
def wordsKindsUptoCard : Claim7 := { stood := { row := wordsKindsUptoRow, standIns := [], harness := (true, "b176cfee858b7262074505e6754d906f42b3782a938acf6fce3fa245e8617084"), looks := true }, kinds := [], alts := [], laidByText := true, laidKinds := [.data, .data, .data, .sentinel, .sentinel, .data], laidTests := true, laidLooks := .later }
def WordsKindsUptoCardSaid : Prop := Claim7.holds Tryd.pinned (.plain (OpenSpec.upto wordsKindsSpec)) wordsKindsUptoCard

/-- THE SECOND FORM's CARD OF 'cartouchelaw12.SchemesValues'. -/
def schemesValuesUptoCard : Claim7 := { stood := { row := schemesValuesUptoRow, standIns := [], harness := (true, "b176cfee858b7262074505e6754d906f42b3782a938acf6fce3fa245e8617084"), looks := true }, kinds := [], alts := [], laidByText := true, laidKinds := [.data, .data, .pinned], laidTests := true, laidLooks := .later }
def SchemesValuesUptoCardSaid : Prop := Claim7.holds Tryd.pinned (.plain (OpenSpec.upto schemesValuesSpec)) schemesValuesUptoCard
end Rows
end Go.Proofs.YtjndjmggilcngaaDoor
