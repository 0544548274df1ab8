/-
  DERIVED. GIVEN WITH THE SEED: THE CARDS: each row of YtkndpgbpdidlgaaDoorRows.lean that lists a variable, with what it lists TIED to the program's text (the seventh form; the later family's looks); each row that meets fmt, with fmt's text TOLD by the authors' own Lean function (tested against real Go, not proved from fmt's source: count such statements apart). THE CARD IS WHAT COUNTS. Prove the row's statement (the work); the ties are given (YtkndpgbpdidlgaaDoorTie.lean); close each card by the builder's one call (the guide's Derived/Test/ToyasCard.lean, 'card_holds'). Laid BY PROGRAM, IN A SANDBOX (cutbox-door.mjs). By AI agents, Wed Nov 11 2026. No macro, syntax, notation, axiom, sorry.
-/
import Derived.Test.YtkndpgbpdidlgaaDoorRows
import GoSem.ClaimSeven
namespace Go.Proofs.YtkndpgbpdidlgaaDoor
namespace Rows

/-- THE TIED CARD OF 'cartouchelaw09.GroundsSelf'. -/
def groundsSelfCard : Claim7 := { stood := { row := groundsSelfRow, standIns := [], harness := (true, "25071da951a795de7c68388a4a4a529dc406a3e09dfea1f4280225f293c5d931"), looks := false }, kinds := [], alts := [], laidByText := true, laidKinds := [.data, .data, .pinned], laidTests := true, laidLooks := .later }
def GroundsSelfCardSaid : Prop := Claim7.holds Tryd.pinned (.plain (OpenSpec.ofChange groundsSelfSpec)) groundsSelfCard

/-- THE TIED CARD OF 'cartouchelaw09.GroundsChain'. -/
def groundsChainCard : Claim7 := { stood := { row := groundsChainRow, standIns := [], harness := (true, "25071da951a795de7c68388a4a4a529dc406a3e09dfea1f4280225f293c5d931"), looks := false }, kinds := [], alts := [], laidByText := true, laidKinds := [.data, .data, .pinned], laidTests := true, laidLooks := .later }
def GroundsChainCardSaid : Prop := Claim7.holds Tryd.pinned (.plain (OpenSpec.ofChange groundsChainSpec)) groundsChainCard

/-- THE TIED CARD OF 'cartouchelaw09.GroundsParts'. -/
def groundsPartsCard : Claim7 := { stood := { row := groundsPartsRow, standIns := [], harness := (true, "25071da951a795de7c68388a4a4a529dc406a3e09dfea1f4280225f293c5d931"), looks := false }, kinds := [], alts := [], laidByText := true, laidKinds := [.data, .data, .pinned], laidTests := true, laidLooks := .later }
def GroundsPartsCardSaid : Prop := Claim7.holds Tryd.pinned (.plain (OpenSpec.ofChange groundsPartsSpec)) groundsPartsCard

/-- THE TIED CARD OF 'cartouchelaw12.SchemesValues'. -/
def schemesValuesCard : Claim7 := { stood := { row := schemesValuesRow, standIns := [], harness := (true, "25071da951a795de7c68388a4a4a529dc406a3e09dfea1f4280225f293c5d931"), looks := false }, kinds := [], alts := [], laidByText := true, laidKinds := [.data, .data, .pinned], laidTests := true, laidLooks := .later }
def SchemesValuesCardSaid : Prop := Claim7.holds Tryd.pinned (.plain (OpenSpec.ofChange schemesValuesSpec)) schemesValuesCard

/-- THE TIED CARD OF 'cartouchelaw12.SchemesParts'. -/
def schemesPartsCard : Claim7 := { stood := { row := schemesPartsRow, standIns := [], harness := (true, "25071da951a795de7c68388a4a4a529dc406a3e09dfea1f4280225f293c5d931"), looks := false }, kinds := [], alts := [], laidByText := true, laidKinds := [.data, .data, .pinned], laidTests := true, laidLooks := .later }
def SchemesPartsCardSaid : Prop := Claim7.holds Tryd.pinned (.plain (OpenSpec.ofChange schemesPartsSpec)) schemesPartsCard

/-- THE TIED CARD OF 'cartouchelaw12.SchemesMore'. -/
def schemesMoreCard : Claim7 := { stood := { row := schemesMoreRow, standIns := [], harness := (true, "25071da951a795de7c68388a4a4a529dc406a3e09dfea1f4280225f293c5d931"), looks := false }, kinds := [], alts := [], laidByText := true, laidKinds := [.data, .data, .pinned], laidTests := true, laidLooks := .later }
def SchemesMoreCardSaid : Prop := Claim7.holds Tryd.pinned (.plain (OpenSpec.ofChange schemesMoreSpec)) schemesMoreCard

/-- THE TIED CARD OF 'cartouchelaw12.SchemesHold'. -/
def schemesHoldCard : Claim7 := { stood := { row := schemesHoldRow, standIns := [], harness := (true, "25071da951a795de7c68388a4a4a529dc406a3e09dfea1f4280225f293c5d931"), looks := false }, kinds := [], alts := [], laidByText := true, laidKinds := [.data, .data, .pinned], laidTests := true, laidLooks := .later }
def SchemesHoldCardSaid : Prop := Claim7.holds Tryd.pinned (.plain (OpenSpec.ofChange schemesHoldSpec)) schemesHoldCard

/-- THE TIED CARD OF 'cartouchelaw09.GroundsMove'. -/
def groundsMoveCard : Claim7 := { stood := { row := groundsMoveRow, standIns := [], harness := (true, "25071da951a795de7c68388a4a4a529dc406a3e09dfea1f4280225f293c5d931"), looks := false }, kinds := [], alts := [], laidByText := true, laidKinds := [.data, .data, .pinned], laidTests := true, laidLooks := .later }
def GroundsMoveCardSaid : Prop := Claim7.holds Tryd.pinned (.plain (OpenSpec.ofChange groundsMoveSpec)) groundsMoveCard

/-- THE SECOND FORM's CARD OF 'cartouchelaw09.GroundsSelf'. -/
def groundsSelfUptoCard : Claim7 := { stood := { row := groundsSelfUptoRow, standIns := [], harness := (true, "25071da951a795de7c68388a4a4a529dc406a3e09dfea1f4280225f293c5d931"), looks := false }, kinds := [], alts := [], laidByText := true, laidKinds := [.data, .data, .pinned], laidTests := true, laidLooks := .later }
def GroundsSelfUptoCardSaid : Prop := Claim7.holds Tryd.pinned (.plain (OpenSpec.upto groundsSelfSpec)) groundsSelfUptoCard

/-- THE SECOND FORM's CARD OF 'cartouchelaw09.GroundsChain'. -/
def groundsChainUptoCard : Claim7 := { stood := { row := groundsChainUptoRow, standIns := [], harness := (true, "25071da951a795de7c68388a4a4a529dc406a3e09dfea1f4280225f293c5d931"), looks := false }, kinds := [], alts := [], laidByText := true, laidKinds := [.data, .data, .pinned], laidTests := true, laidLooks := .later }
def GroundsChainUptoCardSaid : Prop := Claim7.holds Tryd.pinned (.plain (OpenSpec.upto groundsChainSpec)) groundsChainUptoCard

/-- THE SECOND FORM's CARD OF 'cartouchelaw09.GroundsParts'. -/
def groundsPartsUptoCard : Claim7 := { stood := { row := groundsPartsUptoRow, standIns := [], harness := (true, "25071da951a795de7c68388a4a4a529dc406a3e09dfea1f4280225f293c5d931"), looks := false }, kinds := [], alts := [], laidByText := true, laidKinds := [.data, .data, .pinned], laidTests := true, laidLooks := .later }
def GroundsPartsUptoCardSaid : Prop := Claim7.holds Tryd.pinned (.plain (OpenSpec.upto groundsPartsSpec)) groundsPartsUptoCard

/-- THE SECOND FORM's CARD OF 'cartouchelaw12.SchemesValues'. -/
def schemesValuesUptoCard : Claim7 := { stood := { row := schemesValuesUptoRow, standIns := [], harness := (true, "25071da951a795de7c68388a4a4a529dc406a3e09dfea1f4280225f293c5d931"), looks := false }, kinds := [], alts := [], laidByText := true, laidKinds := [.data, .data, .pinned], laidTests := true, laidLooks := .later }
def SchemesValuesUptoCardSaid : Prop := Claim7.holds Tryd.pinned (.plain (OpenSpec.upto schemesValuesSpec)) schemesValuesUptoCard

/-- THE SECOND FORM's CARD OF 'cartouchelaw12.SchemesParts'. -/
def schemesPartsUptoCard : Claim7 := { stood := { row := schemesPartsUptoRow, standIns := [], harness := (true, "25071da951a795de7c68388a4a4a529dc406a3e09dfea1f4280225f293c5d931"), looks := false }, kinds := [], alts := [], laidByText := true, laidKinds := [.data, .data, .pinned], laidTests := true, laidLooks := .later }
def SchemesPartsUptoCardSaid : Prop := Claim7.holds Tryd.pinned (.plain (OpenSpec.upto schemesPartsSpec)) schemesPartsUptoCard

/-- THE SECOND FORM's CARD OF 'cartouchelaw12.SchemesMore'. -/
def schemesMoreUptoCard : Claim7 := { stood := { row := schemesMoreUptoRow, standIns := [], harness := (true, "25071da951a795de7c68388a4a4a529dc406a3e09dfea1f4280225f293c5d931"), looks := false }, kinds := [], alts := [], laidByText := true, laidKinds := [.data, .data, .pinned], laidTests := true, laidLooks := .later }
def SchemesMoreUptoCardSaid : Prop := Claim7.holds Tryd.pinned (.plain (OpenSpec.upto schemesMoreSpec)) schemesMoreUptoCard

/-- THE SECOND FORM's CARD OF 'cartouchelaw12.SchemesHold'. -/
def schemesHoldUptoCard : Claim7 := { stood := { row := schemesHoldUptoRow, standIns := [], harness := (true, "25071da951a795de7c68388a4a4a529dc406a3e09dfea1f4280225f293c5d931"), looks := false }, kinds := [], alts := [], laidByText := true, laidKinds := [.data, .data, .pinned], laidTests := true, laidLooks := .later }
def SchemesHoldUptoCardSaid : Prop := Claim7.holds Tryd.pinned (.plain (OpenSpec.upto schemesHoldSpec)) schemesHoldUptoCard

/-- THE SECOND FORM's CARD OF 'cartouchelaw09.GroundsMove'. -/
def groundsMoveUptoCard : Claim7 := { stood := { row := groundsMoveUptoRow, standIns := [], harness := (true, "25071da951a795de7c68388a4a4a529dc406a3e09dfea1f4280225f293c5d931"), looks := false }, kinds := [], alts := [], laidByText := true, laidKinds := [.data, .data, .pinned], laidTests := true, laidLooks := .later }
def GroundsMoveUptoCardSaid : Prop := Claim7.holds Tryd.pinned (.plain (OpenSpec.upto groundsMoveSpec)) groundsMoveUptoCard
end Rows
end Go.Proofs.YtkndpgbpdidlgaaDoor
