/-
  NARROWER THAN 'FOR EVERY INPUT', by the rows' own cells (each row's printed sentence says how): TypesOf: laid · TypesParts: laid · TypesSame: laid · TypesCut: laid · TypesPut: laid · TypesNames: laid · SpotsMany: laid · SpotsBelow: laid · SpotsRefuse: laid · SpotsBack: laid.
  DERIVED. THE GIVEN ROWS OF THIS SEAT. 10 by the template 'for every input the law returns true; each argument reads behind the call as it read before'; 0 by the template 'total and deterministic' (their statements: YtoohandacpalpaaDoorTotals.lean).
  GIVEN WITH THE SEED: the statements are not yours to turn. If you find one false, say at which input.
  Laid BY PROGRAM, IN A SANDBOX (cutbox-rows.mjs): the forced cells as the released guide's own fill.sh prints them over the translation 4a6de50586c6933b… (all of the seat's roots in one cut). By AI agents, Wed Nov 11 2026. No macro, syntax, notation, axiom, sorry.
-/
import Derived.Test.YtoohandacpalpaaDoorChecked
import GoSem.PinnedTables
import GoSem.Claim
import GoSem.ClaimJoined
import GoSem.ClaimMapViews
import Derived.JoinedTies
import Derived.KernelRfl
namespace Go.Proofs.YtoohandacpalpaaDoor
/- THE CELL 'sum', in the pinned program and in every row, IS THE sha256 OF THE DUMP (.gsa) THAT YtoohandacpalpaaDoorProg.lean LOADS. Nothing in Lean hashes anything: it is a label: what it is worth is what the hold of that sum in a sandbox is worth. -/
noncomputable def Tryd.pinned : Pinned := { name := "ytoohandacpalpaadoor", sum := "4a6de50586c6933bf48bd9b2ed6163f0a46a436c89b0225b3287516d1c22aed5", checked := Tryd.checked }
namespace Rows
def none {H : Type} : Left H := { results := [], args := [] }

/- WHAT THE LISTED PACKAGE-LEVEL VARIABLES READ AS WHEN THE CALL BEGINS. Each datum BY PROGRAM (the guide's laid-datum.mjs) off the statement by which the dump's own 'gosem.cut.vars' lays the variable. In a bare row this is a premise. The card (YtoohandacpalpaaDoorCards.lean) ties it to the program's text. -/
def laid_unicode_utf8_acceptRanges {H : Type} : DataW H := .agg [.agg [.lit (.int .u8 128), .lit (.int .u8 191)], .agg [.lit (.int .u8 160), .lit (.int .u8 191)], .agg [.lit (.int .u8 128), .lit (.int .u8 159)], .agg [.lit (.int .u8 144), .lit (.int .u8 191)], .agg [.lit (.int .u8 128), .lit (.int .u8 143)], .agg [.lit (.int .u8 0), .lit (.int .u8 0)], .agg [.lit (.int .u8 0), .lit (.int .u8 0)], .agg [.lit (.int .u8 0), .lit (.int .u8 0)], .agg [.lit (.int .u8 0), .lit (.int .u8 0)], .agg [.lit (.int .u8 0), .lit (.int .u8 0)], .agg [.lit (.int .u8 0), .lit (.int .u8 0)], .agg [.lit (.int .u8 0), .lit (.int .u8 0)], .agg [.lit (.int .u8 0), .lit (.int .u8 0)], .agg [.lit (.int .u8 0), .lit (.int .u8 0)], .agg [.lit (.int .u8 0), .lit (.int .u8 0)], .agg [.lit (.int .u8 0), .lit (.int .u8 0)]]
/-- One of Go's own tables, pinned by name: the form's constant. -/
def laid_unicode_utf8_first : DataW Unit := Go.Pinned.utf8First

/-- 'cartouchelaw07.TypesOf': WHATEVER THE INPUT: true; the input reads as it did. -/
def typesOfSpec : ChangeSpec := { name := "typesOf", fn := fun _ => fun
  | [d1, d2, d3] => { results := [.lit (.bool true)], args := [d1, d2, d3] }
  | _ => none }
def typesOfRow : OpenClaim := { program := "ytoohandacpalpaadoor", sum := "4a6de50586c6933bf48bd9b2ed6163f0a46a436c89b0225b3287516d1c22aed5", func := "cartouche/cartouchelaw07.TypesOf", spec := "typesOf", inPlace := ["internal/bytealg.IndexByteString", "internal/bytealg.IndexString"], unfollowed := true, recurses := true, named := ["internal/bytealg.MaxLen", "unicode/utf8.first", "unicode/utf8.acceptRanges"], apart := false, laid := [("unicode/utf8.acceptRanges", laid_unicode_utf8_acceptRanges), ("unicode/utf8.first", laid_unicode_utf8_first)] }
def TypesOfSaid : Prop := typesOfRow.holds Tryd.pinned (OpenSpec.ofChange typesOfSpec)

/-- ITS FALSE NEIGHBOUR: 'it returns false'. Refute it at one input. -/
def typesOfWrong : ChangeSpec := { name := "typesOf", fn := fun _ => fun
  | [d1, d2, d3] => { results := [.lit (.bool false)], args := [d1, d2, d3] }
  | _ => none }
def TypesOfWrongFalsely : Prop := typesOfRow.holds Tryd.pinned (OpenSpec.ofChange typesOfWrong)

/-- 'cartouchelaw07.TypesParts': WHATEVER THE INPUT: true; the input reads as it did. -/
def typesPartsSpec : ChangeSpec := { name := "typesParts", fn := fun _ => fun
  | [d1, d2] => { results := [.lit (.bool true)], args := [d1, d2] }
  | _ => none }
def typesPartsRow : OpenClaim := { program := "ytoohandacpalpaadoor", sum := "4a6de50586c6933bf48bd9b2ed6163f0a46a436c89b0225b3287516d1c22aed5", func := "cartouche/cartouchelaw07.TypesParts", spec := "typesParts", inPlace := ["internal/bytealg.IndexByteString", "internal/bytealg.IndexString"], unfollowed := true, recurses := true, named := ["internal/bytealg.MaxLen", "unicode/utf8.first", "unicode/utf8.acceptRanges"], apart := false, laid := [("unicode/utf8.acceptRanges", laid_unicode_utf8_acceptRanges), ("unicode/utf8.first", laid_unicode_utf8_first)] }
def TypesPartsSaid : Prop := typesPartsRow.holds Tryd.pinned (OpenSpec.ofChange typesPartsSpec)

/-- ITS FALSE NEIGHBOUR: 'it returns false'. Refute it at one input. -/
def typesPartsWrong : ChangeSpec := { name := "typesParts", fn := fun _ => fun
  | [d1, d2] => { results := [.lit (.bool false)], args := [d1, d2] }
  | _ => none }
def TypesPartsWrongFalsely : Prop := typesPartsRow.holds Tryd.pinned (OpenSpec.ofChange typesPartsWrong)

/-- 'cartouchelaw07.TypesSame': WHATEVER THE INPUT: true; the input reads as it did. -/
def typesSameSpec : ChangeSpec := { name := "typesSame", fn := fun _ => fun
  | [d1, d2, d3] => { results := [.lit (.bool true)], args := [d1, d2, d3] }
  | _ => none }
def typesSameRow : OpenClaim := { program := "ytoohandacpalpaadoor", sum := "4a6de50586c6933bf48bd9b2ed6163f0a46a436c89b0225b3287516d1c22aed5", func := "cartouche/cartouchelaw07.TypesSame", spec := "typesSame", inPlace := ["internal/bytealg.IndexByteString", "internal/bytealg.IndexString"], unfollowed := true, recurses := true, named := ["internal/bytealg.MaxLen", "unicode/utf8.first", "unicode/utf8.acceptRanges"], apart := false, laid := [("unicode/utf8.acceptRanges", laid_unicode_utf8_acceptRanges), ("unicode/utf8.first", laid_unicode_utf8_first)] }
def TypesSameSaid : Prop := typesSameRow.holds Tryd.pinned (OpenSpec.ofChange typesSameSpec)

/-- ITS FALSE NEIGHBOUR: 'it returns false'. Refute it at one input. -/
def typesSameWrong : ChangeSpec := { name := "typesSame", fn := fun _ => fun
  | [d1, d2, d3] => { results := [.lit (.bool false)], args := [d1, d2, d3] }
  | _ => none }
def TypesSameWrongFalsely : Prop := typesSameRow.holds Tryd.pinned (OpenSpec.ofChange typesSameWrong)

/-- 'cartouchelaw07.TypesCut': WHATEVER THE INPUT: true; the input reads as it did. -/
def typesCutSpec : ChangeSpec := { name := "typesCut", fn := fun _ => fun
  | [d1, d2] => { results := [.lit (.bool true)], args := [d1, d2] }
  | _ => none }
def typesCutRow : OpenClaim := { program := "ytoohandacpalpaadoor", sum := "4a6de50586c6933bf48bd9b2ed6163f0a46a436c89b0225b3287516d1c22aed5", func := "cartouche/cartouchelaw07.TypesCut", spec := "typesCut", inPlace := ["internal/bytealg.IndexByteString", "internal/bytealg.IndexString"], unfollowed := true, recurses := true, named := ["internal/bytealg.MaxLen", "unicode/utf8.first", "unicode/utf8.acceptRanges"], apart := false, laid := [("unicode/utf8.acceptRanges", laid_unicode_utf8_acceptRanges), ("unicode/utf8.first", laid_unicode_utf8_first)] }
def TypesCutSaid : Prop := typesCutRow.holds Tryd.pinned (OpenSpec.ofChange typesCutSpec)

/-- ITS FALSE NEIGHBOUR: 'it returns false'. Refute it at one input. -/
def typesCutWrong : ChangeSpec := { name := "typesCut", fn := fun _ => fun
  | [d1, d2] => { results := [.lit (.bool false)], args := [d1, d2] }
  | _ => none }
def TypesCutWrongFalsely : Prop := typesCutRow.holds Tryd.pinned (OpenSpec.ofChange typesCutWrong)

/-- 'cartouchelaw07.TypesPut': WHATEVER THE INPUT: true; the input reads as it did. -/
def typesPutSpec : ChangeSpec := { name := "typesPut", fn := fun _ => fun
  | [d1, d2] => { results := [.lit (.bool true)], args := [d1, d2] }
  | _ => none }
def typesPutRow : OpenClaim := { program := "ytoohandacpalpaadoor", sum := "4a6de50586c6933bf48bd9b2ed6163f0a46a436c89b0225b3287516d1c22aed5", func := "cartouche/cartouchelaw07.TypesPut", spec := "typesPut", inPlace := ["internal/bytealg.IndexByteString", "internal/bytealg.IndexString"], unfollowed := true, recurses := true, named := ["internal/bytealg.MaxLen", "unicode/utf8.first", "unicode/utf8.acceptRanges"], apart := false, laid := [("unicode/utf8.acceptRanges", laid_unicode_utf8_acceptRanges), ("unicode/utf8.first", laid_unicode_utf8_first)] }
def TypesPutSaid : Prop := typesPutRow.holds Tryd.pinned (OpenSpec.ofChange typesPutSpec)

/-- ITS FALSE NEIGHBOUR: 'it returns false'. Refute it at one input. -/
def typesPutWrong : ChangeSpec := { name := "typesPut", fn := fun _ => fun
  | [d1, d2] => { results := [.lit (.bool false)], args := [d1, d2] }
  | _ => none }
def TypesPutWrongFalsely : Prop := typesPutRow.holds Tryd.pinned (OpenSpec.ofChange typesPutWrong)

/-- 'cartouchelaw07.TypesNames': WHATEVER THE INPUT: true; the input reads as it did. -/
def typesNamesSpec : ChangeSpec := { name := "typesNames", fn := fun _ => fun
  | [d1, d2] => { results := [.lit (.bool true)], args := [d1, d2] }
  | _ => none }
def typesNamesRow : OpenClaim := { program := "ytoohandacpalpaadoor", sum := "4a6de50586c6933bf48bd9b2ed6163f0a46a436c89b0225b3287516d1c22aed5", func := "cartouche/cartouchelaw07.TypesNames", spec := "typesNames", inPlace := ["internal/bytealg.IndexByteString", "internal/bytealg.IndexString"], unfollowed := true, recurses := true, named := ["internal/bytealg.MaxLen", "unicode/utf8.first", "unicode/utf8.acceptRanges"], apart := false, laid := [("unicode/utf8.acceptRanges", laid_unicode_utf8_acceptRanges), ("unicode/utf8.first", laid_unicode_utf8_first)] }
def TypesNamesSaid : Prop := typesNamesRow.holds Tryd.pinned (OpenSpec.ofChange typesNamesSpec)

/-- ITS FALSE NEIGHBOUR: 'it returns false'. Refute it at one input. -/
def typesNamesWrong : ChangeSpec := { name := "typesNames", fn := fun _ => fun
  | [d1, d2] => { results := [.lit (.bool false)], args := [d1, d2] }
  | _ => none }
def TypesNamesWrongFalsely : Prop := typesNamesRow.holds Tryd.pinned (OpenSpec.ofChange typesNamesWrong)

/-- 'cartouchelaw08.SpotsMany': WHATEVER THE INPUT: true; the input reads as it did. -/
def spotsManySpec : ChangeSpec := { name := "spotsMany", fn := fun _ => fun
  | [d] => { results := [.lit (.bool true)], args := [d] }
  | _ => none }
def spotsManyRow : OpenClaim := { program := "ytoohandacpalpaadoor", sum := "4a6de50586c6933bf48bd9b2ed6163f0a46a436c89b0225b3287516d1c22aed5", func := "cartouche/cartouchelaw08.SpotsMany", spec := "spotsMany", inPlace := ["internal/bytealg.IndexByteString", "internal/bytealg.IndexString"], unfollowed := true, recurses := true, named := ["internal/bytealg.MaxLen", "unicode/utf8.first", "unicode/utf8.acceptRanges"], apart := false, laid := [("unicode/utf8.acceptRanges", laid_unicode_utf8_acceptRanges), ("unicode/utf8.first", laid_unicode_utf8_first)] }
def SpotsManySaid : Prop := spotsManyRow.holds Tryd.pinned (OpenSpec.ofChange spotsManySpec)

/-- ITS FALSE NEIGHBOUR: 'it returns false'. Refute it at one input. -/
def spotsManyWrong : ChangeSpec := { name := "spotsMany", fn := fun _ => fun
  | [d] => { results := [.lit (.bool false)], args := [d] }
  | _ => none }
def SpotsManyWrongFalsely : Prop := spotsManyRow.holds Tryd.pinned (OpenSpec.ofChange spotsManyWrong)

/-- 'cartouchelaw08.SpotsBelow': WHATEVER THE INPUT: true; the input reads as it did. -/
def spotsBelowSpec : ChangeSpec := { name := "spotsBelow", fn := fun _ => fun
  | [d1, d2] => { results := [.lit (.bool true)], args := [d1, d2] }
  | _ => none }
def spotsBelowRow : OpenClaim := { program := "ytoohandacpalpaadoor", sum := "4a6de50586c6933bf48bd9b2ed6163f0a46a436c89b0225b3287516d1c22aed5", func := "cartouche/cartouchelaw08.SpotsBelow", spec := "spotsBelow", inPlace := ["internal/bytealg.IndexByteString", "internal/bytealg.IndexString"], unfollowed := true, recurses := true, named := ["internal/bytealg.MaxLen", "unicode/utf8.first", "unicode/utf8.acceptRanges"], apart := false, laid := [("unicode/utf8.acceptRanges", laid_unicode_utf8_acceptRanges), ("unicode/utf8.first", laid_unicode_utf8_first)] }
def SpotsBelowSaid : Prop := spotsBelowRow.holds Tryd.pinned (OpenSpec.ofChange spotsBelowSpec)

/-- ITS FALSE NEIGHBOUR: 'it returns false'. Refute it at one input. -/
def spotsBelowWrong : ChangeSpec := { name := "spotsBelow", fn := fun _ => fun
  | [d1, d2] => { results := [.lit (.bool false)], args := [d1, d2] }
  | _ => none }
def SpotsBelowWrongFalsely : Prop := spotsBelowRow.holds Tryd.pinned (OpenSpec.ofChange spotsBelowWrong)

/-- 'cartouchelaw08.SpotsRefuse': WHATEVER THE INPUT: true; the input reads as it did. -/
def spotsRefuseSpec : ChangeSpec := { name := "spotsRefuse", fn := fun _ => fun
  | [d1, d2, d3] => { results := [.lit (.bool true)], args := [d1, d2, d3] }
  | _ => none }
def spotsRefuseRow : OpenClaim := { program := "ytoohandacpalpaadoor", sum := "4a6de50586c6933bf48bd9b2ed6163f0a46a436c89b0225b3287516d1c22aed5", func := "cartouche/cartouchelaw08.SpotsRefuse", spec := "spotsRefuse", inPlace := ["internal/bytealg.IndexByteString", "internal/bytealg.IndexString"], unfollowed := true, recurses := true, named := ["internal/bytealg.MaxLen", "unicode/utf8.first", "unicode/utf8.acceptRanges"], apart := false, laid := [("unicode/utf8.acceptRanges", laid_unicode_utf8_acceptRanges), ("unicode/utf8.first", laid_unicode_utf8_first)] }
def SpotsRefuseSaid : Prop := spotsRefuseRow.holds Tryd.pinned (OpenSpec.ofChange spotsRefuseSpec)

/-- ITS FALSE NEIGHBOUR: 'it returns false'. Refute it at one input. -/
def spotsRefuseWrong : ChangeSpec := { name := "spotsRefuse", fn := fun _ => fun
  | [d1, d2, d3] => { results := [.lit (.bool false)], args := [d1, d2, d3] }
  | _ => none }
def SpotsRefuseWrongFalsely : Prop := spotsRefuseRow.holds Tryd.pinned (OpenSpec.ofChange spotsRefuseWrong)

/-- 'cartouchelaw08.SpotsBack': WHATEVER THE INPUT: true; the input reads as it did. -/
def spotsBackSpec : ChangeSpec := { name := "spotsBack", fn := fun _ => fun
  | [d1, d2] => { results := [.lit (.bool true)], args := [d1, d2] }
  | _ => none }
def spotsBackRow : OpenClaim := { program := "ytoohandacpalpaadoor", sum := "4a6de50586c6933bf48bd9b2ed6163f0a46a436c89b0225b3287516d1c22aed5", func := "cartouche/cartouchelaw08.SpotsBack", spec := "spotsBack", inPlace := ["internal/bytealg.IndexByteString", "internal/bytealg.IndexString"], unfollowed := true, recurses := true, named := ["internal/bytealg.MaxLen", "unicode/utf8.first", "unicode/utf8.acceptRanges"], apart := false, laid := [("unicode/utf8.acceptRanges", laid_unicode_utf8_acceptRanges), ("unicode/utf8.first", laid_unicode_utf8_first)] }
def SpotsBackSaid : Prop := spotsBackRow.holds Tryd.pinned (OpenSpec.ofChange spotsBackSpec)

/-- ITS FALSE NEIGHBOUR: 'it returns false'. Refute it at one input. -/
def spotsBackWrong : ChangeSpec := { name := "spotsBack", fn := fun _ => fun
  | [d1, d2] => { results := [.lit (.bool false)], args := [d1, d2] }
  | _ => none }
def SpotsBackWrongFalsely : Prop := spotsBackRow.holds Tryd.pinned (OpenSpec.ofChange spotsBackWrong)

/- THE SECOND FORM. 'bulk': how many values and letters a reading holds, each counted each time it is reached (what is shared counts as often as it is met; a slice's spare places count too). A statement '..UptoSaid' is the law's where the arguments, and the package variables that the reading takes, are together of bulk at most 1048576: NARROWER than '..Said'. Prove '..Said' where nothing that the law and all that it calls make is longer than what came in: it says more and counts as full. Else prove '..UptoSaid'. A law counts once. -/
mutual
def uptoBulk {H : Type} : DataW H → Nat
  | .lit (.string bytes) => bytes.length + 1
  | .lit _ => 1
  | .nil => 1
  | .ptr d => uptoBulk d + 1
  | .slice elems spare => uptoBulkAll elems + uptoBulkAll spare + 1
  | .agg parts => uptoBulkAll parts + 1
  | .iface _ d => uptoBulk d + 1
  | .map entries => uptoBulkEntries entries + 1
  | .held _ => 1
def uptoBulkAll {H : Type} : List (DataW H) → Nat
  | [] => 0
  | d :: r => uptoBulk d + uptoBulkAll r
def uptoBulkEntries {H : Type} : List (Lit × DataW H) → Nat
  | [] => 0
  | x :: r => uptoBulkEntry x + uptoBulkEntries r
def uptoBulkEntry {H : Type} : Lit × DataW H → Nat
  | (.string bytes, d) => bytes.length + uptoBulk d + 1
  | (_, d) => uptoBulk d + 1
 end
def uptoSmall : (H : Type) → List (DataW H) → Bool := fun _ ds => decide (uptoBulkAll ds ≤ 1048576)
def OpenSpec.upto (s : _root_.Go.ChangeSpec) : _root_.Go.OpenSpec := { _root_.Go.OpenSpec.ofChange s with cond := some uptoSmall }

/-- 'cartouchelaw07.TypesOf', WHERE WHAT IT READS IS OF BULK AT MOST 1048576: true; the input reads as it did. -/
def typesOfUptoRow : OpenClaim := { program := "ytoohandacpalpaadoor", sum := "4a6de50586c6933bf48bd9b2ed6163f0a46a436c89b0225b3287516d1c22aed5", func := "cartouche/cartouchelaw07.TypesOf", spec := "typesOf", inPlace := ["internal/bytealg.IndexByteString", "internal/bytealg.IndexString"], unfollowed := true, recurses := true, named := ["internal/bytealg.MaxLen", "unicode/utf8.first", "unicode/utf8.acceptRanges"], apart := false, laid := [("unicode/utf8.acceptRanges", laid_unicode_utf8_acceptRanges), ("unicode/utf8.first", laid_unicode_utf8_first)], narrowed := true }
def TypesOfUptoSaid : Prop := typesOfUptoRow.holds Tryd.pinned (OpenSpec.upto typesOfSpec)

/-- 'cartouchelaw07.TypesParts', WHERE WHAT IT READS IS OF BULK AT MOST 1048576: true; the input reads as it did. -/
def typesPartsUptoRow : OpenClaim := { program := "ytoohandacpalpaadoor", sum := "4a6de50586c6933bf48bd9b2ed6163f0a46a436c89b0225b3287516d1c22aed5", func := "cartouche/cartouchelaw07.TypesParts", spec := "typesParts", inPlace := ["internal/bytealg.IndexByteString", "internal/bytealg.IndexString"], unfollowed := true, recurses := true, named := ["internal/bytealg.MaxLen", "unicode/utf8.first", "unicode/utf8.acceptRanges"], apart := false, laid := [("unicode/utf8.acceptRanges", laid_unicode_utf8_acceptRanges), ("unicode/utf8.first", laid_unicode_utf8_first)], narrowed := true }
def TypesPartsUptoSaid : Prop := typesPartsUptoRow.holds Tryd.pinned (OpenSpec.upto typesPartsSpec)

/-- 'cartouchelaw07.TypesSame', WHERE WHAT IT READS IS OF BULK AT MOST 1048576: true; the input reads as it did. -/
def typesSameUptoRow : OpenClaim := { program := "ytoohandacpalpaadoor", sum := "4a6de50586c6933bf48bd9b2ed6163f0a46a436c89b0225b3287516d1c22aed5", func := "cartouche/cartouchelaw07.TypesSame", spec := "typesSame", inPlace := ["internal/bytealg.IndexByteString", "internal/bytealg.IndexString"], unfollowed := true, recurses := true, named := ["internal/bytealg.MaxLen", "unicode/utf8.first", "unicode/utf8.acceptRanges"], apart := false, laid := [("unicode/utf8.acceptRanges", laid_unicode_utf8_acceptRanges), ("unicode/utf8.first", laid_unicode_utf8_first)], narrowed := true }
def TypesSameUptoSaid : Prop := typesSameUptoRow.holds Tryd.pinned (OpenSpec.upto typesSameSpec)

/-- 'cartouchelaw07.TypesCut', WHERE WHAT IT READS IS OF BULK AT MOST 1048576: true; the input reads as it did. -/
def typesCutUptoRow : OpenClaim := { program := "ytoohandacpalpaadoor", sum := "4a6de50586c6933bf48bd9b2ed6163f0a46a436c89b0225b3287516d1c22aed5", func := "cartouche/cartouchelaw07.TypesCut", spec := "typesCut", inPlace := ["internal/bytealg.IndexByteString", "internal/bytealg.IndexString"], unfollowed := true, recurses := true, named := ["internal/bytealg.MaxLen", "unicode/utf8.first", "unicode/utf8.acceptRanges"], apart := false, laid := [("unicode/utf8.acceptRanges", laid_unicode_utf8_acceptRanges), ("unicode/utf8.first", laid_unicode_utf8_first)], narrowed := true }
def TypesCutUptoSaid : Prop := typesCutUptoRow.holds Tryd.pinned (OpenSpec.upto typesCutSpec)

/-- 'cartouchelaw07.TypesPut', WHERE WHAT IT READS IS OF BULK AT MOST 1048576: true; the input reads as it did. -/
def typesPutUptoRow : OpenClaim := { program := "ytoohandacpalpaadoor", sum := "4a6de50586c6933bf48bd9b2ed6163f0a46a436c89b0225b3287516d1c22aed5", func := "cartouche/cartouchelaw07.TypesPut", spec := "typesPut", inPlace := ["internal/bytealg.IndexByteString", "internal/bytealg.IndexString"], unfollowed := true, recurses := true, named := ["internal/bytealg.MaxLen", "unicode/utf8.first", "unicode/utf8.acceptRanges"], apart := false, laid := [("unicode/utf8.acceptRanges", laid_unicode_utf8_acceptRanges), ("unicode/utf8.first", laid_unicode_utf8_first)], narrowed := true }
def TypesPutUptoSaid : Prop := typesPutUptoRow.holds Tryd.pinned (OpenSpec.upto typesPutSpec)

/-- 'cartouchelaw07.TypesNames', WHERE WHAT IT READS IS OF BULK AT MOST 1048576: true; the input reads as it did. -/
def typesNamesUptoRow : OpenClaim := { program := "ytoohandacpalpaadoor", sum := "4a6de50586c6933bf48bd9b2ed6163f0a46a436c89b0225b3287516d1c22aed5", func := "cartouche/cartouchelaw07.TypesNames", spec := "typesNames", inPlace := ["internal/bytealg.IndexByteString", "internal/bytealg.IndexString"], unfollowed := true, recurses := true, named := ["internal/bytealg.MaxLen", "unicode/utf8.first", "unicode/utf8.acceptRanges"], apart := false, laid := [("unicode/utf8.acceptRanges", laid_unicode_utf8_acceptRanges), ("unicode/utf8.first", laid_unicode_utf8_first)], narrowed := true }
def TypesNamesUptoSaid : Prop := typesNamesUptoRow.holds Tryd.pinned (OpenSpec.upto typesNamesSpec)

/-- 'cartouchelaw08.SpotsMany', WHERE WHAT IT READS IS OF BULK AT MOST 1048576: true; the input reads as it did. -/
def spotsManyUptoRow : OpenClaim := { program := "ytoohandacpalpaadoor", sum := "4a6de50586c6933bf48bd9b2ed6163f0a46a436c89b0225b3287516d1c22aed5", func := "cartouche/cartouchelaw08.SpotsMany", spec := "spotsMany", inPlace := ["internal/bytealg.IndexByteString", "internal/bytealg.IndexString"], unfollowed := true, recurses := true, named := ["internal/bytealg.MaxLen", "unicode/utf8.first", "unicode/utf8.acceptRanges"], apart := false, laid := [("unicode/utf8.acceptRanges", laid_unicode_utf8_acceptRanges), ("unicode/utf8.first", laid_unicode_utf8_first)], narrowed := true }
def SpotsManyUptoSaid : Prop := spotsManyUptoRow.holds Tryd.pinned (OpenSpec.upto spotsManySpec)

/-- 'cartouchelaw08.SpotsBelow', WHERE WHAT IT READS IS OF BULK AT MOST 1048576: true; the input reads as it did. -/
def spotsBelowUptoRow : OpenClaim := { program := "ytoohandacpalpaadoor", sum := "4a6de50586c6933bf48bd9b2ed6163f0a46a436c89b0225b3287516d1c22aed5", func := "cartouche/cartouchelaw08.SpotsBelow", spec := "spotsBelow", inPlace := ["internal/bytealg.IndexByteString", "internal/bytealg.IndexString"], unfollowed := true, recurses := true, named := ["internal/bytealg.MaxLen", "unicode/utf8.first", "unicode/utf8.acceptRanges"], apart := false, laid := [("unicode/utf8.acceptRanges", laid_unicode_utf8_acceptRanges), ("unicode/utf8.first", laid_unicode_utf8_first)], narrowed := true }
def SpotsBelowUptoSaid : Prop := spotsBelowUptoRow.holds Tryd.pinned (OpenSpec.upto spotsBelowSpec)

/-- 'cartouchelaw08.SpotsRefuse', WHERE WHAT IT READS IS OF BULK AT MOST 1048576: true; the input reads as it did. -/
def spotsRefuseUptoRow : OpenClaim := { program := "ytoohandacpalpaadoor", sum := "4a6de50586c6933bf48bd9b2ed6163f0a46a436c89b0225b3287516d1c22aed5", func := "cartouche/cartouchelaw08.SpotsRefuse", spec := "spotsRefuse", inPlace := ["internal/bytealg.IndexByteString", "internal/bytealg.IndexString"], unfollowed := true, recurses := true, named := ["internal/bytealg.MaxLen", "unicode/utf8.first", "unicode/utf8.acceptRanges"], apart := false, laid := [("unicode/utf8.acceptRanges", laid_unicode_utf8_acceptRanges), ("unicode/utf8.first", laid_unicode_utf8_first)], narrowed := true }
def SpotsRefuseUptoSaid : Prop := spotsRefuseUptoRow.holds Tryd.pinned (OpenSpec.upto spotsRefuseSpec)

/-- 'cartouchelaw08.SpotsBack', WHERE WHAT IT READS IS OF BULK AT MOST 1048576: true; the input reads as it did. -/
def spotsBackUptoRow : OpenClaim := { program := "ytoohandacpalpaadoor", sum := "4a6de50586c6933bf48bd9b2ed6163f0a46a436c89b0225b3287516d1c22aed5", func := "cartouche/cartouchelaw08.SpotsBack", spec := "spotsBack", inPlace := ["internal/bytealg.IndexByteString", "internal/bytealg.IndexString"], unfollowed := true, recurses := true, named := ["internal/bytealg.MaxLen", "unicode/utf8.first", "unicode/utf8.acceptRanges"], apart := false, laid := [("unicode/utf8.acceptRanges", laid_unicode_utf8_acceptRanges), ("unicode/utf8.first", laid_unicode_utf8_first)], narrowed := true }
def SpotsBackUptoSaid : Prop := spotsBackUptoRow.holds Tryd.pinned (OpenSpec.upto spotsBackSpec)

end Rows
end Go.Proofs.YtoohandacpalpaaDoor
