/-
  NARROWER THAN 'FOR EVERY INPUT', by the rows' own cells (each row's printed sentence says how): GroundsSelf: laid · GroundsChain: laid · GroundsParts: laid · SchemesValues: laid · SchemesParts: laid · SchemesMore: laid · SchemesHold: laid · GroundsMove: laid.
  DERIVED. THE GIVEN ROWS OF THIS SEAT. 8 by the template 'for every input the law returns true; each argument reads behind the call as it read before'; 0 by the template 'total and deterministic' (their statements: YtkndpgbpdidlgaaDoorTotals.lean).
  GIVEN WITH THE SEED: the statements are not yours to turn. If you find one false, say at which input.
  Laid BY PROGRAM, IN A SANDBOX (cutbox-rows.mjs): the forced cells as the released guide's own fill.sh prints them over the translation e9e63ec98a46b5e3… (all of the seat's roots in one cut). By AI agents, Wed Nov 11 2026. No macro, syntax, notation, axiom, sorry.
-/
import Derived.Test.YtkndpgbpdidlgaaDoorChecked
import GoSem.PinnedTables
import GoSem.Claim
import GoSem.ClaimJoined
import GoSem.ClaimMapViews
import Derived.JoinedTies
import Derived.KernelRfl
namespace Go.Proofs.YtkndpgbpdidlgaaDoor
/- THE CELL 'sum', in the pinned program and in every row, IS THE sha256 OF THE DUMP (.gsa) THAT YtkndpgbpdidlgaaDoorProg.lean LOADS. Nothing in Lean hashes anything: it is a label: what it is worth is what the hold of that sum in a sandbox is worth. -/
noncomputable def Tryd.pinned : Pinned := { name := "ytkndpgbpdidlgaadoor", sum := "e9e63ec98a46b5e32f0934b161fe6795c51ab641dac4a4d04cddee86a452338f", checked := Tryd.checked }
namespace Rows
def none {H : Type} : Left H := { results := [], args := [] }

/- WHAT THE LISTED PACKAGE-LEVEL VARIABLES READ AS WHEN THE CALL BEGINS. Each datum BY PROGRAM (the guide's laid-datum.mjs) off the statement by which the dump's own 'gosem.cut.vars' lays the variable. In a bare row this is a premise. The card (YtkndpgbpdidlgaaDoorCards.lean) ties it to the program's text. -/
def laid_math_bits_deBruijn64tab {H : Type} : DataW H := .agg [.lit (.int .u8 0), .lit (.int .u8 1), .lit (.int .u8 56), .lit (.int .u8 2), .lit (.int .u8 57), .lit (.int .u8 49), .lit (.int .u8 28), .lit (.int .u8 3), .lit (.int .u8 61), .lit (.int .u8 58), .lit (.int .u8 42), .lit (.int .u8 50), .lit (.int .u8 38), .lit (.int .u8 29), .lit (.int .u8 17), .lit (.int .u8 4), .lit (.int .u8 62), .lit (.int .u8 47), .lit (.int .u8 59), .lit (.int .u8 36), .lit (.int .u8 45), .lit (.int .u8 43), .lit (.int .u8 51), .lit (.int .u8 22), .lit (.int .u8 53), .lit (.int .u8 39), .lit (.int .u8 33), .lit (.int .u8 30), .lit (.int .u8 24), .lit (.int .u8 18), .lit (.int .u8 12), .lit (.int .u8 5), .lit (.int .u8 63), .lit (.int .u8 55), .lit (.int .u8 48), .lit (.int .u8 27), .lit (.int .u8 60), .lit (.int .u8 41), .lit (.int .u8 37), .lit (.int .u8 16), .lit (.int .u8 46), .lit (.int .u8 35), .lit (.int .u8 44), .lit (.int .u8 21), .lit (.int .u8 52), .lit (.int .u8 32), .lit (.int .u8 23), .lit (.int .u8 11), .lit (.int .u8 54), .lit (.int .u8 26), .lit (.int .u8 40), .lit (.int .u8 15), .lit (.int .u8 34), .lit (.int .u8 20), .lit (.int .u8 31), .lit (.int .u8 10), .lit (.int .u8 25), .lit (.int .u8 14), .lit (.int .u8 19), .lit (.int .u8 9), .lit (.int .u8 13), .lit (.int .u8 8), .lit (.int .u8 7), .lit (.int .u8 6)]
def laid_unicode_utf8_acceptRanges {H : Type} : DataW H := .agg [.agg [.lit (.int .u8 128), .lit (.int .u8 191)], .agg [.lit (.int .u8 160), .lit (.int .u8 191)], .agg [.lit (.int .u8 128), .lit (.int .u8 159)], .agg [.lit (.int .u8 144), .lit (.int .u8 191)], .agg [.lit (.int .u8 128), .lit (.int .u8 143)], .agg [.lit (.int .u8 0), .lit (.int .u8 0)], .agg [.lit (.int .u8 0), .lit (.int .u8 0)], .agg [.lit (.int .u8 0), .lit (.int .u8 0)], .agg [.lit (.int .u8 0), .lit (.int .u8 0)], .agg [.lit (.int .u8 0), .lit (.int .u8 0)], .agg [.lit (.int .u8 0), .lit (.int .u8 0)], .agg [.lit (.int .u8 0), .lit (.int .u8 0)], .agg [.lit (.int .u8 0), .lit (.int .u8 0)], .agg [.lit (.int .u8 0), .lit (.int .u8 0)], .agg [.lit (.int .u8 0), .lit (.int .u8 0)], .agg [.lit (.int .u8 0), .lit (.int .u8 0)]]
/-- One of Go's own tables, pinned by name: the form's constant. -/
def laid_unicode_utf8_first : DataW Unit := Go.Pinned.utf8First

/-- 'cartouchelaw09.GroundsSelf': WHATEVER THE INPUT: true; the input reads as it did. -/
def groundsSelfSpec : ChangeSpec := { name := "groundsSelf", fn := fun _ => fun
  | [d1, d2, d3] => { results := [.lit (.bool true)], args := [d1, d2, d3] }
  | _ => none }
def groundsSelfRow : OpenClaim := { program := "ytkndpgbpdidlgaadoor", sum := "e9e63ec98a46b5e32f0934b161fe6795c51ab641dac4a4d04cddee86a452338f", func := "cartouche/cartouchelaw09.GroundsSelf", spec := "groundsSelf", inPlace := ["internal/bytealg.IndexByteString", "internal/bytealg.IndexString"], unfollowed := true, recurses := true, named := ["math/bits.deBruijn64tab", "internal/bytealg.MaxLen", "unicode/utf8.first", "unicode/utf8.acceptRanges"], apart := false, laid := [("math/bits.deBruijn64tab", laid_math_bits_deBruijn64tab), ("unicode/utf8.acceptRanges", laid_unicode_utf8_acceptRanges), ("unicode/utf8.first", laid_unicode_utf8_first)] }
def GroundsSelfSaid : Prop := groundsSelfRow.holds Tryd.pinned (OpenSpec.ofChange groundsSelfSpec)

/-- ITS FALSE NEIGHBOUR: 'it returns false'. Refute it at one input. -/
def groundsSelfWrong : ChangeSpec := { name := "groundsSelf", fn := fun _ => fun
  | [d1, d2, d3] => { results := [.lit (.bool false)], args := [d1, d2, d3] }
  | _ => none }
def GroundsSelfWrongFalsely : Prop := groundsSelfRow.holds Tryd.pinned (OpenSpec.ofChange groundsSelfWrong)

/-- 'cartouchelaw09.GroundsChain': WHATEVER THE INPUT: true; the input reads as it did. -/
def groundsChainSpec : ChangeSpec := { name := "groundsChain", fn := fun _ => fun
  | [d1, d2] => { results := [.lit (.bool true)], args := [d1, d2] }
  | _ => none }
def groundsChainRow : OpenClaim := { program := "ytkndpgbpdidlgaadoor", sum := "e9e63ec98a46b5e32f0934b161fe6795c51ab641dac4a4d04cddee86a452338f", func := "cartouche/cartouchelaw09.GroundsChain", spec := "groundsChain", inPlace := ["internal/bytealg.IndexByteString", "internal/bytealg.IndexString"], unfollowed := true, recurses := true, named := ["math/bits.deBruijn64tab", "internal/bytealg.MaxLen", "unicode/utf8.first", "unicode/utf8.acceptRanges"], apart := false, laid := [("math/bits.deBruijn64tab", laid_math_bits_deBruijn64tab), ("unicode/utf8.acceptRanges", laid_unicode_utf8_acceptRanges), ("unicode/utf8.first", laid_unicode_utf8_first)] }
def GroundsChainSaid : Prop := groundsChainRow.holds Tryd.pinned (OpenSpec.ofChange groundsChainSpec)

/-- ITS FALSE NEIGHBOUR: 'it returns false'. Refute it at one input. -/
def groundsChainWrong : ChangeSpec := { name := "groundsChain", fn := fun _ => fun
  | [d1, d2] => { results := [.lit (.bool false)], args := [d1, d2] }
  | _ => none }
def GroundsChainWrongFalsely : Prop := groundsChainRow.holds Tryd.pinned (OpenSpec.ofChange groundsChainWrong)

/-- 'cartouchelaw09.GroundsParts': WHATEVER THE INPUT: true; the input reads as it did. -/
def groundsPartsSpec : ChangeSpec := { name := "groundsParts", fn := fun _ => fun
  | [d1, d2, d3] => { results := [.lit (.bool true)], args := [d1, d2, d3] }
  | _ => none }
def groundsPartsRow : OpenClaim := { program := "ytkndpgbpdidlgaadoor", sum := "e9e63ec98a46b5e32f0934b161fe6795c51ab641dac4a4d04cddee86a452338f", func := "cartouche/cartouchelaw09.GroundsParts", spec := "groundsParts", inPlace := ["internal/bytealg.IndexByteString", "internal/bytealg.IndexString"], unfollowed := true, recurses := true, named := ["math/bits.deBruijn64tab", "internal/bytealg.MaxLen", "unicode/utf8.first", "unicode/utf8.acceptRanges"], apart := false, laid := [("math/bits.deBruijn64tab", laid_math_bits_deBruijn64tab), ("unicode/utf8.acceptRanges", laid_unicode_utf8_acceptRanges), ("unicode/utf8.first", laid_unicode_utf8_first)] }
def GroundsPartsSaid : Prop := groundsPartsRow.holds Tryd.pinned (OpenSpec.ofChange groundsPartsSpec)

/-- ITS FALSE NEIGHBOUR: 'it returns false'. Refute it at one input. -/
def groundsPartsWrong : ChangeSpec := { name := "groundsParts", fn := fun _ => fun
  | [d1, d2, d3] => { results := [.lit (.bool false)], args := [d1, d2, d3] }
  | _ => none }
def GroundsPartsWrongFalsely : Prop := groundsPartsRow.holds Tryd.pinned (OpenSpec.ofChange groundsPartsWrong)

/-- 'cartouchelaw12.SchemesValues': WHATEVER THE INPUT: true; the input reads as it did. -/
def schemesValuesSpec : ChangeSpec := { name := "schemesValues", fn := fun _ => fun
  | [d1, d2, d3] => { results := [.lit (.bool true)], args := [d1, d2, d3] }
  | _ => none }
def schemesValuesRow : OpenClaim := { program := "ytkndpgbpdidlgaadoor", sum := "e9e63ec98a46b5e32f0934b161fe6795c51ab641dac4a4d04cddee86a452338f", func := "cartouche/cartouchelaw12.SchemesValues", spec := "schemesValues", inPlace := ["internal/bytealg.IndexByteString", "internal/bytealg.IndexString"], unfollowed := true, recurses := true, named := ["math/bits.deBruijn64tab", "internal/bytealg.MaxLen", "unicode/utf8.first", "unicode/utf8.acceptRanges"], apart := false, laid := [("math/bits.deBruijn64tab", laid_math_bits_deBruijn64tab), ("unicode/utf8.acceptRanges", laid_unicode_utf8_acceptRanges), ("unicode/utf8.first", laid_unicode_utf8_first)] }
def SchemesValuesSaid : Prop := schemesValuesRow.holds Tryd.pinned (OpenSpec.ofChange schemesValuesSpec)

/-- ITS FALSE NEIGHBOUR: 'it returns false'. Refute it at one input. -/
def schemesValuesWrong : ChangeSpec := { name := "schemesValues", fn := fun _ => fun
  | [d1, d2, d3] => { results := [.lit (.bool false)], args := [d1, d2, d3] }
  | _ => none }
def SchemesValuesWrongFalsely : Prop := schemesValuesRow.holds Tryd.pinned (OpenSpec.ofChange schemesValuesWrong)

/-- 'cartouchelaw12.SchemesParts': WHATEVER THE INPUT: true; the input reads as it did. -/
def schemesPartsSpec : ChangeSpec := { name := "schemesParts", fn := fun _ => fun
  | [d1, d2] => { results := [.lit (.bool true)], args := [d1, d2] }
  | _ => none }
def schemesPartsRow : OpenClaim := { program := "ytkndpgbpdidlgaadoor", sum := "e9e63ec98a46b5e32f0934b161fe6795c51ab641dac4a4d04cddee86a452338f", func := "cartouche/cartouchelaw12.SchemesParts", spec := "schemesParts", inPlace := ["internal/bytealg.IndexByteString", "internal/bytealg.IndexString"], unfollowed := true, recurses := true, named := ["math/bits.deBruijn64tab", "internal/bytealg.MaxLen", "unicode/utf8.first", "unicode/utf8.acceptRanges"], apart := false, laid := [("math/bits.deBruijn64tab", laid_math_bits_deBruijn64tab), ("unicode/utf8.acceptRanges", laid_unicode_utf8_acceptRanges), ("unicode/utf8.first", laid_unicode_utf8_first)] }
def SchemesPartsSaid : Prop := schemesPartsRow.holds Tryd.pinned (OpenSpec.ofChange schemesPartsSpec)

/-- ITS FALSE NEIGHBOUR: 'it returns false'. Refute it at one input. -/
def schemesPartsWrong : ChangeSpec := { name := "schemesParts", fn := fun _ => fun
  | [d1, d2] => { results := [.lit (.bool false)], args := [d1, d2] }
  | _ => none }
def SchemesPartsWrongFalsely : Prop := schemesPartsRow.holds Tryd.pinned (OpenSpec.ofChange schemesPartsWrong)

/-- 'cartouchelaw12.SchemesMore': WHATEVER THE INPUT: true; the input reads as it did. -/
def schemesMoreSpec : ChangeSpec := { name := "schemesMore", fn := fun _ => fun
  | [d1, d2] => { results := [.lit (.bool true)], args := [d1, d2] }
  | _ => none }
def schemesMoreRow : OpenClaim := { program := "ytkndpgbpdidlgaadoor", sum := "e9e63ec98a46b5e32f0934b161fe6795c51ab641dac4a4d04cddee86a452338f", func := "cartouche/cartouchelaw12.SchemesMore", spec := "schemesMore", inPlace := ["internal/bytealg.IndexByteString", "internal/bytealg.IndexString"], unfollowed := true, recurses := true, named := ["math/bits.deBruijn64tab", "internal/bytealg.MaxLen", "unicode/utf8.first", "unicode/utf8.acceptRanges"], apart := false, laid := [("math/bits.deBruijn64tab", laid_math_bits_deBruijn64tab), ("unicode/utf8.acceptRanges", laid_unicode_utf8_acceptRanges), ("unicode/utf8.first", laid_unicode_utf8_first)] }
def SchemesMoreSaid : Prop := schemesMoreRow.holds Tryd.pinned (OpenSpec.ofChange schemesMoreSpec)

/-- ITS FALSE NEIGHBOUR: 'it returns false'. Refute it at one input. -/
def schemesMoreWrong : ChangeSpec := { name := "schemesMore", fn := fun _ => fun
  | [d1, d2] => { results := [.lit (.bool false)], args := [d1, d2] }
  | _ => none }
def SchemesMoreWrongFalsely : Prop := schemesMoreRow.holds Tryd.pinned (OpenSpec.ofChange schemesMoreWrong)

/-- 'cartouchelaw12.SchemesHold': WHATEVER THE INPUT: true; the input reads as it did. -/
def schemesHoldSpec : ChangeSpec := { name := "schemesHold", fn := fun _ => fun
  | [d1, d2, d3] => { results := [.lit (.bool true)], args := [d1, d2, d3] }
  | _ => none }
def schemesHoldRow : OpenClaim := { program := "ytkndpgbpdidlgaadoor", sum := "e9e63ec98a46b5e32f0934b161fe6795c51ab641dac4a4d04cddee86a452338f", func := "cartouche/cartouchelaw12.SchemesHold", spec := "schemesHold", inPlace := ["internal/bytealg.IndexByteString", "internal/bytealg.IndexString"], unfollowed := true, recurses := true, named := ["math/bits.deBruijn64tab", "internal/bytealg.MaxLen", "unicode/utf8.first", "unicode/utf8.acceptRanges"], apart := false, laid := [("math/bits.deBruijn64tab", laid_math_bits_deBruijn64tab), ("unicode/utf8.acceptRanges", laid_unicode_utf8_acceptRanges), ("unicode/utf8.first", laid_unicode_utf8_first)] }
def SchemesHoldSaid : Prop := schemesHoldRow.holds Tryd.pinned (OpenSpec.ofChange schemesHoldSpec)

/-- ITS FALSE NEIGHBOUR: 'it returns false'. Refute it at one input. -/
def schemesHoldWrong : ChangeSpec := { name := "schemesHold", fn := fun _ => fun
  | [d1, d2, d3] => { results := [.lit (.bool false)], args := [d1, d2, d3] }
  | _ => none }
def SchemesHoldWrongFalsely : Prop := schemesHoldRow.holds Tryd.pinned (OpenSpec.ofChange schemesHoldWrong)

/-- 'cartouchelaw09.GroundsMove': WHATEVER THE INPUT: true; the input reads as it did. -/
def groundsMoveSpec : ChangeSpec := { name := "groundsMove", fn := fun _ => fun
  | [d1, d2] => { results := [.lit (.bool true)], args := [d1, d2] }
  | _ => none }
def groundsMoveRow : OpenClaim := { program := "ytkndpgbpdidlgaadoor", sum := "e9e63ec98a46b5e32f0934b161fe6795c51ab641dac4a4d04cddee86a452338f", func := "cartouche/cartouchelaw09.GroundsMove", spec := "groundsMove", inPlace := ["internal/bytealg.IndexByteString", "internal/bytealg.IndexString"], unfollowed := true, recurses := true, named := ["math/bits.deBruijn64tab", "internal/bytealg.MaxLen", "unicode/utf8.first", "unicode/utf8.acceptRanges"], apart := false, laid := [("math/bits.deBruijn64tab", laid_math_bits_deBruijn64tab), ("unicode/utf8.acceptRanges", laid_unicode_utf8_acceptRanges), ("unicode/utf8.first", laid_unicode_utf8_first)] }
def GroundsMoveSaid : Prop := groundsMoveRow.holds Tryd.pinned (OpenSpec.ofChange groundsMoveSpec)

/-- ITS FALSE NEIGHBOUR: 'it returns false'. Refute it at one input. -/
def groundsMoveWrong : ChangeSpec := { name := "groundsMove", fn := fun _ => fun
  | [d1, d2] => { results := [.lit (.bool false)], args := [d1, d2] }
  | _ => none }
def GroundsMoveWrongFalsely : Prop := groundsMoveRow.holds Tryd.pinned (OpenSpec.ofChange groundsMoveWrong)

/- THE SECOND FORM. 'bulk': how many values and letters a reading holds, each counted each time it is reached (what is shared counts as often as it is met; a slice's spare places count too). A statement '..UptoSaid' is the law's where the arguments, and the package variables that the reading takes, are together of bulk at most 1048576: NARROWER than '..Said'. Prove '..Said' where nothing that the law and all that it calls make is longer than what came in: it says more and counts as full. Else prove '..UptoSaid'. A law counts once. -/
mutual
def uptoBulk {H : Type} : DataW H → Nat
  | .lit (.string bytes) => bytes.length + 1
  | .lit _ => 1
  | .nil => 1
  | .ptr d => uptoBulk d + 1
  | .slice elems spare => uptoBulkAll elems + uptoBulkAll spare + 1
  | .agg parts => uptoBulkAll parts + 1
  | .iface _ d => uptoBulk d + 1
  | .map entries => uptoBulkEntries entries + 1
  | .held _ => 1
def uptoBulkAll {H : Type} : List (DataW H) → Nat
  | [] => 0
  | d :: r => uptoBulk d + uptoBulkAll r
def uptoBulkEntries {H : Type} : List (Lit × DataW H) → Nat
  | [] => 0
  | x :: r => uptoBulkEntry x + uptoBulkEntries r
def uptoBulkEntry {H : Type} : Lit × DataW H → Nat
  | (.string bytes, d) => bytes.length + uptoBulk d + 1
  | (_, d) => uptoBulk d + 1
 end
def uptoSmall : (H : Type) → List (DataW H) → Bool := fun _ ds => decide (uptoBulkAll ds ≤ 1048576)
def OpenSpec.upto (s : _root_.Go.ChangeSpec) : _root_.Go.OpenSpec := { _root_.Go.OpenSpec.ofChange s with cond := some uptoSmall }

/-- 'cartouchelaw09.GroundsSelf', WHERE WHAT IT READS IS OF BULK AT MOST 1048576: true; the input reads as it did. -/
def groundsSelfUptoRow : OpenClaim := { program := "ytkndpgbpdidlgaadoor", sum := "e9e63ec98a46b5e32f0934b161fe6795c51ab641dac4a4d04cddee86a452338f", func := "cartouche/cartouchelaw09.GroundsSelf", spec := "groundsSelf", inPlace := ["internal/bytealg.IndexByteString", "internal/bytealg.IndexString"], unfollowed := true, recurses := true, named := ["math/bits.deBruijn64tab", "internal/bytealg.MaxLen", "unicode/utf8.first", "unicode/utf8.acceptRanges"], apart := false, laid := [("math/bits.deBruijn64tab", laid_math_bits_deBruijn64tab), ("unicode/utf8.acceptRanges", laid_unicode_utf8_acceptRanges), ("unicode/utf8.first", laid_unicode_utf8_first)], narrowed := true }
def GroundsSelfUptoSaid : Prop := groundsSelfUptoRow.holds Tryd.pinned (OpenSpec.upto groundsSelfSpec)

/-- 'cartouchelaw09.GroundsChain', WHERE WHAT IT READS IS OF BULK AT MOST 1048576: true; the input reads as it did. -/
def groundsChainUptoRow : OpenClaim := { program := "ytkndpgbpdidlgaadoor", sum := "e9e63ec98a46b5e32f0934b161fe6795c51ab641dac4a4d04cddee86a452338f", func := "cartouche/cartouchelaw09.GroundsChain", spec := "groundsChain", inPlace := ["internal/bytealg.IndexByteString", "internal/bytealg.IndexString"], unfollowed := true, recurses := true, named := ["math/bits.deBruijn64tab", "internal/bytealg.MaxLen", "unicode/utf8.first", "unicode/utf8.acceptRanges"], apart := false, laid := [("math/bits.deBruijn64tab", laid_math_bits_deBruijn64tab), ("unicode/utf8.acceptRanges", laid_unicode_utf8_acceptRanges), ("unicode/utf8.first", laid_unicode_utf8_first)], narrowed := true }
def GroundsChainUptoSaid : Prop := groundsChainUptoRow.holds Tryd.pinned (OpenSpec.upto groundsChainSpec)

/-- 'cartouchelaw09.GroundsParts', WHERE WHAT IT READS IS OF BULK AT MOST 1048576: true; the input reads as it did. -/
def groundsPartsUptoRow : OpenClaim := { program := "ytkndpgbpdidlgaadoor", sum := "e9e63ec98a46b5e32f0934b161fe6795c51ab641dac4a4d04cddee86a452338f", func := "cartouche/cartouchelaw09.GroundsParts", spec := "groundsParts", inPlace := ["internal/bytealg.IndexByteString", "internal/bytealg.IndexString"], unfollowed := true, recurses := true, named := ["math/bits.deBruijn64tab", "internal/bytealg.MaxLen", "unicode/utf8.first", "unicode/utf8.acceptRanges"], apart := false, laid := [("math/bits.deBruijn64tab", laid_math_bits_deBruijn64tab), ("unicode/utf8.acceptRanges", laid_unicode_utf8_acceptRanges), ("unicode/utf8.first", laid_unicode_utf8_first)], narrowed := true }
def GroundsPartsUptoSaid : Prop := groundsPartsUptoRow.holds Tryd.pinned (OpenSpec.upto groundsPartsSpec)

/-- 'cartouchelaw12.SchemesValues', WHERE WHAT IT READS IS OF BULK AT MOST 1048576: true; the input reads as it did. -/
def schemesValuesUptoRow : OpenClaim := { program := "ytkndpgbpdidlgaadoor", sum := "e9e63ec98a46b5e32f0934b161fe6795c51ab641dac4a4d04cddee86a452338f", func := "cartouche/cartouchelaw12.SchemesValues", spec := "schemesValues", inPlace := ["internal/bytealg.IndexByteString", "internal/bytealg.IndexString"], unfollowed := true, recurses := true, named := ["math/bits.deBruijn64tab", "internal/bytealg.MaxLen", "unicode/utf8.first", "unicode/utf8.acceptRanges"], apart := false, laid := [("math/bits.deBruijn64tab", laid_math_bits_deBruijn64tab), ("unicode/utf8.acceptRanges", laid_unicode_utf8_acceptRanges), ("unicode/utf8.first", laid_unicode_utf8_first)], narrowed := true }
def SchemesValuesUptoSaid : Prop := schemesValuesUptoRow.holds Tryd.pinned (OpenSpec.upto schemesValuesSpec)

/-- 'cartouchelaw12.SchemesParts', WHERE WHAT IT READS IS OF BULK AT MOST 1048576: true; the input reads as it did. -/
def schemesPartsUptoRow : OpenClaim := { program := "ytkndpgbpdidlgaadoor", sum := "e9e63ec98a46b5e32f0934b161fe6795c51ab641dac4a4d04cddee86a452338f", func := "cartouche/cartouchelaw12.SchemesParts", spec := "schemesParts", inPlace := ["internal/bytealg.IndexByteString", "internal/bytealg.IndexString"], unfollowed := true, recurses := true, named := ["math/bits.deBruijn64tab", "internal/bytealg.MaxLen", "unicode/utf8.first", "unicode/utf8.acceptRanges"], apart := false, laid := [("math/bits.deBruijn64tab", laid_math_bits_deBruijn64tab), ("unicode/utf8.acceptRanges", laid_unicode_utf8_acceptRanges), ("unicode/utf8.first", laid_unicode_utf8_first)], narrowed := true }
def SchemesPartsUptoSaid : Prop := schemesPartsUptoRow.holds Tryd.pinned (OpenSpec.upto schemesPartsSpec)

/-- 'cartouchelaw12.SchemesMore', WHERE WHAT IT READS IS OF BULK AT MOST 1048576: true; the input reads as it did. -/
def schemesMoreUptoRow : OpenClaim := { program := "ytkndpgbpdidlgaadoor", sum := "e9e63ec98a46b5e32f0934b161fe6795c51ab641dac4a4d04cddee86a452338f", func := "cartouche/cartouchelaw12.SchemesMore", spec := "schemesMore", inPlace := ["internal/bytealg.IndexByteString", "internal/bytealg.IndexString"], unfollowed := true, recurses := true, named := ["math/bits.deBruijn64tab", "internal/bytealg.MaxLen", "unicode/utf8.first", "unicode/utf8.acceptRanges"], apart := false, laid := [("math/bits.deBruijn64tab", laid_math_bits_deBruijn64tab), ("unicode/utf8.acceptRanges", laid_unicode_utf8_acceptRanges), ("unicode/utf8.first", laid_unicode_utf8_first)], narrowed := true }
def SchemesMoreUptoSaid : Prop := schemesMoreUptoRow.holds Tryd.pinned (OpenSpec.upto schemesMoreSpec)

/-- 'cartouchelaw12.SchemesHold', WHERE WHAT IT READS IS OF BULK AT MOST 1048576: true; the input reads as it did. -/
def schemesHoldUptoRow : OpenClaim := { program := "ytkndpgbpdidlgaadoor", sum := "e9e63ec98a46b5e32f0934b161fe6795c51ab641dac4a4d04cddee86a452338f", func := "cartouche/cartouchelaw12.SchemesHold", spec := "schemesHold", inPlace := ["internal/bytealg.IndexByteString", "internal/bytealg.IndexString"], unfollowed := true, recurses := true, named := ["math/bits.deBruijn64tab", "internal/bytealg.MaxLen", "unicode/utf8.first", "unicode/utf8.acceptRanges"], apart := false, laid := [("math/bits.deBruijn64tab", laid_math_bits_deBruijn64tab), ("unicode/utf8.acceptRanges", laid_unicode_utf8_acceptRanges), ("unicode/utf8.first", laid_unicode_utf8_first)], narrowed := true }
def SchemesHoldUptoSaid : Prop := schemesHoldUptoRow.holds Tryd.pinned (OpenSpec.upto schemesHoldSpec)

/-- 'cartouchelaw09.GroundsMove', WHERE WHAT IT READS IS OF BULK AT MOST 1048576: true; the input reads as it did. -/
def groundsMoveUptoRow : OpenClaim := { program := "ytkndpgbpdidlgaadoor", sum := "e9e63ec98a46b5e32f0934b161fe6795c51ab641dac4a4d04cddee86a452338f", func := "cartouche/cartouchelaw09.GroundsMove", spec := "groundsMove", inPlace := ["internal/bytealg.IndexByteString", "internal/bytealg.IndexString"], unfollowed := true, recurses := true, named := ["math/bits.deBruijn64tab", "internal/bytealg.MaxLen", "unicode/utf8.first", "unicode/utf8.acceptRanges"], apart := false, laid := [("math/bits.deBruijn64tab", laid_math_bits_deBruijn64tab), ("unicode/utf8.acceptRanges", laid_unicode_utf8_acceptRanges), ("unicode/utf8.first", laid_unicode_utf8_first)], narrowed := true }
def GroundsMoveUptoSaid : Prop := groundsMoveUptoRow.holds Tryd.pinned (OpenSpec.upto groundsMoveSpec)

end Rows
end Go.Proofs.YtkndpgbpdidlgaaDoor
