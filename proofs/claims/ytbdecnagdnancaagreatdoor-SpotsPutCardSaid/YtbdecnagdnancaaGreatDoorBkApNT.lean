/- The book of lists: Apart, where lists of these kinds are held: Node, Term (printed by wip/tools/genap.py). -/
import Derived.Test.YtbdecnagdnancaaGreatDoorBkG
import Derived.Test.YtbdecnagdnancaaGreatDoorBkKNode
import Derived.Test.YtbdecnagdnancaaGreatDoorBkKTerm

namespace Go.Proofs.YtbdecnagdnancaaGreatDoor
open Go.RowKit Go.Proofs.YtbdecnagdnancaaGreatDoorW.PrintWords Go.Proofs.YtbdecnagdnancaaGreatDoorW.PrintLast Go.Proofs.YtbdecnagdnancaaGreatDoorW.PrintMore
set_option linter.unusedVariables false
set_option linter.unusedSimpArgs false
namespace Bk
set_option maxRecDepth 200000 in
set_option maxHeartbeats 16000000 in
theorem apartNT (w : World) (b0 b : Nat) (cs : Array Value) (hbk : w.heap[b]? = some (.cells cs 45 (0, 0))) (hbs : b0 ≤ w.heap.size)
    (n1 : cs[1]? = some (.slice none 0 0))
    (n2 : cs[2]? = some (.slice none 0 0))
    (n3 : cs[3]? = some (.slice none 0 0))
    (n4 : cs[4]? = some (.slice none 0 0))
    (n5 : cs[5]? = some (.slice none 0 0))
    (n6 : cs[6]? = some (.slice none 0 0))
    (n7 : cs[7]? = some (.slice none 0 0))
    (n9 : cs[9]? = some (.slice none 0 0))
    (n11 : cs[11]? = some (.slice none 0 0))
    (n12 : cs[12]? = some (.slice none 0 0))
    (n13 : cs[13]? = some (.slice none 0 0))
    (n14 : cs[14]? = some (.slice none 0 0))
    (n15 : cs[15]? = some (.slice none 0 0))
    (NNode cNode : Nat) (ANode : Option Addr) (hsNode : List Hd) (xsNode : Nat → List Node) (zNode : cs[8]? = some (.slice ANode NNode cNode)) (pNode : Pk kNode 122 207 b0 ANode NNode cNode hsNode xsNode w) (eNode : NNode = hsNode.length) (mNode : ∀ x ∈ hsNode, x.n ≤ 1000 ∧ x.k ≤ 1000) (aNode : Apart hsNode) (lNode : NNode ≤ 1000)
    (NTerm cTerm : Nat) (ATerm : Option Addr) (hsTerm : List Hd) (xsTerm : Nat → List Term) (zTerm : cs[10]? = some (.slice ATerm NTerm cTerm)) (pTerm : Pk kTerm 120 213 b0 ATerm NTerm cTerm hsTerm xsTerm w) (eTerm : NTerm = hsTerm.length) (mTerm : ∀ x ∈ hsTerm, x.n ≤ 1000 ∧ x.k ≤ 1000) (aTerm : Apart hsTerm) (lTerm : NTerm ≤ 1000)
    : Calls Tryz.prog 13 #[.pointer (some ⟨b, 0, none⟩)] w fun e w' => e = .returned (.bool true) ∧ Below b0 w w' := by
  have HBK := Aside0.mk hbk
  have HB := Aside0.mk (Below.refl b0 w)
  have HC1 := Aside0.mk n1
  have HC2 := Aside0.mk n2
  have HC3 := Aside0.mk n3
  have HC4 := Aside0.mk n4
  have HC5 := Aside0.mk n5
  have HC6 := Aside0.mk n6
  have HC7 := Aside0.mk n7
  have HC9 := Aside0.mk n9
  have HC11 := Aside0.mk n11
  have HC12 := Aside0.mk n12
  have HC13 := Aside0.mk n13
  have HC14 := Aside0.mk n14
  have HC15 := Aside0.mk n15
  have HPNode := Aside0.mk pNode
  have HQNode := Aside0.mk (And.intro eNode (And.intro mNode (And.intro aNode (And.intro zNode lNode))))
  have HPTerm := Aside0.mk pTerm
  have HQTerm := Aside0.mk (And.intro eTerm (And.intro mTerm (And.intro aTerm (And.intro zTerm lTerm))))
  clear hbk n1 n2 n3 n4 n5 n6 n7 n9 n11 n12 n13 n14 n15 pNode eNode mNode aNode zNode lNode pTerm eTerm mTerm aTerm zTerm lTerm
  go_enter Tryz.func13, Tryz.ntmps13
  go_wp2_with (first
    | (go_at_call 50; (with_reducible refine (fill0_Byte _ b ((blk_cell HBK.out 1).trans HC1.out)).mono ?_); rintro e W' ⟨rfl, rfl⟩)
    | (go_at_call 51; (with_reducible refine (fill0_Int _ b ((blk_cell HBK.out 2).trans HC2.out)).mono ?_); rintro e W' ⟨rfl, rfl⟩)
    | (go_at_call 52; (with_reducible refine (fill0_Text _ b ((blk_cell HBK.out 3).trans HC3.out)).mono ?_); rintro e W' ⟨rfl, rfl⟩)
    | (go_at_call 53; (with_reducible refine (fill0_Num _ b ((blk_cell HBK.out 4).trans HC4.out)).mono ?_); rintro e W' ⟨rfl, rfl⟩)
    | (go_at_call 54; (with_reducible refine (fill0_Bool _ b ((blk_cell HBK.out 5).trans HC5.out)).mono ?_); rintro e W' ⟨rfl, rfl⟩)
    | (go_at_call 55; (with_reducible refine (fill0_BoolList _ b ((blk_cell HBK.out 6).trans HC6.out)).mono ?_); rintro e W' ⟨rfl, rfl⟩)
    | (go_at_call 56; (with_reducible refine (fill0_Pair _ b ((blk_cell HBK.out 7).trans HC7.out)).mono ?_); rintro e W' ⟨rfl, rfl⟩)
    | (go_at_call 57; (with_reducible refine (fillNode_calls _ b0 b0 b NNode cNode ANode (fun _ => True) hsNode _ cs HQNode.out.1 HBK.out HQNode.out.2.2.2.1 HPNode.out.held HPNode.out.lists HQNode.out.2.1 HQNode.out.2.2.1 (Nat.le_trans hbs HB.out.size) HQNode.out.2.2.2.2).mono ?_); rintro e W' ⟨rfl, hk, hl⟩; have HK2 := Aside0.mk (KeptE.two (e2 := 122) hk); have HPNode' : Aside0 (Pk kNode 122 207 b0 ANode NNode cNode hsNode (filled markN hsNode) W') := ⟨⟨R_keep2 HPNode.out.held rfl (by decide) (by decide) HK2.out, hl⟩⟩; clear HPNode; have HPNode := HPNode'; clear HPNode'; have HPTerm' := Aside0.mk (HPTerm.out.keep rfl HK2.out (by decide) (by decide) (by decide) (by decide)); clear HPTerm; have HPTerm := HPTerm'; clear HPTerm'; have HBK' := Aside0.mk (HK2.out.box HBK.out (by decide) (by decide)); clear HBK; have HBK := HBK'; clear HBK'; have HB' := Aside0.mk (HB.out.trans HK2.out.below); clear HB; have HB := HB'; clear HB'; clear hk hl HK2)
    | (go_at_call 58; (with_reducible refine (fill0_Bound _ b ((blk_cell HBK.out 9).trans HC9.out)).mono ?_); rintro e W' ⟨rfl, rfl⟩)
    | (go_at_call 59; (with_reducible refine (fillTerm_calls _ b0 b0 b NTerm cTerm ATerm (fun _ => True) hsTerm _ cs HQTerm.out.1 HBK.out HQTerm.out.2.2.2.1 HPTerm.out.held HPTerm.out.lists HQTerm.out.2.1 HQTerm.out.2.2.1 (Nat.le_trans hbs HB.out.size) HQTerm.out.2.2.2.2).mono ?_); rintro e W' ⟨rfl, hk, hl⟩; have HK2 := Aside0.mk (KeptE.two (e2 := 120) hk); have HPTerm' : Aside0 (Pk kTerm 120 213 b0 ATerm NTerm cTerm hsTerm (filled markTerm hsTerm) W') := ⟨⟨R_keep2 HPTerm.out.held rfl (by decide) (by decide) HK2.out, hl⟩⟩; clear HPTerm; have HPTerm := HPTerm'; clear HPTerm'; have HPNode' := Aside0.mk (HPNode.out.keep rfl HK2.out (by decide) (by decide) (by decide) (by decide)); clear HPNode; have HPNode := HPNode'; clear HPNode'; have HBK' := Aside0.mk (HK2.out.box HBK.out (by decide) (by decide)); clear HBK; have HBK := HBK'; clear HBK'; have HB' := Aside0.mk (HB.out.trans HK2.out.below); clear HB; have HB := HB'; clear HB'; clear hk hl HK2)
    | (go_at_call 60; (with_reducible refine (fill0_Spot _ b ((blk_cell HBK.out 11).trans HC11.out)).mono ?_); rintro e W' ⟨rfl, rfl⟩)
    | (go_at_call 61; (with_reducible refine (fill0_Import _ b ((blk_cell HBK.out 12).trans HC12.out)).mono ?_); rintro e W' ⟨rfl, rfl⟩)
    | (go_at_call 62; (with_reducible refine (fill0_Entry _ b ((blk_cell HBK.out 13).trans HC13.out)).mono ?_); rintro e W' ⟨rfl, rfl⟩)
    | (go_at_call 63; (with_reducible refine (fill0_Item _ b ((blk_cell HBK.out 14).trans HC14.out)).mono ?_); rintro e W' ⟨rfl, rfl⟩)
    | (go_at_call 64; (with_reducible refine (fill0_Word _ b ((blk_cell HBK.out 15).trans HC15.out)).mono ?_); rintro e W' ⟨rfl, rfl⟩)
    | (go_at_call 65; (with_reducible refine (grow0_Byte _ b ((blk_cell HBK.out 1).trans HC1.out)).mono ?_); rintro e W' ⟨rfl, rfl⟩)
    | (go_at_call 66; (with_reducible refine (grow0_Int _ b ((blk_cell HBK.out 2).trans HC2.out)).mono ?_); rintro e W' ⟨rfl, rfl⟩)
    | (go_at_call 67; (with_reducible refine (grow0_Text _ b ((blk_cell HBK.out 3).trans HC3.out)).mono ?_); rintro e W' ⟨rfl, rfl⟩)
    | (go_at_call 68; (with_reducible refine (grow0_Num _ b ((blk_cell HBK.out 4).trans HC4.out)).mono ?_); rintro e W' ⟨rfl, rfl⟩)
    | (go_at_call 69; (with_reducible refine (grow0_Bool _ b ((blk_cell HBK.out 5).trans HC5.out)).mono ?_); rintro e W' ⟨rfl, rfl⟩)
    | (go_at_call 70; (with_reducible refine (grow0_BoolList _ b ((blk_cell HBK.out 6).trans HC6.out)).mono ?_); rintro e W' ⟨rfl, rfl⟩)
    | (go_at_call 71; (with_reducible refine (grow0_Pair _ b ((blk_cell HBK.out 7).trans HC7.out)).mono ?_); rintro e W' ⟨rfl, rfl⟩)
    | (go_at_call 72; (with_reducible refine (growNode_calls _ b0 b0 b NNode cNode ANode hsNode cs HQNode.out.1 HBK.out HQNode.out.2.2.2.1 HPNode.out.held HPNode.out.lists HQNode.out.2.1 HQNode.out.2.2.1 (Nat.le_trans hbs HB.out.size) HQNode.out.2.2.2.2 (Nat.le_refl _)).mono ?_); rintro e W' ⟨rfl, hk, hs2Node, g1, g2, g3, g4⟩; have HK2 := Aside0.mk hk; have HGNode : Aside0 (GrE kNode 122 207 b0 markN ANode NNode cNode hsNode hs2Node W') := ⟨⟨_, g1, g2, g3, g4⟩⟩; clear HPNode; have HPTerm' := Aside0.mk (HPTerm.out.keep rfl HK2.out (by decide) (by decide) (by decide) (by decide)); clear HPTerm; have HPTerm := HPTerm'; clear HPTerm'; have HBK' := Aside0.mk (HK2.out.box HBK.out (by decide) (by decide)); clear HBK; have HBK := HBK'; clear HBK'; have HB' := Aside0.mk (HB.out.trans HK2.out.below); clear HB; have HB := HB'; clear HB'; clear hk g1 g2 g3 g4 HK2)
    | (go_at_call 73; (with_reducible refine (grow0_Bound _ b ((blk_cell HBK.out 9).trans HC9.out)).mono ?_); rintro e W' ⟨rfl, rfl⟩)
    | (go_at_call 74; (with_reducible refine (growTerm_calls _ b0 b0 b NTerm cTerm ATerm hsTerm cs HQTerm.out.1 HBK.out HQTerm.out.2.2.2.1 HPTerm.out.held HPTerm.out.lists HQTerm.out.2.1 HQTerm.out.2.2.1 (Nat.le_trans hbs HB.out.size) HQTerm.out.2.2.2.2 (Nat.le_refl _)).mono ?_); rintro e W' ⟨rfl, hk, hs2Term, g1, g2, g3, g4⟩; have HK2 := Aside0.mk hk; have HGTerm : Aside0 (GrE kTerm 120 213 b0 markTerm ATerm NTerm cTerm hsTerm hs2Term W') := ⟨⟨_, g1, g2, g3, g4⟩⟩; clear HPTerm; have HGNode' := Aside0.mk (HGNode.out.keep rfl HK2.out (by decide) (by decide) (by decide) (by decide)); clear HGNode; have HGNode := HGNode'; clear HGNode'; have HBK' := Aside0.mk (HK2.out.box HBK.out (by decide) (by decide)); clear HBK; have HBK := HBK'; clear HBK'; have HB' := Aside0.mk (HB.out.trans HK2.out.below); clear HB; have HB := HB'; clear HB'; clear hk g1 g2 g3 g4 HK2)
    | (go_at_call 75; (with_reducible refine (grow0_Spot _ b ((blk_cell HBK.out 11).trans HC11.out)).mono ?_); rintro e W' ⟨rfl, rfl⟩)
    | (go_at_call 76; (with_reducible refine (grow0_Import _ b ((blk_cell HBK.out 12).trans HC12.out)).mono ?_); rintro e W' ⟨rfl, rfl⟩)
    | (go_at_call 77; (with_reducible refine (grow0_Entry _ b ((blk_cell HBK.out 13).trans HC13.out)).mono ?_); rintro e W' ⟨rfl, rfl⟩)
    | (go_at_call 78; (with_reducible refine (grow0_Item _ b ((blk_cell HBK.out 14).trans HC14.out)).mono ?_); rintro e W' ⟨rfl, rfl⟩)
    | (go_at_call 79; (with_reducible refine (grow0_Word _ b ((blk_cell HBK.out 15).trans HC15.out)).mono ?_); rintro e W' ⟨rfl, rfl⟩)
    | (go_at_call 80; (with_reducible refine (look0_Byte _ b ((blk_cell HBK.out 1).trans HC1.out)).mono ?_); rintro e W' ⟨rfl, rfl⟩)
    | (go_at_call 81; (with_reducible refine (look0_Int _ b ((blk_cell HBK.out 2).trans HC2.out)).mono ?_); rintro e W' ⟨rfl, rfl⟩)
    | (go_at_call 82; (with_reducible refine (look0_Text _ b ((blk_cell HBK.out 3).trans HC3.out)).mono ?_); rintro e W' ⟨rfl, rfl⟩)
    | (go_at_call 83; (with_reducible refine (look0_Num _ b ((blk_cell HBK.out 4).trans HC4.out)).mono ?_); rintro e W' ⟨rfl, rfl⟩)
    | (go_at_call 84; (with_reducible refine (look0_Bool _ b ((blk_cell HBK.out 5).trans HC5.out)).mono ?_); rintro e W' ⟨rfl, rfl⟩)
    | (go_at_call 85; (with_reducible refine (look0_BoolList _ b ((blk_cell HBK.out 6).trans HC6.out)).mono ?_); rintro e W' ⟨rfl, rfl⟩)
    | (go_at_call 86; (with_reducible refine (look0_Pair _ b ((blk_cell HBK.out 7).trans HC7.out)).mono ?_); rintro e W' ⟨rfl, rfl⟩)
    | (go_at_call 87; (with_reducible refine (lookNode_calls _ b NNode cNode ANode hs2Node (HGNode.out.reads HQNode.out.1 HQNode.out.2.1).1 ((blk_cell HBK.out 8).trans HQNode.out.2.2.2.1) (HGNode.out.reads HQNode.out.1 HQNode.out.2.1).2.1 (HGNode.out.reads HQNode.out.1 HQNode.out.2.1).2.2 HQNode.out.2.2.2.2).mono ?_); rintro e W' ⟨rfl, hb'⟩; have HGNode' := Aside0.mk (HGNode.out.below hb'); clear HGNode; have HGNode := HGNode'; clear HGNode'; have HGTerm' := Aside0.mk (HGTerm.out.below hb'); clear HGTerm; have HGTerm := HGTerm'; clear HGTerm'; have HBK' := Aside0.mk (blk_below HBK.out hb'); clear HBK; have HBK := HBK'; clear HBK'; have HB' := Aside0.mk (HB.out.trans (hb'.mono (Nat.le_trans hbs HB.out.size))); clear HB; have HB := HB'; clear HB'; clear hb')
    | (go_at_call 88; (with_reducible refine (look0_Bound _ b ((blk_cell HBK.out 9).trans HC9.out)).mono ?_); rintro e W' ⟨rfl, rfl⟩)
    | (go_at_call 89; (with_reducible refine (lookTerm_calls _ b NTerm cTerm ATerm hs2Term (HGTerm.out.reads HQTerm.out.1 HQTerm.out.2.1).1 ((blk_cell HBK.out 10).trans HQTerm.out.2.2.2.1) (HGTerm.out.reads HQTerm.out.1 HQTerm.out.2.1).2.1 (HGTerm.out.reads HQTerm.out.1 HQTerm.out.2.1).2.2 HQTerm.out.2.2.2.2).mono ?_); rintro e W' ⟨rfl, hb'⟩; have HGNode' := Aside0.mk (HGNode.out.below hb'); clear HGNode; have HGNode := HGNode'; clear HGNode'; have HGTerm' := Aside0.mk (HGTerm.out.below hb'); clear HGTerm; have HGTerm := HGTerm'; clear HGTerm'; have HBK' := Aside0.mk (blk_below HBK.out hb'); clear HBK; have HBK := HBK'; clear HBK'; have HB' := Aside0.mk (HB.out.trans (hb'.mono (Nat.le_trans hbs HB.out.size))); clear HB; have HB := HB'; clear HB'; clear hb')
    | (go_at_call 90; (with_reducible refine (look0_Spot _ b ((blk_cell HBK.out 11).trans HC11.out)).mono ?_); rintro e W' ⟨rfl, rfl⟩)
    | (go_at_call 91; (with_reducible refine (look0_Import _ b ((blk_cell HBK.out 12).trans HC12.out)).mono ?_); rintro e W' ⟨rfl, rfl⟩)
    | (go_at_call 92; (with_reducible refine (look0_Entry _ b ((blk_cell HBK.out 13).trans HC13.out)).mono ?_); rintro e W' ⟨rfl, rfl⟩)
    | (go_at_call 93; (with_reducible refine (look0_Item _ b ((blk_cell HBK.out 14).trans HC14.out)).mono ?_); rintro e W' ⟨rfl, rfl⟩)
    | (go_at_call 94; (with_reducible refine (look0_Word _ b ((blk_cell HBK.out 15).trans HC15.out)).mono ?_); rintro e W' ⟨rfl, rfl⟩))
  go_ret
  exact ⟨rfl, HB.out⟩
end Bk
end Go.Proofs.YtbdecnagdnancaaGreatDoor
