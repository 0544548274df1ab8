/- The statements of layer 9: of, great, whole, ref, fun, alive. -/
import Derived.Test.YtbdecnagdnancaaGreatDoorMD
import Derived.Test.YtbdecnagdnancaaGreatDoorGrU
import Derived.Test.YtbdecnagdnancaaGreatDoorOp09

namespace Go.Proofs.YtbdecnagdnancaaGreatDoor
open Go.RowKit Go.Proofs.YtbdecnagdnancaaGreatDoorW.PrintWords Go.Proofs.YtbdecnagdnancaaGreatDoorW.PrintLast Go.Proofs.YtbdecnagdnancaaGreatDoorW.PrintMore
set_option linter.unusedVariables false
set_option linter.unusedSimpArgs false
namespace L09
def latO (rows : List Int) : Option (List Int) := if checkO rows = 0 then some rows else none
theorem check_ord {rows : List Int} (h : checkO rows = 0) : orderedB rows = true ∧ 0 < rows.length ∧ rows.length ≤ 64 := by
  unfold checkO at h
  split at h
  · cases h
  · rename_i h1
    split at h
    · cases h
    · split at h
      · cases h
      · rename_i h2
        exact ⟨by simpa using h2, by omega, by omega⟩
theorem latO_ok (rows : List Int) (hU : U64s rows) : SortOk (hasLat (latO rows)) (leLat (latO rows)) := lat_ok _ fun r h => by
  unfold latO at h
  split at h
  · rename_i h0
    cases h
    exact ⟨hU, (check_ord h0).1⟩
  · cases h
theorem new_calls (w : World) (A : Option Addr) (c n : Nat) (rows : List Int) (hn : n = rows.length) (hr : (Kd.int .u64).C w A n rows) (hU : U64s rows) (HT : Aside0 (TabAt 5 Lib.deBruijn64tab w)) :
    Calls Tryz.prog 95 #[.slice A n c] w fun e w' => Below w.heap.size w w' ∧ ∃ v z, e = .returned (.tuple #[v, .int .i64 z]) ∧ LatV w' v (latO rows) := by
  by_cases h0 : checkO rows = 0
  · have hl := check_ord h0
    refine (new_ok w A c n rows hn hr.2.1 hr hU HT h0 (by omega)).mono ?_
    rintro e w' ⟨hb, g, rfl, hL⟩
    refine ⟨hb, _, _, rfl, ?_⟩
    rw [latO, if_pos h0]
    exact ⟨g, rfl, hL, hl.2.2⟩
  · refine (new_bad w A c n rows hn hr.2.1 hr hU HT (bne_iff_ne.mpr h0)).mono ?_
    rintro e w' ⟨hb, rfl⟩
    refine ⟨hb, _, _, rfl, ?_⟩
    rw [latO, if_neg h0]
    rfl
set_option maxRecDepth 100000 in
set_option maxHeartbeats 4000000 in
theorem of_calls (w : World) (A : Option Addr) (c n : Nat) (rows : List Int) (m : Int) (hn : n = rows.length) (hr : (Kd.int .u64).C w A n rows) (hU : U64s rows) (HT : Aside0 (TabAt 5 Lib.deBruijn64tab w)) :
    Calls Tryz.prog 15 #[.agg #[.slice A n c, .int .i64 m]] w fun e w' => Below w.heap.size w w' ∧ ∃ v1 v2, e = .returned (.tuple #[v1, v2]) ∧ LatV w' v1 (latO rows) ∧ EffV w' v2 (effO m) := by
  have HR := Aside0.mk hr
  have HU := Aside0.mk hU
  have HN := Aside0.mk hn
  obtain ⟨O, hO⟩ : ∃ O : Obj, O = .cells #[.slice A n c, .int .i64 m] 52 := ⟨_, rfl⟩
  have HB := Aside0.mk (below_alloc (Below.refl w.heap.size w) O)
  have hm : (w.alloc O).cell? ⟨w.heap.size, 1, none⟩ = some (.int .i64 m) := by rw [hO]; exact blk_cell (blk_new w _) 1
  have HM := Aside0.mk hm
  subst hO
  clear hr hU hn hm
  go_enter Tryz.func15, Tryz.ntmps15
  go_wp2_with fail
  refine (new_calls _ A c n rows HN.out (Kd.C_below HR.out HB.out) HU.out ⟨tab_below HB.out HT.out⟩).mono ?_
  rintro e W1 ⟨hb1, v1, z1, rfl, hl⟩
  have hm1 := pw_cell_below hb1 HM.out
  have HB1 := Aside0.mk (below_step HB.out hb1)
  have HL := Aside0.mk hl
  clear hb1 hl
  go_wp2_with fail
  refine (effNew_calls _ m).mono ?_
  rintro e W2 ⟨hb2, v2, z2, rfl, hx⟩
  have HB2 := Aside0.mk (below_step HB1.out hb2)
  have HL2 := Aside0.mk (HL.out.kept hb2)
  have HX := Aside0.mk hx
  clear hb2 hx
  go_wp2
  go_ret2
  exact ⟨HB2.out, _, _, rfl, HL2.out, HX.out⟩
theorem great_calls (w : World) (A B D : Option Addr) (c d f n k l : Nat) (m : Int) : Calls Tryz.prog 14 #[.agg #[.slice D n f, .int .i64 m], .slice A k c, .slice B l d] w fun e w' => e = .returned (.bool (decide (64 < n ∨ 200 < k ∨ 200 < l))) ∧ Below w.heap.size w w' := by
  have HB := Aside0.mk (below_alloc (Below.refl w.heap.size w) (.cells #[.slice D n f, .int .i64 m] 52))
  by_cases h1 : 64 < n
  · have z1 : decide (64 < (n : Int)) = true := decide_eq_true (by omega)
    have HE : Aside0 (decide (64 < n ∨ 200 < k ∨ 200 < l) = true) := ⟨decide_eq_true (.inl h1)⟩
    clear h1
    go_enter Tryz.func14, Tryz.ntmps14
    go_wp2
    go_ret
    rw [HE.out]
    exact ⟨rfl, HB.out⟩
  have z1 : decide (64 < (n : Int)) = false := decide_eq_false (by omega)
  by_cases h2 : 200 < k
  · have z2 : decide (200 < (k : Int)) = true := decide_eq_true (by omega)
    have HE : Aside0 (decide (64 < n ∨ 200 < k ∨ 200 < l) = true) := ⟨decide_eq_true (.inr (.inl h2))⟩
    clear h1 h2
    go_enter Tryz.func14, Tryz.ntmps14
    go_wp2
    go_ret
    rw [HE.out]
    exact ⟨rfl, HB.out⟩
  have z2 : decide (200 < (k : Int)) = false := decide_eq_false (by omega)
  have HE : Aside0 (decide (64 < n ∨ 200 < k ∨ 200 < l) = decide (200 < (l : Int))) := ⟨decide_eq_decide.2 (by omega)⟩
  clear h1 h2
  go_enter Tryz.func14, Tryz.ntmps14
  go_wp2
  go_ret
  rw [HE.out]
  exact ⟨rfl, HB.out⟩
/-- A type int of a label. -/
def wN (l : Int) : Node := ⟨1, 0, ⟨#[105, 110, 116]⟩, 0, ⟨false, l⟩, zT, zT⟩
def varN : Node := ⟨1, 0, ⟨#[105, 110, 116]⟩, 0, ⟨true, 0⟩, zT, zT⟩
theorem node_reps {W : World} {base : Nat} {ok : Nat → Prop} : ∀ (l : List Node), Reps (kNode.M W base ok) kNode.sz l (l.flatMap nodeC)
  | [] => Reps.none _ _
  | n :: t => reps_cons (k122_mkM W base ok n) rfl (node_reps t)
/-- A literal of nodes, as it lies in memory. -/
theorem lit_R (W : World) (base : Nat) (hb : base ≤ W.heap.size) (l : List Node) (hl : l.length ≤ maxLen) : kNode.R 122 (W.alloc (.cells (l.flatMap nodeC).toArray 122)) base (fun _ => True) (.slice (some ⟨W.heap.size, 0, none⟩) l.length l.length) l :=
  R_block (blk_new W _) hb trivial (node_reps l) hl
theorem lit_C (W : World) (l : List Node) (hl : l.length ≤ maxLen) : kNode.C (W.alloc (.cells (l.flatMap nodeC).toArray 122)) (some ⟨W.heap.size, 0, none⟩) l.length l := (Kd.R_reads' (lit_R W W.heap.size (Nat.le_refl _) l hl)).2.2
/-- grounds.Below, its answer named. -/
theorem ground_named (w : World) (A B : Option Addr) (c d n m : Nat) (a b : List Node) (v1 v2 : Value) (o : Option (List Int)) (p : Option Int) (r : Bool × Int) (hg : groundB (hasLat o) (hasEff p) (leLat o) (leEff p) a b = r) (hn : n = a.length) (hm : m = b.length) (hr : kNode.C w A n a) (hr2 : kNode.C w B m b) (hwa : ∀ n ∈ a, Node.wf n) (hwb : ∀ n ∈ b, Node.wf n) (hv1 : LatV w v1 o) (hv2 : EffV w v2 p) :
    Calls Tryz.prog 17 #[.slice A n c, .slice B m d, v1, v2] w fun e w' => e = .returned (.tuple #[.bool r.1, .int .i64 r.2]) ∧ Below w.heap.size w w' := by
  rw [← hg]
  subst hn hm
  exact ground_calls w A B c d a b v1 v2 o p hr hr2 hwa hwb hv1 hv2
def wfB (n : Node) : Bool := (Lit.int .u8 n.f0).wf && (Lit.int .i64 n.f1).wf && decide (n.f2.size ≤ maxLen) && decide (n.f2.size ≤ 140737488351232) && (Lit.int .i64 n.f3).wf && (Lit.int .u64 n.f4.f1).wf && (Lit.int .u64 n.f5.f1).wf && (Lit.int .u64 n.f6.f1).wf
theorem wf_all (l : List Node) (h : l.all wfB = true) : ∀ n ∈ l, Node.wf n := fun n hn => by
  have := List.all_eq_true.1 h n hn
  simp only [wfB, Bool.and_eq_true, decide_eq_true_eq] at this
  exact ⟨this.1.1.1.1.1.1.1, this.1.1.1.1.1.1.2, ⟨this.1.1.1.1.1.2, this.1.1.1.1.2⟩, this.1.1.1.2, this.1.1.2, this.1.2, this.2⟩
def oL : Option (List Int) := some [3, 2]
def oX : Option Int := some 0
theorem latO_two : latO [3, 2] = oL := by decide +kernel
theorem effO_zero : effO 0 = oX := by decide +kernel
abbrev gB (a b : List Node) : Bool × Int := groundB (hasLat oL) (hasEff oX) (leLat oL) (leEff oX) a b
theorem t0 : gB [wN 0] [wN 1] = (true, 0) := by decide +kernel
theorem t0a : ([wN 0] : List Node).all wfB = true := by decide +kernel
theorem t0b : ([wN 1] : List Node).all wfB = true := by decide +kernel
theorem t1 : gB [wN 1] [wN 0] = (false, 0) := by decide +kernel
theorem t1a : ([wN 1] : List Node).all wfB = true := by decide +kernel
theorem t1b : ([wN 0] : List Node).all wfB = true := by decide +kernel
theorem t2 : gB [refN, wN 0] [refN, wN 1] = (false, 0) := by decide +kernel
theorem t2a : ([refN, wN 0] : List Node).all wfB = true := by decide +kernel
theorem t2b : ([refN, wN 1] : List Node).all wfB = true := by decide +kernel
theorem t3 : gB [funN, wN 1, wN 0] [funN, wN 0, wN 0] = (true, 0) := by decide +kernel
theorem t3a : ([funN, wN 1, wN 0] : List Node).all wfB = true := by decide +kernel
theorem t3b : ([funN, wN 0, wN 0] : List Node).all wfB = true := by decide +kernel
theorem t4 : gB [funN, wN 0, wN 0] [funN, wN 1, wN 0] = (false, 0) := by decide +kernel
theorem t4a : ([funN, wN 0, wN 0] : List Node).all wfB = true := by decide +kernel
theorem t4b : ([funN, wN 1, wN 0] : List Node).all wfB = true := by decide +kernel
theorem t5 : gB [wN 0] [refN, wN 0] = (false, 0) := by decide +kernel
theorem t5a : ([wN 0] : List Node).all wfB = true := by decide +kernel
theorem t5b : ([refN, wN 0] : List Node).all wfB = true := by decide +kernel
theorem t6 : gB [varN] [wN 0] = (false, 1) := by decide +kernel
theorem t6a : ([varN] : List Node).all wfB = true := by decide +kernel
theorem t6b : ([wN 0] : List Node).all wfB = true := by decide +kernel
theorem t7 : gB [wN 2] [wN 0] = (false, 1) := by decide +kernel
theorem t7a : ([wN 2] : List Node).all wfB = true := by decide +kernel
theorem t7b : ([wN 0] : List Node).all wfB = true := by decide +kernel
theorem t8 : gB [] [wN 0] = (false, 4) := by decide +kernel
theorem t8a : ([] : List Node).all wfB = true := by decide +kernel
theorem t8b : ([wN 0] : List Node).all wfB = true := by decide +kernel
end L09
end Go.Proofs.YtbdecnagdnancaaGreatDoor
