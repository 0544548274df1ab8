/- The statements of layer 9: of, great, whole, ref, fun, alive. -/
import Derived.Test.YtkndpgbpdidlgaaDoorMD
import Derived.Test.YtkndpgbpdidlgaaDoorGrU
import Derived.Test.YtkndpgbpdidlgaaDoorOp09
namespace Go.Proofs.YtkndpgbpdidlgaaDoor
open Go.RowKit Go.Proofs.YtkndpgbpdidlgaaDoorW.PrintWords Go.Proofs.YtkndpgbpdidlgaaDoorW.PrintLast Go.Proofs.YtkndpgbpdidlgaaDoorW.PrintMore
set_option linter.unusedVariables false
set_option linter.unusedSimpArgs false
namespace L09
def latO (rows : List Int) : Option (List Int) := if checkO rows = 0 then some rows else none
theorem check_ord {rows : List Int} (h : checkO rows = 0) : orderedB rows = true ∧ 0 < rows.length ∧ rows.length ≤ 64 := by
  unfold checkO at h
  split at h
  · cases h
  · rename_i h1
    split at h
    · cases h
    · split at h
      · cases h
      · rename_i h2
        exact ⟨by simpa using h2, by omega, by omega⟩
theorem latO_ok (rows : List Int) (hU : U64s rows) : SortOk (hasLat (latO rows)) (leLat (latO rows)) := lat_ok _ fun r h => by
  unfold latO at h
  split at h
  · rename_i h0
    cases h
    exact ⟨hU, (check_ord h0).1⟩
  · cases h
theorem new_calls (w : World) (A : Option Addr) (c n : Nat) (rows : List Int) (hn : n = rows.length) (hr : (Kd.int .u64).C w A n rows) (hU : U64s rows) (HT : Aside0 (TabAt 0 Lib.deBruijn64tab w)) :
    Calls Tryd.prog 31 #[.slice A n c] w fun e w' => Below w.heap.size w w' ∧ ∃ v z, e = .returned (.tuple #[v, .int .i64 z]) ∧ LatV w' v (latO rows) := by
  by_cases h0 : checkO rows = 0
  · have hl := check_ord h0
    refine (new_ok w A c n rows hn hr.2.1 hr hU HT h0 (by omega)).mono ?_
    rintro e w' ⟨hb, g, rfl, hL⟩
    refine ⟨hb, _, _, rfl, ?_⟩
    rw [latO, if_pos h0]
    exact ⟨g, rfl, hL, hl.2.2⟩
  · refine (new_bad w A c n rows hn hr.2.1 hr hU HT (bne_iff_ne.mpr h0)).mono ?_
    rintro e w' ⟨hb, rfl⟩
    refine ⟨hb, _, _, rfl, ?_⟩
    rw [latO, if_neg h0]
    rfl
set_option maxRecDepth 100000 in
set_option maxHeartbeats 4000000 in
theorem of_calls (w : World) (A : Option Addr) (c n : Nat) (rows : List Int) (m : Int) (hn : n = rows.length) (hr : (Kd.int .u64).C w A n rows) (hU : U64s rows) (HT : Aside0 (TabAt 0 Lib.deBruijn64tab w)) :
    Calls Tryd.prog 13 #[.agg #[.slice A n c, .int .i64 m]] w fun e w' => Below w.heap.size w w' ∧ ∃ v1 v2, e = .returned (.tuple #[v1, v2]) ∧ LatV w' v1 (latO rows) ∧ EffV w' v2 (effO m) := by
  have HR := Aside0.mk hr
  have HU := Aside0.mk hU
  have HN := Aside0.mk hn
  obtain ⟨O, hO⟩ : ∃ O : Obj, O = .cells #[.slice A n c, .int .i64 m] 25 := ⟨_, rfl⟩
  have HB := Aside0.mk (below_alloc (Below.refl w.heap.size w) O)
  have hm : (w.alloc O).cell? ⟨w.heap.size, 1, none⟩ = some (.int .i64 m) := by rw [hO]; exact blk_cell (blk_new w _) 1
  have HM := Aside0.mk hm
  subst hO
  clear hr hU hn hm
  go_enter Tryd.func13, Tryd.ntmps13
  go_wp2_with fail
  refine (new_calls _ A c n rows HN.out (Kd.C_below HR.out HB.out) HU.out ⟨tab_below HB.out HT.out⟩).mono ?_
  rintro e W1 ⟨hb1, v1, z1, rfl, hl⟩
  have hm1 := pw_cell_below hb1 HM.out
  have HB1 := Aside0.mk (below_step HB.out hb1)
  have HL := Aside0.mk hl
  clear hb1 hl
  go_wp2_with fail
  refine (effNew_calls _ m).mono ?_
  rintro e W2 ⟨hb2, v2, z2, rfl, hx⟩
  have HB2 := Aside0.mk (below_step HB1.out hb2)
  have HL2 := Aside0.mk (HL.out.kept hb2)
  have HX := Aside0.mk hx
  clear hb2 hx
  go_wp2
  go_ret2
  exact ⟨HB2.out, _, _, rfl, HL2.out, HX.out⟩
theorem great_calls (w : World) (A B D : Option Addr) (c d f n k l : Nat) (m : Int) : Calls Tryd.prog 11 #[.agg #[.slice D n f, .int .i64 m], .slice A k c, .slice B l d] w fun e w' => e = .returned (.bool (decide (64 < n ∨ 200 < k ∨ 200 < l))) ∧ Below w.heap.size w w' := by
  have HB := Aside0.mk (below_alloc (Below.refl w.heap.size w) (.cells #[.slice D n f, .int .i64 m] 25))
  by_cases h1 : 64 < n
  · have z1 : decide (64 < (n : Int)) = true := decide_eq_true (by omega)
    have HE : Aside0 (decide (64 < n ∨ 200 < k ∨ 200 < l) = true) := ⟨decide_eq_true (.inl h1)⟩
    clear h1
    go_enter Tryd.func11, Tryd.ntmps11
    go_wp2
    go_ret
    rw [HE.out]
    exact ⟨rfl, HB.out⟩
  have z1 : decide (64 < (n : Int)) = false := decide_eq_false (by omega)
  by_cases h2 : 200 < k
  · have z2 : decide (200 < (k : Int)) = true := decide_eq_true (by omega)
    have HE : Aside0 (decide (64 < n ∨ 200 < k ∨ 200 < l) = true) := ⟨decide_eq_true (.inr (.inl h2))⟩
    clear h1 h2
    go_enter Tryd.func11, Tryd.ntmps11
    go_wp2
    go_ret
    rw [HE.out]
    exact ⟨rfl, HB.out⟩
  have z2 : decide (200 < (k : Int)) = false := decide_eq_false (by omega)
  have HE : Aside0 (decide (64 < n ∨ 200 < k ∨ 200 < l) = decide (200 < (l : Int))) := ⟨decide_eq_decide.2 (by omega)⟩
  clear h1 h2
  go_enter Tryd.func11, Tryd.ntmps11
  go_wp2
  go_ret
  rw [HE.out]
  exact ⟨rfl, HB.out⟩
/-- A type int of a label. -/
def wN (l : Int) : Node := ⟨1, 0, ⟨#[105, 110, 116]⟩, 0, ⟨false, l⟩, zT, zT⟩
def varN : Node := ⟨1, 0, ⟨#[105, 110, 116]⟩, 0, ⟨true, 0⟩, zT, zT⟩
theorem node_reps {W : World} {base : Nat} {ok : Nat → Prop} : ∀ (l : List Node), Reps (kNode.M W base ok) kNode.sz l (l.flatMap nodeC)
  | [] => Reps.none _ _
  | n :: t => reps_cons (k84_mkM W base ok n) rfl (node_reps t)
/-- A literal of nodes, as it lies in memory. -/
theorem lit_R (W : World) (base : Nat) (hb : base ≤ W.heap.size) (l : List Node) (hl : l.length ≤ maxLen) : kNode.R 84 (W.alloc (.cells (l.flatMap nodeC).toArray 84)) base (fun _ => True) (.slice (some ⟨W.heap.size, 0, none⟩) l.length l.length) l :=
  R_block (blk_new W _) hb trivial (node_reps l) hl
theorem lit_C (W : World) (l : List Node) (hl : l.length ≤ maxLen) : kNode.C (W.alloc (.cells (l.flatMap nodeC).toArray 84)) (some ⟨W.heap.size, 0, none⟩) l.length l := (Kd.R_reads' (lit_R W W.heap.size (Nat.le_refl _) l hl)).2.2
theorem whole_calls (w : World) (l : Int) : Calls Tryd.prog 30 #[.int .u64 l] w fun e w' => ∃ A c, e = .returned (.slice A 1 c) ∧ kNode.C w' A 1 [wN l] ∧ Below w.heap.size w w' := by
  go_enter Tryd.func30, Tryd.ntmps30
  go_wp2
  go_ret
  exact ⟨_, _, rfl, lit_C w [wN l] (show 1 ≤ maxLen by decide), below_alloc (Below.refl _ _) _⟩
set_option maxRecDepth 100000 in
set_option maxHeartbeats 4000000 in
theorem ref_calls (w : World) (A : Option Addr) (c n : Nat) (b : List Node) (hn : n = b.length) (hl : n ≤ 1000) (hr : kNode.C w A n b) :
    Calls Tryd.prog 19 #[.slice A n c] w fun e w' => ∃ A1 c1, e = .returned (.slice A1 (n + 1) c1) ∧ kNode.C w' A1 (n + 1) (refN :: b) ∧ Below w.heap.size w w' := by
  have HR := Aside0.mk hr
  have HN := Aside0.mk hn
  have HL : Aside0 (([refN] ++ b).length = n + 1) := ⟨by rw [hn]; simp⟩
  clear hr hn
  go_enter Tryd.func19, Tryd.ntmps19
  go_wp2_with (at_builtin; refine wpList_append_R rfl kNode w.heap.size (.tmp 4) (.tmp 5) 22 22 84 84 (.agg #[.int .u8 0, .int .i64 0, .string ⟨#[]⟩, .int .i64 0, .bool false, .int .u64 0, .bool false, .int .u64 0, .bool false, .int .u64 0]) 88 rfl (by kernel_rfl) (by kernel_rfl) L07.infoN rfl (by decide) (by decide) (.slice (some ⟨w.heap.size, 0, none⟩) 1 1) [refN] b A n c (fun _ => True) (fun _ => False) rfl rfl (lit_R w w.heap.size (Nat.le_refl _) [refN] (by decide)) (Kd.C_below HR.out (below_alloc (Below.refl _ _) _)) (fun x cs h => nodeM h) (fun _ h => h.elim) (fun _ _ => trivial) (by simp) (by simp; omega) ?_; intro v1 w1 HO1 hg1 hat; obtain ⟨A1, c1, rfl⟩ := Kd.R_slice HO1; rw [HL.out] at HO1 ⊢; have HO := Aside0.mk HO1; have HB := Aside0.mk ((below_alloc (Below.refl w.heap.size w) _).grown hg1 (by simp) (fun k hk => by simp [Value.ownBlock] at hk; omega)); clear HO1 hg1 hat)
  go_ret
  exact ⟨A1, c1, rfl, by have := (Kd.R_reads' HO.out).2.2; rw [HL.out] at this; exact this, HB.out⟩
set_option maxRecDepth 100000 in
set_option maxHeartbeats 4000000 in
theorem fun_calls (w : World) (A B : Option Addr) (c n d m : Nat) (a b : List Node) (hn : n = a.length) (hm : m = b.length) (hl : n + m ≤ 1000) (hr : kNode.C w A n a) (hr2 : kNode.C w B m b) :
    Calls Tryd.prog 17 #[.slice A n c, .slice B m d] w fun e w' => ∃ A1 c1, e = .returned (.slice A1 (n + m + 1) c1) ∧ kNode.C w' A1 (n + m + 1) (funN :: (a ++ b)) ∧ Below w.heap.size w w' := by
  have HR := Aside0.mk hr
  have HR2 := Aside0.mk hr2
  have HL : Aside0 (([funN] ++ a).length = n + 1) := ⟨by rw [hn]; simp⟩
  have HL2 : Aside0 (([funN] ++ a ++ b).length = n + m + 1) := ⟨by rw [hn, hm]; simp⟩
  clear hr hr2 hn hm
  have HB0 := Aside0.mk (below_alloc (Below.refl w.heap.size w) (.cells ([funN].flatMap nodeC).toArray 84))
  go_enter Tryd.func17, Tryd.ntmps17
  go_wp2_with (first
    | (at_builtin; refine wpList_append_R rfl kNode w.heap.size (.tmp 6) (.tmp 7) 22 22 84 84 (.agg #[.int .u8 0, .int .i64 0, .string ⟨#[]⟩, .int .i64 0, .bool false, .int .u64 0, .bool false, .int .u64 0, .bool false, .int .u64 0]) 88 rfl (by kernel_rfl) (by kernel_rfl) L07.infoN rfl (by decide) (by decide) (.slice (some ⟨w.heap.size, 0, none⟩) 1 1) [funN] a A n c (fun _ => True) (fun _ => False) rfl rfl (lit_R w w.heap.size (Nat.le_refl _) [funN] (by decide)) (Kd.C_below HR.out (below_alloc (Below.refl _ _) _)) (fun x cs h => nodeM h) (fun _ h => h.elim) (fun _ _ => trivial) (by simp) (by simp; omega) ?_; intro v1 w1 HO1 hg1 hat; obtain ⟨A1, c1, rfl⟩ := Kd.R_slice HO1; rw [HL.out] at HO1 ⊢; have HO := Aside0.mk HO1; have HB := Aside0.mk (HB0.out.grown hg1 HB0.out.size (fun k hk => by simp [Value.ownBlock] at hk; omega)); clear HO1 hg1 hat)
    | (at_builtin; refine wpList_append_R rfl kNode w.heap.size (.tmp 8) (.tmp 9) 22 22 84 84 (.agg #[.int .u8 0, .int .i64 0, .string ⟨#[]⟩, .int .i64 0, .bool false, .int .u64 0, .bool false, .int .u64 0, .bool false, .int .u64 0]) 88 rfl (by kernel_rfl) (by kernel_rfl) L07.infoN rfl (by decide) (by decide) (.slice A1 (n + 1) c1) ([funN] ++ a) b B m d (fun _ => True) (fun _ => False) rfl rfl HO.out (Kd.C_below HR2.out HB.out) (fun x cs h => nodeM h) (fun _ h => h.elim) (fun _ _ => trivial) HB.out.size (by rw [HL.out]; omega) ?_; intro v2 w2 HO2 hg2 hat2; obtain ⟨A2, c2, rfl⟩ := Kd.R_slice HO2; rw [HL2.out] at HO2 ⊢; have HO3 := Aside0.mk HO2; have HB3 := Aside0.mk (HB.out.grown hg2 HB.out.size (fun k hk => (Kd.R_bound HO.out).1 k hk |>.2.1)); clear HO2 hg2 hat2))
  go_ret
  exact ⟨A2, c2, rfl, by have := (Kd.R_reads' HO3.out).2.2; rw [HL2.out] at this; exact this, HB3.out⟩
/-- grounds.Below, its answer named. -/
theorem ground_named (w : World) (A B : Option Addr) (c d n m : Nat) (a b : List Node) (v1 v2 : Value) (o : Option (List Int)) (p : Option Int) (r : Bool × Int) (hg : groundB (hasLat o) (hasEff p) (leLat o) (leEff p) a b = r) (hn : n = a.length) (hm : m = b.length) (hr : kNode.C w A n a) (hr2 : kNode.C w B m b) (hwa : ∀ n ∈ a, Node.wf n) (hwb : ∀ n ∈ b, Node.wf n) (hv1 : LatV w v1 o) (hv2 : EffV w v2 p) :
    Calls Tryd.prog 14 #[.slice A n c, .slice B m d, v1, v2] w fun e w' => e = .returned (.tuple #[.bool r.1, .int .i64 r.2]) ∧ Below w.heap.size w w' := by
  rw [← hg]
  subst hn hm
  exact ground_calls w A B c d a b v1 v2 o p hr hr2 hwa hwb hv1 hv2
def wfB (n : Node) : Bool := (Lit.int .u8 n.f0).wf && (Lit.int .i64 n.f1).wf && decide (n.f2.size ≤ maxLen) && decide (n.f2.size ≤ 140737488351232) && (Lit.int .i64 n.f3).wf && (Lit.int .u64 n.f4.f1).wf && (Lit.int .u64 n.f5.f1).wf && (Lit.int .u64 n.f6.f1).wf
theorem wf_all (l : List Node) (h : l.all wfB = true) : ∀ n ∈ l, Node.wf n := fun n hn => by
  have := List.all_eq_true.1 h n hn
  simp only [wfB, Bool.and_eq_true, decide_eq_true_eq] at this
  exact ⟨this.1.1.1.1.1.1.1, this.1.1.1.1.1.1.2, ⟨this.1.1.1.1.1.2, this.1.1.1.1.2⟩, this.1.1.1.2, this.1.1.2, this.1.2, this.2⟩
def oL : Option (List Int) := some [3, 2]
def oX : Option Int := some 0
theorem latO_two : latO [3, 2] = oL := by decide +kernel
theorem effO_zero : effO 0 = oX := by decide +kernel
abbrev gB (a b : List Node) : Bool × Int := groundB (hasLat oL) (hasEff oX) (leLat oL) (leEff oX) a b
theorem t0 : gB [wN 0] [wN 1] = (true, 0) := by decide +kernel
theorem t0a : ([wN 0] : List Node).all wfB = true := by decide +kernel
theorem t0b : ([wN 1] : List Node).all wfB = true := by decide +kernel
theorem t1 : gB [wN 1] [wN 0] = (false, 0) := by decide +kernel
theorem t1a : ([wN 1] : List Node).all wfB = true := by decide +kernel
theorem t1b : ([wN 0] : List Node).all wfB = true := by decide +kernel
theorem t2 : gB [refN, wN 0] [refN, wN 1] = (false, 0) := by decide +kernel
theorem t2a : ([refN, wN 0] : List Node).all wfB = true := by decide +kernel
theorem t2b : ([refN, wN 1] : List Node).all wfB = true := by decide +kernel
theorem t3 : gB [funN, wN 1, wN 0] [funN, wN 0, wN 0] = (true, 0) := by decide +kernel
theorem t3a : ([funN, wN 1, wN 0] : List Node).all wfB = true := by decide +kernel
theorem t3b : ([funN, wN 0, wN 0] : List Node).all wfB = true := by decide +kernel
theorem t4 : gB [funN, wN 0, wN 0] [funN, wN 1, wN 0] = (false, 0) := by decide +kernel
theorem t4a : ([funN, wN 0, wN 0] : List Node).all wfB = true := by decide +kernel
theorem t4b : ([funN, wN 1, wN 0] : List Node).all wfB = true := by decide +kernel
theorem t5 : gB [wN 0] [refN, wN 0] = (false, 0) := by decide +kernel
theorem t5a : ([wN 0] : List Node).all wfB = true := by decide +kernel
theorem t5b : ([refN, wN 0] : List Node).all wfB = true := by decide +kernel
theorem t6 : gB [varN] [wN 0] = (false, 1) := by decide +kernel
theorem t6a : ([varN] : List Node).all wfB = true := by decide +kernel
theorem t6b : ([wN 0] : List Node).all wfB = true := by decide +kernel
theorem t7 : gB [wN 2] [wN 0] = (false, 1) := by decide +kernel
theorem t7a : ([wN 2] : List Node).all wfB = true := by decide +kernel
theorem t7b : ([wN 0] : List Node).all wfB = true := by decide +kernel
theorem t8 : gB [] [wN 0] = (false, 4) := by decide +kernel
theorem t8a : ([] : List Node).all wfB = true := by decide +kernel
theorem t8b : ([wN 0] : List Node).all wfB = true := by decide +kernel
set_option maxRecDepth 100000 in
set_option maxHeartbeats 8000000 in
theorem alive_calls (w : World) (HT : Aside0 (TabAt 0 Lib.deBruijn64tab w)) : Calls Tryd.prog 12 #[] w fun e w' => e = .returned (.bool true) ∧ Below w.heap.size w w' := by
  have HB0 := Aside0.mk (below_alloc (Below.refl w.heap.size w) (.cells ([3, 2].map (Value.int .u64)).toArray 54))
  have HC0 := Aside0.mk (litU w [3, 2] (by decide))
  have HU : Aside0 (U64s [3, 2]) := ⟨fun r hr => by simp at hr; rcases hr with rfl | rfl <;> decide⟩
  go_enter Tryd.func12, Tryd.ntmps12
  go_wp2_with fail
  refine (of_calls _ _ 2 2 [3, 2] 0 rfl HC0.out HU.out ⟨tab_below HB0.out HT.out⟩).mono ?_
  rintro e W0 ⟨hb, v1, v2, rfl, hl, hx⟩
  rw [latO_two] at hl
  rw [effO_zero] at hx
  have HB := Aside0.mk (below_step HB0.out hb)
  have HL := Aside0.mk hl
  have HX := Aside0.mk hx
  clear hb hl hx HB0 HC0 HU
  go_wp2_with fail
  refine (whole_calls _ 0).mono ?_
  rintro e W1 ⟨A0, c0, rfl, k0, hb⟩
  have HB' := Aside0.mk (below_step HB.out hb)
  have HL' := Aside0.mk (HL.out.kept hb)
  have HX' := Aside0.mk (HX.out.kept hb)
  clear HB HL HX hb
  have HB := HB'
  have HL := HL'
  have HX := HX'
  clear HB' HL' HX'
  go_wp2_with fail
  refine (whole_calls _ 1).mono ?_
  rintro e W2 ⟨A1, c1, rfl, k1, hb⟩
  replace k0 := Kd.C_below k0 hb
  have HB' := Aside0.mk (below_step HB.out hb)
  have HL' := Aside0.mk (HL.out.kept hb)
  have HX' := Aside0.mk (HX.out.kept hb)
  clear HB HL HX hb
  have HB := HB'
  have HL := HL'
  have HX := HX'
  clear HB' HL' HX'
  go_wp2_with fail
  refine (ground_named _ A0 A1 c0 c1 1 1 [wN 0] [wN 1] v1 v2 oL oX (true, 0) t0 rfl rfl k0 k1 (wf_all _ t0a) (wf_all _ t0b) HL.out HX.out).mono ?_
  rintro e W3 ⟨rfl, hb⟩
  have HB' := Aside0.mk (below_step HB.out hb)
  have HL' := Aside0.mk (HL.out.kept hb)
  have HX' := Aside0.mk (HX.out.kept hb)
  clear HB HL HX hb
  have HB := HB'
  have HL := HL'
  have HX := HX'
  clear HB' HL' HX'
  clear k0
  clear k1
  go_wp2_with fail
  refine (whole_calls _ 1).mono ?_
  rintro e W4 ⟨A2, c2, rfl, k2, hb⟩
  have HB' := Aside0.mk (below_step HB.out hb)
  have HL' := Aside0.mk (HL.out.kept hb)
  have HX' := Aside0.mk (HX.out.kept hb)
  clear HB HL HX hb
  have HB := HB'
  have HL := HL'
  have HX := HX'
  clear HB' HL' HX'
  go_wp2_with fail
  refine (whole_calls _ 0).mono ?_
  rintro e W5 ⟨A3, c3, rfl, k3, hb⟩
  replace k2 := Kd.C_below k2 hb
  have HB' := Aside0.mk (below_step HB.out hb)
  have HL' := Aside0.mk (HL.out.kept hb)
  have HX' := Aside0.mk (HX.out.kept hb)
  clear HB HL HX hb
  have HB := HB'
  have HL := HL'
  have HX := HX'
  clear HB' HL' HX'
  go_wp2_with fail
  refine (ground_named _ A2 A3 c2 c3 1 1 [wN 1] [wN 0] v1 v2 oL oX (false, 0) t1 rfl rfl k2 k3 (wf_all _ t1a) (wf_all _ t1b) HL.out HX.out).mono ?_
  rintro e W6 ⟨rfl, hb⟩
  have HB' := Aside0.mk (below_step HB.out hb)
  have HL' := Aside0.mk (HL.out.kept hb)
  have HX' := Aside0.mk (HX.out.kept hb)
  clear HB HL HX hb
  have HB := HB'
  have HL := HL'
  have HX := HX'
  clear HB' HL' HX'
  clear k2
  clear k3
  go_wp2_with fail
  refine (whole_calls _ 0).mono ?_
  rintro e W7 ⟨A5, c5, rfl, k5, hb⟩
  have HB' := Aside0.mk (below_step HB.out hb)
  have HL' := Aside0.mk (HL.out.kept hb)
  have HX' := Aside0.mk (HX.out.kept hb)
  clear HB HL HX hb
  have HB := HB'
  have HL := HL'
  have HX := HX'
  clear HB' HL' HX'
  go_wp2_with fail
  refine (ref_calls _ A5 c5 1 [wN 0] rfl (by decide) k5).mono ?_
  rintro e W8 ⟨A6, c6, rfl, k6, hb⟩
  have HB' := Aside0.mk (below_step HB.out hb)
  have HL' := Aside0.mk (HL.out.kept hb)
  have HX' := Aside0.mk (HX.out.kept hb)
  clear HB HL HX hb
  have HB := HB'
  have HL := HL'
  have HX := HX'
  clear HB' HL' HX'
  go_wp2_with fail
  refine (whole_calls _ 1).mono ?_
  rintro e W9 ⟨A8, c8, rfl, k8, hb⟩
  replace k6 := Kd.C_below k6 hb
  have HB' := Aside0.mk (below_step HB.out hb)
  have HL' := Aside0.mk (HL.out.kept hb)
  have HX' := Aside0.mk (HX.out.kept hb)
  clear HB HL HX hb
  have HB := HB'
  have HL := HL'
  have HX := HX'
  clear HB' HL' HX'
  go_wp2_with fail
  refine (ref_calls _ A8 c8 1 [wN 1] rfl (by decide) k8).mono ?_
  rintro e W10 ⟨A9, c9, rfl, k9, hb⟩
  replace k6 := Kd.C_below k6 hb
  have HB' := Aside0.mk (below_step HB.out hb)
  have HL' := Aside0.mk (HL.out.kept hb)
  have HX' := Aside0.mk (HX.out.kept hb)
  clear HB HL HX hb
  have HB := HB'
  have HL := HL'
  have HX := HX'
  clear HB' HL' HX'
  go_wp2_with fail
  refine (ground_named _ A6 A9 c6 c9 2 2 [refN, wN 0] [refN, wN 1] v1 v2 oL oX (false, 0) t2 rfl rfl k6 k9 (wf_all _ t2a) (wf_all _ t2b) HL.out HX.out).mono ?_
  rintro e W11 ⟨rfl, hb⟩
  have HB' := Aside0.mk (below_step HB.out hb)
  have HL' := Aside0.mk (HL.out.kept hb)
  have HX' := Aside0.mk (HX.out.kept hb)
  clear HB HL HX hb
  have HB := HB'
  have HL := HL'
  have HX := HX'
  clear HB' HL' HX'
  clear k6
  clear k9
  go_wp2_with fail
  refine (whole_calls _ 1).mono ?_
  rintro e W12 ⟨A11, c11, rfl, k11, hb⟩
  have HB' := Aside0.mk (below_step HB.out hb)
  have HL' := Aside0.mk (HL.out.kept hb)
  have HX' := Aside0.mk (HX.out.kept hb)
  clear HB HL HX hb
  have HB := HB'
  have HL := HL'
  have HX := HX'
  clear HB' HL' HX'
  go_wp2_with fail
  refine (whole_calls _ 0).mono ?_
  rintro e W13 ⟨A12, c12, rfl, k12, hb⟩
  replace k11 := Kd.C_below k11 hb
  have HB' := Aside0.mk (below_step HB.out hb)
  have HL' := Aside0.mk (HL.out.kept hb)
  have HX' := Aside0.mk (HX.out.kept hb)
  clear HB HL HX hb
  have HB := HB'
  have HL := HL'
  have HX := HX'
  clear HB' HL' HX'
  go_wp2_with fail
  refine (fun_calls _ A11 A12 c11 1 c12 1 [wN 1] [wN 0] rfl rfl (by decide) k11 k12).mono ?_
  rintro e W14 ⟨A13, c13, rfl, k13, hb⟩
  have HB' := Aside0.mk (below_step HB.out hb)
  have HL' := Aside0.mk (HL.out.kept hb)
  have HX' := Aside0.mk (HX.out.kept hb)
  clear HB HL HX hb
  have HB := HB'
  have HL := HL'
  have HX := HX'
  clear HB' HL' HX'
  go_wp2_with fail
  refine (whole_calls _ 0).mono ?_
  rintro e W15 ⟨A15, c15, rfl, k15, hb⟩
  replace k13 := Kd.C_below k13 hb
  have HB' := Aside0.mk (below_step HB.out hb)
  have HL' := Aside0.mk (HL.out.kept hb)
  have HX' := Aside0.mk (HX.out.kept hb)
  clear HB HL HX hb
  have HB := HB'
  have HL := HL'
  have HX := HX'
  clear HB' HL' HX'
  go_wp2_with fail
  refine (whole_calls _ 0).mono ?_
  rintro e W16 ⟨A16, c16, rfl, k16, hb⟩
  replace k13 := Kd.C_below k13 hb
  replace k15 := Kd.C_below k15 hb
  have HB' := Aside0.mk (below_step HB.out hb)
  have HL' := Aside0.mk (HL.out.kept hb)
  have HX' := Aside0.mk (HX.out.kept hb)
  clear HB HL HX hb
  have HB := HB'
  have HL := HL'
  have HX := HX'
  clear HB' HL' HX'
  go_wp2_with fail
  refine (fun_calls _ A15 A16 c15 1 c16 1 [wN 0] [wN 0] rfl rfl (by decide) k15 k16).mono ?_
  rintro e W17 ⟨A17, c17, rfl, k17, hb⟩
  replace k13 := Kd.C_below k13 hb
  have HB' := Aside0.mk (below_step HB.out hb)
  have HL' := Aside0.mk (HL.out.kept hb)
  have HX' := Aside0.mk (HX.out.kept hb)
  clear HB HL HX hb
  have HB := HB'
  have HL := HL'
  have HX := HX'
  clear HB' HL' HX'
  go_wp2_with fail
  refine (ground_named _ A13 A17 c13 c17 3 3 [funN, wN 1, wN 0] [funN, wN 0, wN 0] v1 v2 oL oX (true, 0) t3 rfl rfl k13 k17 (wf_all _ t3a) (wf_all _ t3b) HL.out HX.out).mono ?_
  rintro e W18 ⟨rfl, hb⟩
  have HB' := Aside0.mk (below_step HB.out hb)
  have HL' := Aside0.mk (HL.out.kept hb)
  have HX' := Aside0.mk (HX.out.kept hb)
  clear HB HL HX hb
  have HB := HB'
  have HL := HL'
  have HX := HX'
  clear HB' HL' HX'
  clear k13
  clear k17
  go_wp2_with fail
  refine (whole_calls _ 0).mono ?_
  rintro e W19 ⟨A19, c19, rfl, k19, hb⟩
  have HB' := Aside0.mk (below_step HB.out hb)
  have HL' := Aside0.mk (HL.out.kept hb)
  have HX' := Aside0.mk (HX.out.kept hb)
  clear HB HL HX hb
  have HB := HB'
  have HL := HL'
  have HX := HX'
  clear HB' HL' HX'
  go_wp2_with fail
  refine (whole_calls _ 0).mono ?_
  rintro e W20 ⟨A20, c20, rfl, k20, hb⟩
  replace k19 := Kd.C_below k19 hb
  have HB' := Aside0.mk (below_step HB.out hb)
  have HL' := Aside0.mk (HL.out.kept hb)
  have HX' := Aside0.mk (HX.out.kept hb)
  clear HB HL HX hb
  have HB := HB'
  have HL := HL'
  have HX := HX'
  clear HB' HL' HX'
  go_wp2_with fail
  refine (fun_calls _ A19 A20 c19 1 c20 1 [wN 0] [wN 0] rfl rfl (by decide) k19 k20).mono ?_
  rintro e W21 ⟨A21, c21, rfl, k21, hb⟩
  have HB' := Aside0.mk (below_step HB.out hb)
  have HL' := Aside0.mk (HL.out.kept hb)
  have HX' := Aside0.mk (HX.out.kept hb)
  clear HB HL HX hb
  have HB := HB'
  have HL := HL'
  have HX := HX'
  clear HB' HL' HX'
  go_wp2_with fail
  refine (whole_calls _ 1).mono ?_
  rintro e W22 ⟨A23, c23, rfl, k23, hb⟩
  replace k21 := Kd.C_below k21 hb
  have HB' := Aside0.mk (below_step HB.out hb)
  have HL' := Aside0.mk (HL.out.kept hb)
  have HX' := Aside0.mk (HX.out.kept hb)
  clear HB HL HX hb
  have HB := HB'
  have HL := HL'
  have HX := HX'
  clear HB' HL' HX'
  go_wp2_with fail
  refine (whole_calls _ 0).mono ?_
  rintro e W23 ⟨A24, c24, rfl, k24, hb⟩
  replace k21 := Kd.C_below k21 hb
  replace k23 := Kd.C_below k23 hb
  have HB' := Aside0.mk (below_step HB.out hb)
  have HL' := Aside0.mk (HL.out.kept hb)
  have HX' := Aside0.mk (HX.out.kept hb)
  clear HB HL HX hb
  have HB := HB'
  have HL := HL'
  have HX := HX'
  clear HB' HL' HX'
  go_wp2_with fail
  refine (fun_calls _ A23 A24 c23 1 c24 1 [wN 1] [wN 0] rfl rfl (by decide) k23 k24).mono ?_
  rintro e W24 ⟨A25, c25, rfl, k25, hb⟩
  replace k21 := Kd.C_below k21 hb
  have HB' := Aside0.mk (below_step HB.out hb)
  have HL' := Aside0.mk (HL.out.kept hb)
  have HX' := Aside0.mk (HX.out.kept hb)
  clear HB HL HX hb
  have HB := HB'
  have HL := HL'
  have HX := HX'
  clear HB' HL' HX'
  go_wp2_with fail
  refine (ground_named _ A21 A25 c21 c25 3 3 [funN, wN 0, wN 0] [funN, wN 1, wN 0] v1 v2 oL oX (false, 0) t4 rfl rfl k21 k25 (wf_all _ t4a) (wf_all _ t4b) HL.out HX.out).mono ?_
  rintro e W25 ⟨rfl, hb⟩
  have HB' := Aside0.mk (below_step HB.out hb)
  have HL' := Aside0.mk (HL.out.kept hb)
  have HX' := Aside0.mk (HX.out.kept hb)
  clear HB HL HX hb
  have HB := HB'
  have HL := HL'
  have HX := HX'
  clear HB' HL' HX'
  clear k21
  clear k25
  go_wp2_with fail
  refine (whole_calls _ 0).mono ?_
  rintro e W26 ⟨A26, c26, rfl, k26, hb⟩
  have HB' := Aside0.mk (below_step HB.out hb)
  have HL' := Aside0.mk (HL.out.kept hb)
  have HX' := Aside0.mk (HX.out.kept hb)
  clear HB HL HX hb
  have HB := HB'
  have HL := HL'
  have HX := HX'
  clear HB' HL' HX'
  go_wp2_with fail
  refine (whole_calls _ 0).mono ?_
  rintro e W27 ⟨A28, c28, rfl, k28, hb⟩
  replace k26 := Kd.C_below k26 hb
  have HB' := Aside0.mk (below_step HB.out hb)
  have HL' := Aside0.mk (HL.out.kept hb)
  have HX' := Aside0.mk (HX.out.kept hb)
  clear HB HL HX hb
  have HB := HB'
  have HL := HL'
  have HX := HX'
  clear HB' HL' HX'
  go_wp2_with fail
  refine (ref_calls _ A28 c28 1 [wN 0] rfl (by decide) k28).mono ?_
  rintro e W28 ⟨A29, c29, rfl, k29, hb⟩
  replace k26 := Kd.C_below k26 hb
  have HB' := Aside0.mk (below_step HB.out hb)
  have HL' := Aside0.mk (HL.out.kept hb)
  have HX' := Aside0.mk (HX.out.kept hb)
  clear HB HL HX hb
  have HB := HB'
  have HL := HL'
  have HX := HX'
  clear HB' HL' HX'
  go_wp2_with fail
  refine (ground_named _ A26 A29 c26 c29 1 2 [wN 0] [refN, wN 0] v1 v2 oL oX (false, 0) t5 rfl rfl k26 k29 (wf_all _ t5a) (wf_all _ t5b) HL.out HX.out).mono ?_
  rintro e W29 ⟨rfl, hb⟩
  have HB' := Aside0.mk (below_step HB.out hb)
  have HL' := Aside0.mk (HL.out.kept hb)
  have HX' := Aside0.mk (HX.out.kept hb)
  clear HB HL HX hb
  have HB := HB'
  have HL := HL'
  have HX := HX'
  clear HB' HL' HX'
  clear k26
  clear k29
  have k30 := lit_C W29 [varN] (by decide)
  have hbv := below_alloc (Below.refl W29.heap.size W29) (.cells ([varN].flatMap nodeC).toArray 84)
  have HB' := Aside0.mk (below_step HB.out hbv)
  have HL' := Aside0.mk (HL.out.kept hbv)
  have HX' := Aside0.mk (HX.out.kept hbv)
  clear HB HL HX hbv
  have HB := HB'
  have HL := HL'
  have HX := HX'
  clear HB' HL' HX'
  go_wp2_with fail
  refine (whole_calls _ 0).mono ?_
  rintro e W30 ⟨A31, c31, rfl, k31, hb⟩
  replace k30 := Kd.C_below k30 hb
  have HB' := Aside0.mk (below_step HB.out hb)
  have HL' := Aside0.mk (HL.out.kept hb)
  have HX' := Aside0.mk (HX.out.kept hb)
  clear HB HL HX hb
  have HB := HB'
  have HL := HL'
  have HX := HX'
  clear HB' HL' HX'
  go_wp2_with fail
  refine (ground_named _ _ A31 _ c31 1 1 [varN] [wN 0] v1 v2 oL oX (false, 1) t6 rfl rfl k30 k31 (wf_all _ t6a) (wf_all _ t6b) HL.out HX.out).mono ?_
  rintro e W31 ⟨rfl, hb⟩
  have HB' := Aside0.mk (below_step HB.out hb)
  have HL' := Aside0.mk (HL.out.kept hb)
  have HX' := Aside0.mk (HX.out.kept hb)
  clear HB HL HX hb
  have HB := HB'
  have HL := HL'
  have HX := HX'
  clear HB' HL' HX'
  clear k30
  clear k31
  go_wp2_with fail
  refine (whole_calls _ 2).mono ?_
  rintro e W32 ⟨A32, c32, rfl, k32, hb⟩
  have HB' := Aside0.mk (below_step HB.out hb)
  have HL' := Aside0.mk (HL.out.kept hb)
  have HX' := Aside0.mk (HX.out.kept hb)
  clear HB HL HX hb
  have HB := HB'
  have HL := HL'
  have HX := HX'
  clear HB' HL' HX'
  go_wp2_with fail
  refine (whole_calls _ 0).mono ?_
  rintro e W33 ⟨A33, c33, rfl, k33, hb⟩
  replace k32 := Kd.C_below k32 hb
  have HB' := Aside0.mk (below_step HB.out hb)
  have HL' := Aside0.mk (HL.out.kept hb)
  have HX' := Aside0.mk (HX.out.kept hb)
  clear HB HL HX hb
  have HB := HB'
  have HL := HL'
  have HX := HX'
  clear HB' HL' HX'
  go_wp2_with fail
  refine (ground_named _ A32 A33 c32 c33 1 1 [wN 2] [wN 0] v1 v2 oL oX (false, 1) t7 rfl rfl k32 k33 (wf_all _ t7a) (wf_all _ t7b) HL.out HX.out).mono ?_
  rintro e W34 ⟨rfl, hb⟩
  have HB' := Aside0.mk (below_step HB.out hb)
  have HL' := Aside0.mk (HL.out.kept hb)
  have HX' := Aside0.mk (HX.out.kept hb)
  clear HB HL HX hb
  have HB := HB'
  have HL := HL'
  have HX := HX'
  clear HB' HL' HX'
  clear k32
  clear k33
  go_wp2_with fail
  refine (whole_calls _ 0).mono ?_
  rintro e W35 ⟨A34, c34, rfl, k34, hb⟩
  have HB' := Aside0.mk (below_step HB.out hb)
  have HL' := Aside0.mk (HL.out.kept hb)
  have HX' := Aside0.mk (HX.out.kept hb)
  clear HB HL HX hb
  have HB := HB'
  have HL := HL'
  have HX := HX'
  clear HB' HL' HX'
  go_wp2_with fail
  refine (ground_named _ none A34 0 c34 0 1 [] [wN 0] v1 v2 oL oX (false, 4) t8 rfl rfl (Kd.C_nil _ _) k34 (wf_all _ t8a) (wf_all _ t8b) HL.out HX.out).mono ?_
  rintro e W36 ⟨rfl, hb⟩
  have HB' := Aside0.mk (below_step HB.out hb)
  have HL' := Aside0.mk (HL.out.kept hb)
  have HX' := Aside0.mk (HX.out.kept hb)
  clear HB HL HX hb
  have HB := HB'
  have HL := HL'
  have HX := HX'
  clear HB' HL' HX'
  clear k34
  go_wp2
  go_ret
  exact ⟨rfl, HB.out⟩
end L09
end Go.Proofs.YtkndpgbpdidlgaaDoor
