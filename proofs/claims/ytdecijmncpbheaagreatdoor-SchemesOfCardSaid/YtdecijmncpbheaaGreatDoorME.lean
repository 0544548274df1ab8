
/- Several texts as one: SpD, SpF, SpI. -/
import Derived.Test.YtdecijmncpbheaaGreatDoorMB
import Derived.Deep.RegionWith
import Derived.Test.YtdecijmncpbheaaGreatDoorMA

namespace Go.Proofs.YtdecijmncpbheaaGreatDoor
open Go.RowKit Go.Shelf Go.Proofs.YtdecijmncpbheaaGreatDoorW.PrintWords Go.Proofs.YtdecijmncpbheaaGreatDoorW.PrintLast Go.Proofs.YtdecijmncpbheaaGreatDoorW.PrintMore
set_option linter.unusedVariables false
set_option linter.unusedSimpArgs false
attribute [local go_sem] Oper.semAt_some
theorem sides_calls (w : World) (A : Option Addr) (n c : Nat) : Calls Tryz.prog 171 #[.slice A n c] w fun e w' => e = .returned (.func (.func 205) #[] #[.pointer (some ⟨w.heap.size, 0, none⟩)]) ∧ w' = w.alloc (.cells #[.slice A n c] 22) := by
  go_enter Tryz.func171, Tryz.ntmps171
  go_wp2
  go_ret
  exact ⟨rfl, rfl⟩
def partOf (x : Spot) : Int × Int × Int := (x.f0, x.f1, x.f2)
/-- What the first k nodes tell. -/
def labP (body : List Node) (k : Nat) : List (Int × Int × Int) := (labL 0 (body.take k) ((sidesB body).take k)).map partOf
def effP (body : List Node) (k : Nat) : List (Int × Int × Int) := (effL 0 (body.take k) ((sidesB body).take k)).map partOf
theorem labP_next (body : List Node) (k : Nat) (h1 : k < body.length) (h2 : k < (sidesB body).length) : labP body (k + 1) = labP body k ++ (labN k body[k] (sidesB body)[k]).map partOf := by
  unfold labP
  rw [List.take_succ_eq_append_getElem h1, List.take_succ_eq_append_getElem h2, labL_snoc _ _ _ _ _ (by rw [List.length_take, List.length_take]; omega), List.map_append, List.length_take, Nat.zero_add, show min k body.length = k by omega]
theorem effP_next (body : List Node) (k : Nat) (h1 : k < body.length) (h2 : k < (sidesB body).length) : effP body (k + 1) = effP body k ++ (effN k body[k] (sidesB body)[k]).map partOf := by
  unfold effP
  rw [List.take_succ_eq_append_getElem h1, List.take_succ_eq_append_getElem h2, effL_snoc _ _ _ _ _ (by rw [List.length_take, List.length_take]; omega), List.map_append, List.length_take, Nat.zero_add, show min k body.length = k by omega]
theorem labP_len (body : List Node) (k : Nat) : (labP body k).length ≤ 2 * body.length := by
  unfold labP
  rw [List.length_map]
  refine Nat.le_trans (labL_len _ _ _) ?_
  rw [List.length_take]
  omega
theorem effP_len (body : List Node) (k : Nat) : (effP body k).length ≤ body.length := by
  unfold effP
  rw [List.length_map]
  refine Nat.le_trans (effL_len _ _ _) ?_
  rw [List.length_take]
  omega
/-- A row of spots abides a change of a block of another type. -/
theorem partR_typed {A B : World} {base : Nat} {ok : Nat → Prop} {v : Value} {xs : List (Int × Int × Int)} (h : kPart.R 154 A base ok v xs)
    (hm : ∀ (k : Nat) cells t, A.heap[k]? = some (.cells cells t (0, 0)) → t = 154 ∨ t = 3 ∨ t = 97 → B.heap[k]? = A.heap[k]?) : kPart.R 154 B base ok v xs := by
  refine Kd.R_mono (Kd.R_move (Kd.R_bound h) (fun k hk => ?_)) (fun _ hk => hk.1)
  obtain ⟨_, _, _, q, hq, cells, hc⟩ := hk
  simp only [kPart, List.mem_cons, List.not_mem_nil, or_false] at hq
  exact hm k cells q hc hq
/-- The three boxes, and the two rows. -/
def AllB (w : World) (A : Option Addr) (n c : Nat) (W : World) (v1 v2 : Value) (l1 l2 : List (Int × Int × Int)) : Prop :=
  W.heap[w.heap.size]? = some (.cells #[.slice A n c] 22 (0, 0)) ∧ W.heap[w.heap.size + 1]? = some (.cells #[v1] 148 (0, 0)) ∧ W.heap[w.heap.size + 2]? = some (.cells #[v2] 148 (0, 0)) ∧
    kPart.R 154 W w.heap.size (fun k => some k ≠ v2.ownBlock) v1 l1 ∧ kPart.R 154 W w.heap.size (fun k => some k ≠ v1.ownBlock) v2 l2 ∧ Below w.heap.size w W
/-- The loop's invariant. -/
def AllI (w : World) (A : Option Addr) (n c : Nat) (body : List Node) (k : Nat) (W : World) : Prop := ∃ v1 v2, AllB w A n c W v1 v2 (labP body k) (effP body k)
theorem grown_cells {A B : World} {row : Option Nat} (hg : A.grownBy B row) {D : Nat} (hr : ∀ r, row = some r → D ≤ r ∧ ∃ o : Obj, A.heap[r]? = some o ∧ (o.isCells = false ∨ sidesT o)) {k : Nat} {cells : Array Value} {t : TypeId} (hk : A.heap[k]? = some (.cells cells t (0, 0))) (ht : t ≠ 98) : B.heap[k]? = A.heap[k]? := by
  refine hg.block k (Array.getElem?_eq_some_iff.1 hk).1 (fun e => ?_)
  obtain ⟨_, o, ho, h⟩ := hr k e.symm
  rw [hk] at ho
  cases ho
  rcases h with h | ⟨cs, h⟩
  · cases h
  · injection h with _ h2
    exact ht h2
theorem allI_own (w : World) (A : Option Addr) (n c : Nat) (body : List Node) (D : Nat) (hD : w.heap.size ≤ D) : ∀ s P Q row, AllI w A n c body s P → P.grownBy Q row → (∀ r, row = some r → D ≤ r ∧ ∃ o : Obj, P.heap[r]? = some o ∧ (o.isCells = false ∨ sidesT o)) → AllI w A n c body s Q := by
  rintro s P Q row ⟨v1, v2, h1, h2, h3, r1, r2, hb⟩ hg hr
  refine ⟨v1, v2, (grown_cells hg hr h1 (by decide)).trans h1, (grown_cells hg hr h2 (by decide)).trans h2, (grown_cells hg hr h3 (by decide)).trans h3, ?_, ?_, hb.grown hg hb.size (fun k e => Nat.le_trans hD (hr k e).1)⟩
  · exact partR_typed r1 (fun k cells t hk ht => grown_cells hg hr hk (by rcases ht with rfl | rfl | rfl <;> decide))
  · exact partR_typed r2 (fun k cells t hk ht => grown_cells hg hr hk (by rcases ht with rfl | rfl | rfl <;> decide))
/-- What a round keeps. -/
def RoundK (n0 : Nat) (A B : World) : Prop := KeepsOthers A B ∧ sidesKp n0 A B
theorem RoundK.trans {n0 : Nat} {A B C : World} (h : RoundK n0 A B) (k : RoundK n0 B C) : RoundK n0 A C :=
  ⟨h.1.trans k.1, h.2.1.trans k.2.1, fun q cells t ht hq => k.2.2 q cells t ht (h.2.2 q cells t ht hq)⟩
theorem RoundK.refl (n0 : Nat) (A : World) : RoundK n0 A A := ⟨KeepsOthers.refl A, Below.refl _ _, fun _ _ _ _ h => h⟩
theorem RoundK.below {n0 : Nat} {A B : World} (h : Below A.heap.size A B) (hn : n0 ≤ A.heap.size) : RoundK n0 A B :=
  ⟨⟨h.size, fun k o hk _ => (h.block k (blk_lt hk)).trans hk⟩, h.mono hn, fun k cells t _ hk => (h.block k (blk_lt hk)).trans hk⟩
theorem RoundK.grown {n0 : Nat} {A B : World} {row : Option Nat} (hg : A.grownBy B row) (hn : n0 ≤ A.heap.size) (hr : ∀ r, row = some r → n0 ≤ r ∧ ∃ cells t, A.heap[r]? = some (.cells cells t (0, 0)) ∧ t ≠ 98 ∧ t ≠ 119) : RoundK n0 A B := by
  refine ⟨KeepsOthers.of_grownBy hg (fun j o e hj => ?_), (Below.refl _ _).grown hg hn (fun k e => (hr k e).1), fun k cells t ht hk => ?_⟩
  · obtain ⟨_, cells, t, h, _⟩ := hr j e
    rw [h] at hj
    cases hj
    rfl
  · refine (hg.block k (blk_lt hk) (fun e => ?_)).trans hk
    obtain ⟨_, cells', t', h, h1, h2⟩ := hr k e.symm
    rw [h] at hk
    cases hk
    rcases ht with ht | ht
    · exact h1 ht
    · exact h2 ht
theorem setCell_other {A : World} {b : Nat} {k : Nat} {o : Obj} {off : Nat} (v : Value) (hk : A.heap[k]? = some o) (hne : k ≠ b) : (A.setCell ⟨b, off, none⟩ v).heap[k]? = some o := by
  rw [← hk]
  simp only [World.setCell]
  rw [Array.getElem?_modify, if_neg (fun h => hne h.symm)]
theorem RoundK.box {n0 : Nat} {A : World} {b : Nat} {cells : Array Value} {v : Value} (hb : A.heap[b]? = some (.cells cells 148 (0, 0))) (hn : n0 ≤ b) : RoundK n0 A (A.setCell ⟨b, 0, none⟩ v) := by
  refine ⟨KeepsOthers.setCell _ _ _, (Below.refl n0 A).setCell (p := ⟨b, 0, none⟩) hn _, fun k cs t ht hk => setCell_other v hk (fun e => ?_)⟩
  subst e
  rw [hb] at hk
  cases hk
  rcases ht with ht | ht <;> cases ht
section
variable {w W : World} {A : Option Addr} {n c : Nat} {v1 v2 : Value} {l1 l2 : List (Int × Int × Int)}
theorem AllB.drew (h : AllB w A n c W v1 v2 l1 l2) : AllB w A n c W.drew v1 v2 l1 l2 :=
  ⟨h.1, h.2.1, h.2.2.1, Kd.R_below h.2.2.2.1 (Below.refl _ W).drew, Kd.R_below h.2.2.2.2.1 (Below.refl _ W).drew, h.2.2.2.2.2.drew⟩
theorem AllB.below {W1 : World} (h : AllB w A n c W v1 v2 l1 l2) (hb : Below W.heap.size W W1) : AllB w A n c W1 v1 v2 l1 l2 :=
  ⟨(hb.block _ (blk_lt h.1)).trans h.1, (hb.block _ (blk_lt h.2.1)).trans h.2.1, (hb.block _ (blk_lt h.2.2.1)).trans h.2.2.1, Kd.R_below h.2.2.2.1 hb, Kd.R_below h.2.2.2.2.1 hb, below_step h.2.2.2.2.2 hb⟩
/-- The row's own block is one of spots. -/
theorem AllB.own1 (h : AllB w A n c W v1 v2 l1 l2) (r : Nat) (e : v1.ownBlock = some r) : w.heap.size ≤ r ∧ r < W.heap.size ∧ ∃ cells, W.heap[r]? = some (.cells cells 154 (0, 0)) :=
  ⟨own_base (Kd.R_own h.2.2.2.1).choose_spec r e, own_lt (Kd.R_own h.2.2.2.1).choose_spec r e, own_typed (Kd.R_own h.2.2.2.1).choose_spec r e⟩
theorem AllB.own2 (h : AllB w A n c W v1 v2 l1 l2) (r : Nat) (e : v2.ownBlock = some r) : w.heap.size ≤ r ∧ r < W.heap.size ∧ ∃ cells, W.heap[r]? = some (.cells cells 154 (0, 0)) :=
  ⟨own_base (Kd.R_own h.2.2.2.2.1).choose_spec r e, own_lt (Kd.R_own h.2.2.2.2.1).choose_spec r e, own_typed (Kd.R_own h.2.2.2.2.1).choose_spec r e⟩
theorem cells_of_type {W : World} {k r : Nat} {cs cs' : Array Value} {t t' : TypeId} (h : W.heap[k]? = some (.cells cs t (0, 0))) (h' : W.heap[r]? = some (.cells cs' t' (0, 0))) (ht : t ≠ t') : k ≠ r := by
  rintro rfl
  rw [h] at h'
  cases h'
  exact ht rfl
theorem AllB.fresh (h : AllB w A n c W v1 v2 l1 l2) {k : Nat} (hk : W.heap.size ≤ k) : some k ≠ v1.ownBlock ∧ some k ≠ v2.ownBlock :=
  ⟨fun e => by have := (h.own1 k e.symm).2.1; omega, fun e => by have := (h.own2 k e.symm).2.1; omega⟩
/-- One more spot in the first row. -/
theorem AllB.add1 {W2 w3 : World} {v1' : Value} {ys : List (Int × Int × Int)} (h : AllB w A n c W2 v1 v2 l1 l2) (hR : kPart.R 154 w3 w.heap.size (fun k => some k ≠ v2.ownBlock) v1' ys) (hg : W2.grownBy w3 v1.ownBlock) (hat : v1'.ownBlock = v1.ownBlock ∨ ∃ b, v1'.ownBlock = some b ∧ W2.heap.size ≤ b) :
    AllB w A n c (w3.setCell ⟨w.heap.size + 1, 0, none⟩ v1') v1' v2 ys l2 ∧ RoundK w.heap.size W2 (w3.setCell ⟨w.heap.size + 1, 0, none⟩ v1') ∧ w3.cell? ⟨w.heap.size + 1, 0, none⟩ = some v1 ∧ w3.frozen? ⟨w.heap.size + 1, 0, none⟩ = false := by
  obtain ⟨g0, g1, g2, r1, r2, hb⟩ := h
  have hk : ∀ (k : Nat) cells t, W2.heap[k]? = some (.cells cells t (0, 0)) → t ≠ 154 → w3.heap[k]? = some (.cells cells t (0, 0)) := fun k cells t hk ht => by
    refine (hg.block k (blk_lt hk) (fun e => ?_)).trans hk
    obtain ⟨cs, hc⟩ := own_typed (Kd.R_own r1).choose_spec k e.symm
    exact cells_of_type hk hc ht rfl
  have G1 := hk _ _ _ g1 (by decide)
  have hR1' : kPart.R 154 (w3.setCell ⟨w.heap.size + 1, 0, none⟩ v1') w.heap.size (fun k => some k ≠ v2.ownBlock) v1' ys :=
    partR_typed hR (fun k cells t hk ht => (setCell_other v1' hk (cells_of_type hk G1 (by rcases ht with rfl | rfl | rfl <;> decide))).trans hk.symm)
  have hR2 : kPart.R 154 w3 w.heap.size (fun k => some k ≠ v1'.ownBlock) v2 l2 := by
    have h1 := Kd.R_grown r2 hg (fun k hk => hk)
    have h2 : kPart.R 154 W2 w.heap.size (fun k => some k ≠ v1'.ownBlock ∧ some k ≠ v1.ownBlock) v2 l2 := by
      refine Kd.R_mono (Kd.R_bound r2) (fun k hk => ⟨?_, hk.1⟩)
      rcases hat with e | ⟨b, e, hle⟩
      · rw [e]; exact hk.1
      · rw [e]
        intro he
        injection he with he
        have := hk.2.2.1
        omega
    exact Kd.R_mono (Kd.R_grown h2 hg (fun k hk => hk.2)) (fun k hk => hk.1)
  have hR2' : kPart.R 154 (w3.setCell ⟨w.heap.size + 1, 0, none⟩ v1') w.heap.size (fun k => some k ≠ v1'.ownBlock) v2 l2 :=
    partR_typed hR2 (fun k cells t hk ht => (setCell_other v1' hk (cells_of_type hk G1 (by rcases ht with rfl | rfl | rfl <;> decide))).trans hk.symm)
  refine ⟨⟨setCell_other v1' (hk _ _ _ g0 (by decide)) (by omega), by simpa using blk_set G1 0 v1', setCell_other v1' (hk _ _ _ g2 (by decide)) (by omega), hR1', hR2', ?_⟩, ?_, blk_cell G1 0, blk_frozen G1 0⟩
  · exact (hb.grown hg hb.size (fun k e => own_base (Kd.R_own r1).choose_spec k e)).setCell (p := ⟨w.heap.size + 1, 0, none⟩) (Nat.le_succ _) _
  · refine (RoundK.grown hg hb.size (fun r e => ⟨own_base (Kd.R_own r1).choose_spec r e, ?_⟩)).trans (RoundK.box G1 (Nat.le_succ _))
    obtain ⟨cs, hc⟩ := own_typed (Kd.R_own r1).choose_spec r e
    exact ⟨cs, _, hc, by decide, by decide⟩
/-- One more spot in the second row. -/
theorem AllB.add2 {W2 w3 : World} {v2' : Value} {ys : List (Int × Int × Int)} (h : AllB w A n c W2 v1 v2 l1 l2) (hR : kPart.R 154 w3 w.heap.size (fun k => some k ≠ v1.ownBlock) v2' ys) (hg : W2.grownBy w3 v2.ownBlock) (hat : v2'.ownBlock = v2.ownBlock ∨ ∃ b, v2'.ownBlock = some b ∧ W2.heap.size ≤ b) :
    AllB w A n c (w3.setCell ⟨w.heap.size + 1 + 1, 0, none⟩ v2') v1 v2' l1 ys ∧ RoundK w.heap.size W2 (w3.setCell ⟨w.heap.size + 1 + 1, 0, none⟩ v2') ∧ w3.cell? ⟨w.heap.size + 1 + 1, 0, none⟩ = some v2 ∧ w3.frozen? ⟨w.heap.size + 1 + 1, 0, none⟩ = false := by
  obtain ⟨g0, g1, g2, r1, r2, hb⟩ := h
  have hk : ∀ (k : Nat) cells t, W2.heap[k]? = some (.cells cells t (0, 0)) → t ≠ 154 → w3.heap[k]? = some (.cells cells t (0, 0)) := fun k cells t hk ht => by
    refine (hg.block k (blk_lt hk) (fun e => ?_)).trans hk
    obtain ⟨cs, hc⟩ := own_typed (Kd.R_own r2).choose_spec k e.symm
    exact cells_of_type hk hc ht rfl
  have G2 := hk _ _ _ g2 (by decide)
  have hR2' : kPart.R 154 (w3.setCell ⟨w.heap.size + 1 + 1, 0, none⟩ v2') w.heap.size (fun k => some k ≠ v1.ownBlock) v2' ys :=
    partR_typed hR (fun k cells t hk ht => (setCell_other v2' hk (cells_of_type hk G2 (by rcases ht with rfl | rfl | rfl <;> decide))).trans hk.symm)
  have hR1 : kPart.R 154 w3 w.heap.size (fun k => some k ≠ v2'.ownBlock) v1 l1 := by
    have h2 : kPart.R 154 W2 w.heap.size (fun k => some k ≠ v2'.ownBlock ∧ some k ≠ v2.ownBlock) v1 l1 := by
      refine Kd.R_mono (Kd.R_bound r1) (fun k hk => ⟨?_, hk.1⟩)
      rcases hat with e | ⟨b, e, hle⟩
      · rw [e]; exact hk.1
      · rw [e]
        intro he
        injection he with he
        have := hk.2.2.1
        omega
    exact Kd.R_mono (Kd.R_grown h2 hg (fun k hk => hk.2)) (fun k hk => hk.1)
  have hR1' : kPart.R 154 (w3.setCell ⟨w.heap.size + 1 + 1, 0, none⟩ v2') w.heap.size (fun k => some k ≠ v2'.ownBlock) v1 l1 :=
    partR_typed hR1 (fun k cells t hk ht => (setCell_other v2' hk (cells_of_type hk G2 (by rcases ht with rfl | rfl | rfl <;> decide))).trans hk.symm)
  refine ⟨⟨setCell_other v2' (hk _ _ _ g0 (by decide)) (by omega), setCell_other v2' (hk _ _ _ g1 (by decide)) (by omega), by simpa using blk_set G2 0 v2', hR1', hR2', ?_⟩, ?_, blk_cell G2 0, blk_frozen G2 0⟩
  · exact (hb.grown hg hb.size (fun k e => own_base (Kd.R_own r2).choose_spec k e)).setCell (p := ⟨w.heap.size + 1 + 1, 0, none⟩) (by show w.heap.size ≤ w.heap.size + 1 + 1; omega) _
  · refine (RoundK.grown hg hb.size (fun r e => ⟨own_base (Kd.R_own r2).choose_spec r e, ?_⟩)).trans (RoundK.box G2 (by omega))
    obtain ⟨cs, hc⟩ := own_typed (Kd.R_own r2).choose_spec r e
    exact ⟨cs, _, hc, by decide, by decide⟩
end
/-- A new spot as a row of one, in a block that is new. -/
theorem part_row {W W1 : World} {x : Int × Int × Int} {b1 b2 : Nat} (hp : PartM W1 W.heap.size (fun _ => True) x (partC x b1 b2)) : ReadsRow (kPart.M (W1.alloc (.cells (partC x b1 b2).toArray 154)) W.heap.size (fun k => W.heap.size ≤ k)) kPart.sz (W1.alloc (.cells (partC x b1 b2).toArray 154)) (some ⟨W1.heap.size, 0, none⟩) 1 [x] := by
  refine ⟨rfl, by decide, fun _ => ⟨_, rfl, fun j p hj => ?_⟩⟩
  rcases j with _ | j
  · obtain rfl : x = p := by simpa using hj
    obtain ⟨c1, c2, e, -, -, h1, h2, h3, h4⟩ := hp
    refine ⟨partC x b1 b2, rfl, ⟨c1, c2, e, h1, h2, h1, h2, blk_alloc h3 _, blk_alloc h4 _⟩, fun i u hu => ?_⟩
    have hb := blk_cell (blk_new W1 (.cells (partC x b1 b2).toArray 154)) i
    rw [add_plain, Nat.zero_mul, Nat.zero_add, hb]
    simpa using hu
  · simp at hj
theorem part_lower {W2 : World} {base base' : Nat} {x : Int × Int × Int} {cs : List Value} (hb : base' ≤ base) (h : kPart.M W2 base (fun k => base ≤ k) x cs) : kPart.M W2 base' (fun k => base ≤ k) x cs := kPart.M_lower hb h
def allW (w : World) (A : Option Addr) (n c : Nat) : World := (((w.alloc (.cells #[.slice A n c] 22)).alloc (.cells #[.slice none 0 0] 148)).alloc (.cells #[.slice none 0 0] 148)).alloc (.cells #[.slice A n c] 22)
theorem allW_facts (w : World) (A : Option Addr) (n c : Nat) (body : List Node) : (allW w A n c).heap.size = w.heap.size + 4 ∧ AllI w A n c body 0 (allW w A n c) ∧ (allW w A n c).cell? ⟨w.heap.size + 1 + 1 + 1, 0, none⟩ = some (.slice A n c) ∧ Below w.heap.size w (allW w A n c) := by
  have hB : Below w.heap.size w (allW w A n c) := below_alloc (below_alloc (below_alloc (below_alloc (Below.refl _ _) _) _) _) _
  have h1 := blk_new w (.cells #[.slice A n c] 22)
  have h2 := blk_new (w.alloc (.cells #[.slice A n c] 22)) (.cells #[.slice none 0 0] 148)
  have h3 := blk_new ((w.alloc (.cells #[.slice A n c] 22)).alloc (.cells #[.slice none 0 0] 148)) (.cells #[.slice none 0 0] 148)
  have h4 := blk_new (((w.alloc (.cells #[.slice A n c] 22)).alloc (.cells #[.slice none 0 0] 148)).alloc (.cells #[.slice none 0 0] 148)) (.cells #[.slice A n c] 22)
  simp only [World.size_alloc] at h2 h3 h4
  refine ⟨by simp [allW], ⟨.slice none 0 0, .slice none 0 0, blk_alloc (blk_alloc (blk_alloc h1 _) _) _, blk_alloc (blk_alloc h2 _) _, blk_alloc h3 _, ?_, ?_, hB⟩, blk_cell h4 0, hB⟩
  · simp only [labP, List.take_zero]
    exact Kd.R_nil _ _ _ _ _
  · simp only [effP, List.take_zero]
    exact Kd.R_nil _ _ _ _ _
theorem sidesKp_put {n0 D : Nat} (h0 : n0 ≤ D) (W : World) (l : Nat) (o o' : Obj) (hl : D ≤ l) (h : W.heap[l]? = some o) (hc : o.isCells = false) : sidesKp n0 W (W.putObj l o') := by
  refine ⟨(Below.refl n0 W).grown (grownBy_putObj' W l o') (by have := (Array.getElem?_eq_some_iff.1 h).1; omega) (fun k e => by cases e; omega), fun k cells t _ hk => ?_⟩
  rw [World.putObj_heap_other (fun e => ?_)]
  · exact hk
  · subst e
    rw [h] at hk
    cases hk
    cases hc
theorem set_same {W : World} {b : Nat} {t : TypeId} {v : Value} (h : W.heap[b]? = some (.cells #[v] t (0, 0))) (k : Nat) (o : Obj) (hk : W.heap[k]? = some o) : (W.setCell ⟨b, 0, none⟩ v).heap[k]? = some o := by
  by_cases e : k = b
  · subst e
    rw [h] at hk
    cases hk
    simpa using blk_set h 0 v
  · rw [← hk]
    simp only [World.setCell]
    rw [Array.getElem?_modify, if_neg (fun h => e h.symm)]
set_option maxRecDepth 100000 in
set_option maxHeartbeats 4000000 in
theorem all_calls (w : World) (A : Option Addr) (c : Nat) (body : List Node) (hz : checkB body = 0) (hr : kNode.C w A body.length body) :
    Calls Tryz.prog 106 #[.slice A body.length c] w fun e w' => ∃ v1 v2, e = .returned (.tuple #[v1, v2]) ∧ kPart.R 154 w' w.heap.size (fun k => some k ≠ v2.ownBlock) v1 (labP body body.length) ∧ kPart.R 154 w' w.heap.size (fun k => some k ≠ v1.ownBlock) v2 (effP body body.length) ∧ Below w.heap.size w w' := by
  refine (callsIn_wide (n := 6)).1 ?_
  have HZ := Aside0.mk hz
  have HR := Aside0.mk hr
  have HL := Aside0.mk (sidesB_len hz 0)
  obtain ⟨N, hN⟩ : ∃ N, N = body.length := ⟨_, rfl⟩
  have HN := Aside0.mk hN
  rw [← hN]
  clear hz hr hN
  have h1 : 1 ≤ 6 := by decide
  refine callsIn_of_wp_marks Tryz.func106 rfl trivial ?_ rfl
  simp only [Tryz.ntmps106, List.size_toArray, List.length_cons, List.length_nil, Nat.reduceAdd, Nat.reduceSub, Array.replicate_succ, Array.replicate_zero, List.push_toArray, List.append_toArray, List.nil_append, List.cons_append]
  gi_wp2_with (refine ⟨trivial, ?_⟩; gi_at_call 171; refine (callsIn_wide.2 (sides_calls _ A N c)).mono ?_; rintro e w1 ⟨rfl, rfl⟩)
  change Code.wpIn _ _ _ _ _ _ (allW w A N c)
  obtain ⟨Wl, hWl⟩ : ∃ Wl, Wl = allW w A N c := ⟨_, rfl⟩
  have hF := allW_facts w A N c body
  rw [← hWl] at hF ⊢
  obtain ⟨hs, hI, hbx, hBl⟩ := hF
  clear hWl
  have hxl : (sidesXs (sidesB body)).length = N := by rw [sidesXs_len, show (sidesB body).length = body.length from HL.out, HN.out]
  refine wpIn_range_rows (n := 6) sidesT (fun o h => by obtain ⟨cells, h⟩ := h; rw [h]; rfl) rfl h1 (gf := 205) (lb := #[.pointer (some ⟨w.heap.size + 1 + 1 + 1, 0, none⟩)]) rfl trivial (enters_of Tryz.func205 (by kernel_rfl) rfl) (encs := sidesE) (fun _ => rfl) (Kp := sidesKp w.heap.size) (xs := sidesXs (sidesB body))
    (sides1_rows 5 (by decide) w Wl A c body _ HZ.out (by omega) (by rw [← HN.out]; exact hbx) HR.out hBl)
    (fun h k => ⟨h.1.trans k.1, fun q cells t ht hq => k.2 q cells t ht (h.2 q cells t ht hq)⟩) (fun W l o o' hl h hc => sidesKp_put (D := Wl.heap.size) (by omega) W l o o' hl h hc)
    (AllI w A N c body) (allI_own w A N c body _ (by omega)) hI
    (fun x => { tmps := #[.slice A N c, .pointer (some ⟨w.heap.size, 0, none⟩), .pointer (some ⟨w.heap.size + 1, 0, none⟩), .pointer (some ⟨w.heap.size + 1 + 1, 0, none⟩), .int .i64 (x.1 : Int), .int .u8 x.2, .slice A N c, .func (.func 205) #[] #[.pointer (some ⟨w.heap.size + 1 + 1 + 1, 0, none⟩)], .int .i64 (x.1 : Int), .int .u8 x.2, undef, undef, undef, undef, undef, undef, undef, undef, undef, undef, undef, undef, undef, undef, undef, undef, undef, undef, undef, undef, undef, undef, undef, undef, undef, undef, undef], defers := [] }) ?assign ?body ?done
  case assign =>
    intro l x W K hK
    simp only [sidesE]
    gi_wp2
    exact hK
  case done =>
    rintro D W hD hI hK
    obtain ⟨v1, v2, g0, g1, g2, r1, r2, hb⟩ := hI
    obtain ⟨A1, c1, rfl⟩ := Kd.R_slice r1
    obtain ⟨A2, c2, rfl⟩ := Kd.R_slice r2
    have q1 := blk_cell g1 0
    have f1 := blk_frozen g1 0
    have q2 := blk_cell g2 0
    have f2 := blk_frozen g2 0
    gi_wp2
    gi_region
    gi_wp2
    rw [hxl] at r1 r2 g1 g2
    obtain ⟨W5, hW5⟩ : ∃ W5, W5 = ((W.setCell ⟨w.heap.size + 1, 0, none⟩ (.slice A1 (labP body N).length c1)).setCell ⟨w.heap.size + 1 + 1, 0, none⟩ (.slice A2 (effP body N).length c2)).drew := ⟨_, rfl⟩
    rw [← hW5]
    have hk5 : ∀ k o, W.heap[k]? = some o → W5.heap[k]? = some o := fun k o h => by
      rw [hW5]
      exact set_same (set_same g1 _ _ g2) k o (set_same g1 k o h)
    have hb5 : Below w.heap.size w W5 := by
      rw [hW5]
      exact ((hb.setCell (p := ⟨w.heap.size + 1, 0, none⟩) (Nat.le_succ _) _).setCell (p := ⟨w.heap.size + 1 + 1, 0, none⟩) (show w.heap.size ≤ w.heap.size + 1 + 1 by omega) _).drew
    clear hW5
    have hK5 := hk5 _ _ hK
    have k5 : ∀ k (o : Obj), W.heap[k]? = some o → o.isCells = true → (W5.putObj D (.deferred none)).heap[k]? = some o := fun k o h hc => by
      rw [World.putObj_heap_other (fun e => ?_)]
      · exact hk5 k o h
      · rw [e] at h
        rw [hK] at h
        cases h
        cases hc
    have c1' := blk_cell (k5 _ _ g1 rfl) 0
    have c2' := blk_cell (k5 _ _ g2 rfl) 0
    refine ⟨by simp, .inl ⟨_, _, rfl, run_takeDeferred hK5, ?_⟩⟩
    refine ⟨.tuple #[.slice A1 (labP body N).length c1, .slice A2 (effP body N).length c2], by simp [results, Tryz.f106, go_sem, c1', c2'], _, _, rfl, ?_, ?_, ?_⟩
    · exact partR_typed r1 (fun k cells t hk _ => (k5 k _ hk rfl).trans hk.symm)
    · exact partR_typed r2 (fun k cells t hk _ => (k5 k _ hk rfl).trans hk.symm)
    · exact hb5.trans (belowK_b (w := w) (Nat.le_refl _) W5 D _ _ (by omega) hK5 rfl rfl)
  case body =>
    intro l k hk W hI
    have hkN : k < N := by rw [← hxl]; exact hk
    have hkb : k < body.length := by rw [← HN.out]; exact hkN
    have hks : k < (sidesB body).length := by rw [show (sidesB body).length = body.length from HL.out]; exact hkb
    have hx : (sidesXs (sidesB body))[k] = (k, (sidesB body)[k]) := sidesXs_get _ _ hk hks
    rw [hx]
    obtain ⟨s, hs'⟩ : ∃ s, s = (sidesB body)[k] := ⟨_, rfl⟩
    rw [← hs']
    obtain ⟨nd, hnd⟩ : ∃ nd, nd = body[k] := ⟨_, rfl⟩
    have HLN := Aside0.mk (labP_next body k hkb hks)
    have HEN := Aside0.mk (effP_next body k hkb hks)
    rw [← hs', ← hnd] at HLN HEN
    obtain ⟨v1, v2, hA⟩ := hI
    have hl1 := labP_len body k
    have hl2 := effP_len body k
    have hl128 : body.length ≤ 128 := (checkB_L HZ.out).2.1
    obtain ⟨ad, rfl, c0, -⟩ := C_nodeN (Kd.C_below HR.out hA.2.2.2.2.2) k hkb
    rw [← hnd] at c0
    have HND := Aside0.mk hnd
    have q1 : W.cell? ⟨w.heap.size + 1, 0, none⟩ = some v1 := blk_cell hA.2.1 0
    have HA := Aside0.mk hA.drew
    have HA0 := Aside0.mk hA
    clear hA hnd hs' hx c0
    have hd : 1 ≤ 6 - 1 - 1 := by decide
    have hmx : Tryz.prog.follows .mixedOrders = true := by kernel_rfl
    gi_wp2
    obtain ⟨Q4, hQ4⟩ : ∃ Q4, Q4 = (fun (e : Exit) (a' : Act) (W' : World) => e = Exit.normal ∧ ∃ t10 t11 t12 t13 t14 t15 u : Value, a' = { tmps := #[.slice (some ad) N c, .pointer (some ⟨w.heap.size, 0, none⟩), .pointer (some ⟨w.heap.size + 1, 0, none⟩), .pointer (some ⟨w.heap.size + 1 + 1, 0, none⟩), .int .i64 (k : Int), .int .u8 s, .slice (some ad) N c, .func (.func 205) #[] #[.pointer (some ⟨w.heap.size + 1 + 1 + 1, 0, none⟩)], .int .i64 (k : Int), .int .u8 s, t10, t11, t12, t13, t14, t15, undef, undef, undef, undef, undef, undef, undef, undef, undef, undef, undef, undef, undef, undef, undef, undef, undef, undef, undef, undef, undef], defers := [] } ∧ AllB w (some ad) N c W' u v2 (labP body k ++ [((k : Int), 0, s)]) (effP body k) ∧ RoundK w.heap.size W W') := ⟨_, rfl⟩
    have HQ := Aside0.mk hQ4
    clear hQ4
    refine wpIn_mono (Q := Q4) ?r4 ?k4
    case r4 =>
      refine wpIn_region_any (by assumption) ?_
      change wpAnyIn _ _ _ _ _ _ _ _ _ (World.drew _)
      refine wpAnyIn_ready (rs := [0, 1, 2]) (by kernel_rfl) (by simp) ?_
      refine AllReadyIn.cons rfl (fun K hK => ?_) ?_
      · go_simp
        refine hK _ _ ?_
        clear hK K
        refine wpAnyIn_ready (rs := [1, 2]) (by kernel_rfl) (by simp) ?_
        refine AllReadyIn.cons rfl (fun K hK => ?_) ?_
        · go_simp
          refine hK _ _ ?_
          clear hK K
          refine wpAnyIn_ready (rs := [2]) (by kernel_rfl) (by simp) ?_
          refine AllReadyIn.cons rfl (fun K hK => ?_) ?_
          · go_simp
            refine hK _ _ ?_
            clear hK K
            refine wpAnyIn_ready (rs := [3]) (by kernel_rfl) (by simp) ?_
            refine AllReadyIn.cons rfl (fun K hK => ?_) ?_
            · go_simp
              gi_wp2_with (refine ⟨trivial, ?_⟩; gi_at_call 172; refine (CallsIn.inRound l (callsIn_wide.2 (part_calls _ _ _ _))).mono ?_; rintro e W1 ⟨b1, b2, rfl, hpm, hb1⟩; have HA1 := Aside0.mk (HA.out.below hb1); have HP := Aside0.mk hpm; have HBB := Aside0.mk hb1; have q1' : W1.cell? ⟨w.heap.size + 1, 0, none⟩ = some v1 := blk_cell HA1.out.2.1 0; have q1'' : ∀ o, (W1.alloc o).cell? ⟨w.heap.size + 1, 0, none⟩ = some v1 := fun o => blk_cell (blk_alloc HA1.out.2.1 o) 0; clear hpm hb1; simp only [partC])
              try (refine hK _ _ ?_; clear hK K)
              refine wpAnyIn_ready (rs := [4]) (by kernel_rfl) (by simp) ?_
              refine AllReadyIn.cons rfl (fun K hK => ?_) ?_
              · go_simp
                refine hK _ _ ?_
                clear hK K
                refine wpAnyIn_ready (rs := [5]) (by kernel_rfl) (by simp) ?_
                refine AllReadyIn.cons rfl (fun K hK => ?_) ?_
                · refine step_append_RIn rfl kPart w.heap.size (.tmp 10) (.tmp 14) 148 148 154 154 (.agg #[.int .i64 0, .int .u8 0, .int .u8 0, .bool false, .int .u64 0, .nilFunc]) 40 rfl (by kernel_rfl) (by kernel_rfl) infoP rfl (by decide) (by decide) v1 (labP body k) [((k : Int), 0, s)] (some ⟨W1.heap.size, 0, none⟩) 1 1 (fun k => some k ≠ v2.ownBlock) (fun k => W.heap.size ≤ k) rfl rfl (HA1.out.below (below_alloc (Below.refl _ _) _)).2.2.2.1 (part_row (W := W.drew) HP.out) (fun x cs h => part_lower HA.out.2.2.2.2.2.size h) (fun k hk => ⟨(AllB.fresh HA.out hk).2, (AllB.fresh HA.out hk).1⟩) (fun k hk => (AllB.fresh (HA1.out.below (below_alloc (Below.refl _ _) _)) hk).2) (HA1.out.below (below_alloc (Below.refl _ _) (.cells (partC ((k : Int), 0, s) b1 b2).toArray 154))).2.2.2.2.2.size (by skip; omega) ?_
                  intro u3 w3 hR hg hat
                  obtain ⟨A3, c3, rfl⟩ := Kd.R_slice hR
                  obtain ⟨L3, hL3⟩ : ∃ L, L = ((labP body k) ++ [((k : Int), 0, s)]).length := ⟨_, rfl⟩
                  rw [← hL3] at hR hat ⊢
                  clear hL3
                  obtain ⟨hA3, hK3, q3, f3⟩ := (HA1.out.below (below_alloc (Below.refl _ _) (.cells (partC ((k : Int), 0, s) b1 b2).toArray 154))).add1 hR hg hat
                  have HA3 := Aside0.mk hA3
                  have HK3 := Aside0.mk ((RoundK.below (n0 := w.heap.size) (below_then (Below.refl _ W).drew (below_alloc HBB.out (.cells (partC ((k : Int), 0, s) b1 b2).toArray 154))) HA.out.2.2.2.2.2.size).trans hK3)
                  refine hK _ _ ?_
                  clear hK K hA3 hK3 hR hg hat
                  refine wpAnyIn_ready (rs := [6]) (by kernel_rfl) (by simp) ?_
                  refine AllReadyIn.cons rfl (fun K hK => ?_) ?_
                  · go_simp
                    refine hK _ _ ?_
                    clear hK K
                    refine wpAnyIn_done (by kernel_rfl) ?_ _
                    rw [HQ.out]
                    exact ⟨rfl, _, _, _, _, _, _, _, rfl, HA3.out, HK3.out⟩
                  exact AllReadyIn.nil
                exact AllReadyIn.nil
              exact AllReadyIn.nil
            exact AllReadyIn.nil
          exact AllReadyIn.nil
        refine AllReadyIn.cons rfl (fun K hK => ?_) ?_
        · go_simp
          refine hK _ _ ?_
          clear hK K
          refine wpAnyIn_ready (rs := [1]) (by kernel_rfl) (by simp) ?_
          refine AllReadyIn.cons rfl (fun K hK => ?_) ?_
          · go_simp
            refine hK _ _ ?_
            clear hK K
            refine wpAnyIn_ready (rs := [3]) (by kernel_rfl) (by simp) ?_
            refine AllReadyIn.cons rfl (fun K hK => ?_) ?_
            · go_simp
              gi_wp2_with (refine ⟨trivial, ?_⟩; gi_at_call 172; refine (CallsIn.inRound l (callsIn_wide.2 (part_calls _ _ _ _))).mono ?_; rintro e W1 ⟨b1, b2, rfl, hpm, hb1⟩; have HA1 := Aside0.mk (HA.out.below hb1); have HP := Aside0.mk hpm; have HBB := Aside0.mk hb1; have q1' : W1.cell? ⟨w.heap.size + 1, 0, none⟩ = some v1 := blk_cell HA1.out.2.1 0; have q1'' : ∀ o, (W1.alloc o).cell? ⟨w.heap.size + 1, 0, none⟩ = some v1 := fun o => blk_cell (blk_alloc HA1.out.2.1 o) 0; clear hpm hb1; simp only [partC])
              try (refine hK _ _ ?_; clear hK K)
              refine wpAnyIn_ready (rs := [4]) (by kernel_rfl) (by simp) ?_
              refine AllReadyIn.cons rfl (fun K hK => ?_) ?_
              · go_simp
                refine hK _ _ ?_
                clear hK K
                refine wpAnyIn_ready (rs := [5]) (by kernel_rfl) (by simp) ?_
                refine AllReadyIn.cons rfl (fun K hK => ?_) ?_
                · refine step_append_RIn rfl kPart w.heap.size (.tmp 10) (.tmp 14) 148 148 154 154 (.agg #[.int .i64 0, .int .u8 0, .int .u8 0, .bool false, .int .u64 0, .nilFunc]) 40 rfl (by kernel_rfl) (by kernel_rfl) infoP rfl (by decide) (by decide) v1 (labP body k) [((k : Int), 0, s)] (some ⟨W1.heap.size, 0, none⟩) 1 1 (fun k => some k ≠ v2.ownBlock) (fun k => W.heap.size ≤ k) rfl rfl (HA1.out.below (below_alloc (Below.refl _ _) _)).2.2.2.1 (part_row (W := W.drew) HP.out) (fun x cs h => part_lower HA.out.2.2.2.2.2.size h) (fun k hk => ⟨(AllB.fresh HA.out hk).2, (AllB.fresh HA.out hk).1⟩) (fun k hk => (AllB.fresh (HA1.out.below (below_alloc (Below.refl _ _) _)) hk).2) (HA1.out.below (below_alloc (Below.refl _ _) (.cells (partC ((k : Int), 0, s) b1 b2).toArray 154))).2.2.2.2.2.size (by skip; omega) ?_
                  intro u3 w3 hR hg hat
                  obtain ⟨A3, c3, rfl⟩ := Kd.R_slice hR
                  obtain ⟨L3, hL3⟩ : ∃ L, L = ((labP body k) ++ [((k : Int), 0, s)]).length := ⟨_, rfl⟩
                  rw [← hL3] at hR hat ⊢
                  clear hL3
                  obtain ⟨hA3, hK3, q3, f3⟩ := (HA1.out.below (below_alloc (Below.refl _ _) (.cells (partC ((k : Int), 0, s) b1 b2).toArray 154))).add1 hR hg hat
                  have HA3 := Aside0.mk hA3
                  have HK3 := Aside0.mk ((RoundK.below (n0 := w.heap.size) (below_then (Below.refl _ W).drew (below_alloc HBB.out (.cells (partC ((k : Int), 0, s) b1 b2).toArray 154))) HA.out.2.2.2.2.2.size).trans hK3)
                  refine hK _ _ ?_
                  clear hK K hA3 hK3 hR hg hat
                  refine wpAnyIn_ready (rs := [6]) (by kernel_rfl) (by simp) ?_
                  refine AllReadyIn.cons rfl (fun K hK => ?_) ?_
                  · go_simp
                    refine hK _ _ ?_
                    clear hK K
                    refine wpAnyIn_done (by kernel_rfl) ?_ _
                    rw [HQ.out]
                    exact ⟨rfl, _, _, _, _, _, _, _, rfl, HA3.out, HK3.out⟩
                  exact AllReadyIn.nil
                exact AllReadyIn.nil
              exact AllReadyIn.nil
            exact AllReadyIn.nil
          exact AllReadyIn.nil
        exact AllReadyIn.nil
      refine AllReadyIn.cons rfl (fun K hK => ?_) ?_
      · go_simp
        refine hK _ _ ?_
        clear hK K
        refine wpAnyIn_ready (rs := [0, 2]) (by kernel_rfl) (by simp) ?_
        refine AllReadyIn.cons rfl (fun K hK => ?_) ?_
        · go_simp
          refine hK _ _ ?_
          clear hK K
          refine wpAnyIn_ready (rs := [2]) (by kernel_rfl) (by simp) ?_
          refine AllReadyIn.cons rfl (fun K hK => ?_) ?_
          · go_simp
            refine hK _ _ ?_
            clear hK K
            refine wpAnyIn_ready (rs := [3]) (by kernel_rfl) (by simp) ?_
            refine AllReadyIn.cons rfl (fun K hK => ?_) ?_
            · go_simp
              gi_wp2_with (refine ⟨trivial, ?_⟩; gi_at_call 172; refine (CallsIn.inRound l (callsIn_wide.2 (part_calls _ _ _ _))).mono ?_; rintro e W1 ⟨b1, b2, rfl, hpm, hb1⟩; have HA1 := Aside0.mk (HA.out.below hb1); have HP := Aside0.mk hpm; have HBB := Aside0.mk hb1; have q1' : W1.cell? ⟨w.heap.size + 1, 0, none⟩ = some v1 := blk_cell HA1.out.2.1 0; have q1'' : ∀ o, (W1.alloc o).cell? ⟨w.heap.size + 1, 0, none⟩ = some v1 := fun o => blk_cell (blk_alloc HA1.out.2.1 o) 0; clear hpm hb1; simp only [partC])
              try (refine hK _ _ ?_; clear hK K)
              refine wpAnyIn_ready (rs := [4]) (by kernel_rfl) (by simp) ?_
              refine AllReadyIn.cons rfl (fun K hK => ?_) ?_
              · go_simp
                refine hK _ _ ?_
                clear hK K
                refine wpAnyIn_ready (rs := [5]) (by kernel_rfl) (by simp) ?_
                refine AllReadyIn.cons rfl (fun K hK => ?_) ?_
                · refine step_append_RIn rfl kPart w.heap.size (.tmp 10) (.tmp 14) 148 148 154 154 (.agg #[.int .i64 0, .int .u8 0, .int .u8 0, .bool false, .int .u64 0, .nilFunc]) 40 rfl (by kernel_rfl) (by kernel_rfl) infoP rfl (by decide) (by decide) v1 (labP body k) [((k : Int), 0, s)] (some ⟨W1.heap.size, 0, none⟩) 1 1 (fun k => some k ≠ v2.ownBlock) (fun k => W.heap.size ≤ k) rfl rfl (HA1.out.below (below_alloc (Below.refl _ _) _)).2.2.2.1 (part_row (W := W.drew) HP.out) (fun x cs h => part_lower HA.out.2.2.2.2.2.size h) (fun k hk => ⟨(AllB.fresh HA.out hk).2, (AllB.fresh HA.out hk).1⟩) (fun k hk => (AllB.fresh (HA1.out.below (below_alloc (Below.refl _ _) _)) hk).2) (HA1.out.below (below_alloc (Below.refl _ _) (.cells (partC ((k : Int), 0, s) b1 b2).toArray 154))).2.2.2.2.2.size (by skip; omega) ?_
                  intro u3 w3 hR hg hat
                  obtain ⟨A3, c3, rfl⟩ := Kd.R_slice hR
                  obtain ⟨L3, hL3⟩ : ∃ L, L = ((labP body k) ++ [((k : Int), 0, s)]).length := ⟨_, rfl⟩
                  rw [← hL3] at hR hat ⊢
                  clear hL3
                  obtain ⟨hA3, hK3, q3, f3⟩ := (HA1.out.below (below_alloc (Below.refl _ _) (.cells (partC ((k : Int), 0, s) b1 b2).toArray 154))).add1 hR hg hat
                  have HA3 := Aside0.mk hA3
                  have HK3 := Aside0.mk ((RoundK.below (n0 := w.heap.size) (below_then (Below.refl _ W).drew (below_alloc HBB.out (.cells (partC ((k : Int), 0, s) b1 b2).toArray 154))) HA.out.2.2.2.2.2.size).trans hK3)
                  refine hK _ _ ?_
                  clear hK K hA3 hK3 hR hg hat
                  refine wpAnyIn_ready (rs := [6]) (by kernel_rfl) (by simp) ?_
                  refine AllReadyIn.cons rfl (fun K hK => ?_) ?_
                  · go_simp
                    refine hK _ _ ?_
                    clear hK K
                    refine wpAnyIn_done (by kernel_rfl) ?_ _
                    rw [HQ.out]
                    exact ⟨rfl, _, _, _, _, _, _, _, rfl, HA3.out, HK3.out⟩
                  exact AllReadyIn.nil
                exact AllReadyIn.nil
              exact AllReadyIn.nil
            exact AllReadyIn.nil
          exact AllReadyIn.nil
        refine AllReadyIn.cons rfl (fun K hK => ?_) ?_
        · go_simp
          refine hK _ _ ?_
          clear hK K
          refine wpAnyIn_ready (rs := [0, 3]) (by kernel_rfl) (by simp) ?_
          refine AllReadyIn.cons rfl (fun K hK => ?_) ?_
          · go_simp
            refine hK _ _ ?_
            clear hK K
            refine wpAnyIn_ready (rs := [3]) (by kernel_rfl) (by simp) ?_
            refine AllReadyIn.cons rfl (fun K hK => ?_) ?_
            · go_simp
              gi_wp2_with (refine ⟨trivial, ?_⟩; gi_at_call 172; refine (CallsIn.inRound l (callsIn_wide.2 (part_calls _ _ _ _))).mono ?_; rintro e W1 ⟨b1, b2, rfl, hpm, hb1⟩; have HA1 := Aside0.mk (HA.out.below hb1); have HP := Aside0.mk hpm; have HBB := Aside0.mk hb1; have q1' : W1.cell? ⟨w.heap.size + 1, 0, none⟩ = some v1 := blk_cell HA1.out.2.1 0; have q1'' : ∀ o, (W1.alloc o).cell? ⟨w.heap.size + 1, 0, none⟩ = some v1 := fun o => blk_cell (blk_alloc HA1.out.2.1 o) 0; clear hpm hb1; simp only [partC])
              try (refine hK _ _ ?_; clear hK K)
              refine wpAnyIn_ready (rs := [4]) (by kernel_rfl) (by simp) ?_
              refine AllReadyIn.cons rfl (fun K hK => ?_) ?_
              · go_simp
                refine hK _ _ ?_
                clear hK K
                refine wpAnyIn_ready (rs := [5]) (by kernel_rfl) (by simp) ?_
                refine AllReadyIn.cons rfl (fun K hK => ?_) ?_
                · refine step_append_RIn rfl kPart w.heap.size (.tmp 10) (.tmp 14) 148 148 154 154 (.agg #[.int .i64 0, .int .u8 0, .int .u8 0, .bool false, .int .u64 0, .nilFunc]) 40 rfl (by kernel_rfl) (by kernel_rfl) infoP rfl (by decide) (by decide) v1 (labP body k) [((k : Int), 0, s)] (some ⟨W1.heap.size, 0, none⟩) 1 1 (fun k => some k ≠ v2.ownBlock) (fun k => W.heap.size ≤ k) rfl rfl (HA1.out.below (below_alloc (Below.refl _ _) _)).2.2.2.1 (part_row (W := W.drew) HP.out) (fun x cs h => part_lower HA.out.2.2.2.2.2.size h) (fun k hk => ⟨(AllB.fresh HA.out hk).2, (AllB.fresh HA.out hk).1⟩) (fun k hk => (AllB.fresh (HA1.out.below (below_alloc (Below.refl _ _) _)) hk).2) (HA1.out.below (below_alloc (Below.refl _ _) (.cells (partC ((k : Int), 0, s) b1 b2).toArray 154))).2.2.2.2.2.size (by skip; omega) ?_
                  intro u3 w3 hR hg hat
                  obtain ⟨A3, c3, rfl⟩ := Kd.R_slice hR
                  obtain ⟨L3, hL3⟩ : ∃ L, L = ((labP body k) ++ [((k : Int), 0, s)]).length := ⟨_, rfl⟩
                  rw [← hL3] at hR hat ⊢
                  clear hL3
                  obtain ⟨hA3, hK3, q3, f3⟩ := (HA1.out.below (below_alloc (Below.refl _ _) (.cells (partC ((k : Int), 0, s) b1 b2).toArray 154))).add1 hR hg hat
                  have HA3 := Aside0.mk hA3
                  have HK3 := Aside0.mk ((RoundK.below (n0 := w.heap.size) (below_then (Below.refl _ W).drew (below_alloc HBB.out (.cells (partC ((k : Int), 0, s) b1 b2).toArray 154))) HA.out.2.2.2.2.2.size).trans hK3)
                  refine hK _ _ ?_
                  clear hK K hA3 hK3 hR hg hat
                  refine wpAnyIn_ready (rs := [6]) (by kernel_rfl) (by simp) ?_
                  refine AllReadyIn.cons rfl (fun K hK => ?_) ?_
                  · go_simp
                    refine hK _ _ ?_
                    clear hK K
                    refine wpAnyIn_done (by kernel_rfl) ?_ _
                    rw [HQ.out]
                    exact ⟨rfl, _, _, _, _, _, _, _, rfl, HA3.out, HK3.out⟩
                  exact AllReadyIn.nil
                exact AllReadyIn.nil
              exact AllReadyIn.nil
            exact AllReadyIn.nil
          refine AllReadyIn.cons rfl (fun K hK => ?_) ?_
          · go_simp
            gi_wp2_with (refine ⟨trivial, ?_⟩; gi_at_call 172; refine (CallsIn.inRound l (callsIn_wide.2 (part_calls _ _ _ _))).mono ?_; rintro e W1 ⟨b1, b2, rfl, hpm, hb1⟩; have HA1 := Aside0.mk (HA.out.below hb1); have HP := Aside0.mk hpm; have HBB := Aside0.mk hb1; have q1' : W1.cell? ⟨w.heap.size + 1, 0, none⟩ = some v1 := blk_cell HA1.out.2.1 0; have q1'' : ∀ o, (W1.alloc o).cell? ⟨w.heap.size + 1, 0, none⟩ = some v1 := fun o => blk_cell (blk_alloc HA1.out.2.1 o) 0; clear hpm hb1; simp only [partC])
            try (refine hK _ _ ?_; clear hK K)
            refine wpAnyIn_ready (rs := [0, 4]) (by kernel_rfl) (by simp) ?_
            refine AllReadyIn.cons rfl (fun K hK => ?_) ?_
            · go_simp
              refine hK _ _ ?_
              clear hK K
              refine wpAnyIn_ready (rs := [4]) (by kernel_rfl) (by simp) ?_
              refine AllReadyIn.cons rfl (fun K hK => ?_) ?_
              · go_simp
                refine hK _ _ ?_
                clear hK K
                refine wpAnyIn_ready (rs := [5]) (by kernel_rfl) (by simp) ?_
                refine AllReadyIn.cons rfl (fun K hK => ?_) ?_
                · refine step_append_RIn rfl kPart w.heap.size (.tmp 10) (.tmp 14) 148 148 154 154 (.agg #[.int .i64 0, .int .u8 0, .int .u8 0, .bool false, .int .u64 0, .nilFunc]) 40 rfl (by kernel_rfl) (by kernel_rfl) infoP rfl (by decide) (by decide) v1 (labP body k) [((k : Int), 0, s)] (some ⟨W1.heap.size, 0, none⟩) 1 1 (fun k => some k ≠ v2.ownBlock) (fun k => W.heap.size ≤ k) rfl rfl (HA1.out.below (below_alloc (Below.refl _ _) _)).2.2.2.1 (part_row (W := W.drew) HP.out) (fun x cs h => part_lower HA.out.2.2.2.2.2.size h) (fun k hk => ⟨(AllB.fresh HA.out hk).2, (AllB.fresh HA.out hk).1⟩) (fun k hk => (AllB.fresh (HA1.out.below (below_alloc (Below.refl _ _) _)) hk).2) (HA1.out.below (below_alloc (Below.refl _ _) (.cells (partC ((k : Int), 0, s) b1 b2).toArray 154))).2.2.2.2.2.size (by skip; omega) ?_
                  intro u3 w3 hR hg hat
                  obtain ⟨A3, c3, rfl⟩ := Kd.R_slice hR
                  obtain ⟨L3, hL3⟩ : ∃ L, L = ((labP body k) ++ [((k : Int), 0, s)]).length := ⟨_, rfl⟩
                  rw [← hL3] at hR hat ⊢
                  clear hL3
                  obtain ⟨hA3, hK3, q3, f3⟩ := (HA1.out.below (below_alloc (Below.refl _ _) (.cells (partC ((k : Int), 0, s) b1 b2).toArray 154))).add1 hR hg hat
                  have HA3 := Aside0.mk hA3
                  have HK3 := Aside0.mk ((RoundK.below (n0 := w.heap.size) (below_then (Below.refl _ W).drew (below_alloc HBB.out (.cells (partC ((k : Int), 0, s) b1 b2).toArray 154))) HA.out.2.2.2.2.2.size).trans hK3)
                  refine hK _ _ ?_
                  clear hK K hA3 hK3 hR hg hat
                  refine wpAnyIn_ready (rs := [6]) (by kernel_rfl) (by simp) ?_
                  refine AllReadyIn.cons rfl (fun K hK => ?_) ?_
                  · go_simp
                    refine hK _ _ ?_
                    clear hK K
                    refine wpAnyIn_done (by kernel_rfl) ?_ _
                    rw [HQ.out]
                    exact ⟨rfl, _, _, _, _, _, _, _, rfl, HA3.out, HK3.out⟩
                  exact AllReadyIn.nil
                exact AllReadyIn.nil
              exact AllReadyIn.nil
            refine AllReadyIn.cons rfl (fun K hK => ?_) ?_
            · go_simp
              refine hK _ _ ?_
              clear hK K
              refine wpAnyIn_ready (rs := [0]) (by kernel_rfl) (by simp) ?_
              refine AllReadyIn.cons rfl (fun K hK => ?_) ?_
              · go_simp
                refine hK _ _ ?_
                clear hK K
                refine wpAnyIn_ready (rs := [5]) (by kernel_rfl) (by simp) ?_
                refine AllReadyIn.cons rfl (fun K hK => ?_) ?_
                · refine step_append_RIn rfl kPart w.heap.size (.tmp 10) (.tmp 14) 148 148 154 154 (.agg #[.int .i64 0, .int .u8 0, .int .u8 0, .bool false, .int .u64 0, .nilFunc]) 40 rfl (by kernel_rfl) (by kernel_rfl) infoP rfl (by decide) (by decide) v1 (labP body k) [((k : Int), 0, s)] (some ⟨W1.heap.size, 0, none⟩) 1 1 (fun k => some k ≠ v2.ownBlock) (fun k => W.heap.size ≤ k) rfl rfl (HA1.out.below (below_alloc (Below.refl _ _) _)).2.2.2.1 (part_row (W := W.drew) HP.out) (fun x cs h => part_lower HA.out.2.2.2.2.2.size h) (fun k hk => ⟨(AllB.fresh HA.out hk).2, (AllB.fresh HA.out hk).1⟩) (fun k hk => (AllB.fresh (HA1.out.below (below_alloc (Below.refl _ _) _)) hk).2) (HA1.out.below (below_alloc (Below.refl _ _) (.cells (partC ((k : Int), 0, s) b1 b2).toArray 154))).2.2.2.2.2.size (by skip; omega) ?_
                  intro u3 w3 hR hg hat
                  obtain ⟨A3, c3, rfl⟩ := Kd.R_slice hR
                  obtain ⟨L3, hL3⟩ : ∃ L, L = ((labP body k) ++ [((k : Int), 0, s)]).length := ⟨_, rfl⟩
                  rw [← hL3] at hR hat ⊢
                  clear hL3
                  obtain ⟨hA3, hK3, q3, f3⟩ := (HA1.out.below (below_alloc (Below.refl _ _) (.cells (partC ((k : Int), 0, s) b1 b2).toArray 154))).add1 hR hg hat
                  have HA3 := Aside0.mk hA3
                  have HK3 := Aside0.mk ((RoundK.below (n0 := w.heap.size) (below_then (Below.refl _ W).drew (below_alloc HBB.out (.cells (partC ((k : Int), 0, s) b1 b2).toArray 154))) HA.out.2.2.2.2.2.size).trans hK3)
                  refine hK _ _ ?_
                  clear hK K hA3 hK3 hR hg hat
                  refine wpAnyIn_ready (rs := [6]) (by kernel_rfl) (by simp) ?_
                  refine AllReadyIn.cons rfl (fun K hK => ?_) ?_
                  · go_simp
                    refine hK _ _ ?_
                    clear hK K
                    refine wpAnyIn_done (by kernel_rfl) ?_ _
                    rw [HQ.out]
                    exact ⟨rfl, _, _, _, _, _, _, _, rfl, HA3.out, HK3.out⟩
                  exact AllReadyIn.nil
                exact AllReadyIn.nil
              exact AllReadyIn.nil
            exact AllReadyIn.nil
          exact AllReadyIn.nil
        exact AllReadyIn.nil
      refine AllReadyIn.cons rfl (fun K hK => ?_) ?_
      · go_simp
        refine hK _ _ ?_
        clear hK K
        refine wpAnyIn_ready (rs := [0, 1]) (by kernel_rfl) (by simp) ?_
        refine AllReadyIn.cons rfl (fun K hK => ?_) ?_
        · go_simp
          refine hK _ _ ?_
          clear hK K
          refine wpAnyIn_ready (rs := [1]) (by kernel_rfl) (by simp) ?_
          refine AllReadyIn.cons rfl (fun K hK => ?_) ?_
          · go_simp
            refine hK _ _ ?_
            clear hK K
            refine wpAnyIn_ready (rs := [3]) (by kernel_rfl) (by simp) ?_
            refine AllReadyIn.cons rfl (fun K hK => ?_) ?_
            · go_simp
              gi_wp2_with (refine ⟨trivial, ?_⟩; gi_at_call 172; refine (CallsIn.inRound l (callsIn_wide.2 (part_calls _ _ _ _))).mono ?_; rintro e W1 ⟨b1, b2, rfl, hpm, hb1⟩; have HA1 := Aside0.mk (HA.out.below hb1); have HP := Aside0.mk hpm; have HBB := Aside0.mk hb1; have q1' : W1.cell? ⟨w.heap.size + 1, 0, none⟩ = some v1 := blk_cell HA1.out.2.1 0; have q1'' : ∀ o, (W1.alloc o).cell? ⟨w.heap.size + 1, 0, none⟩ = some v1 := fun o => blk_cell (blk_alloc HA1.out.2.1 o) 0; clear hpm hb1; simp only [partC])
              try (refine hK _ _ ?_; clear hK K)
              refine wpAnyIn_ready (rs := [4]) (by kernel_rfl) (by simp) ?_
              refine AllReadyIn.cons rfl (fun K hK => ?_) ?_
              · go_simp
                refine hK _ _ ?_
                clear hK K
                refine wpAnyIn_ready (rs := [5]) (by kernel_rfl) (by simp) ?_
                refine AllReadyIn.cons rfl (fun K hK => ?_) ?_
                · refine step_append_RIn rfl kPart w.heap.size (.tmp 10) (.tmp 14) 148 148 154 154 (.agg #[.int .i64 0, .int .u8 0, .int .u8 0, .bool false, .int .u64 0, .nilFunc]) 40 rfl (by kernel_rfl) (by kernel_rfl) infoP rfl (by decide) (by decide) v1 (labP body k) [((k : Int), 0, s)] (some ⟨W1.heap.size, 0, none⟩) 1 1 (fun k => some k ≠ v2.ownBlock) (fun k => W.heap.size ≤ k) rfl rfl (HA1.out.below (below_alloc (Below.refl _ _) _)).2.2.2.1 (part_row (W := W.drew) HP.out) (fun x cs h => part_lower HA.out.2.2.2.2.2.size h) (fun k hk => ⟨(AllB.fresh HA.out hk).2, (AllB.fresh HA.out hk).1⟩) (fun k hk => (AllB.fresh (HA1.out.below (below_alloc (Below.refl _ _) _)) hk).2) (HA1.out.below (below_alloc (Below.refl _ _) (.cells (partC ((k : Int), 0, s) b1 b2).toArray 154))).2.2.2.2.2.size (by skip; omega) ?_
                  intro u3 w3 hR hg hat
                  obtain ⟨A3, c3, rfl⟩ := Kd.R_slice hR
                  obtain ⟨L3, hL3⟩ : ∃ L, L = ((labP body k) ++ [((k : Int), 0, s)]).length := ⟨_, rfl⟩
                  rw [← hL3] at hR hat ⊢
                  clear hL3
                  obtain ⟨hA3, hK3, q3, f3⟩ := (HA1.out.below (below_alloc (Below.refl _ _) (.cells (partC ((k : Int), 0, s) b1 b2).toArray 154))).add1 hR hg hat
                  have HA3 := Aside0.mk hA3
                  have HK3 := Aside0.mk ((RoundK.below (n0 := w.heap.size) (below_then (Below.refl _ W).drew (below_alloc HBB.out (.cells (partC ((k : Int), 0, s) b1 b2).toArray 154))) HA.out.2.2.2.2.2.size).trans hK3)
                  refine hK _ _ ?_
                  clear hK K hA3 hK3 hR hg hat
                  refine wpAnyIn_ready (rs := [6]) (by kernel_rfl) (by simp) ?_
                  refine AllReadyIn.cons rfl (fun K hK => ?_) ?_
                  · go_simp
                    refine hK _ _ ?_
                    clear hK K
                    refine wpAnyIn_done (by kernel_rfl) ?_ _
                    rw [HQ.out]
                    exact ⟨rfl, _, _, _, _, _, _, _, rfl, HA3.out, HK3.out⟩
                  exact AllReadyIn.nil
                exact AllReadyIn.nil
              exact AllReadyIn.nil
            exact AllReadyIn.nil
          exact AllReadyIn.nil
        refine AllReadyIn.cons rfl (fun K hK => ?_) ?_
        · go_simp
          refine hK _ _ ?_
          clear hK K
          refine wpAnyIn_ready (rs := [0, 3]) (by kernel_rfl) (by simp) ?_
          refine AllReadyIn.cons rfl (fun K hK => ?_) ?_
          · go_simp
            refine hK _ _ ?_
            clear hK K
            refine wpAnyIn_ready (rs := [3]) (by kernel_rfl) (by simp) ?_
            refine AllReadyIn.cons rfl (fun K hK => ?_) ?_
            · go_simp
              gi_wp2_with (refine ⟨trivial, ?_⟩; gi_at_call 172; refine (CallsIn.inRound l (callsIn_wide.2 (part_calls _ _ _ _))).mono ?_; rintro e W1 ⟨b1, b2, rfl, hpm, hb1⟩; have HA1 := Aside0.mk (HA.out.below hb1); have HP := Aside0.mk hpm; have HBB := Aside0.mk hb1; have q1' : W1.cell? ⟨w.heap.size + 1, 0, none⟩ = some v1 := blk_cell HA1.out.2.1 0; have q1'' : ∀ o, (W1.alloc o).cell? ⟨w.heap.size + 1, 0, none⟩ = some v1 := fun o => blk_cell (blk_alloc HA1.out.2.1 o) 0; clear hpm hb1; simp only [partC])
              try (refine hK _ _ ?_; clear hK K)
              refine wpAnyIn_ready (rs := [4]) (by kernel_rfl) (by simp) ?_
              refine AllReadyIn.cons rfl (fun K hK => ?_) ?_
              · go_simp
                refine hK _ _ ?_
                clear hK K
                refine wpAnyIn_ready (rs := [5]) (by kernel_rfl) (by simp) ?_
                refine AllReadyIn.cons rfl (fun K hK => ?_) ?_
                · refine step_append_RIn rfl kPart w.heap.size (.tmp 10) (.tmp 14) 148 148 154 154 (.agg #[.int .i64 0, .int .u8 0, .int .u8 0, .bool false, .int .u64 0, .nilFunc]) 40 rfl (by kernel_rfl) (by kernel_rfl) infoP rfl (by decide) (by decide) v1 (labP body k) [((k : Int), 0, s)] (some ⟨W1.heap.size, 0, none⟩) 1 1 (fun k => some k ≠ v2.ownBlock) (fun k => W.heap.size ≤ k) rfl rfl (HA1.out.below (below_alloc (Below.refl _ _) _)).2.2.2.1 (part_row (W := W.drew) HP.out) (fun x cs h => part_lower HA.out.2.2.2.2.2.size h) (fun k hk => ⟨(AllB.fresh HA.out hk).2, (AllB.fresh HA.out hk).1⟩) (fun k hk => (AllB.fresh (HA1.out.below (below_alloc (Below.refl _ _) _)) hk).2) (HA1.out.below (below_alloc (Below.refl _ _) (.cells (partC ((k : Int), 0, s) b1 b2).toArray 154))).2.2.2.2.2.size (by skip; omega) ?_
                  intro u3 w3 hR hg hat
                  obtain ⟨A3, c3, rfl⟩ := Kd.R_slice hR
                  obtain ⟨L3, hL3⟩ : ∃ L, L = ((labP body k) ++ [((k : Int), 0, s)]).length := ⟨_, rfl⟩
                  rw [← hL3] at hR hat ⊢
                  clear hL3
                  obtain ⟨hA3, hK3, q3, f3⟩ := (HA1.out.below (below_alloc (Below.refl _ _) (.cells (partC ((k : Int), 0, s) b1 b2).toArray 154))).add1 hR hg hat
                  have HA3 := Aside0.mk hA3
                  have HK3 := Aside0.mk ((RoundK.below (n0 := w.heap.size) (below_then (Below.refl _ W).drew (below_alloc HBB.out (.cells (partC ((k : Int), 0, s) b1 b2).toArray 154))) HA.out.2.2.2.2.2.size).trans hK3)
                  refine hK _ _ ?_
                  clear hK K hA3 hK3 hR hg hat
                  refine wpAnyIn_ready (rs := [6]) (by kernel_rfl) (by simp) ?_
                  refine AllReadyIn.cons rfl (fun K hK => ?_) ?_
                  · go_simp
                    refine hK _ _ ?_
                    clear hK K
                    refine wpAnyIn_done (by kernel_rfl) ?_ _
                    rw [HQ.out]
                    exact ⟨rfl, _, _, _, _, _, _, _, rfl, HA3.out, HK3.out⟩
                  exact AllReadyIn.nil
                exact AllReadyIn.nil
              exact AllReadyIn.nil
            exact AllReadyIn.nil
          refine AllReadyIn.cons rfl (fun K hK => ?_) ?_
          · go_simp
            gi_wp2_with (refine ⟨trivial, ?_⟩; gi_at_call 172; refine (CallsIn.inRound l (callsIn_wide.2 (part_calls _ _ _ _))).mono ?_; rintro e W1 ⟨b1, b2, rfl, hpm, hb1⟩; have HA1 := Aside0.mk (HA.out.below hb1); have HP := Aside0.mk hpm; have HBB := Aside0.mk hb1; have q1' : W1.cell? ⟨w.heap.size + 1, 0, none⟩ = some v1 := blk_cell HA1.out.2.1 0; have q1'' : ∀ o, (W1.alloc o).cell? ⟨w.heap.size + 1, 0, none⟩ = some v1 := fun o => blk_cell (blk_alloc HA1.out.2.1 o) 0; clear hpm hb1; simp only [partC])
            try (refine hK _ _ ?_; clear hK K)
            refine wpAnyIn_ready (rs := [0, 4]) (by kernel_rfl) (by simp) ?_
            refine AllReadyIn.cons rfl (fun K hK => ?_) ?_
            · go_simp
              refine hK _ _ ?_
              clear hK K
              refine wpAnyIn_ready (rs := [4]) (by kernel_rfl) (by simp) ?_
              refine AllReadyIn.cons rfl (fun K hK => ?_) ?_
              · go_simp
                refine hK _ _ ?_
                clear hK K
                refine wpAnyIn_ready (rs := [5]) (by kernel_rfl) (by simp) ?_
                refine AllReadyIn.cons rfl (fun K hK => ?_) ?_
                · refine step_append_RIn rfl kPart w.heap.size (.tmp 10) (.tmp 14) 148 148 154 154 (.agg #[.int .i64 0, .int .u8 0, .int .u8 0, .bool false, .int .u64 0, .nilFunc]) 40 rfl (by kernel_rfl) (by kernel_rfl) infoP rfl (by decide) (by decide) v1 (labP body k) [((k : Int), 0, s)] (some ⟨W1.heap.size, 0, none⟩) 1 1 (fun k => some k ≠ v2.ownBlock) (fun k => W.heap.size ≤ k) rfl rfl (HA1.out.below (below_alloc (Below.refl _ _) _)).2.2.2.1 (part_row (W := W.drew) HP.out) (fun x cs h => part_lower HA.out.2.2.2.2.2.size h) (fun k hk => ⟨(AllB.fresh HA.out hk).2, (AllB.fresh HA.out hk).1⟩) (fun k hk => (AllB.fresh (HA1.out.below (below_alloc (Below.refl _ _) _)) hk).2) (HA1.out.below (below_alloc (Below.refl _ _) (.cells (partC ((k : Int), 0, s) b1 b2).toArray 154))).2.2.2.2.2.size (by skip; omega) ?_
                  intro u3 w3 hR hg hat
                  obtain ⟨A3, c3, rfl⟩ := Kd.R_slice hR
                  obtain ⟨L3, hL3⟩ : ∃ L, L = ((labP body k) ++ [((k : Int), 0, s)]).length := ⟨_, rfl⟩
                  rw [← hL3] at hR hat ⊢
                  clear hL3
                  obtain ⟨hA3, hK3, q3, f3⟩ := (HA1.out.below (below_alloc (Below.refl _ _) (.cells (partC ((k : Int), 0, s) b1 b2).toArray 154))).add1 hR hg hat
                  have HA3 := Aside0.mk hA3
                  have HK3 := Aside0.mk ((RoundK.below (n0 := w.heap.size) (below_then (Below.refl _ W).drew (below_alloc HBB.out (.cells (partC ((k : Int), 0, s) b1 b2).toArray 154))) HA.out.2.2.2.2.2.size).trans hK3)
                  refine hK _ _ ?_
                  clear hK K hA3 hK3 hR hg hat
                  refine wpAnyIn_ready (rs := [6]) (by kernel_rfl) (by simp) ?_
                  refine AllReadyIn.cons rfl (fun K hK => ?_) ?_
                  · go_simp
                    refine hK _ _ ?_
                    clear hK K
                    refine wpAnyIn_done (by kernel_rfl) ?_ _
                    rw [HQ.out]
                    exact ⟨rfl, _, _, _, _, _, _, _, rfl, HA3.out, HK3.out⟩
                  exact AllReadyIn.nil
                exact AllReadyIn.nil
              exact AllReadyIn.nil
            refine AllReadyIn.cons rfl (fun K hK => ?_) ?_
            · go_simp
              refine hK _ _ ?_
              clear hK K
              refine wpAnyIn_ready (rs := [0]) (by kernel_rfl) (by simp) ?_
              refine AllReadyIn.cons rfl (fun K hK => ?_) ?_
              · go_simp
                refine hK _ _ ?_
                clear hK K
                refine wpAnyIn_ready (rs := [5]) (by kernel_rfl) (by simp) ?_
                refine AllReadyIn.cons rfl (fun K hK => ?_) ?_
                · refine step_append_RIn rfl kPart w.heap.size (.tmp 10) (.tmp 14) 148 148 154 154 (.agg #[.int .i64 0, .int .u8 0, .int .u8 0, .bool false, .int .u64 0, .nilFunc]) 40 rfl (by kernel_rfl) (by kernel_rfl) infoP rfl (by decide) (by decide) v1 (labP body k) [((k : Int), 0, s)] (some ⟨W1.heap.size, 0, none⟩) 1 1 (fun k => some k ≠ v2.ownBlock) (fun k => W.heap.size ≤ k) rfl rfl (HA1.out.below (below_alloc (Below.refl _ _) _)).2.2.2.1 (part_row (W := W.drew) HP.out) (fun x cs h => part_lower HA.out.2.2.2.2.2.size h) (fun k hk => ⟨(AllB.fresh HA.out hk).2, (AllB.fresh HA.out hk).1⟩) (fun k hk => (AllB.fresh (HA1.out.below (below_alloc (Below.refl _ _) _)) hk).2) (HA1.out.below (below_alloc (Below.refl _ _) (.cells (partC ((k : Int), 0, s) b1 b2).toArray 154))).2.2.2.2.2.size (by skip; omega) ?_
                  intro u3 w3 hR hg hat
                  obtain ⟨A3, c3, rfl⟩ := Kd.R_slice hR
                  obtain ⟨L3, hL3⟩ : ∃ L, L = ((labP body k) ++ [((k : Int), 0, s)]).length := ⟨_, rfl⟩
                  rw [← hL3] at hR hat ⊢
                  clear hL3
                  obtain ⟨hA3, hK3, q3, f3⟩ := (HA1.out.below (below_alloc (Below.refl _ _) (.cells (partC ((k : Int), 0, s) b1 b2).toArray 154))).add1 hR hg hat
                  have HA3 := Aside0.mk hA3
                  have HK3 := Aside0.mk ((RoundK.below (n0 := w.heap.size) (below_then (Below.refl _ W).drew (below_alloc HBB.out (.cells (partC ((k : Int), 0, s) b1 b2).toArray 154))) HA.out.2.2.2.2.2.size).trans hK3)
                  refine hK _ _ ?_
                  clear hK K hA3 hK3 hR hg hat
                  refine wpAnyIn_ready (rs := [6]) (by kernel_rfl) (by simp) ?_
                  refine AllReadyIn.cons rfl (fun K hK => ?_) ?_
                  · go_simp
                    refine hK _ _ ?_
                    clear hK K
                    refine wpAnyIn_done (by kernel_rfl) ?_ _
                    rw [HQ.out]
                    exact ⟨rfl, _, _, _, _, _, _, _, rfl, HA3.out, HK3.out⟩
                  exact AllReadyIn.nil
                exact AllReadyIn.nil
              exact AllReadyIn.nil
            exact AllReadyIn.nil
          exact AllReadyIn.nil
        exact AllReadyIn.nil
      exact AllReadyIn.nil
    case k4 =>
      rw [HQ.out]
      rintro e a' W ⟨rfl, t10, t11, t12, t13, t14, t15, v1, rfl, hA4, hK4⟩
      clear HQ q1 HA HA0
      have HK4 := Aside0.mk hK4
      obtain ⟨ad', e', c0, -⟩ := C_nodeN (Kd.C_below HR.out hA4.2.2.2.2.2) k hkb
      cases e'
      rw [← HND.out] at c0
      have q0 : W.cell? ⟨w.heap.size, 0, none⟩ = some (.slice (some ad) N c) := blk_cell hA4.1 0
      have q1 : W.cell? ⟨w.heap.size + 1, 0, none⟩ = some v1 := blk_cell hA4.2.1 0
      have HA := Aside0.mk hA4.drew
      have HA0 := Aside0.mk hA4
      clear hA4 hK4
      by_cases k5 : nd.f0 = 5
      · rw [k5] at c0
        gi_wp2
        obtain ⟨Q6, hQ6⟩ : ∃ Q6, Q6 = (fun (e : Exit) (a' : Act) (W' : World) => e = Exit.normal ∧ ∃ t22 t23 t24 t25 t26 t27 t28 u : Value, a' = { tmps := #[.slice (some ad) N c, .pointer (some ⟨w.heap.size, 0, none⟩), .pointer (some ⟨w.heap.size + 1, 0, none⟩), .pointer (some ⟨w.heap.size + 1 + 1, 0, none⟩), .int .i64 (k : Int), .int .u8 s, .slice (some ad) N c, .func (.func 205) #[] #[.pointer (some ⟨w.heap.size + 1 + 1 + 1, 0, none⟩)], .int .i64 (k : Int), .int .u8 s, t10, t11, t12, t13, t14, t15, .slice (some ad) N c, .int .i64 (k : Int), .pointer (some (ad.add (k * 10))), .pointer (some (ad.add (k * 10))), .int .u8 5, .bool true, t22, t23, t24, t25, t26, t27, t28, undef, undef, undef, undef, undef, undef, undef, undef], defers := [] } ∧ AllB w (some ad) N c W' u v2 (labP body k ++ [((k : Int), 0, s)] ++ [((k : Int), 1, turnI s)]) (effP body k) ∧ RoundK w.heap.size W W') := ⟨_, rfl⟩
        have HQ := Aside0.mk hQ6
        clear hQ6
        refine wpIn_mono (Q := Q6) ?r6 ?k6
        case r6 =>
          refine wpIn_region_any (by assumption) ?_
          change wpAnyIn _ _ _ _ _ _ _ _ _ (World.drew _)
          refine wpAnyIn_ready (rs := [0, 1, 2]) (by kernel_rfl) (by simp) ?_
          refine AllReadyIn.cons rfl (fun K hK => ?_) ?_
          · go_simp
            refine hK _ _ ?_
            clear hK K
            refine wpAnyIn_ready (rs := [1, 2]) (by kernel_rfl) (by simp) ?_
            refine AllReadyIn.cons rfl (fun K hK => ?_) ?_
            · go_simp
              refine hK _ _ ?_
              clear hK K
              refine wpAnyIn_ready (rs := [2]) (by kernel_rfl) (by simp) ?_
              refine AllReadyIn.cons rfl (fun K hK => ?_) ?_
              · go_simp
                refine hK _ _ ?_
                clear hK K
                refine wpAnyIn_ready (rs := [3]) (by kernel_rfl) (by simp) ?_
                refine AllReadyIn.cons rfl (fun K hK => ?_) ?_
                · go_simp
                  gi_wp2_with (refine ⟨trivial, ?_⟩; gi_at_call 173; refine (CallsIn.inRound l (callsIn_wide.2 (turned_calls _ _))).mono ?_; rintro e W1 ⟨rfl, rfl⟩)
                  try (refine hK _ _ ?_; clear hK K)
                  refine wpAnyIn_ready (rs := [4]) (by kernel_rfl) (by simp) ?_
                  refine AllReadyIn.cons rfl (fun K hK => ?_) ?_
                  · go_simp
                    gi_wp2_with (refine ⟨trivial, ?_⟩; gi_at_call 172; refine (CallsIn.inRound l (callsIn_wide.2 (part_calls _ _ _ _))).mono ?_; rintro e W1 ⟨b1, b2, rfl, hpm, hb1⟩; have HA1 := Aside0.mk (HA.out.below hb1); have HP := Aside0.mk hpm; have HBB := Aside0.mk hb1; have q1' : W1.cell? ⟨w.heap.size + 1, 0, none⟩ = some v1 := blk_cell HA1.out.2.1 0; have q1'' : ∀ o, (W1.alloc o).cell? ⟨w.heap.size + 1, 0, none⟩ = some v1 := fun o => blk_cell (blk_alloc HA1.out.2.1 o) 0; clear hpm hb1; simp only [partC])
                    try (refine hK _ _ ?_; clear hK K)
                    refine wpAnyIn_ready (rs := [5]) (by kernel_rfl) (by simp) ?_
                    refine AllReadyIn.cons rfl (fun K hK => ?_) ?_
                    · go_simp
                      refine hK _ _ ?_
                      clear hK K
                      refine wpAnyIn_ready (rs := [6]) (by kernel_rfl) (by simp) ?_
                      refine AllReadyIn.cons rfl (fun K hK => ?_) ?_
                      · refine step_append_RIn rfl kPart w.heap.size (.tmp 22) (.tmp 27) 148 148 154 154 (.agg #[.int .i64 0, .int .u8 0, .int .u8 0, .bool false, .int .u64 0, .nilFunc]) 40 rfl (by kernel_rfl) (by kernel_rfl) infoP rfl (by decide) (by decide) v1 (labP body k ++ [((k : Int), 0, s)]) [((k : Int), 1, turnI s)] (some ⟨W1.heap.size, 0, none⟩) 1 1 (fun k => some k ≠ v2.ownBlock) (fun k => W.heap.size ≤ k) rfl rfl (HA1.out.below (below_alloc (Below.refl _ _) _)).2.2.2.1 (part_row (W := W.drew) HP.out) (fun x cs h => part_lower HA.out.2.2.2.2.2.size h) (fun k hk => ⟨(AllB.fresh HA.out hk).2, (AllB.fresh HA.out hk).1⟩) (fun k hk => (AllB.fresh (HA1.out.below (below_alloc (Below.refl _ _) _)) hk).2) (HA1.out.below (below_alloc (Below.refl _ _) (.cells (partC ((k : Int), 1, turnI s) b1 b2).toArray 154))).2.2.2.2.2.size (by rw [List.length_append, List.length_singleton]; omega) ?_
                        intro u3 w3 hR hg hat
                        obtain ⟨A3, c3, rfl⟩ := Kd.R_slice hR
                        obtain ⟨L3, hL3⟩ : ∃ L, L = ((labP body k ++ [((k : Int), 0, s)]) ++ [((k : Int), 1, turnI s)]).length := ⟨_, rfl⟩
                        rw [← hL3] at hR hat ⊢
                        clear hL3
                        obtain ⟨hA3, hK3, q3, f3⟩ := (HA1.out.below (below_alloc (Below.refl _ _) (.cells (partC ((k : Int), 1, turnI s) b1 b2).toArray 154))).add1 hR hg hat
                        have HA3 := Aside0.mk hA3
                        have HK3 := Aside0.mk ((RoundK.below (n0 := w.heap.size) (below_then (Below.refl _ W).drew (below_alloc HBB.out (.cells (partC ((k : Int), 1, turnI s) b1 b2).toArray 154))) HA.out.2.2.2.2.2.size).trans hK3)
                        refine hK _ _ ?_
                        clear hK K hA3 hK3 hR hg hat
                        refine wpAnyIn_ready (rs := [7]) (by kernel_rfl) (by simp) ?_
                        refine AllReadyIn.cons rfl (fun K hK => ?_) ?_
                        · go_simp
                          refine hK _ _ ?_
                          clear hK K
                          refine wpAnyIn_done (by kernel_rfl) ?_ _
                          rw [HQ.out]
                          exact ⟨rfl, _, _, _, _, _, _, _, _, rfl, HA3.out, HK3.out⟩
                        exact AllReadyIn.nil
                      exact AllReadyIn.nil
                    exact AllReadyIn.nil
                  exact AllReadyIn.nil
                exact AllReadyIn.nil
              exact AllReadyIn.nil
            refine AllReadyIn.cons rfl (fun K hK => ?_) ?_
            · go_simp
              refine hK _ _ ?_
              clear hK K
              refine wpAnyIn_ready (rs := [1, 3]) (by kernel_rfl) (by simp) ?_
              refine AllReadyIn.cons rfl (fun K hK => ?_) ?_
              · go_simp
                refine hK _ _ ?_
                clear hK K
                refine wpAnyIn_ready (rs := [3]) (by kernel_rfl) (by simp) ?_
                refine AllReadyIn.cons rfl (fun K hK => ?_) ?_
                · go_simp
                  gi_wp2_with (refine ⟨trivial, ?_⟩; gi_at_call 173; refine (CallsIn.inRound l (callsIn_wide.2 (turned_calls _ _))).mono ?_; rintro e W1 ⟨rfl, rfl⟩)
                  try (refine hK _ _ ?_; clear hK K)
                  refine wpAnyIn_ready (rs := [4]) (by kernel_rfl) (by simp) ?_
                  refine AllReadyIn.cons rfl (fun K hK => ?_) ?_
                  · go_simp
                    gi_wp2_with (refine ⟨trivial, ?_⟩; gi_at_call 172; refine (CallsIn.inRound l (callsIn_wide.2 (part_calls _ _ _ _))).mono ?_; rintro e W1 ⟨b1, b2, rfl, hpm, hb1⟩; have HA1 := Aside0.mk (HA.out.below hb1); have HP := Aside0.mk hpm; have HBB := Aside0.mk hb1; have q1' : W1.cell? ⟨w.heap.size + 1, 0, none⟩ = some v1 := blk_cell HA1.out.2.1 0; have q1'' : ∀ o, (W1.alloc o).cell? ⟨w.heap.size + 1, 0, none⟩ = some v1 := fun o => blk_cell (blk_alloc HA1.out.2.1 o) 0; clear hpm hb1; simp only [partC])
                    try (refine hK _ _ ?_; clear hK K)
                    refine wpAnyIn_ready (rs := [5]) (by kernel_rfl) (by simp) ?_
                    refine AllReadyIn.cons rfl (fun K hK => ?_) ?_
                    · go_simp
                      refine hK _ _ ?_
                      clear hK K
                      refine wpAnyIn_ready (rs := [6]) (by kernel_rfl) (by simp) ?_
                      refine AllReadyIn.cons rfl (fun K hK => ?_) ?_
                      · refine step_append_RIn rfl kPart w.heap.size (.tmp 22) (.tmp 27) 148 148 154 154 (.agg #[.int .i64 0, .int .u8 0, .int .u8 0, .bool false, .int .u64 0, .nilFunc]) 40 rfl (by kernel_rfl) (by kernel_rfl) infoP rfl (by decide) (by decide) v1 (labP body k ++ [((k : Int), 0, s)]) [((k : Int), 1, turnI s)] (some ⟨W1.heap.size, 0, none⟩) 1 1 (fun k => some k ≠ v2.ownBlock) (fun k => W.heap.size ≤ k) rfl rfl (HA1.out.below (below_alloc (Below.refl _ _) _)).2.2.2.1 (part_row (W := W.drew) HP.out) (fun x cs h => part_lower HA.out.2.2.2.2.2.size h) (fun k hk => ⟨(AllB.fresh HA.out hk).2, (AllB.fresh HA.out hk).1⟩) (fun k hk => (AllB.fresh (HA1.out.below (below_alloc (Below.refl _ _) _)) hk).2) (HA1.out.below (below_alloc (Below.refl _ _) (.cells (partC ((k : Int), 1, turnI s) b1 b2).toArray 154))).2.2.2.2.2.size (by rw [List.length_append, List.length_singleton]; omega) ?_
                        intro u3 w3 hR hg hat
                        obtain ⟨A3, c3, rfl⟩ := Kd.R_slice hR
                        obtain ⟨L3, hL3⟩ : ∃ L, L = ((labP body k ++ [((k : Int), 0, s)]) ++ [((k : Int), 1, turnI s)]).length := ⟨_, rfl⟩
                        rw [← hL3] at hR hat ⊢
                        clear hL3
                        obtain ⟨hA3, hK3, q3, f3⟩ := (HA1.out.below (below_alloc (Below.refl _ _) (.cells (partC ((k : Int), 1, turnI s) b1 b2).toArray 154))).add1 hR hg hat
                        have HA3 := Aside0.mk hA3
                        have HK3 := Aside0.mk ((RoundK.below (n0 := w.heap.size) (below_then (Below.refl _ W).drew (below_alloc HBB.out (.cells (partC ((k : Int), 1, turnI s) b1 b2).toArray 154))) HA.out.2.2.2.2.2.size).trans hK3)
                        refine hK _ _ ?_
                        clear hK K hA3 hK3 hR hg hat
                        refine wpAnyIn_ready (rs := [7]) (by kernel_rfl) (by simp) ?_
                        refine AllReadyIn.cons rfl (fun K hK => ?_) ?_
                        · go_simp
                          refine hK _ _ ?_
                          clear hK K
                          refine wpAnyIn_done (by kernel_rfl) ?_ _
                          rw [HQ.out]
                          exact ⟨rfl, _, _, _, _, _, _, _, _, rfl, HA3.out, HK3.out⟩
                        exact AllReadyIn.nil
                      exact AllReadyIn.nil
                    exact AllReadyIn.nil
                  exact AllReadyIn.nil
                exact AllReadyIn.nil
              refine AllReadyIn.cons rfl (fun K hK => ?_) ?_
              · go_simp
                gi_wp2_with (refine ⟨trivial, ?_⟩; gi_at_call 173; refine (CallsIn.inRound l (callsIn_wide.2 (turned_calls _ _))).mono ?_; rintro e W1 ⟨rfl, rfl⟩)
                try (refine hK _ _ ?_; clear hK K)
                refine wpAnyIn_ready (rs := [1]) (by kernel_rfl) (by simp) ?_
                refine AllReadyIn.cons rfl (fun K hK => ?_) ?_
                · go_simp
                  refine hK _ _ ?_
                  clear hK K
                  refine wpAnyIn_ready (rs := [4]) (by kernel_rfl) (by simp) ?_
                  refine AllReadyIn.cons rfl (fun K hK => ?_) ?_
                  · go_simp
                    gi_wp2_with (refine ⟨trivial, ?_⟩; gi_at_call 172; refine (CallsIn.inRound l (callsIn_wide.2 (part_calls _ _ _ _))).mono ?_; rintro e W1 ⟨b1, b2, rfl, hpm, hb1⟩; have HA1 := Aside0.mk (HA.out.below hb1); have HP := Aside0.mk hpm; have HBB := Aside0.mk hb1; have q1' : W1.cell? ⟨w.heap.size + 1, 0, none⟩ = some v1 := blk_cell HA1.out.2.1 0; have q1'' : ∀ o, (W1.alloc o).cell? ⟨w.heap.size + 1, 0, none⟩ = some v1 := fun o => blk_cell (blk_alloc HA1.out.2.1 o) 0; clear hpm hb1; simp only [partC])
                    try (refine hK _ _ ?_; clear hK K)
                    refine wpAnyIn_ready (rs := [5]) (by kernel_rfl) (by simp) ?_
                    refine AllReadyIn.cons rfl (fun K hK => ?_) ?_
                    · go_simp
                      refine hK _ _ ?_
                      clear hK K
                      refine wpAnyIn_ready (rs := [6]) (by kernel_rfl) (by simp) ?_
                      refine AllReadyIn.cons rfl (fun K hK => ?_) ?_
                      · refine step_append_RIn rfl kPart w.heap.size (.tmp 22) (.tmp 27) 148 148 154 154 (.agg #[.int .i64 0, .int .u8 0, .int .u8 0, .bool false, .int .u64 0, .nilFunc]) 40 rfl (by kernel_rfl) (by kernel_rfl) infoP rfl (by decide) (by decide) v1 (labP body k ++ [((k : Int), 0, s)]) [((k : Int), 1, turnI s)] (some ⟨W1.heap.size, 0, none⟩) 1 1 (fun k => some k ≠ v2.ownBlock) (fun k => W.heap.size ≤ k) rfl rfl (HA1.out.below (below_alloc (Below.refl _ _) _)).2.2.2.1 (part_row (W := W.drew) HP.out) (fun x cs h => part_lower HA.out.2.2.2.2.2.size h) (fun k hk => ⟨(AllB.fresh HA.out hk).2, (AllB.fresh HA.out hk).1⟩) (fun k hk => (AllB.fresh (HA1.out.below (below_alloc (Below.refl _ _) _)) hk).2) (HA1.out.below (below_alloc (Below.refl _ _) (.cells (partC ((k : Int), 1, turnI s) b1 b2).toArray 154))).2.2.2.2.2.size (by rw [List.length_append, List.length_singleton]; omega) ?_
                        intro u3 w3 hR hg hat
                        obtain ⟨A3, c3, rfl⟩ := Kd.R_slice hR
                        obtain ⟨L3, hL3⟩ : ∃ L, L = ((labP body k ++ [((k : Int), 0, s)]) ++ [((k : Int), 1, turnI s)]).length := ⟨_, rfl⟩
                        rw [← hL3] at hR hat ⊢
                        clear hL3
                        obtain ⟨hA3, hK3, q3, f3⟩ := (HA1.out.below (below_alloc (Below.refl _ _) (.cells (partC ((k : Int), 1, turnI s) b1 b2).toArray 154))).add1 hR hg hat
                        have HA3 := Aside0.mk hA3
                        have HK3 := Aside0.mk ((RoundK.below (n0 := w.heap.size) (below_then (Below.refl _ W).drew (below_alloc HBB.out (.cells (partC ((k : Int), 1, turnI s) b1 b2).toArray 154))) HA.out.2.2.2.2.2.size).trans hK3)
                        refine hK _ _ ?_
                        clear hK K hA3 hK3 hR hg hat
                        refine wpAnyIn_ready (rs := [7]) (by kernel_rfl) (by simp) ?_
                        refine AllReadyIn.cons rfl (fun K hK => ?_) ?_
                        · go_simp
                          refine hK _ _ ?_
                          clear hK K
                          refine wpAnyIn_done (by kernel_rfl) ?_ _
                          rw [HQ.out]
                          exact ⟨rfl, _, _, _, _, _, _, _, _, rfl, HA3.out, HK3.out⟩
                        exact AllReadyIn.nil
                      exact AllReadyIn.nil
                    exact AllReadyIn.nil
                  exact AllReadyIn.nil
                exact AllReadyIn.nil
              exact AllReadyIn.nil
            exact AllReadyIn.nil
          refine AllReadyIn.cons rfl (fun K hK => ?_) ?_
          · go_simp
            refine hK _ _ ?_
            clear hK K
            refine wpAnyIn_ready (rs := [0, 2]) (by kernel_rfl) (by simp) ?_
            refine AllReadyIn.cons rfl (fun K hK => ?_) ?_
            · go_simp
              refine hK _ _ ?_
              clear hK K
              refine wpAnyIn_ready (rs := [2]) (by kernel_rfl) (by simp) ?_
              refine AllReadyIn.cons rfl (fun K hK => ?_) ?_
              · go_simp
                refine hK _ _ ?_
                clear hK K
                refine wpAnyIn_ready (rs := [3]) (by kernel_rfl) (by simp) ?_
                refine AllReadyIn.cons rfl (fun K hK => ?_) ?_
                · go_simp
                  gi_wp2_with (refine ⟨trivial, ?_⟩; gi_at_call 173; refine (CallsIn.inRound l (callsIn_wide.2 (turned_calls _ _))).mono ?_; rintro e W1 ⟨rfl, rfl⟩)
                  try (refine hK _ _ ?_; clear hK K)
                  refine wpAnyIn_ready (rs := [4]) (by kernel_rfl) (by simp) ?_
                  refine AllReadyIn.cons rfl (fun K hK => ?_) ?_
                  · go_simp
                    gi_wp2_with (refine ⟨trivial, ?_⟩; gi_at_call 172; refine (CallsIn.inRound l (callsIn_wide.2 (part_calls _ _ _ _))).mono ?_; rintro e W1 ⟨b1, b2, rfl, hpm, hb1⟩; have HA1 := Aside0.mk (HA.out.below hb1); have HP := Aside0.mk hpm; have HBB := Aside0.mk hb1; have q1' : W1.cell? ⟨w.heap.size + 1, 0, none⟩ = some v1 := blk_cell HA1.out.2.1 0; have q1'' : ∀ o, (W1.alloc o).cell? ⟨w.heap.size + 1, 0, none⟩ = some v1 := fun o => blk_cell (blk_alloc HA1.out.2.1 o) 0; clear hpm hb1; simp only [partC])
                    try (refine hK _ _ ?_; clear hK K)
                    refine wpAnyIn_ready (rs := [5]) (by kernel_rfl) (by simp) ?_
                    refine AllReadyIn.cons rfl (fun K hK => ?_) ?_
                    · go_simp
                      refine hK _ _ ?_
                      clear hK K
                      refine wpAnyIn_ready (rs := [6]) (by kernel_rfl) (by simp) ?_
                      refine AllReadyIn.cons rfl (fun K hK => ?_) ?_
                      · refine step_append_RIn rfl kPart w.heap.size (.tmp 22) (.tmp 27) 148 148 154 154 (.agg #[.int .i64 0, .int .u8 0, .int .u8 0, .bool false, .int .u64 0, .nilFunc]) 40 rfl (by kernel_rfl) (by kernel_rfl) infoP rfl (by decide) (by decide) v1 (labP body k ++ [((k : Int), 0, s)]) [((k : Int), 1, turnI s)] (some ⟨W1.heap.size, 0, none⟩) 1 1 (fun k => some k ≠ v2.ownBlock) (fun k => W.heap.size ≤ k) rfl rfl (HA1.out.below (below_alloc (Below.refl _ _) _)).2.2.2.1 (part_row (W := W.drew) HP.out) (fun x cs h => part_lower HA.out.2.2.2.2.2.size h) (fun k hk => ⟨(AllB.fresh HA.out hk).2, (AllB.fresh HA.out hk).1⟩) (fun k hk => (AllB.fresh (HA1.out.below (below_alloc (Below.refl _ _) _)) hk).2) (HA1.out.below (below_alloc (Below.refl _ _) (.cells (partC ((k : Int), 1, turnI s) b1 b2).toArray 154))).2.2.2.2.2.size (by rw [List.length_append, List.length_singleton]; omega) ?_
                        intro u3 w3 hR hg hat
                        obtain ⟨A3, c3, rfl⟩ := Kd.R_slice hR
                        obtain ⟨L3, hL3⟩ : ∃ L, L = ((labP body k ++ [((k : Int), 0, s)]) ++ [((k : Int), 1, turnI s)]).length := ⟨_, rfl⟩
                        rw [← hL3] at hR hat ⊢
                        clear hL3
                        obtain ⟨hA3, hK3, q3, f3⟩ := (HA1.out.below (below_alloc (Below.refl _ _) (.cells (partC ((k : Int), 1, turnI s) b1 b2).toArray 154))).add1 hR hg hat
                        have HA3 := Aside0.mk hA3
                        have HK3 := Aside0.mk ((RoundK.below (n0 := w.heap.size) (below_then (Below.refl _ W).drew (below_alloc HBB.out (.cells (partC ((k : Int), 1, turnI s) b1 b2).toArray 154))) HA.out.2.2.2.2.2.size).trans hK3)
                        refine hK _ _ ?_
                        clear hK K hA3 hK3 hR hg hat
                        refine wpAnyIn_ready (rs := [7]) (by kernel_rfl) (by simp) ?_
                        refine AllReadyIn.cons rfl (fun K hK => ?_) ?_
                        · go_simp
                          refine hK _ _ ?_
                          clear hK K
                          refine wpAnyIn_done (by kernel_rfl) ?_ _
                          rw [HQ.out]
                          exact ⟨rfl, _, _, _, _, _, _, _, _, rfl, HA3.out, HK3.out⟩
                        exact AllReadyIn.nil
                      exact AllReadyIn.nil
                    exact AllReadyIn.nil
                  exact AllReadyIn.nil
                exact AllReadyIn.nil
              exact AllReadyIn.nil
            refine AllReadyIn.cons rfl (fun K hK => ?_) ?_
            · go_simp
              refine hK _ _ ?_
              clear hK K
              refine wpAnyIn_ready (rs := [0, 3]) (by kernel_rfl) (by simp) ?_
              refine AllReadyIn.cons rfl (fun K hK => ?_) ?_
              · go_simp
                refine hK _ _ ?_
                clear hK K
                refine wpAnyIn_ready (rs := [3]) (by kernel_rfl) (by simp) ?_
                refine AllReadyIn.cons rfl (fun K hK => ?_) ?_
                · go_simp
                  gi_wp2_with (refine ⟨trivial, ?_⟩; gi_at_call 173; refine (CallsIn.inRound l (callsIn_wide.2 (turned_calls _ _))).mono ?_; rintro e W1 ⟨rfl, rfl⟩)
                  try (refine hK _ _ ?_; clear hK K)
                  refine wpAnyIn_ready (rs := [4]) (by kernel_rfl) (by simp) ?_
                  refine AllReadyIn.cons rfl (fun K hK => ?_) ?_
                  · go_simp
                    gi_wp2_with (refine ⟨trivial, ?_⟩; gi_at_call 172; refine (CallsIn.inRound l (callsIn_wide.2 (part_calls _ _ _ _))).mono ?_; rintro e W1 ⟨b1, b2, rfl, hpm, hb1⟩; have HA1 := Aside0.mk (HA.out.below hb1); have HP := Aside0.mk hpm; have HBB := Aside0.mk hb1; have q1' : W1.cell? ⟨w.heap.size + 1, 0, none⟩ = some v1 := blk_cell HA1.out.2.1 0; have q1'' : ∀ o, (W1.alloc o).cell? ⟨w.heap.size + 1, 0, none⟩ = some v1 := fun o => blk_cell (blk_alloc HA1.out.2.1 o) 0; clear hpm hb1; simp only [partC])
                    try (refine hK _ _ ?_; clear hK K)
                    refine wpAnyIn_ready (rs := [5]) (by kernel_rfl) (by simp) ?_
                    refine AllReadyIn.cons rfl (fun K hK => ?_) ?_
                    · go_simp
                      refine hK _ _ ?_
                      clear hK K
                      refine wpAnyIn_ready (rs := [6]) (by kernel_rfl) (by simp) ?_
                      refine AllReadyIn.cons rfl (fun K hK => ?_) ?_
                      · refine step_append_RIn rfl kPart w.heap.size (.tmp 22) (.tmp 27) 148 148 154 154 (.agg #[.int .i64 0, .int .u8 0, .int .u8 0, .bool false, .int .u64 0, .nilFunc]) 40 rfl (by kernel_rfl) (by kernel_rfl) infoP rfl (by decide) (by decide) v1 (labP body k ++ [((k : Int), 0, s)]) [((k : Int), 1, turnI s)] (some ⟨W1.heap.size, 0, none⟩) 1 1 (fun k => some k ≠ v2.ownBlock) (fun k => W.heap.size ≤ k) rfl rfl (HA1.out.below (below_alloc (Below.refl _ _) _)).2.2.2.1 (part_row (W := W.drew) HP.out) (fun x cs h => part_lower HA.out.2.2.2.2.2.size h) (fun k hk => ⟨(AllB.fresh HA.out hk).2, (AllB.fresh HA.out hk).1⟩) (fun k hk => (AllB.fresh (HA1.out.below (below_alloc (Below.refl _ _) _)) hk).2) (HA1.out.below (below_alloc (Below.refl _ _) (.cells (partC ((k : Int), 1, turnI s) b1 b2).toArray 154))).2.2.2.2.2.size (by rw [List.length_append, List.length_singleton]; omega) ?_
                        intro u3 w3 hR hg hat
                        obtain ⟨A3, c3, rfl⟩ := Kd.R_slice hR
                        obtain ⟨L3, hL3⟩ : ∃ L, L = ((labP body k ++ [((k : Int), 0, s)]) ++ [((k : Int), 1, turnI s)]).length := ⟨_, rfl⟩
                        rw [← hL3] at hR hat ⊢
                        clear hL3
                        obtain ⟨hA3, hK3, q3, f3⟩ := (HA1.out.below (below_alloc (Below.refl _ _) (.cells (partC ((k : Int), 1, turnI s) b1 b2).toArray 154))).add1 hR hg hat
                        have HA3 := Aside0.mk hA3
                        have HK3 := Aside0.mk ((RoundK.below (n0 := w.heap.size) (below_then (Below.refl _ W).drew (below_alloc HBB.out (.cells (partC ((k : Int), 1, turnI s) b1 b2).toArray 154))) HA.out.2.2.2.2.2.size).trans hK3)
                        refine hK _ _ ?_
                        clear hK K hA3 hK3 hR hg hat
                        refine wpAnyIn_ready (rs := [7]) (by kernel_rfl) (by simp) ?_
                        refine AllReadyIn.cons rfl (fun K hK => ?_) ?_
                        · go_simp
                          refine hK _ _ ?_
                          clear hK K
                          refine wpAnyIn_done (by kernel_rfl) ?_ _
                          rw [HQ.out]
                          exact ⟨rfl, _, _, _, _, _, _, _, _, rfl, HA3.out, HK3.out⟩
                        exact AllReadyIn.nil
                      exact AllReadyIn.nil
                    exact AllReadyIn.nil
                  exact AllReadyIn.nil
                exact AllReadyIn.nil
              refine AllReadyIn.cons rfl (fun K hK => ?_) ?_
              · go_simp
                gi_wp2_with (refine ⟨trivial, ?_⟩; gi_at_call 173; refine (CallsIn.inRound l (callsIn_wide.2 (turned_calls _ _))).mono ?_; rintro e W1 ⟨rfl, rfl⟩)
                try (refine hK _ _ ?_; clear hK K)
                refine wpAnyIn_ready (rs := [0, 4]) (by kernel_rfl) (by simp) ?_
                refine AllReadyIn.cons rfl (fun K hK => ?_) ?_
                · go_simp
                  refine hK _ _ ?_
                  clear hK K
                  refine wpAnyIn_ready (rs := [4]) (by kernel_rfl) (by simp) ?_
                  refine AllReadyIn.cons rfl (fun K hK => ?_) ?_
                  · go_simp
                    gi_wp2_with (refine ⟨trivial, ?_⟩; gi_at_call 172; refine (CallsIn.inRound l (callsIn_wide.2 (part_calls _ _ _ _))).mono ?_; rintro e W1 ⟨b1, b2, rfl, hpm, hb1⟩; have HA1 := Aside0.mk (HA.out.below hb1); have HP := Aside0.mk hpm; have HBB := Aside0.mk hb1; have q1' : W1.cell? ⟨w.heap.size + 1, 0, none⟩ = some v1 := blk_cell HA1.out.2.1 0; have q1'' : ∀ o, (W1.alloc o).cell? ⟨w.heap.size + 1, 0, none⟩ = some v1 := fun o => blk_cell (blk_alloc HA1.out.2.1 o) 0; clear hpm hb1; simp only [partC])
                    try (refine hK _ _ ?_; clear hK K)
                    refine wpAnyIn_ready (rs := [5]) (by kernel_rfl) (by simp) ?_
                    refine AllReadyIn.cons rfl (fun K hK => ?_) ?_
                    · go_simp
                      refine hK _ _ ?_
                      clear hK K
                      refine wpAnyIn_ready (rs := [6]) (by kernel_rfl) (by simp) ?_
                      refine AllReadyIn.cons rfl (fun K hK => ?_) ?_
                      · refine step_append_RIn rfl kPart w.heap.size (.tmp 22) (.tmp 27) 148 148 154 154 (.agg #[.int .i64 0, .int .u8 0, .int .u8 0, .bool false, .int .u64 0, .nilFunc]) 40 rfl (by kernel_rfl) (by kernel_rfl) infoP rfl (by decide) (by decide) v1 (labP body k ++ [((k : Int), 0, s)]) [((k : Int), 1, turnI s)] (some ⟨W1.heap.size, 0, none⟩) 1 1 (fun k => some k ≠ v2.ownBlock) (fun k => W.heap.size ≤ k) rfl rfl (HA1.out.below (below_alloc (Below.refl _ _) _)).2.2.2.1 (part_row (W := W.drew) HP.out) (fun x cs h => part_lower HA.out.2.2.2.2.2.size h) (fun k hk => ⟨(AllB.fresh HA.out hk).2, (AllB.fresh HA.out hk).1⟩) (fun k hk => (AllB.fresh (HA1.out.below (below_alloc (Below.refl _ _) _)) hk).2) (HA1.out.below (below_alloc (Below.refl _ _) (.cells (partC ((k : Int), 1, turnI s) b1 b2).toArray 154))).2.2.2.2.2.size (by rw [List.length_append, List.length_singleton]; omega) ?_
                        intro u3 w3 hR hg hat
                        obtain ⟨A3, c3, rfl⟩ := Kd.R_slice hR
                        obtain ⟨L3, hL3⟩ : ∃ L, L = ((labP body k ++ [((k : Int), 0, s)]) ++ [((k : Int), 1, turnI s)]).length := ⟨_, rfl⟩
                        rw [← hL3] at hR hat ⊢
                        clear hL3
                        obtain ⟨hA3, hK3, q3, f3⟩ := (HA1.out.below (below_alloc (Below.refl _ _) (.cells (partC ((k : Int), 1, turnI s) b1 b2).toArray 154))).add1 hR hg hat
                        have HA3 := Aside0.mk hA3
                        have HK3 := Aside0.mk ((RoundK.below (n0 := w.heap.size) (below_then (Below.refl _ W).drew (below_alloc HBB.out (.cells (partC ((k : Int), 1, turnI s) b1 b2).toArray 154))) HA.out.2.2.2.2.2.size).trans hK3)
                        refine hK _ _ ?_
                        clear hK K hA3 hK3 hR hg hat
                        refine wpAnyIn_ready (rs := [7]) (by kernel_rfl) (by simp) ?_
                        refine AllReadyIn.cons rfl (fun K hK => ?_) ?_
                        · go_simp
                          refine hK _ _ ?_
                          clear hK K
                          refine wpAnyIn_done (by kernel_rfl) ?_ _
                          rw [HQ.out]
                          exact ⟨rfl, _, _, _, _, _, _, _, _, rfl, HA3.out, HK3.out⟩
                        exact AllReadyIn.nil
                      exact AllReadyIn.nil
                    exact AllReadyIn.nil
                  exact AllReadyIn.nil
                refine AllReadyIn.cons rfl (fun K hK => ?_) ?_
                · go_simp
                  gi_wp2_with (refine ⟨trivial, ?_⟩; gi_at_call 172; refine (CallsIn.inRound l (callsIn_wide.2 (part_calls _ _ _ _))).mono ?_; rintro e W1 ⟨b1, b2, rfl, hpm, hb1⟩; have HA1 := Aside0.mk (HA.out.below hb1); have HP := Aside0.mk hpm; have HBB := Aside0.mk hb1; have q1' : W1.cell? ⟨w.heap.size + 1, 0, none⟩ = some v1 := blk_cell HA1.out.2.1 0; have q1'' : ∀ o, (W1.alloc o).cell? ⟨w.heap.size + 1, 0, none⟩ = some v1 := fun o => blk_cell (blk_alloc HA1.out.2.1 o) 0; clear hpm hb1; simp only [partC])
                  try (refine hK _ _ ?_; clear hK K)
                  refine wpAnyIn_ready (rs := [0, 5]) (by kernel_rfl) (by simp) ?_
                  refine AllReadyIn.cons rfl (fun K hK => ?_) ?_
                  · go_simp
                    refine hK _ _ ?_
                    clear hK K
                    refine wpAnyIn_ready (rs := [5]) (by kernel_rfl) (by simp) ?_
                    refine AllReadyIn.cons rfl (fun K hK => ?_) ?_
                    · go_simp
                      refine hK _ _ ?_
                      clear hK K
                      refine wpAnyIn_ready (rs := [6]) (by kernel_rfl) (by simp) ?_
                      refine AllReadyIn.cons rfl (fun K hK => ?_) ?_
                      · refine step_append_RIn rfl kPart w.heap.size (.tmp 22) (.tmp 27) 148 148 154 154 (.agg #[.int .i64 0, .int .u8 0, .int .u8 0, .bool false, .int .u64 0, .nilFunc]) 40 rfl (by kernel_rfl) (by kernel_rfl) infoP rfl (by decide) (by decide) v1 (labP body k ++ [((k : Int), 0, s)]) [((k : Int), 1, turnI s)] (some ⟨W1.heap.size, 0, none⟩) 1 1 (fun k => some k ≠ v2.ownBlock) (fun k => W.heap.size ≤ k) rfl rfl (HA1.out.below (below_alloc (Below.refl _ _) _)).2.2.2.1 (part_row (W := W.drew) HP.out) (fun x cs h => part_lower HA.out.2.2.2.2.2.size h) (fun k hk => ⟨(AllB.fresh HA.out hk).2, (AllB.fresh HA.out hk).1⟩) (fun k hk => (AllB.fresh (HA1.out.below (below_alloc (Below.refl _ _) _)) hk).2) (HA1.out.below (below_alloc (Below.refl _ _) (.cells (partC ((k : Int), 1, turnI s) b1 b2).toArray 154))).2.2.2.2.2.size (by rw [List.length_append, List.length_singleton]; omega) ?_
                        intro u3 w3 hR hg hat
                        obtain ⟨A3, c3, rfl⟩ := Kd.R_slice hR
                        obtain ⟨L3, hL3⟩ : ∃ L, L = ((labP body k ++ [((k : Int), 0, s)]) ++ [((k : Int), 1, turnI s)]).length := ⟨_, rfl⟩
                        rw [← hL3] at hR hat ⊢
                        clear hL3
                        obtain ⟨hA3, hK3, q3, f3⟩ := (HA1.out.below (below_alloc (Below.refl _ _) (.cells (partC ((k : Int), 1, turnI s) b1 b2).toArray 154))).add1 hR hg hat
                        have HA3 := Aside0.mk hA3
                        have HK3 := Aside0.mk ((RoundK.below (n0 := w.heap.size) (below_then (Below.refl _ W).drew (below_alloc HBB.out (.cells (partC ((k : Int), 1, turnI s) b1 b2).toArray 154))) HA.out.2.2.2.2.2.size).trans hK3)
                        refine hK _ _ ?_
                        clear hK K hA3 hK3 hR hg hat
                        refine wpAnyIn_ready (rs := [7]) (by kernel_rfl) (by simp) ?_
                        refine AllReadyIn.cons rfl (fun K hK => ?_) ?_
                        · go_simp
                          refine hK _ _ ?_
                          clear hK K
                          refine wpAnyIn_done (by kernel_rfl) ?_ _
                          rw [HQ.out]
                          exact ⟨rfl, _, _, _, _, _, _, _, _, rfl, HA3.out, HK3.out⟩
                        exact AllReadyIn.nil
                      exact AllReadyIn.nil
                    exact AllReadyIn.nil
                  refine AllReadyIn.cons rfl (fun K hK => ?_) ?_
                  · go_simp
                    refine hK _ _ ?_
                    clear hK K
                    refine wpAnyIn_ready (rs := [0]) (by kernel_rfl) (by simp) ?_
                    refine AllReadyIn.cons rfl (fun K hK => ?_) ?_
                    · go_simp
                      refine hK _ _ ?_
                      clear hK K
                      refine wpAnyIn_ready (rs := [6]) (by kernel_rfl) (by simp) ?_
                      refine AllReadyIn.cons rfl (fun K hK => ?_) ?_
                      · refine step_append_RIn rfl kPart w.heap.size (.tmp 22) (.tmp 27) 148 148 154 154 (.agg #[.int .i64 0, .int .u8 0, .int .u8 0, .bool false, .int .u64 0, .nilFunc]) 40 rfl (by kernel_rfl) (by kernel_rfl) infoP rfl (by decide) (by decide) v1 (labP body k ++ [((k : Int), 0, s)]) [((k : Int), 1, turnI s)] (some ⟨W1.heap.size, 0, none⟩) 1 1 (fun k => some k ≠ v2.ownBlock) (fun k => W.heap.size ≤ k) rfl rfl (HA1.out.below (below_alloc (Below.refl _ _) _)).2.2.2.1 (part_row (W := W.drew) HP.out) (fun x cs h => part_lower HA.out.2.2.2.2.2.size h) (fun k hk => ⟨(AllB.fresh HA.out hk).2, (AllB.fresh HA.out hk).1⟩) (fun k hk => (AllB.fresh (HA1.out.below (below_alloc (Below.refl _ _) _)) hk).2) (HA1.out.below (below_alloc (Below.refl _ _) (.cells (partC ((k : Int), 1, turnI s) b1 b2).toArray 154))).2.2.2.2.2.size (by rw [List.length_append, List.length_singleton]; omega) ?_
                        intro u3 w3 hR hg hat
                        obtain ⟨A3, c3, rfl⟩ := Kd.R_slice hR
                        obtain ⟨L3, hL3⟩ : ∃ L, L = ((labP body k ++ [((k : Int), 0, s)]) ++ [((k : Int), 1, turnI s)]).length := ⟨_, rfl⟩
                        rw [← hL3] at hR hat ⊢
                        clear hL3
                        obtain ⟨hA3, hK3, q3, f3⟩ := (HA1.out.below (below_alloc (Below.refl _ _) (.cells (partC ((k : Int), 1, turnI s) b1 b2).toArray 154))).add1 hR hg hat
                        have HA3 := Aside0.mk hA3
                        have HK3 := Aside0.mk ((RoundK.below (n0 := w.heap.size) (below_then (Below.refl _ W).drew (below_alloc HBB.out (.cells (partC ((k : Int), 1, turnI s) b1 b2).toArray 154))) HA.out.2.2.2.2.2.size).trans hK3)
                        refine hK _ _ ?_
                        clear hK K hA3 hK3 hR hg hat
                        refine wpAnyIn_ready (rs := [7]) (by kernel_rfl) (by simp) ?_
                        refine AllReadyIn.cons rfl (fun K hK => ?_) ?_
                        · go_simp
                          refine hK _ _ ?_
                          clear hK K
                          refine wpAnyIn_done (by kernel_rfl) ?_ _
                          rw [HQ.out]
                          exact ⟨rfl, _, _, _, _, _, _, _, _, rfl, HA3.out, HK3.out⟩
                        exact AllReadyIn.nil
                      exact AllReadyIn.nil
                    exact AllReadyIn.nil
                  exact AllReadyIn.nil
                exact AllReadyIn.nil
              exact AllReadyIn.nil
            exact AllReadyIn.nil
          refine AllReadyIn.cons rfl (fun K hK => ?_) ?_
          · go_simp
            refine hK _ _ ?_
            clear hK K
            refine wpAnyIn_ready (rs := [0, 1, 3]) (by kernel_rfl) (by simp) ?_
            refine AllReadyIn.cons rfl (fun K hK => ?_) ?_
            · go_simp
              refine hK _ _ ?_
              clear hK K
              refine wpAnyIn_ready (rs := [1, 3]) (by kernel_rfl) (by simp) ?_
              refine AllReadyIn.cons rfl (fun K hK => ?_) ?_
              · go_simp
                refine hK _ _ ?_
                clear hK K
                refine wpAnyIn_ready (rs := [3]) (by kernel_rfl) (by simp) ?_
                refine AllReadyIn.cons rfl (fun K hK => ?_) ?_
                · go_simp
                  gi_wp2_with (refine ⟨trivial, ?_⟩; gi_at_call 173; refine (CallsIn.inRound l (callsIn_wide.2 (turned_calls _ _))).mono ?_; rintro e W1 ⟨rfl, rfl⟩)
                  try (refine hK _ _ ?_; clear hK K)
                  refine wpAnyIn_ready (rs := [4]) (by kernel_rfl) (by simp) ?_
                  refine AllReadyIn.cons rfl (fun K hK => ?_) ?_
                  · go_simp
                    gi_wp2_with (refine ⟨trivial, ?_⟩; gi_at_call 172; refine (CallsIn.inRound l (callsIn_wide.2 (part_calls _ _ _ _))).mono ?_; rintro e W1 ⟨b1, b2, rfl, hpm, hb1⟩; have HA1 := Aside0.mk (HA.out.below hb1); have HP := Aside0.mk hpm; have HBB := Aside0.mk hb1; have q1' : W1.cell? ⟨w.heap.size + 1, 0, none⟩ = some v1 := blk_cell HA1.out.2.1 0; have q1'' : ∀ o, (W1.alloc o).cell? ⟨w.heap.size + 1, 0, none⟩ = some v1 := fun o => blk_cell (blk_alloc HA1.out.2.1 o) 0; clear hpm hb1; simp only [partC])
                    try (refine hK _ _ ?_; clear hK K)
                    refine wpAnyIn_ready (rs := [5]) (by kernel_rfl) (by simp) ?_
                    refine AllReadyIn.cons rfl (fun K hK => ?_) ?_
                    · go_simp
                      refine hK _ _ ?_
                      clear hK K
                      refine wpAnyIn_ready (rs := [6]) (by kernel_rfl) (by simp) ?_
                      refine AllReadyIn.cons rfl (fun K hK => ?_) ?_
                      · refine step_append_RIn rfl kPart w.heap.size (.tmp 22) (.tmp 27) 148 148 154 154 (.agg #[.int .i64 0, .int .u8 0, .int .u8 0, .bool false, .int .u64 0, .nilFunc]) 40 rfl (by kernel_rfl) (by kernel_rfl) infoP rfl (by decide) (by decide) v1 (labP body k ++ [((k : Int), 0, s)]) [((k : Int), 1, turnI s)] (some ⟨W1.heap.size, 0, none⟩) 1 1 (fun k => some k ≠ v2.ownBlock) (fun k => W.heap.size ≤ k) rfl rfl (HA1.out.below (below_alloc (Below.refl _ _) _)).2.2.2.1 (part_row (W := W.drew) HP.out) (fun x cs h => part_lower HA.out.2.2.2.2.2.size h) (fun k hk => ⟨(AllB.fresh HA.out hk).2, (AllB.fresh HA.out hk).1⟩) (fun k hk => (AllB.fresh (HA1.out.below (below_alloc (Below.refl _ _) _)) hk).2) (HA1.out.below (below_alloc (Below.refl _ _) (.cells (partC ((k : Int), 1, turnI s) b1 b2).toArray 154))).2.2.2.2.2.size (by rw [List.length_append, List.length_singleton]; omega) ?_
                        intro u3 w3 hR hg hat
                        obtain ⟨A3, c3, rfl⟩ := Kd.R_slice hR
                        obtain ⟨L3, hL3⟩ : ∃ L, L = ((labP body k ++ [((k : Int), 0, s)]) ++ [((k : Int), 1, turnI s)]).length := ⟨_, rfl⟩
                        rw [← hL3] at hR hat ⊢
                        clear hL3
                        obtain ⟨hA3, hK3, q3, f3⟩ := (HA1.out.below (below_alloc (Below.refl _ _) (.cells (partC ((k : Int), 1, turnI s) b1 b2).toArray 154))).add1 hR hg hat
                        have HA3 := Aside0.mk hA3
                        have HK3 := Aside0.mk ((RoundK.below (n0 := w.heap.size) (below_then (Below.refl _ W).drew (below_alloc HBB.out (.cells (partC ((k : Int), 1, turnI s) b1 b2).toArray 154))) HA.out.2.2.2.2.2.size).trans hK3)
                        refine hK _ _ ?_
                        clear hK K hA3 hK3 hR hg hat
                        refine wpAnyIn_ready (rs := [7]) (by kernel_rfl) (by simp) ?_
                        refine AllReadyIn.cons rfl (fun K hK => ?_) ?_
                        · go_simp
                          refine hK _ _ ?_
                          clear hK K
                          refine wpAnyIn_done (by kernel_rfl) ?_ _
                          rw [HQ.out]
                          exact ⟨rfl, _, _, _, _, _, _, _, _, rfl, HA3.out, HK3.out⟩
                        exact AllReadyIn.nil
                      exact AllReadyIn.nil
                    exact AllReadyIn.nil
                  exact AllReadyIn.nil
                exact AllReadyIn.nil
              refine AllReadyIn.cons rfl (fun K hK => ?_) ?_
              · go_simp
                gi_wp2_with (refine ⟨trivial, ?_⟩; gi_at_call 173; refine (CallsIn.inRound l (callsIn_wide.2 (turned_calls _ _))).mono ?_; rintro e W1 ⟨rfl, rfl⟩)
                try (refine hK _ _ ?_; clear hK K)
                refine wpAnyIn_ready (rs := [1]) (by kernel_rfl) (by simp) ?_
                refine AllReadyIn.cons rfl (fun K hK => ?_) ?_
                · go_simp
                  refine hK _ _ ?_
                  clear hK K
                  refine wpAnyIn_ready (rs := [4]) (by kernel_rfl) (by simp) ?_
                  refine AllReadyIn.cons rfl (fun K hK => ?_) ?_
                  · go_simp
                    gi_wp2_with (refine ⟨trivial, ?_⟩; gi_at_call 172; refine (CallsIn.inRound l (callsIn_wide.2 (part_calls _ _ _ _))).mono ?_; rintro e W1 ⟨b1, b2, rfl, hpm, hb1⟩; have HA1 := Aside0.mk (HA.out.below hb1); have HP := Aside0.mk hpm; have HBB := Aside0.mk hb1; have q1' : W1.cell? ⟨w.heap.size + 1, 0, none⟩ = some v1 := blk_cell HA1.out.2.1 0; have q1'' : ∀ o, (W1.alloc o).cell? ⟨w.heap.size + 1, 0, none⟩ = some v1 := fun o => blk_cell (blk_alloc HA1.out.2.1 o) 0; clear hpm hb1; simp only [partC])
                    try (refine hK _ _ ?_; clear hK K)
                    refine wpAnyIn_ready (rs := [5]) (by kernel_rfl) (by simp) ?_
                    refine AllReadyIn.cons rfl (fun K hK => ?_) ?_
                    · go_simp
                      refine hK _ _ ?_
                      clear hK K
                      refine wpAnyIn_ready (rs := [6]) (by kernel_rfl) (by simp) ?_
                      refine AllReadyIn.cons rfl (fun K hK => ?_) ?_
                      · refine step_append_RIn rfl kPart w.heap.size (.tmp 22) (.tmp 27) 148 148 154 154 (.agg #[.int .i64 0, .int .u8 0, .int .u8 0, .bool false, .int .u64 0, .nilFunc]) 40 rfl (by kernel_rfl) (by kernel_rfl) infoP rfl (by decide) (by decide) v1 (labP body k ++ [((k : Int), 0, s)]) [((k : Int), 1, turnI s)] (some ⟨W1.heap.size, 0, none⟩) 1 1 (fun k => some k ≠ v2.ownBlock) (fun k => W.heap.size ≤ k) rfl rfl (HA1.out.below (below_alloc (Below.refl _ _) _)).2.2.2.1 (part_row (W := W.drew) HP.out) (fun x cs h => part_lower HA.out.2.2.2.2.2.size h) (fun k hk => ⟨(AllB.fresh HA.out hk).2, (AllB.fresh HA.out hk).1⟩) (fun k hk => (AllB.fresh (HA1.out.below (below_alloc (Below.refl _ _) _)) hk).2) (HA1.out.below (below_alloc (Below.refl _ _) (.cells (partC ((k : Int), 1, turnI s) b1 b2).toArray 154))).2.2.2.2.2.size (by rw [List.length_append, List.length_singleton]; omega) ?_
                        intro u3 w3 hR hg hat
                        obtain ⟨A3, c3, rfl⟩ := Kd.R_slice hR
                        obtain ⟨L3, hL3⟩ : ∃ L, L = ((labP body k ++ [((k : Int), 0, s)]) ++ [((k : Int), 1, turnI s)]).length := ⟨_, rfl⟩
                        rw [← hL3] at hR hat ⊢
                        clear hL3
                        obtain ⟨hA3, hK3, q3, f3⟩ := (HA1.out.below (below_alloc (Below.refl _ _) (.cells (partC ((k : Int), 1, turnI s) b1 b2).toArray 154))).add1 hR hg hat
                        have HA3 := Aside0.mk hA3
                        have HK3 := Aside0.mk ((RoundK.below (n0 := w.heap.size) (below_then (Below.refl _ W).drew (below_alloc HBB.out (.cells (partC ((k : Int), 1, turnI s) b1 b2).toArray 154))) HA.out.2.2.2.2.2.size).trans hK3)
                        refine hK _ _ ?_
                        clear hK K hA3 hK3 hR hg hat
                        refine wpAnyIn_ready (rs := [7]) (by kernel_rfl) (by simp) ?_
                        refine AllReadyIn.cons rfl (fun K hK => ?_) ?_
                        · go_simp
                          refine hK _ _ ?_
                          clear hK K
                          refine wpAnyIn_done (by kernel_rfl) ?_ _
                          rw [HQ.out]
                          exact ⟨rfl, _, _, _, _, _, _, _, _, rfl, HA3.out, HK3.out⟩
                        exact AllReadyIn.nil
                      exact AllReadyIn.nil
                    exact AllReadyIn.nil
                  exact AllReadyIn.nil
                exact AllReadyIn.nil
              exact AllReadyIn.nil
            refine AllReadyIn.cons rfl (fun K hK => ?_) ?_
            · go_simp
              refine hK _ _ ?_
              clear hK K
              refine wpAnyIn_ready (rs := [0, 3]) (by kernel_rfl) (by simp) ?_
              refine AllReadyIn.cons rfl (fun K hK => ?_) ?_
              · go_simp
                refine hK _ _ ?_
                clear hK K
                refine wpAnyIn_ready (rs := [3]) (by kernel_rfl) (by simp) ?_
                refine AllReadyIn.cons rfl (fun K hK => ?_) ?_
                · go_simp
                  gi_wp2_with (refine ⟨trivial, ?_⟩; gi_at_call 173; refine (CallsIn.inRound l (callsIn_wide.2 (turned_calls _ _))).mono ?_; rintro e W1 ⟨rfl, rfl⟩)
                  try (refine hK _ _ ?_; clear hK K)
                  refine wpAnyIn_ready (rs := [4]) (by kernel_rfl) (by simp) ?_
                  refine AllReadyIn.cons rfl (fun K hK => ?_) ?_
                  · go_simp
                    gi_wp2_with (refine ⟨trivial, ?_⟩; gi_at_call 172; refine (CallsIn.inRound l (callsIn_wide.2 (part_calls _ _ _ _))).mono ?_; rintro e W1 ⟨b1, b2, rfl, hpm, hb1⟩; have HA1 := Aside0.mk (HA.out.below hb1); have HP := Aside0.mk hpm; have HBB := Aside0.mk hb1; have q1' : W1.cell? ⟨w.heap.size + 1, 0, none⟩ = some v1 := blk_cell HA1.out.2.1 0; have q1'' : ∀ o, (W1.alloc o).cell? ⟨w.heap.size + 1, 0, none⟩ = some v1 := fun o => blk_cell (blk_alloc HA1.out.2.1 o) 0; clear hpm hb1; simp only [partC])
                    try (refine hK _ _ ?_; clear hK K)
                    refine wpAnyIn_ready (rs := [5]) (by kernel_rfl) (by simp) ?_
                    refine AllReadyIn.cons rfl (fun K hK => ?_) ?_
                    · go_simp
                      refine hK _ _ ?_
                      clear hK K
                      refine wpAnyIn_ready (rs := [6]) (by kernel_rfl) (by simp) ?_
                      refine AllReadyIn.cons rfl (fun K hK => ?_) ?_
                      · refine step_append_RIn rfl kPart w.heap.size (.tmp 22) (.tmp 27) 148 148 154 154 (.agg #[.int .i64 0, .int .u8 0, .int .u8 0, .bool false, .int .u64 0, .nilFunc]) 40 rfl (by kernel_rfl) (by kernel_rfl) infoP rfl (by decide) (by decide) v1 (labP body k ++ [((k : Int), 0, s)]) [((k : Int), 1, turnI s)] (some ⟨W1.heap.size, 0, none⟩) 1 1 (fun k => some k ≠ v2.ownBlock) (fun k => W.heap.size ≤ k) rfl rfl (HA1.out.below (below_alloc (Below.refl _ _) _)).2.2.2.1 (part_row (W := W.drew) HP.out) (fun x cs h => part_lower HA.out.2.2.2.2.2.size h) (fun k hk => ⟨(AllB.fresh HA.out hk).2, (AllB.fresh HA.out hk).1⟩) (fun k hk => (AllB.fresh (HA1.out.below (below_alloc (Below.refl _ _) _)) hk).2) (HA1.out.below (below_alloc (Below.refl _ _) (.cells (partC ((k : Int), 1, turnI s) b1 b2).toArray 154))).2.2.2.2.2.size (by rw [List.length_append, List.length_singleton]; omega) ?_
                        intro u3 w3 hR hg hat
                        obtain ⟨A3, c3, rfl⟩ := Kd.R_slice hR
                        obtain ⟨L3, hL3⟩ : ∃ L, L = ((labP body k ++ [((k : Int), 0, s)]) ++ [((k : Int), 1, turnI s)]).length := ⟨_, rfl⟩
                        rw [← hL3] at hR hat ⊢
                        clear hL3
                        obtain ⟨hA3, hK3, q3, f3⟩ := (HA1.out.below (below_alloc (Below.refl _ _) (.cells (partC ((k : Int), 1, turnI s) b1 b2).toArray 154))).add1 hR hg hat
                        have HA3 := Aside0.mk hA3
                        have HK3 := Aside0.mk ((RoundK.below (n0 := w.heap.size) (below_then (Below.refl _ W).drew (below_alloc HBB.out (.cells (partC ((k : Int), 1, turnI s) b1 b2).toArray 154))) HA.out.2.2.2.2.2.size).trans hK3)
                        refine hK _ _ ?_
                        clear hK K hA3 hK3 hR hg hat
                        refine wpAnyIn_ready (rs := [7]) (by kernel_rfl) (by simp) ?_
                        refine AllReadyIn.cons rfl (fun K hK => ?_) ?_
                        · go_simp
                          refine hK _ _ ?_
                          clear hK K
                          refine wpAnyIn_done (by kernel_rfl) ?_ _
                          rw [HQ.out]
                          exact ⟨rfl, _, _, _, _, _, _, _, _, rfl, HA3.out, HK3.out⟩
                        exact AllReadyIn.nil
                      exact AllReadyIn.nil
                    exact AllReadyIn.nil
                  exact AllReadyIn.nil
                exact AllReadyIn.nil
              refine AllReadyIn.cons rfl (fun K hK => ?_) ?_
              · go_simp
                gi_wp2_with (refine ⟨trivial, ?_⟩; gi_at_call 173; refine (CallsIn.inRound l (callsIn_wide.2 (turned_calls _ _))).mono ?_; rintro e W1 ⟨rfl, rfl⟩)
                try (refine hK _ _ ?_; clear hK K)
                refine wpAnyIn_ready (rs := [0, 4]) (by kernel_rfl) (by simp) ?_
                refine AllReadyIn.cons rfl (fun K hK => ?_) ?_
                · go_simp
                  refine hK _ _ ?_
                  clear hK K
                  refine wpAnyIn_ready (rs := [4]) (by kernel_rfl) (by simp) ?_
                  refine AllReadyIn.cons rfl (fun K hK => ?_) ?_
                  · go_simp
                    gi_wp2_with (refine ⟨trivial, ?_⟩; gi_at_call 172; refine (CallsIn.inRound l (callsIn_wide.2 (part_calls _ _ _ _))).mono ?_; rintro e W1 ⟨b1, b2, rfl, hpm, hb1⟩; have HA1 := Aside0.mk (HA.out.below hb1); have HP := Aside0.mk hpm; have HBB := Aside0.mk hb1; have q1' : W1.cell? ⟨w.heap.size + 1, 0, none⟩ = some v1 := blk_cell HA1.out.2.1 0; have q1'' : ∀ o, (W1.alloc o).cell? ⟨w.heap.size + 1, 0, none⟩ = some v1 := fun o => blk_cell (blk_alloc HA1.out.2.1 o) 0; clear hpm hb1; simp only [partC])
                    try (refine hK _ _ ?_; clear hK K)
                    refine wpAnyIn_ready (rs := [5]) (by kernel_rfl) (by simp) ?_
                    refine AllReadyIn.cons rfl (fun K hK => ?_) ?_
                    · go_simp
                      refine hK _ _ ?_
                      clear hK K
                      refine wpAnyIn_ready (rs := [6]) (by kernel_rfl) (by simp) ?_
                      refine AllReadyIn.cons rfl (fun K hK => ?_) ?_
                      · refine step_append_RIn rfl kPart w.heap.size (.tmp 22) (.tmp 27) 148 148 154 154 (.agg #[.int .i64 0, .int .u8 0, .int .u8 0, .bool false, .int .u64 0, .nilFunc]) 40 rfl (by kernel_rfl) (by kernel_rfl) infoP rfl (by decide) (by decide) v1 (labP body k ++ [((k : Int), 0, s)]) [((k : Int), 1, turnI s)] (some ⟨W1.heap.size, 0, none⟩) 1 1 (fun k => some k ≠ v2.ownBlock) (fun k => W.heap.size ≤ k) rfl rfl (HA1.out.below (below_alloc (Below.refl _ _) _)).2.2.2.1 (part_row (W := W.drew) HP.out) (fun x cs h => part_lower HA.out.2.2.2.2.2.size h) (fun k hk => ⟨(AllB.fresh HA.out hk).2, (AllB.fresh HA.out hk).1⟩) (fun k hk => (AllB.fresh (HA1.out.below (below_alloc (Below.refl _ _) _)) hk).2) (HA1.out.below (below_alloc (Below.refl _ _) (.cells (partC ((k : Int), 1, turnI s) b1 b2).toArray 154))).2.2.2.2.2.size (by rw [List.length_append, List.length_singleton]; omega) ?_
                        intro u3 w3 hR hg hat
                        obtain ⟨A3, c3, rfl⟩ := Kd.R_slice hR
                        obtain ⟨L3, hL3⟩ : ∃ L, L = ((labP body k ++ [((k : Int), 0, s)]) ++ [((k : Int), 1, turnI s)]).length := ⟨_, rfl⟩
                        rw [← hL3] at hR hat ⊢
                        clear hL3
                        obtain ⟨hA3, hK3, q3, f3⟩ := (HA1.out.below (below_alloc (Below.refl _ _) (.cells (partC ((k : Int), 1, turnI s) b1 b2).toArray 154))).add1 hR hg hat
                        have HA3 := Aside0.mk hA3
                        have HK3 := Aside0.mk ((RoundK.below (n0 := w.heap.size) (below_then (Below.refl _ W).drew (below_alloc HBB.out (.cells (partC ((k : Int), 1, turnI s) b1 b2).toArray 154))) HA.out.2.2.2.2.2.size).trans hK3)
                        refine hK _ _ ?_
                        clear hK K hA3 hK3 hR hg hat
                        refine wpAnyIn_ready (rs := [7]) (by kernel_rfl) (by simp) ?_
                        refine AllReadyIn.cons rfl (fun K hK => ?_) ?_
                        · go_simp
                          refine hK _ _ ?_
                          clear hK K
                          refine wpAnyIn_done (by kernel_rfl) ?_ _
                          rw [HQ.out]
                          exact ⟨rfl, _, _, _, _, _, _, _, _, rfl, HA3.out, HK3.out⟩
                        exact AllReadyIn.nil
                      exact AllReadyIn.nil
                    exact AllReadyIn.nil
                  exact AllReadyIn.nil
                refine AllReadyIn.cons rfl (fun K hK => ?_) ?_
                · go_simp
                  gi_wp2_with (refine ⟨trivial, ?_⟩; gi_at_call 172; refine (CallsIn.inRound l (callsIn_wide.2 (part_calls _ _ _ _))).mono ?_; rintro e W1 ⟨b1, b2, rfl, hpm, hb1⟩; have HA1 := Aside0.mk (HA.out.below hb1); have HP := Aside0.mk hpm; have HBB := Aside0.mk hb1; have q1' : W1.cell? ⟨w.heap.size + 1, 0, none⟩ = some v1 := blk_cell HA1.out.2.1 0; have q1'' : ∀ o, (W1.alloc o).cell? ⟨w.heap.size + 1, 0, none⟩ = some v1 := fun o => blk_cell (blk_alloc HA1.out.2.1 o) 0; clear hpm hb1; simp only [partC])
                  try (refine hK _ _ ?_; clear hK K)
                  refine wpAnyIn_ready (rs := [0, 5]) (by kernel_rfl) (by simp) ?_
                  refine AllReadyIn.cons rfl (fun K hK => ?_) ?_
                  · go_simp
                    refine hK _ _ ?_
                    clear hK K
                    refine wpAnyIn_ready (rs := [5]) (by kernel_rfl) (by simp) ?_
                    refine AllReadyIn.cons rfl (fun K hK => ?_) ?_
                    · go_simp
                      refine hK _ _ ?_
                      clear hK K
                      refine wpAnyIn_ready (rs := [6]) (by kernel_rfl) (by simp) ?_
                      refine AllReadyIn.cons rfl (fun K hK => ?_) ?_
                      · refine step_append_RIn rfl kPart w.heap.size (.tmp 22) (.tmp 27) 148 148 154 154 (.agg #[.int .i64 0, .int .u8 0, .int .u8 0, .bool false, .int .u64 0, .nilFunc]) 40 rfl (by kernel_rfl) (by kernel_rfl) infoP rfl (by decide) (by decide) v1 (labP body k ++ [((k : Int), 0, s)]) [((k : Int), 1, turnI s)] (some ⟨W1.heap.size, 0, none⟩) 1 1 (fun k => some k ≠ v2.ownBlock) (fun k => W.heap.size ≤ k) rfl rfl (HA1.out.below (below_alloc (Below.refl _ _) _)).2.2.2.1 (part_row (W := W.drew) HP.out) (fun x cs h => part_lower HA.out.2.2.2.2.2.size h) (fun k hk => ⟨(AllB.fresh HA.out hk).2, (AllB.fresh HA.out hk).1⟩) (fun k hk => (AllB.fresh (HA1.out.below (below_alloc (Below.refl _ _) _)) hk).2) (HA1.out.below (below_alloc (Below.refl _ _) (.cells (partC ((k : Int), 1, turnI s) b1 b2).toArray 154))).2.2.2.2.2.size (by rw [List.length_append, List.length_singleton]; omega) ?_
                        intro u3 w3 hR hg hat
                        obtain ⟨A3, c3, rfl⟩ := Kd.R_slice hR
                        obtain ⟨L3, hL3⟩ : ∃ L, L = ((labP body k ++ [((k : Int), 0, s)]) ++ [((k : Int), 1, turnI s)]).length := ⟨_, rfl⟩
                        rw [← hL3] at hR hat ⊢
                        clear hL3
                        obtain ⟨hA3, hK3, q3, f3⟩ := (HA1.out.below (below_alloc (Below.refl _ _) (.cells (partC ((k : Int), 1, turnI s) b1 b2).toArray 154))).add1 hR hg hat
                        have HA3 := Aside0.mk hA3
                        have HK3 := Aside0.mk ((RoundK.below (n0 := w.heap.size) (below_then (Below.refl _ W).drew (below_alloc HBB.out (.cells (partC ((k : Int), 1, turnI s) b1 b2).toArray 154))) HA.out.2.2.2.2.2.size).trans hK3)
                        refine hK _ _ ?_
                        clear hK K hA3 hK3 hR hg hat
                        refine wpAnyIn_ready (rs := [7]) (by kernel_rfl) (by simp) ?_
                        refine AllReadyIn.cons rfl (fun K hK => ?_) ?_
                        · go_simp
                          refine hK _ _ ?_
                          clear hK K
                          refine wpAnyIn_done (by kernel_rfl) ?_ _
                          rw [HQ.out]
                          exact ⟨rfl, _, _, _, _, _, _, _, _, rfl, HA3.out, HK3.out⟩
                        exact AllReadyIn.nil
                      exact AllReadyIn.nil
                    exact AllReadyIn.nil
                  refine AllReadyIn.cons rfl (fun K hK => ?_) ?_
                  · go_simp
                    refine hK _ _ ?_
                    clear hK K
                    refine wpAnyIn_ready (rs := [0]) (by kernel_rfl) (by simp) ?_
                    refine AllReadyIn.cons rfl (fun K hK => ?_) ?_
                    · go_simp
                      refine hK _ _ ?_
                      clear hK K
                      refine wpAnyIn_ready (rs := [6]) (by kernel_rfl) (by simp) ?_
                      refine AllReadyIn.cons rfl (fun K hK => ?_) ?_
                      · refine step_append_RIn rfl kPart w.heap.size (.tmp 22) (.tmp 27) 148 148 154 154 (.agg #[.int .i64 0, .int .u8 0, .int .u8 0, .bool false, .int .u64 0, .nilFunc]) 40 rfl (by kernel_rfl) (by kernel_rfl) infoP rfl (by decide) (by decide) v1 (labP body k ++ [((k : Int), 0, s)]) [((k : Int), 1, turnI s)] (some ⟨W1.heap.size, 0, none⟩) 1 1 (fun k => some k ≠ v2.ownBlock) (fun k => W.heap.size ≤ k) rfl rfl (HA1.out.below (below_alloc (Below.refl _ _) _)).2.2.2.1 (part_row (W := W.drew) HP.out) (fun x cs h => part_lower HA.out.2.2.2.2.2.size h) (fun k hk => ⟨(AllB.fresh HA.out hk).2, (AllB.fresh HA.out hk).1⟩) (fun k hk => (AllB.fresh (HA1.out.below (below_alloc (Below.refl _ _) _)) hk).2) (HA1.out.below (below_alloc (Below.refl _ _) (.cells (partC ((k : Int), 1, turnI s) b1 b2).toArray 154))).2.2.2.2.2.size (by rw [List.length_append, List.length_singleton]; omega) ?_
                        intro u3 w3 hR hg hat
                        obtain ⟨A3, c3, rfl⟩ := Kd.R_slice hR
                        obtain ⟨L3, hL3⟩ : ∃ L, L = ((labP body k ++ [((k : Int), 0, s)]) ++ [((k : Int), 1, turnI s)]).length := ⟨_, rfl⟩
                        rw [← hL3] at hR hat ⊢
                        clear hL3
                        obtain ⟨hA3, hK3, q3, f3⟩ := (HA1.out.below (below_alloc (Below.refl _ _) (.cells (partC ((k : Int), 1, turnI s) b1 b2).toArray 154))).add1 hR hg hat
                        have HA3 := Aside0.mk hA3
                        have HK3 := Aside0.mk ((RoundK.below (n0 := w.heap.size) (below_then (Below.refl _ W).drew (below_alloc HBB.out (.cells (partC ((k : Int), 1, turnI s) b1 b2).toArray 154))) HA.out.2.2.2.2.2.size).trans hK3)
                        refine hK _ _ ?_
                        clear hK K hA3 hK3 hR hg hat
                        refine wpAnyIn_ready (rs := [7]) (by kernel_rfl) (by simp) ?_
                        refine AllReadyIn.cons rfl (fun K hK => ?_) ?_
                        · go_simp
                          refine hK _ _ ?_
                          clear hK K
                          refine wpAnyIn_done (by kernel_rfl) ?_ _
                          rw [HQ.out]
                          exact ⟨rfl, _, _, _, _, _, _, _, _, rfl, HA3.out, HK3.out⟩
                        exact AllReadyIn.nil
                      exact AllReadyIn.nil
                    exact AllReadyIn.nil
                  exact AllReadyIn.nil
                exact AllReadyIn.nil
              exact AllReadyIn.nil
            refine AllReadyIn.cons rfl (fun K hK => ?_) ?_
            · go_simp
              gi_wp2_with (refine ⟨trivial, ?_⟩; gi_at_call 173; refine (CallsIn.inRound l (callsIn_wide.2 (turned_calls _ _))).mono ?_; rintro e W1 ⟨rfl, rfl⟩)
              try (refine hK _ _ ?_; clear hK K)
              refine wpAnyIn_ready (rs := [0, 1]) (by kernel_rfl) (by simp) ?_
              refine AllReadyIn.cons rfl (fun K hK => ?_) ?_
              · go_simp
                refine hK _ _ ?_
                clear hK K
                refine wpAnyIn_ready (rs := [1]) (by kernel_rfl) (by simp) ?_
                refine AllReadyIn.cons rfl (fun K hK => ?_) ?_
                · go_simp
                  refine hK _ _ ?_
                  clear hK K
                  refine wpAnyIn_ready (rs := [4]) (by kernel_rfl) (by simp) ?_
                  refine AllReadyIn.cons rfl (fun K hK => ?_) ?_
                  · go_simp
                    gi_wp2_with (refine ⟨trivial, ?_⟩; gi_at_call 172; refine (CallsIn.inRound l (callsIn_wide.2 (part_calls _ _ _ _))).mono ?_; rintro e W1 ⟨b1, b2, rfl, hpm, hb1⟩; have HA1 := Aside0.mk (HA.out.below hb1); have HP := Aside0.mk hpm; have HBB := Aside0.mk hb1; have q1' : W1.cell? ⟨w.heap.size + 1, 0, none⟩ = some v1 := blk_cell HA1.out.2.1 0; have q1'' : ∀ o, (W1.alloc o).cell? ⟨w.heap.size + 1, 0, none⟩ = some v1 := fun o => blk_cell (blk_alloc HA1.out.2.1 o) 0; clear hpm hb1; simp only [partC])
                    try (refine hK _ _ ?_; clear hK K)
                    refine wpAnyIn_ready (rs := [5]) (by kernel_rfl) (by simp) ?_
                    refine AllReadyIn.cons rfl (fun K hK => ?_) ?_
                    · go_simp
                      refine hK _ _ ?_
                      clear hK K
                      refine wpAnyIn_ready (rs := [6]) (by kernel_rfl) (by simp) ?_
                      refine AllReadyIn.cons rfl (fun K hK => ?_) ?_
                      · refine step_append_RIn rfl kPart w.heap.size (.tmp 22) (.tmp 27) 148 148 154 154 (.agg #[.int .i64 0, .int .u8 0, .int .u8 0, .bool false, .int .u64 0, .nilFunc]) 40 rfl (by kernel_rfl) (by kernel_rfl) infoP rfl (by decide) (by decide) v1 (labP body k ++ [((k : Int), 0, s)]) [((k : Int), 1, turnI s)] (some ⟨W1.heap.size, 0, none⟩) 1 1 (fun k => some k ≠ v2.ownBlock) (fun k => W.heap.size ≤ k) rfl rfl (HA1.out.below (below_alloc (Below.refl _ _) _)).2.2.2.1 (part_row (W := W.drew) HP.out) (fun x cs h => part_lower HA.out.2.2.2.2.2.size h) (fun k hk => ⟨(AllB.fresh HA.out hk).2, (AllB.fresh HA.out hk).1⟩) (fun k hk => (AllB.fresh (HA1.out.below (below_alloc (Below.refl _ _) _)) hk).2) (HA1.out.below (below_alloc (Below.refl _ _) (.cells (partC ((k : Int), 1, turnI s) b1 b2).toArray 154))).2.2.2.2.2.size (by rw [List.length_append, List.length_singleton]; omega) ?_
                        intro u3 w3 hR hg hat
                        obtain ⟨A3, c3, rfl⟩ := Kd.R_slice hR
                        obtain ⟨L3, hL3⟩ : ∃ L, L = ((labP body k ++ [((k : Int), 0, s)]) ++ [((k : Int), 1, turnI s)]).length := ⟨_, rfl⟩
                        rw [← hL3] at hR hat ⊢
                        clear hL3
                        obtain ⟨hA3, hK3, q3, f3⟩ := (HA1.out.below (below_alloc (Below.refl _ _) (.cells (partC ((k : Int), 1, turnI s) b1 b2).toArray 154))).add1 hR hg hat
                        have HA3 := Aside0.mk hA3
                        have HK3 := Aside0.mk ((RoundK.below (n0 := w.heap.size) (below_then (Below.refl _ W).drew (below_alloc HBB.out (.cells (partC ((k : Int), 1, turnI s) b1 b2).toArray 154))) HA.out.2.2.2.2.2.size).trans hK3)
                        refine hK _ _ ?_
                        clear hK K hA3 hK3 hR hg hat
                        refine wpAnyIn_ready (rs := [7]) (by kernel_rfl) (by simp) ?_
                        refine AllReadyIn.cons rfl (fun K hK => ?_) ?_
                        · go_simp
                          refine hK _ _ ?_
                          clear hK K
                          refine wpAnyIn_done (by kernel_rfl) ?_ _
                          rw [HQ.out]
                          exact ⟨rfl, _, _, _, _, _, _, _, _, rfl, HA3.out, HK3.out⟩
                        exact AllReadyIn.nil
                      exact AllReadyIn.nil
                    exact AllReadyIn.nil
                  exact AllReadyIn.nil
                exact AllReadyIn.nil
              refine AllReadyIn.cons rfl (fun K hK => ?_) ?_
              · go_simp
                refine hK _ _ ?_
                clear hK K
                refine wpAnyIn_ready (rs := [0, 4]) (by kernel_rfl) (by simp) ?_
                refine AllReadyIn.cons rfl (fun K hK => ?_) ?_
                · go_simp
                  refine hK _ _ ?_
                  clear hK K
                  refine wpAnyIn_ready (rs := [4]) (by kernel_rfl) (by simp) ?_
                  refine AllReadyIn.cons rfl (fun K hK => ?_) ?_
                  · go_simp
                    gi_wp2_with (refine ⟨trivial, ?_⟩; gi_at_call 172; refine (CallsIn.inRound l (callsIn_wide.2 (part_calls _ _ _ _))).mono ?_; rintro e W1 ⟨b1, b2, rfl, hpm, hb1⟩; have HA1 := Aside0.mk (HA.out.below hb1); have HP := Aside0.mk hpm; have HBB := Aside0.mk hb1; have q1' : W1.cell? ⟨w.heap.size + 1, 0, none⟩ = some v1 := blk_cell HA1.out.2.1 0; have q1'' : ∀ o, (W1.alloc o).cell? ⟨w.heap.size + 1, 0, none⟩ = some v1 := fun o => blk_cell (blk_alloc HA1.out.2.1 o) 0; clear hpm hb1; simp only [partC])
                    try (refine hK _ _ ?_; clear hK K)
                    refine wpAnyIn_ready (rs := [5]) (by kernel_rfl) (by simp) ?_
                    refine AllReadyIn.cons rfl (fun K hK => ?_) ?_
                    · go_simp
                      refine hK _ _ ?_
                      clear hK K
                      refine wpAnyIn_ready (rs := [6]) (by kernel_rfl) (by simp) ?_
                      refine AllReadyIn.cons rfl (fun K hK => ?_) ?_
                      · refine step_append_RIn rfl kPart w.heap.size (.tmp 22) (.tmp 27) 148 148 154 154 (.agg #[.int .i64 0, .int .u8 0, .int .u8 0, .bool false, .int .u64 0, .nilFunc]) 40 rfl (by kernel_rfl) (by kernel_rfl) infoP rfl (by decide) (by decide) v1 (labP body k ++ [((k : Int), 0, s)]) [((k : Int), 1, turnI s)] (some ⟨W1.heap.size, 0, none⟩) 1 1 (fun k => some k ≠ v2.ownBlock) (fun k => W.heap.size ≤ k) rfl rfl (HA1.out.below (below_alloc (Below.refl _ _) _)).2.2.2.1 (part_row (W := W.drew) HP.out) (fun x cs h => part_lower HA.out.2.2.2.2.2.size h) (fun k hk => ⟨(AllB.fresh HA.out hk).2, (AllB.fresh HA.out hk).1⟩) (fun k hk => (AllB.fresh (HA1.out.below (below_alloc (Below.refl _ _) _)) hk).2) (HA1.out.below (below_alloc (Below.refl _ _) (.cells (partC ((k : Int), 1, turnI s) b1 b2).toArray 154))).2.2.2.2.2.size (by rw [List.length_append, List.length_singleton]; omega) ?_
                        intro u3 w3 hR hg hat
                        obtain ⟨A3, c3, rfl⟩ := Kd.R_slice hR
                        obtain ⟨L3, hL3⟩ : ∃ L, L = ((labP body k ++ [((k : Int), 0, s)]) ++ [((k : Int), 1, turnI s)]).length := ⟨_, rfl⟩
                        rw [← hL3] at hR hat ⊢
                        clear hL3
                        obtain ⟨hA3, hK3, q3, f3⟩ := (HA1.out.below (below_alloc (Below.refl _ _) (.cells (partC ((k : Int), 1, turnI s) b1 b2).toArray 154))).add1 hR hg hat
                        have HA3 := Aside0.mk hA3
                        have HK3 := Aside0.mk ((RoundK.below (n0 := w.heap.size) (below_then (Below.refl _ W).drew (below_alloc HBB.out (.cells (partC ((k : Int), 1, turnI s) b1 b2).toArray 154))) HA.out.2.2.2.2.2.size).trans hK3)
                        refine hK _ _ ?_
                        clear hK K hA3 hK3 hR hg hat
                        refine wpAnyIn_ready (rs := [7]) (by kernel_rfl) (by simp) ?_
                        refine AllReadyIn.cons rfl (fun K hK => ?_) ?_
                        · go_simp
                          refine hK _ _ ?_
                          clear hK K
                          refine wpAnyIn_done (by kernel_rfl) ?_ _
                          rw [HQ.out]
                          exact ⟨rfl, _, _, _, _, _, _, _, _, rfl, HA3.out, HK3.out⟩
                        exact AllReadyIn.nil
                      exact AllReadyIn.nil
                    exact AllReadyIn.nil
                  exact AllReadyIn.nil
                refine AllReadyIn.cons rfl (fun K hK => ?_) ?_
                · go_simp
                  gi_wp2_with (refine ⟨trivial, ?_⟩; gi_at_call 172; refine (CallsIn.inRound l (callsIn_wide.2 (part_calls _ _ _ _))).mono ?_; rintro e W1 ⟨b1, b2, rfl, hpm, hb1⟩; have HA1 := Aside0.mk (HA.out.below hb1); have HP := Aside0.mk hpm; have HBB := Aside0.mk hb1; have q1' : W1.cell? ⟨w.heap.size + 1, 0, none⟩ = some v1 := blk_cell HA1.out.2.1 0; have q1'' : ∀ o, (W1.alloc o).cell? ⟨w.heap.size + 1, 0, none⟩ = some v1 := fun o => blk_cell (blk_alloc HA1.out.2.1 o) 0; clear hpm hb1; simp only [partC])
                  try (refine hK _ _ ?_; clear hK K)
                  refine wpAnyIn_ready (rs := [0, 5]) (by kernel_rfl) (by simp) ?_
                  refine AllReadyIn.cons rfl (fun K hK => ?_) ?_
                  · go_simp
                    refine hK _ _ ?_
                    clear hK K
                    refine wpAnyIn_ready (rs := [5]) (by kernel_rfl) (by simp) ?_
                    refine AllReadyIn.cons rfl (fun K hK => ?_) ?_
                    · go_simp
                      refine hK _ _ ?_
                      clear hK K
                      refine wpAnyIn_ready (rs := [6]) (by kernel_rfl) (by simp) ?_
                      refine AllReadyIn.cons rfl (fun K hK => ?_) ?_
                      · refine step_append_RIn rfl kPart w.heap.size (.tmp 22) (.tmp 27) 148 148 154 154 (.agg #[.int .i64 0, .int .u8 0, .int .u8 0, .bool false, .int .u64 0, .nilFunc]) 40 rfl (by kernel_rfl) (by kernel_rfl) infoP rfl (by decide) (by decide) v1 (labP body k ++ [((k : Int), 0, s)]) [((k : Int), 1, turnI s)] (some ⟨W1.heap.size, 0, none⟩) 1 1 (fun k => some k ≠ v2.ownBlock) (fun k => W.heap.size ≤ k) rfl rfl (HA1.out.below (below_alloc (Below.refl _ _) _)).2.2.2.1 (part_row (W := W.drew) HP.out) (fun x cs h => part_lower HA.out.2.2.2.2.2.size h) (fun k hk => ⟨(AllB.fresh HA.out hk).2, (AllB.fresh HA.out hk).1⟩) (fun k hk => (AllB.fresh (HA1.out.below (below_alloc (Below.refl _ _) _)) hk).2) (HA1.out.below (below_alloc (Below.refl _ _) (.cells (partC ((k : Int), 1, turnI s) b1 b2).toArray 154))).2.2.2.2.2.size (by rw [List.length_append, List.length_singleton]; omega) ?_
                        intro u3 w3 hR hg hat
                        obtain ⟨A3, c3, rfl⟩ := Kd.R_slice hR
                        obtain ⟨L3, hL3⟩ : ∃ L, L = ((labP body k ++ [((k : Int), 0, s)]) ++ [((k : Int), 1, turnI s)]).length := ⟨_, rfl⟩
                        rw [← hL3] at hR hat ⊢
                        clear hL3
                        obtain ⟨hA3, hK3, q3, f3⟩ := (HA1.out.below (below_alloc (Below.refl _ _) (.cells (partC ((k : Int), 1, turnI s) b1 b2).toArray 154))).add1 hR hg hat
                        have HA3 := Aside0.mk hA3
                        have HK3 := Aside0.mk ((RoundK.below (n0 := w.heap.size) (below_then (Below.refl _ W).drew (below_alloc HBB.out (.cells (partC ((k : Int), 1, turnI s) b1 b2).toArray 154))) HA.out.2.2.2.2.2.size).trans hK3)
                        refine hK _ _ ?_
                        clear hK K hA3 hK3 hR hg hat
                        refine wpAnyIn_ready (rs := [7]) (by kernel_rfl) (by simp) ?_
                        refine AllReadyIn.cons rfl (fun K hK => ?_) ?_
                        · go_simp
                          refine hK _ _ ?_
                          clear hK K
                          refine wpAnyIn_done (by kernel_rfl) ?_ _
                          rw [HQ.out]
                          exact ⟨rfl, _, _, _, _, _, _, _, _, rfl, HA3.out, HK3.out⟩
                        exact AllReadyIn.nil
                      exact AllReadyIn.nil
                    exact AllReadyIn.nil
                  refine AllReadyIn.cons rfl (fun K hK => ?_) ?_
                  · go_simp
                    refine hK _ _ ?_
                    clear hK K
                    refine wpAnyIn_ready (rs := [0]) (by kernel_rfl) (by simp) ?_
                    refine AllReadyIn.cons rfl (fun K hK => ?_) ?_
                    · go_simp
                      refine hK _ _ ?_
                      clear hK K
                      refine wpAnyIn_ready (rs := [6]) (by kernel_rfl) (by simp) ?_
                      refine AllReadyIn.cons rfl (fun K hK => ?_) ?_
                      · refine step_append_RIn rfl kPart w.heap.size (.tmp 22) (.tmp 27) 148 148 154 154 (.agg #[.int .i64 0, .int .u8 0, .int .u8 0, .bool false, .int .u64 0, .nilFunc]) 40 rfl (by kernel_rfl) (by kernel_rfl) infoP rfl (by decide) (by decide) v1 (labP body k ++ [((k : Int), 0, s)]) [((k : Int), 1, turnI s)] (some ⟨W1.heap.size, 0, none⟩) 1 1 (fun k => some k ≠ v2.ownBlock) (fun k => W.heap.size ≤ k) rfl rfl (HA1.out.below (below_alloc (Below.refl _ _) _)).2.2.2.1 (part_row (W := W.drew) HP.out) (fun x cs h => part_lower HA.out.2.2.2.2.2.size h) (fun k hk => ⟨(AllB.fresh HA.out hk).2, (AllB.fresh HA.out hk).1⟩) (fun k hk => (AllB.fresh (HA1.out.below (below_alloc (Below.refl _ _) _)) hk).2) (HA1.out.below (below_alloc (Below.refl _ _) (.cells (partC ((k : Int), 1, turnI s) b1 b2).toArray 154))).2.2.2.2.2.size (by rw [List.length_append, List.length_singleton]; omega) ?_
                        intro u3 w3 hR hg hat
                        obtain ⟨A3, c3, rfl⟩ := Kd.R_slice hR
                        obtain ⟨L3, hL3⟩ : ∃ L, L = ((labP body k ++ [((k : Int), 0, s)]) ++ [((k : Int), 1, turnI s)]).length := ⟨_, rfl⟩
                        rw [← hL3] at hR hat ⊢
                        clear hL3
                        obtain ⟨hA3, hK3, q3, f3⟩ := (HA1.out.below (below_alloc (Below.refl _ _) (.cells (partC ((k : Int), 1, turnI s) b1 b2).toArray 154))).add1 hR hg hat
                        have HA3 := Aside0.mk hA3
                        have HK3 := Aside0.mk ((RoundK.below (n0 := w.heap.size) (below_then (Below.refl _ W).drew (below_alloc HBB.out (.cells (partC ((k : Int), 1, turnI s) b1 b2).toArray 154))) HA.out.2.2.2.2.2.size).trans hK3)
                        refine hK _ _ ?_
                        clear hK K hA3 hK3 hR hg hat
                        refine wpAnyIn_ready (rs := [7]) (by kernel_rfl) (by simp) ?_
                        refine AllReadyIn.cons rfl (fun K hK => ?_) ?_
                        · go_simp
                          refine hK _ _ ?_
                          clear hK K
                          refine wpAnyIn_done (by kernel_rfl) ?_ _
                          rw [HQ.out]
                          exact ⟨rfl, _, _, _, _, _, _, _, _, rfl, HA3.out, HK3.out⟩
                        exact AllReadyIn.nil
                      exact AllReadyIn.nil
                    exact AllReadyIn.nil
                  exact AllReadyIn.nil
                exact AllReadyIn.nil
              exact AllReadyIn.nil
            exact AllReadyIn.nil
          exact AllReadyIn.nil
        case k6 =>
          rw [HQ.out]
          rintro e a' W ⟨rfl, t22, t23, t24, t25, t26, t27, t28, v1, rfl, hA6, hK6⟩
          clear HQ q0 q1 HA HA0 c0
          have HK6 := Aside0.mk (RoundK.trans HK4.out hK6)
          have q2 : W.cell? ⟨w.heap.size + 1 + 1, 0, none⟩ = some v2 := blk_cell hA6.2.2.1 0
          have HA := Aside0.mk hA6.drew
          clear hA6 hK6 HK4
          gi_wp2
          obtain ⟨Q7, hQ7⟩ : ∃ Q7, Q7 = (fun (e : Exit) (a' : Act) (W' : World) => e = Exit.normal ∧ ∃ t29 t30 t31 t32 t33 t34 u : Value, a' = { tmps := #[.slice (some ad) N c, .pointer (some ⟨w.heap.size, 0, none⟩), .pointer (some ⟨w.heap.size + 1, 0, none⟩), .pointer (some ⟨w.heap.size + 1 + 1, 0, none⟩), .int .i64 (k : Int), .int .u8 s, .slice (some ad) N c, .func (.func 205) #[] #[.pointer (some ⟨w.heap.size + 1 + 1 + 1, 0, none⟩)], .int .i64 (k : Int), .int .u8 s, t10, t11, t12, t13, t14, t15, .slice (some ad) N c, .int .i64 (k : Int), .pointer (some (ad.add (k * 10))), .pointer (some (ad.add (k * 10))), .int .u8 5, .bool true, t22, t23, t24, t25, t26, t27, t28, t29, t30, t31, t32, t33, t34, undef, undef], defers := [] } ∧ AllB w (some ad) N c W' v1 u (labP body k ++ [((k : Int), 0, s)] ++ [((k : Int), 1, turnI s)]) (effP body k ++ [((k : Int), 2, s)]) ∧ RoundK w.heap.size W W') := ⟨_, rfl⟩
          have HQ := Aside0.mk hQ7
          clear hQ7
          refine wpIn_mono (Q := Q7) ?r7 ?k7
          case r7 =>
            refine wpIn_region_any (by assumption) ?_
            change wpAnyIn _ _ _ _ _ _ _ _ _ (World.drew _)
            refine wpAnyIn_ready (rs := [0, 1, 2]) (by kernel_rfl) (by simp) ?_
            refine AllReadyIn.cons rfl (fun K hK => ?_) ?_
            · go_simp
              refine hK _ _ ?_
              clear hK K
              refine wpAnyIn_ready (rs := [1, 2]) (by kernel_rfl) (by simp) ?_
              refine AllReadyIn.cons rfl (fun K hK => ?_) ?_
              · go_simp
                refine hK _ _ ?_
                clear hK K
                refine wpAnyIn_ready (rs := [2]) (by kernel_rfl) (by simp) ?_
                refine AllReadyIn.cons rfl (fun K hK => ?_) ?_
                · go_simp
                  refine hK _ _ ?_
                  clear hK K
                  refine wpAnyIn_ready (rs := [3]) (by kernel_rfl) (by simp) ?_
                  refine AllReadyIn.cons rfl (fun K hK => ?_) ?_
                  · go_simp
                    gi_wp2_with (refine ⟨trivial, ?_⟩; gi_at_call 172; refine (CallsIn.inRound l (callsIn_wide.2 (part_calls _ _ _ _))).mono ?_; rintro e W1 ⟨b1, b2, rfl, hpm, hb1⟩; have HA1 := Aside0.mk (HA.out.below hb1); have HP := Aside0.mk hpm; have HBB := Aside0.mk hb1; have q1' : W1.cell? ⟨w.heap.size + 1 + 1, 0, none⟩ = some v2 := blk_cell HA1.out.2.2.1 0; have q1'' : ∀ o, (W1.alloc o).cell? ⟨w.heap.size + 1 + 1, 0, none⟩ = some v2 := fun o => blk_cell (blk_alloc HA1.out.2.2.1 o) 0; clear hpm hb1; simp only [partC])
                    try (refine hK _ _ ?_; clear hK K)
                    refine wpAnyIn_ready (rs := [4]) (by kernel_rfl) (by simp) ?_
                    refine AllReadyIn.cons rfl (fun K hK => ?_) ?_
                    · go_simp
                      refine hK _ _ ?_
                      clear hK K
                      refine wpAnyIn_ready (rs := [5]) (by kernel_rfl) (by simp) ?_
                      refine AllReadyIn.cons rfl (fun K hK => ?_) ?_
                      · refine step_append_RIn rfl kPart w.heap.size (.tmp 29) (.tmp 33) 148 148 154 154 (.agg #[.int .i64 0, .int .u8 0, .int .u8 0, .bool false, .int .u64 0, .nilFunc]) 40 rfl (by kernel_rfl) (by kernel_rfl) infoP rfl (by decide) (by decide) v2 (effP body k) [((k : Int), 2, s)] (some ⟨W1.heap.size, 0, none⟩) 1 1 (fun k => some k ≠ v1.ownBlock) (fun k => W.heap.size ≤ k) rfl rfl (HA1.out.below (below_alloc (Below.refl _ _) _)).2.2.2.2.1 (part_row (W := W.drew) HP.out) (fun x cs h => part_lower HA.out.2.2.2.2.2.size h) (fun k hk => ⟨(AllB.fresh HA.out hk).1, (AllB.fresh HA.out hk).2⟩) (fun k hk => (AllB.fresh (HA1.out.below (below_alloc (Below.refl _ _) _)) hk).1) (HA1.out.below (below_alloc (Below.refl _ _) (.cells (partC ((k : Int), 2, s) b1 b2).toArray 154))).2.2.2.2.2.size (by skip; omega) ?_
                        intro u3 w3 hR hg hat
                        obtain ⟨A3, c3, rfl⟩ := Kd.R_slice hR
                        obtain ⟨L3, hL3⟩ : ∃ L, L = ((effP body k) ++ [((k : Int), 2, s)]).length := ⟨_, rfl⟩
                        rw [← hL3] at hR hat ⊢
                        clear hL3
                        obtain ⟨hA3, hK3, q3, f3⟩ := (HA1.out.below (below_alloc (Below.refl _ _) (.cells (partC ((k : Int), 2, s) b1 b2).toArray 154))).add2 hR hg hat
                        have HA3 := Aside0.mk hA3
                        have HK3 := Aside0.mk ((RoundK.below (n0 := w.heap.size) (below_then (Below.refl _ W).drew (below_alloc HBB.out (.cells (partC ((k : Int), 2, s) b1 b2).toArray 154))) HA.out.2.2.2.2.2.size).trans hK3)
                        refine hK _ _ ?_
                        clear hK K hA3 hK3 hR hg hat
                        refine wpAnyIn_ready (rs := [6]) (by kernel_rfl) (by simp) ?_
                        refine AllReadyIn.cons rfl (fun K hK => ?_) ?_
                        · go_simp
                          refine hK _ _ ?_
                          clear hK K
                          refine wpAnyIn_done (by kernel_rfl) ?_ _
                          rw [HQ.out]
                          exact ⟨rfl, _, _, _, _, _, _, _, rfl, HA3.out, HK3.out⟩
                        exact AllReadyIn.nil
                      exact AllReadyIn.nil
                    exact AllReadyIn.nil
                  exact AllReadyIn.nil
                exact AllReadyIn.nil
              refine AllReadyIn.cons rfl (fun K hK => ?_) ?_
              · go_simp
                refine hK _ _ ?_
                clear hK K
                refine wpAnyIn_ready (rs := [1]) (by kernel_rfl) (by simp) ?_
                refine AllReadyIn.cons rfl (fun K hK => ?_) ?_
                · go_simp
                  refine hK _ _ ?_
                  clear hK K
                  refine wpAnyIn_ready (rs := [3]) (by kernel_rfl) (by simp) ?_
                  refine AllReadyIn.cons rfl (fun K hK => ?_) ?_
                  · go_simp
                    gi_wp2_with (refine ⟨trivial, ?_⟩; gi_at_call 172; refine (CallsIn.inRound l (callsIn_wide.2 (part_calls _ _ _ _))).mono ?_; rintro e W1 ⟨b1, b2, rfl, hpm, hb1⟩; have HA1 := Aside0.mk (HA.out.below hb1); have HP := Aside0.mk hpm; have HBB := Aside0.mk hb1; have q1' : W1.cell? ⟨w.heap.size + 1 + 1, 0, none⟩ = some v2 := blk_cell HA1.out.2.2.1 0; have q1'' : ∀ o, (W1.alloc o).cell? ⟨w.heap.size + 1 + 1, 0, none⟩ = some v2 := fun o => blk_cell (blk_alloc HA1.out.2.2.1 o) 0; clear hpm hb1; simp only [partC])
                    try (refine hK _ _ ?_; clear hK K)
                    refine wpAnyIn_ready (rs := [4]) (by kernel_rfl) (by simp) ?_
                    refine AllReadyIn.cons rfl (fun K hK => ?_) ?_
                    · go_simp
                      refine hK _ _ ?_
                      clear hK K
                      refine wpAnyIn_ready (rs := [5]) (by kernel_rfl) (by simp) ?_
                      refine AllReadyIn.cons rfl (fun K hK => ?_) ?_
                      · refine step_append_RIn rfl kPart w.heap.size (.tmp 29) (.tmp 33) 148 148 154 154 (.agg #[.int .i64 0, .int .u8 0, .int .u8 0, .bool false, .int .u64 0, .nilFunc]) 40 rfl (by kernel_rfl) (by kernel_rfl) infoP rfl (by decide) (by decide) v2 (effP body k) [((k : Int), 2, s)] (some ⟨W1.heap.size, 0, none⟩) 1 1 (fun k => some k ≠ v1.ownBlock) (fun k => W.heap.size ≤ k) rfl rfl (HA1.out.below (below_alloc (Below.refl _ _) _)).2.2.2.2.1 (part_row (W := W.drew) HP.out) (fun x cs h => part_lower HA.out.2.2.2.2.2.size h) (fun k hk => ⟨(AllB.fresh HA.out hk).1, (AllB.fresh HA.out hk).2⟩) (fun k hk => (AllB.fresh (HA1.out.below (below_alloc (Below.refl _ _) _)) hk).1) (HA1.out.below (below_alloc (Below.refl _ _) (.cells (partC ((k : Int), 2, s) b1 b2).toArray 154))).2.2.2.2.2.size (by skip; omega) ?_
                        intro u3 w3 hR hg hat
                        obtain ⟨A3, c3, rfl⟩ := Kd.R_slice hR
                        obtain ⟨L3, hL3⟩ : ∃ L, L = ((effP body k) ++ [((k : Int), 2, s)]).length := ⟨_, rfl⟩
                        rw [← hL3] at hR hat ⊢
                        clear hL3
                        obtain ⟨hA3, hK3, q3, f3⟩ := (HA1.out.below (below_alloc (Below.refl _ _) (.cells (partC ((k : Int), 2, s) b1 b2).toArray 154))).add2 hR hg hat
                        have HA3 := Aside0.mk hA3
                        have HK3 := Aside0.mk ((RoundK.below (n0 := w.heap.size) (below_then (Below.refl _ W).drew (below_alloc HBB.out (.cells (partC ((k : Int), 2, s) b1 b2).toArray 154))) HA.out.2.2.2.2.2.size).trans hK3)
                        refine hK _ _ ?_
                        clear hK K hA3 hK3 hR hg hat
                        refine wpAnyIn_ready (rs := [6]) (by kernel_rfl) (by simp) ?_
                        refine AllReadyIn.cons rfl (fun K hK => ?_) ?_
                        · go_simp
                          refine hK _ _ ?_
                          clear hK K
                          refine wpAnyIn_done (by kernel_rfl) ?_ _
                          rw [HQ.out]
                          exact ⟨rfl, _, _, _, _, _, _, _, rfl, HA3.out, HK3.out⟩
                        exact AllReadyIn.nil
                      exact AllReadyIn.nil
                    exact AllReadyIn.nil
                  exact AllReadyIn.nil
                exact AllReadyIn.nil
              exact AllReadyIn.nil
            refine AllReadyIn.cons rfl (fun K hK => ?_) ?_
            · go_simp
              refine hK _ _ ?_
              clear hK K
              refine wpAnyIn_ready (rs := [0, 2]) (by kernel_rfl) (by simp) ?_
              refine AllReadyIn.cons rfl (fun K hK => ?_) ?_
              · go_simp
                refine hK _ _ ?_
                clear hK K
                refine wpAnyIn_ready (rs := [2]) (by kernel_rfl) (by simp) ?_
                refine AllReadyIn.cons rfl (fun K hK => ?_) ?_
                · go_simp
                  refine hK _ _ ?_
                  clear hK K
                  refine wpAnyIn_ready (rs := [3]) (by kernel_rfl) (by simp) ?_
                  refine AllReadyIn.cons rfl (fun K hK => ?_) ?_
                  · go_simp
                    gi_wp2_with (refine ⟨trivial, ?_⟩; gi_at_call 172; refine (CallsIn.inRound l (callsIn_wide.2 (part_calls _ _ _ _))).mono ?_; rintro e W1 ⟨b1, b2, rfl, hpm, hb1⟩; have HA1 := Aside0.mk (HA.out.below hb1); have HP := Aside0.mk hpm; have HBB := Aside0.mk hb1; have q1' : W1.cell? ⟨w.heap.size + 1 + 1, 0, none⟩ = some v2 := blk_cell HA1.out.2.2.1 0; have q1'' : ∀ o, (W1.alloc o).cell? ⟨w.heap.size + 1 + 1, 0, none⟩ = some v2 := fun o => blk_cell (blk_alloc HA1.out.2.2.1 o) 0; clear hpm hb1; simp only [partC])
                    try (refine hK _ _ ?_; clear hK K)
                    refine wpAnyIn_ready (rs := [4]) (by kernel_rfl) (by simp) ?_
                    refine AllReadyIn.cons rfl (fun K hK => ?_) ?_
                    · go_simp
                      refine hK _ _ ?_
                      clear hK K
                      refine wpAnyIn_ready (rs := [5]) (by kernel_rfl) (by simp) ?_
                      refine AllReadyIn.cons rfl (fun K hK => ?_) ?_
                      · refine step_append_RIn rfl kPart w.heap.size (.tmp 29) (.tmp 33) 148 148 154 154 (.agg #[.int .i64 0, .int .u8 0, .int .u8 0, .bool false, .int .u64 0, .nilFunc]) 40 rfl (by kernel_rfl) (by kernel_rfl) infoP rfl (by decide) (by decide) v2 (effP body k) [((k : Int), 2, s)] (some ⟨W1.heap.size, 0, none⟩) 1 1 (fun k => some k ≠ v1.ownBlock) (fun k => W.heap.size ≤ k) rfl rfl (HA1.out.below (below_alloc (Below.refl _ _) _)).2.2.2.2.1 (part_row (W := W.drew) HP.out) (fun x cs h => part_lower HA.out.2.2.2.2.2.size h) (fun k hk => ⟨(AllB.fresh HA.out hk).1, (AllB.fresh HA.out hk).2⟩) (fun k hk => (AllB.fresh (HA1.out.below (below_alloc (Below.refl _ _) _)) hk).1) (HA1.out.below (below_alloc (Below.refl _ _) (.cells (partC ((k : Int), 2, s) b1 b2).toArray 154))).2.2.2.2.2.size (by skip; omega) ?_
                        intro u3 w3 hR hg hat
                        obtain ⟨A3, c3, rfl⟩ := Kd.R_slice hR
                        obtain ⟨L3, hL3⟩ : ∃ L, L = ((effP body k) ++ [((k : Int), 2, s)]).length := ⟨_, rfl⟩
                        rw [← hL3] at hR hat ⊢
                        clear hL3
                        obtain ⟨hA3, hK3, q3, f3⟩ := (HA1.out.below (below_alloc (Below.refl _ _) (.cells (partC ((k : Int), 2, s) b1 b2).toArray 154))).add2 hR hg hat
                        have HA3 := Aside0.mk hA3
                        have HK3 := Aside0.mk ((RoundK.below (n0 := w.heap.size) (below_then (Below.refl _ W).drew (below_alloc HBB.out (.cells (partC ((k : Int), 2, s) b1 b2).toArray 154))) HA.out.2.2.2.2.2.size).trans hK3)
                        refine hK _ _ ?_
                        clear hK K hA3 hK3 hR hg hat
                        refine wpAnyIn_ready (rs := [6]) (by kernel_rfl) (by simp) ?_
                        refine AllReadyIn.cons rfl (fun K hK => ?_) ?_
                        · go_simp
                          refine hK _ _ ?_
                          clear hK K
                          refine wpAnyIn_done (by kernel_rfl) ?_ _
                          rw [HQ.out]
                          exact ⟨rfl, _, _, _, _, _, _, _, rfl, HA3.out, HK3.out⟩
                        exact AllReadyIn.nil
                      exact AllReadyIn.nil
                    exact AllReadyIn.nil
                  exact AllReadyIn.nil
                exact AllReadyIn.nil
              refine AllReadyIn.cons rfl (fun K hK => ?_) ?_
              · go_simp
                refine hK _ _ ?_
                clear hK K
                refine wpAnyIn_ready (rs := [0, 3]) (by kernel_rfl) (by simp) ?_
                refine AllReadyIn.cons rfl (fun K hK => ?_) ?_
                · go_simp
                  refine hK _ _ ?_
                  clear hK K
                  refine wpAnyIn_ready (rs := [3]) (by kernel_rfl) (by simp) ?_
                  refine AllReadyIn.cons rfl (fun K hK => ?_) ?_
                  · go_simp
                    gi_wp2_with (refine ⟨trivial, ?_⟩; gi_at_call 172; refine (CallsIn.inRound l (callsIn_wide.2 (part_calls _ _ _ _))).mono ?_; rintro e W1 ⟨b1, b2, rfl, hpm, hb1⟩; have HA1 := Aside0.mk (HA.out.below hb1); have HP := Aside0.mk hpm; have HBB := Aside0.mk hb1; have q1' : W1.cell? ⟨w.heap.size + 1 + 1, 0, none⟩ = some v2 := blk_cell HA1.out.2.2.1 0; have q1'' : ∀ o, (W1.alloc o).cell? ⟨w.heap.size + 1 + 1, 0, none⟩ = some v2 := fun o => blk_cell (blk_alloc HA1.out.2.2.1 o) 0; clear hpm hb1; simp only [partC])
                    try (refine hK _ _ ?_; clear hK K)
                    refine wpAnyIn_ready (rs := [4]) (by kernel_rfl) (by simp) ?_
                    refine AllReadyIn.cons rfl (fun K hK => ?_) ?_
                    · go_simp
                      refine hK _ _ ?_
                      clear hK K
                      refine wpAnyIn_ready (rs := [5]) (by kernel_rfl) (by simp) ?_
                      refine AllReadyIn.cons rfl (fun K hK => ?_) ?_
                      · refine step_append_RIn rfl kPart w.heap.size (.tmp 29) (.tmp 33) 148 148 154 154 (.agg #[.int .i64 0, .int .u8 0, .int .u8 0, .bool false, .int .u64 0, .nilFunc]) 40 rfl (by kernel_rfl) (by kernel_rfl) infoP rfl (by decide) (by decide) v2 (effP body k) [((k : Int), 2, s)] (some ⟨W1.heap.size, 0, none⟩) 1 1 (fun k => some k ≠ v1.ownBlock) (fun k => W.heap.size ≤ k) rfl rfl (HA1.out.below (below_alloc (Below.refl _ _) _)).2.2.2.2.1 (part_row (W := W.drew) HP.out) (fun x cs h => part_lower HA.out.2.2.2.2.2.size h) (fun k hk => ⟨(AllB.fresh HA.out hk).1, (AllB.fresh HA.out hk).2⟩) (fun k hk => (AllB.fresh (HA1.out.below (below_alloc (Below.refl _ _) _)) hk).1) (HA1.out.below (below_alloc (Below.refl _ _) (.cells (partC ((k : Int), 2, s) b1 b2).toArray 154))).2.2.2.2.2.size (by skip; omega) ?_
                        intro u3 w3 hR hg hat
                        obtain ⟨A3, c3, rfl⟩ := Kd.R_slice hR
                        obtain ⟨L3, hL3⟩ : ∃ L, L = ((effP body k) ++ [((k : Int), 2, s)]).length := ⟨_, rfl⟩
                        rw [← hL3] at hR hat ⊢
                        clear hL3
                        obtain ⟨hA3, hK3, q3, f3⟩ := (HA1.out.below (below_alloc (Below.refl _ _) (.cells (partC ((k : Int), 2, s) b1 b2).toArray 154))).add2 hR hg hat
                        have HA3 := Aside0.mk hA3
                        have HK3 := Aside0.mk ((RoundK.below (n0 := w.heap.size) (below_then (Below.refl _ W).drew (below_alloc HBB.out (.cells (partC ((k : Int), 2, s) b1 b2).toArray 154))) HA.out.2.2.2.2.2.size).trans hK3)
                        refine hK _ _ ?_
                        clear hK K hA3 hK3 hR hg hat
                        refine wpAnyIn_ready (rs := [6]) (by kernel_rfl) (by simp) ?_
                        refine AllReadyIn.cons rfl (fun K hK => ?_) ?_
                        · go_simp
                          refine hK _ _ ?_
                          clear hK K
                          refine wpAnyIn_done (by kernel_rfl) ?_ _
                          rw [HQ.out]
                          exact ⟨rfl, _, _, _, _, _, _, _, rfl, HA3.out, HK3.out⟩
                        exact AllReadyIn.nil
                      exact AllReadyIn.nil
                    exact AllReadyIn.nil
                  exact AllReadyIn.nil
                refine AllReadyIn.cons rfl (fun K hK => ?_) ?_
                · go_simp
                  gi_wp2_with (refine ⟨trivial, ?_⟩; gi_at_call 172; refine (CallsIn.inRound l (callsIn_wide.2 (part_calls _ _ _ _))).mono ?_; rintro e W1 ⟨b1, b2, rfl, hpm, hb1⟩; have HA1 := Aside0.mk (HA.out.below hb1); have HP := Aside0.mk hpm; have HBB := Aside0.mk hb1; have q1' : W1.cell? ⟨w.heap.size + 1 + 1, 0, none⟩ = some v2 := blk_cell HA1.out.2.2.1 0; have q1'' : ∀ o, (W1.alloc o).cell? ⟨w.heap.size + 1 + 1, 0, none⟩ = some v2 := fun o => blk_cell (blk_alloc HA1.out.2.2.1 o) 0; clear hpm hb1; simp only [partC])
                  try (refine hK _ _ ?_; clear hK K)
                  refine wpAnyIn_ready (rs := [0, 4]) (by kernel_rfl) (by simp) ?_
                  refine AllReadyIn.cons rfl (fun K hK => ?_) ?_
                  · go_simp
                    refine hK _ _ ?_
                    clear hK K
                    refine wpAnyIn_ready (rs := [4]) (by kernel_rfl) (by simp) ?_
                    refine AllReadyIn.cons rfl (fun K hK => ?_) ?_
                    · go_simp
                      refine hK _ _ ?_
                      clear hK K
                      refine wpAnyIn_ready (rs := [5]) (by kernel_rfl) (by simp) ?_
                      refine AllReadyIn.cons rfl (fun K hK => ?_) ?_
                      · refine step_append_RIn rfl kPart w.heap.size (.tmp 29) (.tmp 33) 148 148 154 154 (.agg #[.int .i64 0, .int .u8 0, .int .u8 0, .bool false, .int .u64 0, .nilFunc]) 40 rfl (by kernel_rfl) (by kernel_rfl) infoP rfl (by decide) (by decide) v2 (effP body k) [((k : Int), 2, s)] (some ⟨W1.heap.size, 0, none⟩) 1 1 (fun k => some k ≠ v1.ownBlock) (fun k => W.heap.size ≤ k) rfl rfl (HA1.out.below (below_alloc (Below.refl _ _) _)).2.2.2.2.1 (part_row (W := W.drew) HP.out) (fun x cs h => part_lower HA.out.2.2.2.2.2.size h) (fun k hk => ⟨(AllB.fresh HA.out hk).1, (AllB.fresh HA.out hk).2⟩) (fun k hk => (AllB.fresh (HA1.out.below (below_alloc (Below.refl _ _) _)) hk).1) (HA1.out.below (below_alloc (Below.refl _ _) (.cells (partC ((k : Int), 2, s) b1 b2).toArray 154))).2.2.2.2.2.size (by skip; omega) ?_
                        intro u3 w3 hR hg hat
                        obtain ⟨A3, c3, rfl⟩ := Kd.R_slice hR
                        obtain ⟨L3, hL3⟩ : ∃ L, L = ((effP body k) ++ [((k : Int), 2, s)]).length := ⟨_, rfl⟩
                        rw [← hL3] at hR hat ⊢
                        clear hL3
                        obtain ⟨hA3, hK3, q3, f3⟩ := (HA1.out.below (below_alloc (Below.refl _ _) (.cells (partC ((k : Int), 2, s) b1 b2).toArray 154))).add2 hR hg hat
                        have HA3 := Aside0.mk hA3
                        have HK3 := Aside0.mk ((RoundK.below (n0 := w.heap.size) (below_then (Below.refl _ W).drew (below_alloc HBB.out (.cells (partC ((k : Int), 2, s) b1 b2).toArray 154))) HA.out.2.2.2.2.2.size).trans hK3)
                        refine hK _ _ ?_
                        clear hK K hA3 hK3 hR hg hat
                        refine wpAnyIn_ready (rs := [6]) (by kernel_rfl) (by simp) ?_
                        refine AllReadyIn.cons rfl (fun K hK => ?_) ?_
                        · go_simp
                          refine hK _ _ ?_
                          clear hK K
                          refine wpAnyIn_done (by kernel_rfl) ?_ _
                          rw [HQ.out]
                          exact ⟨rfl, _, _, _, _, _, _, _, rfl, HA3.out, HK3.out⟩
                        exact AllReadyIn.nil
                      exact AllReadyIn.nil
                    exact AllReadyIn.nil
                  refine AllReadyIn.cons rfl (fun K hK => ?_) ?_
                  · go_simp
                    refine hK _ _ ?_
                    clear hK K
                    refine wpAnyIn_ready (rs := [0]) (by kernel_rfl) (by simp) ?_
                    refine AllReadyIn.cons rfl (fun K hK => ?_) ?_
                    · go_simp
                      refine hK _ _ ?_
                      clear hK K
                      refine wpAnyIn_ready (rs := [5]) (by kernel_rfl) (by simp) ?_
                      refine AllReadyIn.cons rfl (fun K hK => ?_) ?_
                      · refine step_append_RIn rfl kPart w.heap.size (.tmp 29) (.tmp 33) 148 148 154 154 (.agg #[.int .i64 0, .int .u8 0, .int .u8 0, .bool false, .int .u64 0, .nilFunc]) 40 rfl (by kernel_rfl) (by kernel_rfl) infoP rfl (by decide) (by decide) v2 (effP body k) [((k : Int), 2, s)] (some ⟨W1.heap.size, 0, none⟩) 1 1 (fun k => some k ≠ v1.ownBlock) (fun k => W.heap.size ≤ k) rfl rfl (HA1.out.below (below_alloc (Below.refl _ _) _)).2.2.2.2.1 (part_row (W := W.drew) HP.out) (fun x cs h => part_lower HA.out.2.2.2.2.2.size h) (fun k hk => ⟨(AllB.fresh HA.out hk).1, (AllB.fresh HA.out hk).2⟩) (fun k hk => (AllB.fresh (HA1.out.below (below_alloc (Below.refl _ _) _)) hk).1) (HA1.out.below (below_alloc (Below.refl _ _) (.cells (partC ((k : Int), 2, s) b1 b2).toArray 154))).2.2.2.2.2.size (by skip; omega) ?_
                        intro u3 w3 hR hg hat
                        obtain ⟨A3, c3, rfl⟩ := Kd.R_slice hR
                        obtain ⟨L3, hL3⟩ : ∃ L, L = ((effP body k) ++ [((k : Int), 2, s)]).length := ⟨_, rfl⟩
                        rw [← hL3] at hR hat ⊢
                        clear hL3
                        obtain ⟨hA3, hK3, q3, f3⟩ := (HA1.out.below (below_alloc (Below.refl _ _) (.cells (partC ((k : Int), 2, s) b1 b2).toArray 154))).add2 hR hg hat
                        have HA3 := Aside0.mk hA3
                        have HK3 := Aside0.mk ((RoundK.below (n0 := w.heap.size) (below_then (Below.refl _ W).drew (below_alloc HBB.out (.cells (partC ((k : Int), 2, s) b1 b2).toArray 154))) HA.out.2.2.2.2.2.size).trans hK3)
                        refine hK _ _ ?_
                        clear hK K hA3 hK3 hR hg hat
                        refine wpAnyIn_ready (rs := [6]) (by kernel_rfl) (by simp) ?_
                        refine AllReadyIn.cons rfl (fun K hK => ?_) ?_
                        · go_simp
                          refine hK _ _ ?_
                          clear hK K
                          refine wpAnyIn_done (by kernel_rfl) ?_ _
                          rw [HQ.out]
                          exact ⟨rfl, _, _, _, _, _, _, _, rfl, HA3.out, HK3.out⟩
                        exact AllReadyIn.nil
                      exact AllReadyIn.nil
                    exact AllReadyIn.nil
                  exact AllReadyIn.nil
                exact AllReadyIn.nil
              exact AllReadyIn.nil
            refine AllReadyIn.cons rfl (fun K hK => ?_) ?_
            · go_simp
              refine hK _ _ ?_
              clear hK K
              refine wpAnyIn_ready (rs := [0, 1]) (by kernel_rfl) (by simp) ?_
              refine AllReadyIn.cons rfl (fun K hK => ?_) ?_
              · go_simp
                refine hK _ _ ?_
                clear hK K
                refine wpAnyIn_ready (rs := [1]) (by kernel_rfl) (by simp) ?_
                refine AllReadyIn.cons rfl (fun K hK => ?_) ?_
                · go_simp
                  refine hK _ _ ?_
                  clear hK K
                  refine wpAnyIn_ready (rs := [3]) (by kernel_rfl) (by simp) ?_
                  refine AllReadyIn.cons rfl (fun K hK => ?_) ?_
                  · go_simp
                    gi_wp2_with (refine ⟨trivial, ?_⟩; gi_at_call 172; refine (CallsIn.inRound l (callsIn_wide.2 (part_calls _ _ _ _))).mono ?_; rintro e W1 ⟨b1, b2, rfl, hpm, hb1⟩; have HA1 := Aside0.mk (HA.out.below hb1); have HP := Aside0.mk hpm; have HBB := Aside0.mk hb1; have q1' : W1.cell? ⟨w.heap.size + 1 + 1, 0, none⟩ = some v2 := blk_cell HA1.out.2.2.1 0; have q1'' : ∀ o, (W1.alloc o).cell? ⟨w.heap.size + 1 + 1, 0, none⟩ = some v2 := fun o => blk_cell (blk_alloc HA1.out.2.2.1 o) 0; clear hpm hb1; simp only [partC])
                    try (refine hK _ _ ?_; clear hK K)
                    refine wpAnyIn_ready (rs := [4]) (by kernel_rfl) (by simp) ?_
                    refine AllReadyIn.cons rfl (fun K hK => ?_) ?_
                    · go_simp
                      refine hK _ _ ?_
                      clear hK K
                      refine wpAnyIn_ready (rs := [5]) (by kernel_rfl) (by simp) ?_
                      refine AllReadyIn.cons rfl (fun K hK => ?_) ?_
                      · refine step_append_RIn rfl kPart w.heap.size (.tmp 29) (.tmp 33) 148 148 154 154 (.agg #[.int .i64 0, .int .u8 0, .int .u8 0, .bool false, .int .u64 0, .nilFunc]) 40 rfl (by kernel_rfl) (by kernel_rfl) infoP rfl (by decide) (by decide) v2 (effP body k) [((k : Int), 2, s)] (some ⟨W1.heap.size, 0, none⟩) 1 1 (fun k => some k ≠ v1.ownBlock) (fun k => W.heap.size ≤ k) rfl rfl (HA1.out.below (below_alloc (Below.refl _ _) _)).2.2.2.2.1 (part_row (W := W.drew) HP.out) (fun x cs h => part_lower HA.out.2.2.2.2.2.size h) (fun k hk => ⟨(AllB.fresh HA.out hk).1, (AllB.fresh HA.out hk).2⟩) (fun k hk => (AllB.fresh (HA1.out.below (below_alloc (Below.refl _ _) _)) hk).1) (HA1.out.below (below_alloc (Below.refl _ _) (.cells (partC ((k : Int), 2, s) b1 b2).toArray 154))).2.2.2.2.2.size (by skip; omega) ?_
                        intro u3 w3 hR hg hat
                        obtain ⟨A3, c3, rfl⟩ := Kd.R_slice hR
                        obtain ⟨L3, hL3⟩ : ∃ L, L = ((effP body k) ++ [((k : Int), 2, s)]).length := ⟨_, rfl⟩
                        rw [← hL3] at hR hat ⊢
                        clear hL3
                        obtain ⟨hA3, hK3, q3, f3⟩ := (HA1.out.below (below_alloc (Below.refl _ _) (.cells (partC ((k : Int), 2, s) b1 b2).toArray 154))).add2 hR hg hat
                        have HA3 := Aside0.mk hA3
                        have HK3 := Aside0.mk ((RoundK.below (n0 := w.heap.size) (below_then (Below.refl _ W).drew (below_alloc HBB.out (.cells (partC ((k : Int), 2, s) b1 b2).toArray 154))) HA.out.2.2.2.2.2.size).trans hK3)
                        refine hK _ _ ?_
                        clear hK K hA3 hK3 hR hg hat
                        refine wpAnyIn_ready (rs := [6]) (by kernel_rfl) (by simp) ?_
                        refine AllReadyIn.cons rfl (fun K hK => ?_) ?_
                        · go_simp
                          refine hK _ _ ?_
                          clear hK K
                          refine wpAnyIn_done (by kernel_rfl) ?_ _
                          rw [HQ.out]
                          exact ⟨rfl, _, _, _, _, _, _, _, rfl, HA3.out, HK3.out⟩
                        exact AllReadyIn.nil
                      exact AllReadyIn.nil
                    exact AllReadyIn.nil
                  exact AllReadyIn.nil
                exact AllReadyIn.nil
              refine AllReadyIn.cons rfl (fun K hK => ?_) ?_
              · go_simp
                refine hK _ _ ?_
                clear hK K
                refine wpAnyIn_ready (rs := [0, 3]) (by kernel_rfl) (by simp) ?_
                refine AllReadyIn.cons rfl (fun K hK => ?_) ?_
                · go_simp
                  refine hK _ _ ?_
                  clear hK K
                  refine wpAnyIn_ready (rs := [3]) (by kernel_rfl) (by simp) ?_
                  refine AllReadyIn.cons rfl (fun K hK => ?_) ?_
                  · go_simp
                    gi_wp2_with (refine ⟨trivial, ?_⟩; gi_at_call 172; refine (CallsIn.inRound l (callsIn_wide.2 (part_calls _ _ _ _))).mono ?_; rintro e W1 ⟨b1, b2, rfl, hpm, hb1⟩; have HA1 := Aside0.mk (HA.out.below hb1); have HP := Aside0.mk hpm; have HBB := Aside0.mk hb1; have q1' : W1.cell? ⟨w.heap.size + 1 + 1, 0, none⟩ = some v2 := blk_cell HA1.out.2.2.1 0; have q1'' : ∀ o, (W1.alloc o).cell? ⟨w.heap.size + 1 + 1, 0, none⟩ = some v2 := fun o => blk_cell (blk_alloc HA1.out.2.2.1 o) 0; clear hpm hb1; simp only [partC])
                    try (refine hK _ _ ?_; clear hK K)
                    refine wpAnyIn_ready (rs := [4]) (by kernel_rfl) (by simp) ?_
                    refine AllReadyIn.cons rfl (fun K hK => ?_) ?_
                    · go_simp
                      refine hK _ _ ?_
                      clear hK K
                      refine wpAnyIn_ready (rs := [5]) (by kernel_rfl) (by simp) ?_
                      refine AllReadyIn.cons rfl (fun K hK => ?_) ?_
                      · refine step_append_RIn rfl kPart w.heap.size (.tmp 29) (.tmp 33) 148 148 154 154 (.agg #[.int .i64 0, .int .u8 0, .int .u8 0, .bool false, .int .u64 0, .nilFunc]) 40 rfl (by kernel_rfl) (by kernel_rfl) infoP rfl (by decide) (by decide) v2 (effP body k) [((k : Int), 2, s)] (some ⟨W1.heap.size, 0, none⟩) 1 1 (fun k => some k ≠ v1.ownBlock) (fun k => W.heap.size ≤ k) rfl rfl (HA1.out.below (below_alloc (Below.refl _ _) _)).2.2.2.2.1 (part_row (W := W.drew) HP.out) (fun x cs h => part_lower HA.out.2.2.2.2.2.size h) (fun k hk => ⟨(AllB.fresh HA.out hk).1, (AllB.fresh HA.out hk).2⟩) (fun k hk => (AllB.fresh (HA1.out.below (below_alloc (Below.refl _ _) _)) hk).1) (HA1.out.below (below_alloc (Below.refl _ _) (.cells (partC ((k : Int), 2, s) b1 b2).toArray 154))).2.2.2.2.2.size (by skip; omega) ?_
                        intro u3 w3 hR hg hat
                        obtain ⟨A3, c3, rfl⟩ := Kd.R_slice hR
                        obtain ⟨L3, hL3⟩ : ∃ L, L = ((effP body k) ++ [((k : Int), 2, s)]).length := ⟨_, rfl⟩
                        rw [← hL3] at hR hat ⊢
                        clear hL3
                        obtain ⟨hA3, hK3, q3, f3⟩ := (HA1.out.below (below_alloc (Below.refl _ _) (.cells (partC ((k : Int), 2, s) b1 b2).toArray 154))).add2 hR hg hat
                        have HA3 := Aside0.mk hA3
                        have HK3 := Aside0.mk ((RoundK.below (n0 := w.heap.size) (below_then (Below.refl _ W).drew (below_alloc HBB.out (.cells (partC ((k : Int), 2, s) b1 b2).toArray 154))) HA.out.2.2.2.2.2.size).trans hK3)
                        refine hK _ _ ?_
                        clear hK K hA3 hK3 hR hg hat
                        refine wpAnyIn_ready (rs := [6]) (by kernel_rfl) (by simp) ?_
                        refine AllReadyIn.cons rfl (fun K hK => ?_) ?_
                        · go_simp
                          refine hK _ _ ?_
                          clear hK K
                          refine wpAnyIn_done (by kernel_rfl) ?_ _
                          rw [HQ.out]
                          exact ⟨rfl, _, _, _, _, _, _, _, rfl, HA3.out, HK3.out⟩
                        exact AllReadyIn.nil
                      exact AllReadyIn.nil
                    exact AllReadyIn.nil
                  exact AllReadyIn.nil
                refine AllReadyIn.cons rfl (fun K hK => ?_) ?_
                · go_simp
                  gi_wp2_with (refine ⟨trivial, ?_⟩; gi_at_call 172; refine (CallsIn.inRound l (callsIn_wide.2 (part_calls _ _ _ _))).mono ?_; rintro e W1 ⟨b1, b2, rfl, hpm, hb1⟩; have HA1 := Aside0.mk (HA.out.below hb1); have HP := Aside0.mk hpm; have HBB := Aside0.mk hb1; have q1' : W1.cell? ⟨w.heap.size + 1 + 1, 0, none⟩ = some v2 := blk_cell HA1.out.2.2.1 0; have q1'' : ∀ o, (W1.alloc o).cell? ⟨w.heap.size + 1 + 1, 0, none⟩ = some v2 := fun o => blk_cell (blk_alloc HA1.out.2.2.1 o) 0; clear hpm hb1; simp only [partC])
                  try (refine hK _ _ ?_; clear hK K)
                  refine wpAnyIn_ready (rs := [0, 4]) (by kernel_rfl) (by simp) ?_
                  refine AllReadyIn.cons rfl (fun K hK => ?_) ?_
                  · go_simp
                    refine hK _ _ ?_
                    clear hK K
                    refine wpAnyIn_ready (rs := [4]) (by kernel_rfl) (by simp) ?_
                    refine AllReadyIn.cons rfl (fun K hK => ?_) ?_
                    · go_simp
                      refine hK _ _ ?_
                      clear hK K
                      refine wpAnyIn_ready (rs := [5]) (by kernel_rfl) (by simp) ?_
                      refine AllReadyIn.cons rfl (fun K hK => ?_) ?_
                      · refine step_append_RIn rfl kPart w.heap.size (.tmp 29) (.tmp 33) 148 148 154 154 (.agg #[.int .i64 0, .int .u8 0, .int .u8 0, .bool false, .int .u64 0, .nilFunc]) 40 rfl (by kernel_rfl) (by kernel_rfl) infoP rfl (by decide) (by decide) v2 (effP body k) [((k : Int), 2, s)] (some ⟨W1.heap.size, 0, none⟩) 1 1 (fun k => some k ≠ v1.ownBlock) (fun k => W.heap.size ≤ k) rfl rfl (HA1.out.below (below_alloc (Below.refl _ _) _)).2.2.2.2.1 (part_row (W := W.drew) HP.out) (fun x cs h => part_lower HA.out.2.2.2.2.2.size h) (fun k hk => ⟨(AllB.fresh HA.out hk).1, (AllB.fresh HA.out hk).2⟩) (fun k hk => (AllB.fresh (HA1.out.below (below_alloc (Below.refl _ _) _)) hk).1) (HA1.out.below (below_alloc (Below.refl _ _) (.cells (partC ((k : Int), 2, s) b1 b2).toArray 154))).2.2.2.2.2.size (by skip; omega) ?_
                        intro u3 w3 hR hg hat
                        obtain ⟨A3, c3, rfl⟩ := Kd.R_slice hR
                        obtain ⟨L3, hL3⟩ : ∃ L, L = ((effP body k) ++ [((k : Int), 2, s)]).length := ⟨_, rfl⟩
                        rw [← hL3] at hR hat ⊢
                        clear hL3
                        obtain ⟨hA3, hK3, q3, f3⟩ := (HA1.out.below (below_alloc (Below.refl _ _) (.cells (partC ((k : Int), 2, s) b1 b2).toArray 154))).add2 hR hg hat
                        have HA3 := Aside0.mk hA3
                        have HK3 := Aside0.mk ((RoundK.below (n0 := w.heap.size) (below_then (Below.refl _ W).drew (below_alloc HBB.out (.cells (partC ((k : Int), 2, s) b1 b2).toArray 154))) HA.out.2.2.2.2.2.size).trans hK3)
                        refine hK _ _ ?_
                        clear hK K hA3 hK3 hR hg hat
                        refine wpAnyIn_ready (rs := [6]) (by kernel_rfl) (by simp) ?_
                        refine AllReadyIn.cons rfl (fun K hK => ?_) ?_
                        · go_simp
                          refine hK _ _ ?_
                          clear hK K
                          refine wpAnyIn_done (by kernel_rfl) ?_ _
                          rw [HQ.out]
                          exact ⟨rfl, _, _, _, _, _, _, _, rfl, HA3.out, HK3.out⟩
                        exact AllReadyIn.nil
                      exact AllReadyIn.nil
                    exact AllReadyIn.nil
                  refine AllReadyIn.cons rfl (fun K hK => ?_) ?_
                  · go_simp
                    refine hK _ _ ?_
                    clear hK K
                    refine wpAnyIn_ready (rs := [0]) (by kernel_rfl) (by simp) ?_
                    refine AllReadyIn.cons rfl (fun K hK => ?_) ?_
                    · go_simp
                      refine hK _ _ ?_
                      clear hK K
                      refine wpAnyIn_ready (rs := [5]) (by kernel_rfl) (by simp) ?_
                      refine AllReadyIn.cons rfl (fun K hK => ?_) ?_
                      · refine step_append_RIn rfl kPart w.heap.size (.tmp 29) (.tmp 33) 148 148 154 154 (.agg #[.int .i64 0, .int .u8 0, .int .u8 0, .bool false, .int .u64 0, .nilFunc]) 40 rfl (by kernel_rfl) (by kernel_rfl) infoP rfl (by decide) (by decide) v2 (effP body k) [((k : Int), 2, s)] (some ⟨W1.heap.size, 0, none⟩) 1 1 (fun k => some k ≠ v1.ownBlock) (fun k => W.heap.size ≤ k) rfl rfl (HA1.out.below (below_alloc (Below.refl _ _) _)).2.2.2.2.1 (part_row (W := W.drew) HP.out) (fun x cs h => part_lower HA.out.2.2.2.2.2.size h) (fun k hk => ⟨(AllB.fresh HA.out hk).1, (AllB.fresh HA.out hk).2⟩) (fun k hk => (AllB.fresh (HA1.out.below (below_alloc (Below.refl _ _) _)) hk).1) (HA1.out.below (below_alloc (Below.refl _ _) (.cells (partC ((k : Int), 2, s) b1 b2).toArray 154))).2.2.2.2.2.size (by skip; omega) ?_
                        intro u3 w3 hR hg hat
                        obtain ⟨A3, c3, rfl⟩ := Kd.R_slice hR
                        obtain ⟨L3, hL3⟩ : ∃ L, L = ((effP body k) ++ [((k : Int), 2, s)]).length := ⟨_, rfl⟩
                        rw [← hL3] at hR hat ⊢
                        clear hL3
                        obtain ⟨hA3, hK3, q3, f3⟩ := (HA1.out.below (below_alloc (Below.refl _ _) (.cells (partC ((k : Int), 2, s) b1 b2).toArray 154))).add2 hR hg hat
                        have HA3 := Aside0.mk hA3
                        have HK3 := Aside0.mk ((RoundK.below (n0 := w.heap.size) (below_then (Below.refl _ W).drew (below_alloc HBB.out (.cells (partC ((k : Int), 2, s) b1 b2).toArray 154))) HA.out.2.2.2.2.2.size).trans hK3)
                        refine hK _ _ ?_
                        clear hK K hA3 hK3 hR hg hat
                        refine wpAnyIn_ready (rs := [6]) (by kernel_rfl) (by simp) ?_
                        refine AllReadyIn.cons rfl (fun K hK => ?_) ?_
                        · go_simp
                          refine hK _ _ ?_
                          clear hK K
                          refine wpAnyIn_done (by kernel_rfl) ?_ _
                          rw [HQ.out]
                          exact ⟨rfl, _, _, _, _, _, _, _, rfl, HA3.out, HK3.out⟩
                        exact AllReadyIn.nil
                      exact AllReadyIn.nil
                    exact AllReadyIn.nil
                  exact AllReadyIn.nil
                exact AllReadyIn.nil
              exact AllReadyIn.nil
            exact AllReadyIn.nil
          case k7 =>
            rw [HQ.out]
            rintro e a' W ⟨rfl, t29, t30, t31, t32, t33, t34, v2, rfl, hA7, hK7⟩
            have HK7 := Aside0.mk (RoundK.trans HK6.out hK7)
            have HA7 := Aside0.mk hA7
            clear HQ q2 HA HK6 hA7 hK7
            gi_wp2
            refine ⟨HK7.out.1, HK7.out.2, v1, v2, ?_⟩
            rw [HLN.out, HEN.out, labN, effN, if_pos k5, if_pos k5]
            simpa [partOf] using HA7.out
      · have e5 : (nd.f0 == 5) = false := beq_eq_false_iff_ne.mpr k5
        gi_wp2
        refine ⟨HK4.out.1, HK4.out.2, v1, v2, ?_⟩
        rw [HLN.out, HEN.out, labN, effN, if_neg k5, if_neg k5]
        simpa [partOf] using HA0.out
end Go.Proofs.YtdecijmncpbheaaGreatDoor

namespace Go.Proofs.YtdecijmncpbheaaGreatDoor
open Go.RowKit Go.Shelf Go.Proofs.YtdecijmncpbheaaGreatDoorW.PrintWords Go.Proofs.YtdecijmncpbheaaGreatDoorW.PrintLast Go.Proofs.YtdecijmncpbheaaGreatDoorW.PrintMore
set_option linter.unusedVariables false
set_option linter.unusedSimpArgs false
def spotC (x : Spot) : List Value := [.int .i64 x.f0, .int .u8 x.f1, .int .u8 x.f2, .bool x.f3.f0, .int .u64 x.f3.f1]
theorem spot_flat : Flat kSpot spotC := fun w base ok x c => ⟨k102_openM, fun h => by subst h; exact k102_mkM w base ok x⟩
theorem infoSp : (Tryz.prog.info? 102).map (fun i => (i.zero, i.size, i.bytes)) = some (some (.agg #[.int .i64 0, .int .u8 0, .int .u8 0, .bool false, .int .u64 0]), 5, 32) := by kernel_rfl
def termOf (n : Node) (p : Int) : Term := if p = 0 then n.f4 else if p = 1 then n.f5 else n.f6
/-- What 'told' tells of one. -/
def toldS (body : List Node) (x : Int × Int × Int) : Spot := ⟨x.1, x.2.1, x.2.2, termOf (body.getD x.1.toNat ⟨0, 0, ⟨#[]⟩, 0, ⟨false, 0⟩, ⟨false, 0⟩, ⟨false, 0⟩⟩) x.2.1⟩
def spotZ : Spot := ⟨0, 0, 0, ⟨false, 0⟩⟩
theorem R_len {α : Type} {d : Kd α} {e base n cap : Nat} {A : Option Addr} {W : World} {ok : Nat → Prop} {xs : List α} (h : d.R e W base ok (.slice A n cap) xs) : n = xs.length := by
  obtain ⟨A', c', e'⟩ := Kd.R_slice h
  injection e'
section
variable {e base n cap g : Nat} {W : World} {ok : Nat → Prop} {xs : List Spot}
theorem spot_put (h : kSpot.R e W base ok (.slice (some ⟨g, 0, none⟩) n cap) xs) (i : Nat) (hi : i < xs.length) (a p s : Int) :
    kSpot.R e (((((W.setCell ⟨g, i * 5, none⟩ (.int .i64 a)).setCell ⟨g, i * 5 + 1, none⟩ (.int .u8 p)).setCell ⟨g, i * 5 + 2, none⟩ (.int .u8 s)).setCell ⟨g, i * 5 + 3, none⟩ (.bool false)).setCell ⟨g, i * 5 + 4, none⟩ (.int .u64 0)) base ok (.slice (some ⟨g, 0, none⟩) n cap) (xs.set i ⟨a, p, s, ⟨false, 0⟩⟩) := by
  have h0 := R_edit spot_flat h i 0 hi (by decide) { xs[i] with f0 := a } (.int .i64 a) (by simp [spotC])
  have h1 := R_edit spot_flat h0 i 1 (by simpa using hi) (by decide) { xs[i] with f0 := a, f1 := p } (.int .u8 p) (by simp [spotC])
  have h2 := R_edit spot_flat h1 i 2 (by simpa using hi) (by decide) { xs[i] with f0 := a, f1 := p, f2 := s } (.int .u8 s) (by simp [spotC])
  have h3 := R_edit spot_flat h2 i 3 (by simpa using hi) (by decide) ⟨a, p, s, ⟨false, xs[i].f3.f1⟩⟩ (.bool false) (by simp [spotC])
  have h4 := R_edit spot_flat h3 i 4 (by simpa using hi) (by decide) ⟨a, p, s, ⟨false, 0⟩⟩ (.int .u64 0) (by simp [spotC])
  simp only [List.set_set] at h4
  exact h4
theorem spot_term (h : kSpot.R e W base ok (.slice (some ⟨g, 0, none⟩) n cap) xs) (i : Nat) (hi : i < xs.length) (t : Term) :
    kSpot.R e ((W.setCell ⟨g, i * 5 + 3, none⟩ (.bool t.f0)).setCell ⟨g, i * 5 + 4, none⟩ (.int .u64 t.f1)) base ok (.slice (some ⟨g, 0, none⟩) n cap) (xs.set i { xs[i] with f3 := t }) := by
  have h3 := R_edit spot_flat h i 3 hi (by decide) { xs[i] with f3 := ⟨t.f0, xs[i].f3.f1⟩ } (.bool t.f0) (by simp [spotC])
  have h4 := R_edit spot_flat h3 i 4 (by simpa using hi) (by decide) { xs[i] with f3 := t } (.int .u64 t.f1) (by simp [spotC])
  simp only [List.set_set] at h4
  exact h4
end
theorem C_spotN {w : World} {A : Option Addr} {xs : List Spot} (h : Kd.C kSpot w A xs.length xs) (j : Nat) (hj : j < xs.length) : ∃ ad, A = some ad ∧
    w.cell? (ad.add (j * 5)) = some (.int .i64 xs[j].f0) ∧ w.cell? ⟨(ad.add (j * 5)).block, (ad.add (j * 5)).off + 1, none⟩ = some (.int .u8 xs[j].f1) ∧ w.cell? ⟨(ad.add (j * 5)).block, (ad.add (j * 5)).off + 2, none⟩ = some (.int .u8 xs[j].f2) ∧
    w.cell? ⟨(ad.add (j * 5)).block, (ad.add (j * 5)).off + 3, none⟩ = some (.bool xs[j].f3.f0) ∧ w.cell? ⟨(ad.add (j * 5)).block, (ad.add (j * 5)).off + 4, none⟩ = some (.int .u64 xs[j].f3.f1) := by
  obtain ⟨ad, e, hc⟩ := at_T102 h (j : Int) (by omega) (by omega)
  refine ⟨ad, e, ?_⟩
  have e2 : rd_T102 xs (j : Int) = xs[j] := by
    rw [rd_T102, Int.toNat_natCast, List.getD_eq_getElem?_getD, List.getElem?_eq_getElem hj]
    rfl
  rw [e2, Int.toNat_natCast] at hc
  exact hc
theorem spot_cells {e base n cap g : Nat} {W : World} {ok : Nat → Prop} {xs : List Spot} (h : kSpot.R e W base ok (.slice (some ⟨g, 0, none⟩) n cap) xs) (i : Nat) (hi : i < xs.length) :
    W.cell? ⟨g, i * 5, none⟩ = some (.int .i64 xs[i].f0) ∧ W.cell? ⟨g, i * 5 + 1, none⟩ = some (.int .u8 xs[i].f1) ∧ W.cell? ⟨g, i * 5 + 2, none⟩ = some (.int .u8 xs[i].f2) ∧ W.cell? ⟨g, i * 5 + 3, none⟩ = some (.bool xs[i].f3.f0) ∧ W.cell? ⟨g, i * 5 + 4, none⟩ = some (.int .u64 xs[i].f3.f1) ∧ ∀ o, W.frozen? ⟨g, o, none⟩ = false := by
  obtain ⟨_, _, ev, _, _, cells, hgc⟩ := Kd.R_form h (by omega)
  cases ev
  obtain ⟨ad, e2, c0, c1, c2, c3, c4⟩ := C_spotN (Kd.R_reads' h).2.2 i hi
  cases e2
  rw [add_plain] at c0 c1 c2 c3 c4
  simp only [Nat.zero_add] at c0 c1 c2 c3 c4
  exact ⟨c0, c1, c2, c3, c4, fun o => blk_frozen hgc o⟩
/-- One of a row of spots with function values that is read. -/
theorem C_partN {w : World} {g n : Nat} {l : List (Int × Int × Int)} (h : kPart.C w (some ⟨g, 0, none⟩) n l) (j : Nat) (hj : j < l.length) : ∃ b1 b2, w.cell? ⟨g, j * 6, none⟩ = some (.int .i64 l[j].1) ∧ w.cell? ⟨g, j * 6 + 1, none⟩ = some (.int .u8 l[j].2.1) ∧ w.cell? ⟨g, j * 6 + 2, none⟩ = some (.int .u8 l[j].2.2) ∧
    w.cell? ⟨g, j * 6 + 3, none⟩ = some (.bool false) ∧ w.cell? ⟨g, j * 6 + 4, none⟩ = some (.int .u64 0) ∧ w.cell? ⟨g, j * 6 + 5, none⟩ = some (.func (.func 207) #[] #[.pointer (some ⟨b1, 0, none⟩), .pointer (some ⟨b2, 0, none⟩)]) ∧
    b1 < w.heap.size ∧ b2 < w.heap.size ∧ w.cell? ⟨b1, 0, none⟩ = some (.int .i64 l[j].1) ∧ w.cell? ⟨b2, 0, none⟩ = some (.int .u8 l[j].2.1) := by
  obtain ⟨ad, e, hc⟩ := h.2.2 (by have := h.1; omega)
  cases e
  obtain ⟨c, _, ⟨b1, b2, rfl, l1, l2, q1, q2⟩, hu⟩ := hc j l[j] (List.getElem?_eq_getElem hj)
  have hh : ∀ i u, (partC l[j] b1 b2)[i]? = some u → w.cell? ⟨g, j * 6 + i, none⟩ = some u := fun i u h => by
    have := hu i u h
    rw [add_plain] at this
    exact this
  exact ⟨b1, b2, hh 0 _ rfl, hh 1 _ rfl, hh 2 _ rfl, hh 3 _ rfl, hh 4 _ rfl, hh 5 _ rfl, l1, l2, q1, q2⟩
theorem below_set {w W : World} (h : Below w.heap.size w W) {g o : Nat} (v : Value) (hg : w.heap.size ≤ g) : Below w.heap.size w (W.setCell ⟨g, o, none⟩ v) := h.setCell (p := ⟨g, o, none⟩) hg v
theorem told_step (f : Int × Int × Int → Spot) (l : List (Int × Int × Int)) (n k : Nat) (hl : l.length = n) (hk : k < n) (y : Spot) (hy : y = f (l[k]'(by omega))) : ((l.take k).map f ++ List.replicate (n - k) spotZ).set k y = (l.take (k + 1)).map f ++ List.replicate (n - (k + 1)) spotZ := by
  have h1 : ((l.take k).map f).length = k := by rw [List.length_map, List.length_take]; omega
  rw [List.set_append_right _ _ (by omega), h1, Nat.sub_self, show n - k = (n - (k + 1)) + 1 by omega, List.replicate_succ, List.set_cons_zero, List.take_succ_eq_append_getElem (by omega), List.map_append, List.map_singleton, hy, List.append_assoc, List.singleton_append]
/-- The cells of a part's term. -/
theorem term_cells {w : World} {ad : Addr} {body : List Node} (h : kNode.C w (some ad) body.length body) (j : Nat) (hj : j < body.length) (p : Int) : w.cell? ⟨(ad.add (j * 10)).block, (ad.add (j * 10)).off + partOff p, none⟩ = some (.bool (termOf body[j] p).f0) ∧ w.cell? ⟨(ad.add (j * 10)).block, (ad.add (j * 10)).off + partOff p + 1, none⟩ = some (.int .u64 (termOf body[j] p).f1) := by
  obtain ⟨ad', e, _, _, _, _, c4, c5, c6, c7, c8, c9⟩ := C_nodeN h j hj
  cases e
  unfold partOff termOf
  split
  · exact ⟨c4, c5⟩
  · split
    · exact ⟨c6, c7⟩
    · exact ⟨c8, c9⟩
set_option maxRecDepth 100000 in
set_option maxHeartbeats 4000000 in
theorem told_calls (w : World) (ad : Addr) (N c : Nat) (body : List Node) (A : Option Addr) (n c2 : Nat) (l : List (Int × Int × Int)) (hN : N = body.length) (hr : kNode.C w (some ad) body.length body) (hn : n ≤ 300) (hA : 0 < n → ∃ g, A = some ⟨g, 0, none⟩) (hl : kPart.C w A n l)
    (hx : ∀ x ∈ l, ∃ k : Nat, x.1 = k ∧ k < body.length) :
    Calls Tryz.prog 107 #[.slice (some ad) N c, .slice A n c2] w fun e w' => ∃ A5 c5, e = .returned (.slice A5 n c5) ∧ kSpot.R 102 w' w.heap.size (fun _ => True) (.slice A5 n c5) (l.map (toldS body)) ∧ Below w.heap.size w w' := by
  have HR := Aside0.mk hr
  have HN := Aside0.mk hN
  have HL := Aside0.mk hl
  have HX := Aside0.mk hx
  have HA := Aside0.mk hA
  have HLL := Aside0.mk hl.1
  clear hr hN hl hx hA
  go_enter Tryz.func107, Tryz.ntmps107
  go_wp2_with (at_make; refine Kd.R_make kSpot w.heap.size 102 rfl rfl 93 _ _ rfl (n : Int) rfl rfl rfl (.agg #[.int .i64 0, .int .u8 0, .int .u8 0, .bool false, .int .u64 0]) 32 infoSp rfl (by decide) (by decide) spotZ (ok := fun _ => True) (okp := fun _ => True) (k102_mkM _ _ _ spotZ) (fun _ _ => trivial) trivial (by omega) (by simp; omega) (Below.refl _ _) (Nat.le_refl _) ?_; intro v1 w1 hR hb hg hat; obtain ⟨A5, c5, rfl⟩ := Kd.R_slice hR; rw [List.length_replicate, Int.toNat_natCast] at hR ⊢; have HO := Aside0.mk hR; have HB := Aside0.mk hb; clear hR hb hg hat)
  go_loopg [13] (n + 1) (fun g i W => ∃ k : Nat, i = .int .i64 (k : Int) ∧ k ≤ n ∧ n + 1 - k ≤ g ∧ Aside0 (kSpot.R 102 W w.heap.size (fun _ => True) (.slice A5 n c5) ((l.take k).map (toldS body) ++ List.replicate (n - k) spotZ)) ∧ Aside0 (Below w.heap.size w W))
  case atStart => exact ⟨0, rfl, Nat.zero_le _, by omega, ⟨by simpa using HO.out⟩, HB⟩
  case round =>
    clear HO HB
    obtain ⟨k, rfl, hk, hkg, HO, HB⟩ := hrel
    rcases Nat.lt_or_ge k n with hlt | hge
    · have hd : decide (k < n) = true := decide_eq_true hlt
      have hkl : k < l.length := by rw [HLL.out]; exact hlt
      obtain ⟨g, rfl⟩ := HA.out (by omega)
      obtain ⟨b1, b2, d0, d1, d2, d3, d4, d5, l1, l2, q1, q2⟩ := C_partN HL.out k hkl
      have hgl : g < w.heap.size := by
        have := d0
        rcases Nat.lt_or_ge g w.heap.size with h | h
        · exact h
        · rw [World.cell?, Array.getElem?_eq_none h] at this; cases this
      have tr : ∀ o v, w.cell? ⟨g, o, none⟩ = some v → wr.cell? ⟨g, o, none⟩ = some v := fun o v h => (HB.out.cell (p := ⟨g, o, none⟩) hgl).trans h
      replace d0 := tr _ _ d0
      replace d1 := tr _ _ d1
      replace d2 := tr _ _ d2
      replace d3 := tr _ _ d3
      replace d4 := tr _ _ d4
      replace d5 := tr _ _ d5
      clear tr
      obtain ⟨x, hxk⟩ : ∃ x, x = l[k] := ⟨_, rfl⟩
      obtain ⟨j, hj, hjb⟩ := HX.out l[k] (List.getElem_mem _)
      rw [← hxk] at d0 d1 d2 q1 q2 hj
      obtain ⟨x1, x2, x3⟩ := x
      simp only at d0 d1 d2 q1 q2 hj
      subst hj
      have HXK := Aside0.mk hxk
      clear hxk
      have hol : ((l.take k).map (toldS body) ++ List.replicate (n - k) spotZ).length = n := by simp [HLL.out]; omega
      obtain ⟨g5, c5', ev, hBg5, hgl5, cells5, hgc5⟩ := Kd.R_form HO.out (by omega)
      injection ev with ev1 ev2 ev3
      subst ev1
      clear ev2 ev3
      obtain ⟨o0, o1, o2, o3, o4, of⟩ := spot_cells HO.out k (by rw [hol]; exact hlt)
      have P1 : Aside0 (∀ W, Below w.heap.size w W → Calls Tryz.prog 207 #[.slice (some ad) N c, .pointer (some ⟨b1, 0, none⟩), .pointer (some ⟨b2, 0, none⟩)] W fun e w' => e = .returned (.pointer (some ⟨(ad.add (j * 10)).block, (ad.add (j * 10)).off + partOff x2, none⟩)) ∧ W = w') :=
        ⟨fun W hb => part1_calls W ad N c j x2 b1 b2 (by rw [HN.out]; exact hjb) ((hb.cell (p := ⟨b1, 0, none⟩) l1).trans q1) ((hb.cell (p := ⟨b2, 0, none⟩) l2).trans q2)⟩
      have o0' := fun o => pw_cell_below (below_alloc (Below.refl wr.heap.size wr) o) o0
      have o1' := fun o => pw_cell_below (below_alloc (Below.refl wr.heap.size wr) o) o1
      have o2' := fun o => pw_cell_below (below_alloc (Below.refl wr.heap.size wr) o) o2
      have o3' := fun o => pw_cell_below (below_alloc (Below.refl wr.heap.size wr) o) o3
      have o4' := fun o => pw_cell_below (below_alloc (Below.refl wr.heap.size wr) o) o4
      have of' := fun o off => blk_frozen (blk_alloc hgc5 o) off
      have hne : ¬ g5 = wr.heap.size := by have := blk_lt hgc5; omega
      have hne' : ¬ wr.heap.size = g5 := fun h => hne h.symm
      have HBG := Aside0.mk hBg5
      clear q1 q2 l1 l2 o0 o1 o2 o3 o4 of hgc5 hgl5 hBg5
      go_wp2_with (go_at_call 207; (with_reducible refine (P1.out _ (by repeat (first | exact HB.out | exact HBG.out | apply below_alloc | refine below_set ?_ _ ?_))).mono ?_); rintro e W' ⟨rfl, hW⟩; have HB5 : Aside0 (Below w.heap.size w W') := ⟨(by rw [← hW]; repeat (first | exact HB.out | exact HBG.out | apply below_alloc | refine below_set ?_ _ ?_))⟩; have HO5 : Aside0 (kSpot.R 102 W' w.heap.size (fun _ => True) (.slice (some ⟨g5, 0, none⟩) n c5) (((l.take k).map (toldS body) ++ List.replicate (n - k) spotZ).set k ⟨j, x2, x3, ⟨false, 0⟩⟩)) := ⟨(by rw [← hW]; exact spot_put (Kd.R_below HO.out (below_alloc (Below.refl _ _) _)) k (by rw [hol]; exact hlt) _ _ _)⟩; obtain ⟨t0, t1⟩ := term_cells (Kd.C_below HR.out HB5.out) j hjb x2; obtain ⟨p0, p1, p2, p3, p4, pf⟩ := spot_cells HO5.out k (by rw [List.length_set, hol]; exact hlt); obtain ⟨t, ht⟩ : ∃ t, t = termOf body[j] x2 := ⟨_, rfl⟩; rw [← ht] at t0 t1; have HT := Aside0.mk ht; clear hW ht o0' o1' o2' o3' o4' of' d0 d1 d2 d3 d4 d5)
      go_roundg (gk - 1)
      case measure => omega
      case rel =>
        have h2 := spot_term HO5.out k (by rw [List.length_set, hol]; exact hlt) t
        rw [List.getElem_set_self, List.set_set] at h2
        rw [told_step (toldS body) l n k HLL.out hlt ⟨j, x2, x3, t⟩ (by rw [← HXK.out, HT.out, toldS]; simp [List.getD_eq_getElem?_getD, List.getElem?_eq_getElem hjb])] at h2
        exact ⟨k + 1, by go_num, by omega, by omega, ⟨h2⟩, ⟨by repeat (first | exact HB5.out | exact HBG.out | refine below_set ?_ _ ?_)⟩⟩
    · have hd : decide (k < n) = false := decide_eq_false (by omega)
      obtain rfl : k = n := by omega
      go_wp2
      go_ret
      refine ⟨A5, c5, rfl, ?_, HB.out⟩
      have := HO.out
      rw [List.take_of_length_le (by rw [HLL.out]; exact Nat.le_refl _), Nat.sub_self, List.replicate_zero, List.append_nil] at this
      exact this
end Go.Proofs.YtdecijmncpbheaaGreatDoor
namespace Go.Proofs.YtdecijmncpbheaaGreatDoor
open Go.RowKit Go.Shelf Go.Proofs.YtdecijmncpbheaaGreatDoorW.PrintWords Go.Proofs.YtdecijmncpbheaaGreatDoorW.PrintLast Go.Proofs.YtdecijmncpbheaaGreatDoorW.PrintMore
set_option linter.unusedVariables false
set_option linter.unusedSimpArgs false
theorem labL_mem : ∀ (i : Nat) (l : List Node) (ss : List Int), ∀ x ∈ labL i l ss, ∃ k : Nat, x.f0 = k ∧ i ≤ k ∧ k < i + l.length
  | i, [], ss, x, h => by cases ss <;> simp [labL] at h
  | i, n :: t, [], x, h => by simp [labL] at h
  | i, n :: t, s :: ss, x, h => by
    rw [labL] at h
    rcases List.mem_append.1 h with h | h
    · refine ⟨i, ?_, Nat.le_refl _, by simp⟩
      unfold labN at h
      split at h
      · simp at h
        rcases h with rfl | rfl <;> rfl
      · simp at h
        subst h
        rfl
    · obtain ⟨k, e, h1, h2⟩ := labL_mem (i + 1) t ss x h
      exact ⟨k, e, by omega, by simp only [List.length_cons]; omega⟩
theorem effL_mem : ∀ (i : Nat) (l : List Node) (ss : List Int), ∀ x ∈ effL i l ss, ∃ k : Nat, x.f0 = k ∧ i ≤ k ∧ k < i + l.length
  | i, [], ss, x, h => by cases ss <;> simp [effL] at h
  | i, n :: t, [], x, h => by simp [effL] at h
  | i, n :: t, s :: ss, x, h => by
    rw [effL] at h
    rcases List.mem_append.1 h with h | h
    · refine ⟨i, ?_, Nat.le_refl _, by simp⟩
      unfold effN at h
      split at h
      · simp at h
        subst h
        rfl
      · simp at h
    · obtain ⟨k, e, h1, h2⟩ := effL_mem (i + 1) t ss x h
      exact ⟨k, e, by omega, by simp only [List.length_cons]; omega⟩
theorem told_lab : ∀ (pre l : List Node) (ss : List Int), (labL pre.length l ss).map (fun x => toldS (pre ++ l) (partOf x)) = labL pre.length l ss
  | pre, [], ss => by cases ss <;> rfl
  | pre, n :: t, [] => rfl
  | pre, n :: t, s :: ss => by
    have h := told_lab (pre ++ [n]) t ss
    rw [List.length_append, List.length_singleton, List.append_assoc, List.singleton_append] at h
    rw [labL, List.map_append, h]
    congr 1
    unfold labN
    split <;> simp [toldS, partOf, termOf, List.getD_eq_getElem?_getD]
theorem told_eff : ∀ (pre l : List Node) (ss : List Int), (effL pre.length l ss).map (fun x => toldS (pre ++ l) (partOf x)) = effL pre.length l ss
  | pre, [], ss => by cases ss <;> rfl
  | pre, n :: t, [] => rfl
  | pre, n :: t, s :: ss => by
    have h := told_eff (pre ++ [n]) t ss
    rw [List.length_append, List.length_singleton, List.append_assoc, List.singleton_append] at h
    rw [effL, List.map_append, h]
    congr 1
    unfold effN
    split <;> simp [toldS, partOf, termOf, List.getD_eq_getElem?_getD]
theorem labP_all {body : List Node} (hz : checkB body = 0) : (labP body body.length).map (toldS body) = labB body := by
  unfold labP labB
  rw [if_pos hz, List.take_of_length_le (Nat.le_refl _), List.take_of_length_le (by rw [show (sidesB body).length = body.length from sidesB_len hz 0]; exact Nat.le_refl _), List.map_map]
  exact told_lab [] body _
theorem effP_all {body : List Node} (hz : checkB body = 0) : (effP body body.length).map (toldS body) = effB body := by
  unfold effP effB
  rw [if_pos hz, List.take_of_length_le (Nat.le_refl _), List.take_of_length_le (by rw [show (sidesB body).length = body.length from sidesB_len hz 0]; exact Nat.le_refl _), List.map_map]
  exact told_eff [] body _
theorem labP_mem (body : List Node) (k : Nat) : ∀ x ∈ labP body k, ∃ j : Nat, x.1 = j ∧ j < body.length := by
  intro x hx
  obtain ⟨y, hy, rfl⟩ := List.mem_map.1 hx
  obtain ⟨j, e, _, h⟩ := labL_mem _ _ _ y hy
  refine ⟨j, e, ?_⟩
  rw [List.length_take] at h
  omega
theorem effP_mem (body : List Node) (k : Nat) : ∀ x ∈ effP body k, ∃ j : Nat, x.1 = j ∧ j < body.length := by
  intro x hx
  obtain ⟨y, hy, rfl⟩ := List.mem_map.1 hx
  obtain ⟨j, e, _, h⟩ := effL_mem _ _ _ y hy
  refine ⟨j, e, ?_⟩
  rw [List.length_take] at h
  omega
theorem R_pos {α : Type} {d : Kd α} {e base n cap : Nat} {A : Option Addr} {W : World} {ok : Nat → Prop} {xs : List α} (h : d.R e W base ok (.slice A n cap) xs) (hn : 0 < n) : ∃ g, A = some ⟨g, 0, none⟩ := by
  obtain ⟨g, c', ev, _⟩ := Kd.R_form h (by rw [← R_len h]; exact hn)
  injection ev with e1
  exact ⟨g, e1⟩
set_option maxRecDepth 100000 in
set_option maxHeartbeats 4000000 in
theorem of_calls (w : World) (A : Option Addr) (c : Nat) (body : List Node) (hr : kNode.C w A body.length body) :
    Calls Tryz.prog 32 #[.slice A body.length c] w fun e w' => ∃ v1 v2, e = .returned (.tuple #[v1, v2]) ∧ kSpot.R 102 w' w.heap.size (fun k => some k ≠ v2.ownBlock) v1 (labB body) ∧ kSpot.R 102 w' w.heap.size (fun k => some k ≠ v1.ownBlock) v2 (effB body) ∧ Below w.heap.size w w' := by
  have CK := Aside0.mk (check_calls w A c body hr)
  by_cases hz : checkB body = 0
  · rw [hz] at CK
    have hp := (checkB_L hz).1
    have hl128 := (checkB_L hz).2.1
    obtain ⟨ad, rfl, -⟩ := C_nodeN hr 0 hp
    have HZ := Aside0.mk hz
    have HR := Aside0.mk hr
    obtain ⟨N, hN⟩ : ∃ N, N = body.length := ⟨_, rfl⟩
    have HN := Aside0.mk hN
    rw [← hN] at CK ⊢
    clear hz hr hN hp
    go_enter Tryz.func32, Tryz.ntmps32
    go_wp2_with (go_at_call 25; (with_reducible refine (CK.out).mono ?_); rintro e w1 ⟨rfl, hb1⟩; have HB1 := Aside0.mk hb1; clear hb1)
    have AC := all_calls w1 (some ad) c body HZ.out (Kd.C_below HR.out HB1.out)
    rw [← HN.out] at AC
    refine AC.mono ?_
    rintro e w2 ⟨v1, v2, rfl, r1, r2, hb2⟩
    clear AC
    obtain ⟨A1, c1, rfl⟩ := Kd.R_slice r1
    obtain ⟨A2, c2, rfl⟩ := Kd.R_slice r2
    have hb12 := labP_len body N
    have hb13 := effP_len body N
    obtain ⟨n1, hn1⟩ : ∃ n, n = (labP body N).length := ⟨_, rfl⟩
    obtain ⟨n2, hn2⟩ : ∃ n, n = (effP body N).length := ⟨_, rfl⟩
    rw [← hn1] at r1 r2 hb12 ⊢
    rw [← hn2] at r1 r2 hb13 ⊢
    have HB2 := Aside0.mk (below_step HB1.out hb2)
    have R1 := Aside0.mk r1
    have R2 := Aside0.mk r2
    have HN1 := Aside0.mk hn1
    have HN2 := Aside0.mk hn2
    clear r1 r2 hb2 HB1 hn1 hn2
    go_wp2_with fail
    refine (told_calls w2 ad N c body A1 n1 c1 (labP body N) HN.out (Kd.C_below HR.out HB2.out) (by omega) (R_pos R1.out) (by have h := (Kd.R_reads' R1.out).2.2; rw [HN1.out]; exact h) (labP_mem body N)).mono ?_
    rintro e w3 ⟨A5, c5, rfl, r5, hb3⟩
    have HB3 := Aside0.mk (below_step HB2.out hb3)
    have R3 := Aside0.mk r5
    have R4 := Aside0.mk (Kd.R_below R2.out hb3)
    have HB23 := Aside0.mk hb3.size
    clear r5 hb3
    go_wp2_with fail
    refine (told_calls w3 ad N c body A2 n2 c2 (effP body N) HN.out (Kd.C_below HR.out HB3.out) (by omega) (R_pos R2.out) (by have h := (Kd.R_reads' R4.out).2.2; rw [HN2.out]; exact h) (effP_mem body N)).mono ?_
    rintro e w4 ⟨A6, c6, rfl, r6, hb4⟩
    have HB4 := Aside0.mk (below_step HB3.out hb4)
    have R5 := Aside0.mk (Kd.R_below R3.out hb4)
    have R6 := Aside0.mk r6
    have HS := Aside0.mk (Kd.R_bound R3.out)
    have HB34 := Aside0.mk hb4
    clear r6 hb4
    go_wp2
    go_ret2
    have e1 : (labP body N).map (toldS body) = labB body := by rw [HN.out]; exact labP_all HZ.out
    have e2 : (effP body N).map (toldS body) = effB body := by rw [HN.out]; exact effP_all HZ.out
    rw [← e1, ← e2]
    have o2 : ∀ k, (Value.slice A6 n2 c6).ownBlock = some k → w3.heap.size ≤ k := fun k e => own_base (Kd.R_own R6.out).choose_spec k e
    have o1 : ∀ k, (Value.slice A5 n1 c5).ownBlock = some k → k < w3.heap.size := fun k e => own_lt (Kd.R_own R3.out).choose_spec k e
    refine ⟨_, _, rfl, ?_, ?_, HB4.out⟩
    · have h1 : kSpot.R 102 w3 w2.heap.size (fun k => k < w3.heap.size) (.slice A5 n1 c5) ((labP body N).map (toldS body)) := Kd.R_mono (Kd.R_bound R3.out) (fun k hk => hk.2.2.1)
      have h2 := Kd.R_below h1 HB34.out
      exact Kd.R_mono (Kd.R_lower h2 HB2.out.size) (fun k hk e => by have := o2 k e.symm; omega)
    · exact Kd.R_lower (Kd.R_mono (Kd.R_bound R6.out) (fun k hk e => by have := o1 k e.symm; have := hk.2.1; omega)) HB3.out.size
  · obtain ⟨q, hq⟩ : ∃ q, q = checkB body := ⟨_, rfl⟩
    rw [← hq] at CK
    have e0 : (q != 0) = true := bne_iff_ne.mpr (by rw [hq]; exact hz)
    have e1 : labB body = [] := by unfold labB; rw [if_neg hz]
    have e2 : effB body = [] := by unfold effB; rw [if_neg hz]
    rw [e1, e2]
    clear hq hz e1 e2 hr
    go_enter Tryz.func32, Tryz.ntmps32
    go_wp2_with (go_at_call 25; (with_reducible refine (CK.out).mono ?_); rintro e w1 ⟨rfl, hb1⟩; have HB1 := Aside0.mk hb1; clear hb1)
    go_ret2
    exact ⟨_, _, rfl, Kd.R_nil _ _ _ _ _, Kd.R_nil _ _ _ _ _, HB1.out⟩
end Go.Proofs.YtdecijmncpbheaaGreatDoor

namespace Go.Proofs.YtdecijmncpbheaaGreatDoor
open Go.RowKit Go.Shelf Go.Proofs.YtdecijmncpbheaaGreatDoorW.PrintWords Go.Proofs.YtdecijmncpbheaaGreatDoorW.PrintLast Go.Proofs.YtdecijmncpbheaaGreatDoorW.PrintMore
set_option linter.unusedVariables false
set_option linter.unusedSimpArgs false
theorem clip_calls (w : World) (A : Option Addr) (n c : Nat) (hc : n ≤ c) : Calls Tryz.prog 110 #[.slice A n c] w fun e w' => e = .returned (.slice A n n) ∧ w = w' := by
  have z : decide ((n : Int) ≤ (c : Int)) = true := decide_eq_true (by omega)
  go_enter Tryz.func110, Tryz.ntmps110
  go_wp2
  go_ret
  exact ⟨rfl, rfl⟩
theorem cmp_nil (w : World) (ad : Addr) (n c : Nat) : (binOp .eql 22 (.slice (some ad) n c) (.slice none 0 0)).run Tryz.prog w = .ok (.bool false) w := by
  kernel_rfl
set_option maxRecDepth 100000 in
set_option maxHeartbeats 1000000 in
theorem clone_calls (w : World) (ad : Addr) (n c : Nat) (body : List Node) (hn : n = body.length) (hp : 0 < n) (h : n ≤ 300) (hr : kNode.C w (some ad) body.length body) :
    Calls Tryz.prog 111 #[.slice (some ad) n c] w fun e w' => ∃ g c1, e = .returned (.slice (some ⟨g, 0, none⟩) n c1) ∧ kNode.R 119 w' w.heap.size (fun _ => True) (.slice (some ⟨g, 0, none⟩) n c1) body ∧ Below w.heap.size w w' := by
  have HR := Aside0.mk hr
  have HN := Aside0.mk hn
  clear hr hn
  go_enter Tryz.func111, Tryz.ntmps111
  have h0 : kNode.R 119 (w.alloc (.cells #[] 119)) w.heap.size (fun _ => True) (.slice (some ⟨w.heap.size, 0, none⟩) 0 0) [] := R_block (cells := []) (blk_new w _) (Nat.le_refl _) trivial (Reps.none _ _) (by decide)
  have H0 := Aside0.mk h0
  clear h0
  have hcmp := cmp_nil w ad n c
  go_wp2_with (at_builtin; refine wpList_append_R rfl kNode w.heap.size (.tmp 5) (.tmp 6) 22 22 119 119 (.agg #[.int .u8 0, .int .i64 0, .string ⟨#[]⟩, .int .i64 0, .bool false, .int .u64 0, .bool false, .int .u64 0, .bool false, .int .u64 0]) 88 rfl (by kernel_rfl) (by kernel_rfl) L07.infoN rfl (by decide) (by decide) (.slice (some ⟨w.heap.size, 0, none⟩) 0 0) [] body (some ad) n c (fun _ => True) (fun k => k < w.heap.size) rfl rfl H0.out (by rw [HN.out]; exact Kd.C_below HR.out (below_alloc (Below.refl _ _) _)) (fun x cs h => nodeM h) (fun k hk => ⟨trivial, by simp [Value.ownBlock]; omega⟩) (fun _ _ => trivial) (by simp) (by simp; omega) ?_; intro v1 w1 HO1 hg1 hat; rw [List.nil_append] at HO1; obtain ⟨A1, c1, rfl⟩ := Kd.R_slice HO1; rw [← HN.out] at HO1 ⊢; obtain ⟨g, rfl⟩ := R_pos HO1 hp; have HO := Aside0.mk HO1; have HB := Aside0.mk ((below_alloc (Below.refl w.heap.size w) (.cells #[] 119)).grown hg1 (by simp) (fun k hk => by simp [Value.ownBlock] at hk; omega)); clear HO1 hg1 hat)
  go_ret
  exact ⟨g, c1, rfl, HO.out, HB.out⟩
end Go.Proofs.YtdecijmncpbheaaGreatDoor
namespace Go.Proofs.YtdecijmncpbheaaGreatDoor
open Go.RowKit Go.Shelf Go.Proofs.YtdecijmncpbheaaGreatDoorW.PrintWords Go.Proofs.YtdecijmncpbheaaGreatDoorW.PrintLast Go.Proofs.YtdecijmncpbheaaGreatDoorW.PrintMore
set_option linter.unusedVariables false
set_option linter.unusedSimpArgs false
def setTerm (n : Node) (p : Int) (t : Term) : Node := if p = 0 then { n with f4 := t } else if p = 1 then { n with f5 := t } else { n with f6 := t }
def putOne (out : List Node) (x : Int × Int × Int) (t : Term) : List Node := match out[x.1.toNat]? with
  | some n => out.set x.1.toNat (setTerm n x.2.1 t)
  | none => out
def putRow : List Node → List (Int × Int × Int) → List Term → List Node
  | out, x :: xs, t :: ts => putRow (putOne out x t) xs ts
  | out, _, _ => out
theorem putOne_len (out : List Node) (x : Int × Int × Int) (t : Term) : (putOne out x t).length = out.length := by
  unfold putOne
  split <;> simp
theorem putRow_len : ∀ (xs : List (Int × Int × Int)) (ts : List Term) (out : List Node), (putRow out xs ts).length = out.length
  | [], ts, out => by cases ts <;> rfl
  | x :: xs, [], out => rfl
  | x :: xs, t :: ts, out => by rw [putRow, putRow_len xs ts, putOne_len]
theorem putRow_append : ∀ (xs ys : List (Int × Int × Int)) (ts us : List Term) (out : List Node), xs.length = ts.length → putRow out (xs ++ ys) (ts ++ us) = putRow (putRow out xs ts) ys us
  | [], ys, [], us, out, _ => rfl
  | [], ys, _ :: _, us, out, h => by simp at h
  | x :: xs, ys, [], us, out, h => by simp at h
  | x :: xs, ys, t :: ts, us, out, h => by
    rw [List.cons_append, List.cons_append, putRow, putRow_append xs ys ts us _ (by simpa using h), putRow]
theorem putRow_next (out : List Node) (xs : List (Int × Int × Int)) (ts : List Term) (k : Nat) (h1 : k < xs.length) (h2 : k < ts.length) : putRow out (xs.take (k + 1)) (ts.take (k + 1)) = putOne (putRow out (xs.take k) (ts.take k)) xs[k] ts[k] := by
  rw [List.take_succ_eq_append_getElem h1, List.take_succ_eq_append_getElem h2, putRow_append _ _ _ _ _ (by rw [List.length_take, List.length_take]; omega)]
  rfl
theorem putOne_at (pre t : List Node) (n : Node) (j p s : Int) (u : Term) (hj : j = pre.length) : putOne (pre ++ n :: t) (j, p, s) u = pre ++ setTerm n p u :: t := by
  subst hj
  simp [putOne]
/-! ### node by node -/
def putLab : List Node → List Term → List Node
  | n :: t, a :: ls => if n.f0 = 5 then (match ls with
    | b :: ls' => { n with f4 := a, f5 := b } :: putLab t ls'
    | [] => n :: t) else { n with f4 := a } :: putLab t ls
  | l, _ => l
def putEff : List Node → List Term → List Node
  | n :: t, es => if n.f0 = 5 then (match es with
    | e :: es' => { n with f6 := e } :: putEff t es'
    | [] => n :: t) else n :: putEff t es
  | [], _ => []
theorem putLab_fun {n : Node} {t : List Node} {a b : Term} {ls : List Term} (h5 : n.f0 = 5) : putLab (n :: t) (a :: b :: ls) = { n with f4 := a, f5 := b } :: putLab t ls := by
  rw [putLab.eq_def]
  simp [h5]
theorem putLab_other {n : Node} {t : List Node} {a : Term} {ls : List Term} (h5 : ¬ n.f0 = 5) : putLab (n :: t) (a :: ls) = { n with f4 := a } :: putLab t ls := by
  rw [putLab.eq_def]
  simp [h5]
theorem putEff_fun {n : Node} {t : List Node} {a : Term} {ls : List Term} (h5 : n.f0 = 5) : putEff (n :: t) (a :: ls) = { n with f6 := a } :: putEff t ls := by
  rw [putEff.eq_def]
  simp [h5]
theorem putEff_other {n : Node} {t : List Node} {ls : List Term} (h5 : ¬ n.f0 = 5) : putEff (n :: t) ls = n :: putEff t ls := by
  rw [putEff.eq_def]
  simp [h5]
theorem putRow_lab : ∀ (l pre : List Node) (ss : List Int) (ts : List Term), ss.length = l.length → ts.length = (labL pre.length l ss).length → putRow (pre ++ l) ((labL pre.length l ss).map partOf) ts = pre ++ putLab l ts
  | [], pre, ss, ts, hs, ht => by
    obtain rfl := List.eq_nil_of_length_eq_zero hs
    simp only [labL, List.length_nil] at ht
    obtain rfl := List.eq_nil_of_length_eq_zero ht
    rfl
  | n :: t, pre, [], ts, hs, ht => by simp at hs
  | n :: t, pre, s :: ss, ts, hs, ht => by
    rw [labL, List.length_append] at ht
    have hs' : ss.length = t.length := by simpa using hs
    by_cases h5 : n.f0 = 5
    · simp only [labN, if_pos h5, List.cons_append, List.nil_append, List.length_cons, List.length_nil] at ht
      obtain ⟨a, ts, rfl⟩ : ∃ a us, ts = a :: us := by cases ts with
        | nil => simp at ht; omega
        | cons a us => exact ⟨a, us, rfl⟩
      obtain ⟨b, ts, rfl⟩ : ∃ a us, ts = a :: us := by cases ts with
        | nil => simp at ht; omega
        | cons a us => exact ⟨a, us, rfl⟩
      have h := putRow_lab t (pre ++ [{ n with f4 := a, f5 := b }]) ss ts hs' (by rw [List.length_append, List.length_singleton]; simp only [List.length_cons] at ht; omega)
      rw [List.length_append, List.length_singleton, List.append_assoc, List.singleton_append, List.append_assoc, List.singleton_append] at h
      rw [labL, labN, if_pos h5, putLab_fun h5]
      simp only [List.cons_append, List.nil_append, List.map_cons, partOf, putRow]
      rw [putOne_at pre t n _ _ _ a rfl, putOne_at pre t _ _ _ _ b rfl]
      simpa [setTerm] using h
    · simp only [labN, if_neg h5, List.length_cons, List.length_nil] at ht
      obtain ⟨a, ts, rfl⟩ : ∃ a us, ts = a :: us := by cases ts with
        | nil => simp at ht; omega
        | cons a us => exact ⟨a, us, rfl⟩
      have h := putRow_lab t (pre ++ [{ n with f4 := a }]) ss ts hs' (by rw [List.length_append, List.length_singleton]; simp only [List.length_cons] at ht; omega)
      rw [List.length_append, List.length_singleton, List.append_assoc, List.singleton_append, List.append_assoc, List.singleton_append] at h
      rw [labL, labN, if_neg h5, putLab_other h5]
      simp only [List.cons_append, List.nil_append, List.map_cons, partOf, putRow]
      rw [putOne_at pre t n _ _ _ a rfl]
      simpa [setTerm] using h
theorem putRow_eff : ∀ (l pre : List Node) (ss : List Int) (ts : List Term), ss.length = l.length → ts.length = (effL pre.length l ss).length → putRow (pre ++ l) ((effL pre.length l ss).map partOf) ts = pre ++ putEff l ts
  | [], pre, ss, ts, hs, ht => by
    obtain rfl := List.eq_nil_of_length_eq_zero hs
    simp only [effL, List.length_nil] at ht
    obtain rfl := List.eq_nil_of_length_eq_zero ht
    rfl
  | n :: t, pre, [], ts, hs, ht => by simp at hs
  | n :: t, pre, s :: ss, ts, hs, ht => by
    rw [effL, List.length_append] at ht
    have hs' : ss.length = t.length := by simpa using hs
    by_cases h5 : n.f0 = 5
    · simp only [effN, if_pos h5, List.length_cons, List.length_nil] at ht
      obtain ⟨a, ts, rfl⟩ : ∃ a us, ts = a :: us := by cases ts with
        | nil => simp at ht; omega
        | cons a us => exact ⟨a, us, rfl⟩
      have h := putRow_eff t (pre ++ [{ n with f6 := a }]) ss ts hs' (by rw [List.length_append, List.length_singleton]; simp only [List.length_cons] at ht; omega)
      rw [List.length_append, List.length_singleton, List.append_assoc, List.singleton_append, List.append_assoc, List.singleton_append] at h
      rw [effL, effN, if_pos h5, putEff_fun h5]
      simp only [List.cons_append, List.nil_append, List.map_cons, partOf, putRow]
      rw [putOne_at pre t n _ _ _ a rfl]
      simpa [setTerm] using h
    · simp only [effN, if_neg h5, List.length_nil, Nat.zero_add] at ht
      have h := putRow_eff t (pre ++ [n]) ss ts hs' (by rw [List.length_append, List.length_singleton]; exact ht)
      rw [List.length_append, List.length_singleton, List.append_assoc, List.singleton_append, List.append_assoc, List.singleton_append] at h
      rw [effL, effN, if_neg h5, putEff_other h5]
      simpa using h
/-- What stays: all but the terms. -/
def baseN (x y : Node) : Prop := x.f0 = y.f0 ∧ x.f1 = y.f1 ∧ x.f2 = y.f2 ∧ x.f3 = y.f3 ∧ (x.f0 ≠ 5 → x.f5 = y.f5 ∧ x.f6 = y.f6)
def baseL : List Node → List Node → Prop
  | [], [] => True
  | x :: xs, y :: ys => baseN x y ∧ baseL xs ys
  | _, _ => False
theorem baseL_refl : ∀ l : List Node, baseL l l
  | [] => trivial
  | n :: t => ⟨⟨rfl, rfl, rfl, rfl, fun _ => ⟨rfl, rfl⟩⟩, baseL_refl t⟩
theorem baseL_trans : ∀ {a b c : List Node}, baseL a b → baseL b c → baseL a c
  | [], [], [], _, _ => trivial
  | x :: xs, y :: ys, z :: zs, h, k => by
    obtain ⟨⟨h1, h2, h3, h4, h5⟩, h6⟩ := h
    obtain ⟨⟨k1, k2, k3, k4, k5⟩, k6⟩ := k
    exact ⟨⟨h1.trans k1, h2.trans k2, h3.trans k3, h4.trans k4, fun hx => ⟨(h5 hx).1.trans (k5 (by rw [← h1]; exact hx)).1, (h5 hx).2.trans (k5 (by rw [← h1]; exact hx)).2⟩⟩, baseL_trans h6 k6⟩
  | [], [], _ :: _, _, h => h.elim
  | [], _ :: _, _, h, _ => h.elim
  | _ :: _, [], _, h, _ => h.elim
  | _ :: _, _ :: _, [], _, h => h.elim
theorem putLab_base : ∀ (l : List Node) (ts : List Term), baseL l (putLab l ts)
  | [], ts => by cases ts <;> exact trivial
  | n :: t, [] => baseL_refl _
  | n :: t, a :: ls => by
    unfold putLab
    split
    · rename_i h5
      split
      · exact ⟨⟨rfl, rfl, rfl, rfl, fun h => absurd h5 h⟩, putLab_base t _⟩
      · exact baseL_refl _
    · exact ⟨⟨rfl, rfl, rfl, rfl, fun _ => ⟨rfl, rfl⟩⟩, putLab_base t _⟩
theorem putEff_base : ∀ (l : List Node) (ts : List Term), baseL l (putEff l ts)
  | [], ts => by cases ts <;> exact trivial
  | n :: t, es => by
    unfold putEff
    split
    · rename_i h5
      split
      · exact ⟨⟨rfl, rfl, rfl, rfl, fun h => absurd h5 h⟩, putEff_base t _⟩
      · exact baseL_refl _
    · exact ⟨⟨rfl, rfl, rfl, rfl, fun _ => ⟨rfl, rfl⟩⟩, putEff_base t _⟩
theorem baseL_len : ∀ {a b : List Node}, baseL a b → a.length = b.length
  | [], [], _ => rfl
  | x :: xs, y :: ys, h => by rw [List.length_cons, List.length_cons, baseL_len h.2]
  | [], _ :: _, h => h.elim
  | _ :: _, [], h => h.elim
/-- The effects' spots don't hang on labels, nor the other way. -/
theorem eff_putLab : ∀ (i : Nat) (l : List Node) (ss : List Int) (ts : List Term), ss.length = l.length → effL i (putLab l ts) ss = effL i l ss
  | i, [], ss, ts, hs => by cases ts <;> rfl
  | i, n :: t, [], ts, hs => by simp at hs
  | i, n :: t, s :: ss, [], hs => rfl
  | i, n :: t, s :: ss, a :: ts, hs => by
    have hs' : ss.length = t.length := by simpa using hs
    unfold putLab
    split
    · rename_i h5
      split
      · rw [effL, effL, eff_putLab (i + 1) t ss _ hs']
        simp [effN, h5]
      · rfl
    · rename_i h5
      rw [effL, effL, eff_putLab (i + 1) t ss _ hs']
      simp [effN, h5]
/-- What Put answers where it puts. -/
def putB (body : List Node) (ls es : List Term) : List Node := putEff (putLab body ls) es
theorem putB_base (body : List Node) (ls es : List Term) : baseL body (putB body ls es) := baseL_trans (putLab_base _ _) (putEff_base _ _)
/-- The two loops of Put. -/
theorem putB_rows {body : List Node} (hz : checkB body = 0) (ls es : List Term) (hl : ls.length = (labP body body.length).length) (he : es.length = (effP body body.length).length) :
    putRow (putRow body (labP body body.length) ls) (effP body body.length) es = putB body ls es := by
  have hs : (sidesB body).length = body.length := sidesB_len hz 0
  unfold labP at hl ⊢
  unfold effP at he ⊢
  rw [List.take_of_length_le (Nat.le_refl _), List.take_of_length_le (by rw [hs]; exact Nat.le_refl _), List.length_map] at hl he
  rw [List.take_of_length_le (Nat.le_refl _), List.take_of_length_le (by rw [hs]; exact Nat.le_refl _)]
  have h1 := putRow_lab body [] (sidesB body) ls hs hl
  simp only [List.nil_append, List.length_nil] at h1
  rw [h1]
  have h2 := putRow_eff (putLab body ls) [] (sidesB body) es (by rw [hs]; exact baseL_len (putLab_base _ _)) (by rw [List.length_nil, eff_putLab _ _ _ _ hs]; exact he)
  simp only [List.nil_append, List.length_nil] at h2
  rw [eff_putLab _ _ _ _ hs] at h2
  exact h2
end Go.Proofs.YtdecijmncpbheaaGreatDoor
namespace Go.Proofs.YtdecijmncpbheaaGreatDoor
open Go.RowKit Go.Shelf Go.Proofs.YtdecijmncpbheaaGreatDoorW.PrintWords Go.Proofs.YtdecijmncpbheaaGreatDoorW.PrintLast Go.Proofs.YtdecijmncpbheaaGreatDoorW.PrintMore
set_option linter.unusedVariables false
set_option linter.unusedSimpArgs false
theorem node_term {e base g n cap : Nat} {W : World} {ok : Nat → Prop} {xs : List Node} (h : kNode.R e W base ok (.slice (some ⟨g, 0, none⟩) n cap) xs) (i : Nat) (hi : i < xs.length) (p : Int) (t : Term) :
    kNode.R e ((W.setCell ⟨g, i * 10 + partOff p, none⟩ (.bool t.f0)).setCell ⟨g, i * 10 + partOff p + 1, none⟩ (.int .u64 t.f1)) base ok (.slice (some ⟨g, 0, none⟩) n cap) (xs.set i (setTerm xs[i] p t)) := by
  unfold partOff setTerm
  split
  · exact edit_f4 h i hi t
  · split
    · exact edit_f5 h i hi t
    · exact edit_f6 h i hi t
theorem node_cells {e base g n cap : Nat} {W : World} {ok : Nat → Prop} {xs : List Node} (h : kNode.R e W base ok (.slice (some ⟨g, 0, none⟩) n cap) xs) (i : Nat) (hi : i < xs.length) (p : Int) :
    (∃ u, W.cell? ⟨g, i * 10 + partOff p, none⟩ = some (.bool u)) ∧ (∃ u, W.cell? ⟨g, i * 10 + partOff p + 1, none⟩ = some (.int .u64 u)) ∧ (∀ o, W.frozen? ⟨g, o, none⟩ = false) ∧ base ≤ g ∧ ∃ cells, W.heap[g]? = some (.cells cells e (0, 0)) := by
  obtain ⟨_, _, ev, hb, _, cells, hgc⟩ := Kd.R_form h (by omega)
  cases ev
  obtain ⟨t0, t1⟩ := term_cells (Kd.R_reads' h).2.2 i hi p
  rw [add_plain] at t0 t1
  simp only [Nat.zero_add] at t0 t1
  exact ⟨⟨_, t0⟩, ⟨_, t1⟩, fun o => blk_frozen hgc o, hb, cells, hgc⟩
theorem putOne_set (out : List Node) (j : Nat) (p s : Int) (t : Term) (h : j < out.length) : putOne out ((j : Int), p, s) t = out.set j (setTerm out[j] p t) := by
  simp [putOne, List.getElem?_eq_getElem h]
set_option maxRecDepth 100000 in
set_option maxHeartbeats 4000000 in
theorem put_ok (w : World) (ad : Addr) (c N : Nat) (body : List Node) (hN : N = body.length) (hr : kNode.C w (some ad) body.length body) (B1 B2 : Option Addr) (d1' d2' n1 n2 : Nat) (ls es : List Term) (hl1 : kTerm.C w B1 ls.length ls) (hl2 : kTerm.C w B2 es.length es) (hz : checkB body = 0) (hn1 : n1 = (labP body N).length) (hn2 : n2 = (effP body N).length) (hm1 : n1 = ls.length) (hm2 : n2 = es.length) :
    Calls Tryz.prog 37 #[.slice (some ad) N c, .slice B1 n1 d1', .slice B2 n2 d2'] w fun e w' => ∃ g c1, e = .returned (.tuple #[.slice (some ⟨g, 0, none⟩) N N, .int .i64 0]) ∧ kNode.R 119 w' w.heap.size (fun _ => True) (.slice (some ⟨g, 0, none⟩) N c1) (putB body ls es) ∧ Below w.heap.size w w' := by
  have CK := Aside0.mk (check_calls w (some ad) c body hr)
  rw [hz, ← hN] at CK
  have hl128 := (checkB_L hz).2.1
  have hp := (checkB_L hz).1
  have HZ := Aside0.mk hz
  have HR := Aside0.mk hr
  have HN := Aside0.mk hN
  have HN1 := Aside0.mk hn1
  have HN2 := Aside0.mk hn2
  have HLS := Aside0.mk hm1
  have HES := Aside0.mk hm2
  have HL1 := Aside0.mk hl1
  have HL2 := Aside0.mk hl2
  have hb1 := labP_len body N
  have hb2 := effP_len body N
  rw [← hn1] at hb1
  rw [← hn2] at hb2
  rw [← hN] at hl128 hp hb1 hb2
  clear hz hr hN hn1 hn2 hm1 hm2 hl1 hl2
  go_enter Tryz.func37, Tryz.ntmps37
  go_wp2_with (go_at_call 25; (with_reducible refine (CK.out).mono ?_); rintro e W' ⟨rfl, hb'⟩; have HB1 := Aside0.mk hb'; clear hb')
  have AC := all_calls W' (some ad) c body HZ.out (Kd.C_below HR.out HB1.out)
  rw [← HN.out] at AC
  refine AC.mono ?_
  rintro e w2 ⟨v1, v2, rfl, r1, r2, hb2'⟩
  clear AC
  obtain ⟨A1, c1, rfl⟩ := Kd.R_slice r1
  obtain ⟨A2, c2, rfl⟩ := Kd.R_slice r2
  rw [← HN1.out] at r1 r2 ⊢
  rw [← HN2.out] at r1 r2 ⊢
  have HB2 := Aside0.mk (below_step HB1.out hb2')
  have R1 := Aside0.mk r1
  have R2 := Aside0.mk r2
  clear r1 r2 hb2' HB1
  have z1 : ((n1 : Int) != (n1 : Int)) = false := bne_self_eq_false _
  have z2 : ((n2 : Int) != (n2 : Int)) = false := bne_self_eq_false _
  go_wp2_with fail
  refine (clone_calls w2 ad N c body HN.out (by omega) (by omega) (Kd.C_below HR.out HB2.out)).mono ?_
  rintro e w3 ⟨g, c3, rfl, r3, hb3⟩
  have hc3 : N ≤ c3 := by have := (Kd.R_reads' r3).2.1; omega
  have HO := Aside0.mk r3
  have HB := Aside0.mk hb3
  clear r3 hb3
  go_wp2_with (go_at_call 110; (with_reducible refine (clip_calls _ (some ⟨g, 0, none⟩) N c3 hc3).mono ?_); rintro e W' ⟨rfl, rfl⟩)
  go_loopg [40] (n1 + 1) (fun gk i W => ∃ k : Nat, i = .int .i64 (k : Int) ∧ k ≤ n1 ∧ n1 + 1 - k ≤ gk ∧ Aside0 (kNode.R 119 W w2.heap.size (fun _ => True) (.slice (some ⟨g, 0, none⟩) N c3) (putRow body ((labP body N).take k) (ls.take k))) ∧ Aside0 (Below w2.heap.size w2 W))
  case atStart => exact ⟨0, rfl, Nat.zero_le _, by omega, ⟨by simpa [putRow] using HO.out⟩, HB⟩
  case round =>
    clear HO HB
    obtain ⟨k, rfl, hk, hkg, HO, HB⟩ := hrel
    rcases Nat.lt_or_ge k n1 with hlt | hge
    · have hd : decide (k < n1) = true := decide_eq_true hlt
      have hkl : k < (labP body N).length := by rw [← HN1.out]; exact hlt
      have hkt : k < ls.length := by rw [← HLS.out]; exact hlt
      obtain ⟨g1, rfl⟩ := R_pos R1.out (by omega)
      obtain ⟨b1, b2, d0, d1, d2, d3, d4, d5, l1, l2, q1, q2⟩ := C_partN (n := n1) (by rw [HN1.out]; exact (Kd.R_reads' R1.out).2.2) k hkl
      obtain ⟨x, hxk⟩ : ∃ x, x = (labP body N)[k] := ⟨_, rfl⟩
      obtain ⟨j, hj, hjb⟩ := (labP_mem body N) (labP body N)[k] (List.getElem_mem _)
      rw [← hxk] at d0 d1 d2 q1 q2 hj
      obtain ⟨x1, x2, x3⟩ := x
      simp only at d0 d1 d2 q1 q2 hj
      subst hj
      have HXK := Aside0.mk hxk
      clear hxk
      have hgl : g1 < w2.heap.size := by
        have := d0
        rcases Nat.lt_or_ge g1 w2.heap.size with h | h
        · exact h
        · rw [World.cell?, Array.getElem?_eq_none h] at this; cases this
      have tr : ∀ o v, w2.cell? ⟨g1, o, none⟩ = some v → wr.cell? ⟨g1, o, none⟩ = some v := fun o v h => (HB.out.cell (p := ⟨g1, o, none⟩) hgl).trans h
      replace d0 := tr _ _ d0
      replace d1 := tr _ _ d1
      replace d2 := tr _ _ d2
      replace d3 := tr _ _ d3
      replace d4 := tr _ _ d4
      replace d5 := tr _ _ d5
      clear tr hgl
      have hol : (putRow body ((labP body N).take k) (ls.take k)).length = N := by rw [putRow_len, HN.out]
      obtain ⟨⟨u0, o0⟩, ⟨u1, o1⟩, of, hBg, cells, hgc⟩ := node_cells HO.out j (by rw [hol, HN.out]; exact hjb) x2
      obtain ⟨td, te, t0, t1⟩ := C_termN (Kd.C_below HL1.out (below_step HB2.out HB.out)) k hkt
      obtain ⟨t, ht⟩ : ∃ t, t = ls[k] := ⟨_, rfl⟩
      rw [← ht] at t0 t1
      have HT := Aside0.mk ht
      have P1 : Aside0 (∀ W, Below w2.heap.size w2 W → Calls Tryz.prog 207 #[.slice (some ⟨g, 0, none⟩) N N, .pointer (some ⟨b1, 0, none⟩), .pointer (some ⟨b2, 0, none⟩)] W fun e w' => e = .returned (.pointer (some ⟨g, j * 10 + partOff x2, none⟩)) ∧ W = w') :=
        ⟨fun W hb => by
          have := part1_calls W ⟨g, 0, none⟩ N N j x2 b1 b2 (by rw [HN.out]; exact hjb) ((hb.cell (p := ⟨b1, 0, none⟩) l1).trans q1) ((hb.cell (p := ⟨b2, 0, none⟩) l2).trans q2)
          rw [add_plain] at this
          simpa using this⟩
      obtain ⟨po, hpo⟩ : ∃ po, po = j * 10 + partOff x2 := ⟨_, rfl⟩
      rw [← hpo] at o0 o1 P1
      have HPO := Aside0.mk hpo
      have o0' := fun o => pw_cell_below (below_alloc (Below.refl wr.heap.size wr) o) o0
      have o1' := fun o => pw_cell_below (below_alloc (Below.refl wr.heap.size wr) o) o1
      have t0' := fun o => pw_cell_below (below_alloc (Below.refl wr.heap.size wr) o) t0
      have t1' := fun o => pw_cell_below (below_alloc (Below.refl wr.heap.size wr) o) t1
      have of' := fun o off => blk_frozen (blk_alloc hgc o) off
      have hne : ¬ g = wr.heap.size := by have := blk_lt hgc; omega
      have hne' : ¬ wr.heap.size = g := fun h => hne h.symm
      have HBG := Aside0.mk hBg
      clear q1 q2 l1 l2 o0 o1 of hgc hBg ht hpo t0 t1
      cases te
      go_wp2
      go_region_with (go_at_call 207; (with_reducible refine (P1.out _ (by repeat (first | exact HB.out | apply below_alloc | refine Below.drew ?_))).mono ?_); rintro e W' ⟨rfl, rfl⟩)
      all_goals
        go_wp2
        go_roundg (gk - 1)
        case measure => omega
        case rel =>
          have hjo : j < (putRow body ((labP body N).take k) (ls.take k)).length := by rw [hol, HN.out]; exact hjb
          have h2 := node_term (Kd.R_below HO.out (Below.drew (below_alloc (Below.refl wr.heap.size wr) (.cells #[.int .i64 (j : Int), .int .u8 x2, .int .u8 x3, .bool false, .int .u64 0, .func (.func 207) #[] #[.pointer (some ⟨b1, 0, none⟩), .pointer (some ⟨b2, 0, none⟩)]] 154)))) j hjo x2 t
          rw [← HPO.out, ← putOne_set _ j x2 x3 t hjo, HXK.out, HT.out, ← putRow_next _ _ _ k hkl hkt, ← HT.out] at h2
          exact ⟨k + 1, by go_num, by omega, by omega, ⟨h2⟩, ⟨by repeat (first | exact HB.out | exact HBG.out | apply below_alloc | refine Below.drew ?_ | refine below_set ?_ _ ?_)⟩⟩
    · have hd : decide (k < n1) = false := decide_eq_false (by omega)
      obtain rfl : n1 = k := by omega
      have HO1 := HO.out
      rw [List.take_of_length_le (by rw [← HN1.out]; exact Nat.le_refl _), List.take_of_length_le (by rw [← HLS.out]; exact Nat.le_refl _)] at HO1
      clear HO
      have HO := Aside0.mk HO1
      clear HO1 hd hge hkg hk
      go_wp2
      go_loopg [57] (n2 + 1) (fun gk i W => ∃ k : Nat, i = .int .i64 (k : Int) ∧ k ≤ n2 ∧ n2 + 1 - k ≤ gk ∧ Aside0 (kNode.R 119 W w2.heap.size (fun _ => True) (.slice (some ⟨g, 0, none⟩) N c3) (putRow (putRow body (labP body N) ls) ((effP body N).take k) (es.take k))) ∧ Aside0 (Below w2.heap.size w2 W))
      case atStart => exact ⟨0, rfl, Nat.zero_le _, by omega, ⟨by simpa [putRow] using HO.out⟩, HB⟩
      case round =>
        clear HO HB
        obtain ⟨k, rfl, hk, hkg, HO, HB⟩ := hrel
        rcases Nat.lt_or_ge k n2 with hlt | hge
        · have hd : decide (k < n2) = true := decide_eq_true hlt
          have hkl : k < (effP body N).length := by rw [← HN2.out]; exact hlt
          have hkt : k < es.length := by rw [← HES.out]; exact hlt
          obtain ⟨g1, rfl⟩ := R_pos R2.out (by omega)
          obtain ⟨b1, b2, d0, d1, d2, d3, d4, d5, l1, l2, q1, q2⟩ := C_partN (n := n2) (by rw [HN2.out]; exact (Kd.R_reads' R2.out).2.2) k hkl
          obtain ⟨x, hxk⟩ : ∃ x, x = (effP body N)[k] := ⟨_, rfl⟩
          obtain ⟨j, hj, hjb⟩ := (effP_mem body N) (effP body N)[k] (List.getElem_mem _)
          rw [← hxk] at d0 d1 d2 q1 q2 hj
          obtain ⟨x1, x2, x3⟩ := x
          simp only at d0 d1 d2 q1 q2 hj
          subst hj
          have HXK := Aside0.mk hxk
          clear hxk
          have hgl : g1 < w2.heap.size := by
            have := d0
            rcases Nat.lt_or_ge g1 w2.heap.size with h | h
            · exact h
            · rw [World.cell?, Array.getElem?_eq_none h] at this; cases this
          have tr : ∀ o v, w2.cell? ⟨g1, o, none⟩ = some v → wr.cell? ⟨g1, o, none⟩ = some v := fun o v h => (HB.out.cell (p := ⟨g1, o, none⟩) hgl).trans h
          replace d0 := tr _ _ d0
          replace d1 := tr _ _ d1
          replace d2 := tr _ _ d2
          replace d3 := tr _ _ d3
          replace d4 := tr _ _ d4
          replace d5 := tr _ _ d5
          clear tr hgl
          have hol : (putRow (putRow body (labP body N) ls) ((effP body N).take k) (es.take k)).length = N := by rw [putRow_len, putRow_len, HN.out]
          obtain ⟨⟨u0, o0⟩, ⟨u1, o1⟩, of, hBg, cells, hgc⟩ := node_cells HO.out j (by rw [hol, HN.out]; exact hjb) x2
          obtain ⟨td, te, t0, t1⟩ := C_termN (Kd.C_below HL2.out (below_step HB2.out HB.out)) k hkt
          obtain ⟨t, ht⟩ : ∃ t, t = es[k] := ⟨_, rfl⟩
          rw [← ht] at t0 t1
          have HT := Aside0.mk ht
          have P1 : Aside0 (∀ W, Below w2.heap.size w2 W → Calls Tryz.prog 207 #[.slice (some ⟨g, 0, none⟩) N N, .pointer (some ⟨b1, 0, none⟩), .pointer (some ⟨b2, 0, none⟩)] W fun e w' => e = .returned (.pointer (some ⟨g, j * 10 + partOff x2, none⟩)) ∧ W = w') :=
            ⟨fun W hb => by
              have := part1_calls W ⟨g, 0, none⟩ N N j x2 b1 b2 (by rw [HN.out]; exact hjb) ((hb.cell (p := ⟨b1, 0, none⟩) l1).trans q1) ((hb.cell (p := ⟨b2, 0, none⟩) l2).trans q2)
              rw [add_plain] at this
              simpa using this⟩
          obtain ⟨po, hpo⟩ : ∃ po, po = j * 10 + partOff x2 := ⟨_, rfl⟩
          rw [← hpo] at o0 o1 P1
          have HPO := Aside0.mk hpo
          have o0' := fun o => pw_cell_below (below_alloc (Below.refl wr.heap.size wr) o) o0
          have o1' := fun o => pw_cell_below (below_alloc (Below.refl wr.heap.size wr) o) o1
          have t0' := fun o => pw_cell_below (below_alloc (Below.refl wr.heap.size wr) o) t0
          have t1' := fun o => pw_cell_below (below_alloc (Below.refl wr.heap.size wr) o) t1
          have of' := fun o off => blk_frozen (blk_alloc hgc o) off
          have hne : ¬ g = wr.heap.size := by have := blk_lt hgc; omega
          have hne' : ¬ wr.heap.size = g := fun h => hne h.symm
          have HBG := Aside0.mk hBg
          clear q1 q2 l1 l2 o0 o1 of hgc hBg ht hpo t0 t1
          cases te
          go_wp2
          go_region_with (go_at_call 207; (with_reducible refine (P1.out _ (by repeat (first | exact HB.out | apply below_alloc | refine Below.drew ?_))).mono ?_); rintro e W' ⟨rfl, rfl⟩)
          all_goals
            go_wp2
            go_roundg (gk - 1)
            case measure => omega
            case rel =>
              have hjo : j < (putRow (putRow body (labP body N) ls) ((effP body N).take k) (es.take k)).length := by rw [hol, HN.out]; exact hjb
              have h2 := node_term (Kd.R_below HO.out (Below.drew (below_alloc (Below.refl wr.heap.size wr) (.cells #[.int .i64 (j : Int), .int .u8 x2, .int .u8 x3, .bool false, .int .u64 0, .func (.func 207) #[] #[.pointer (some ⟨b1, 0, none⟩), .pointer (some ⟨b2, 0, none⟩)]] 154)))) j hjo x2 t
              rw [← HPO.out, ← putOne_set _ j x2 x3 t hjo, HXK.out, HT.out, ← putRow_next _ _ _ k hkl hkt, ← HT.out] at h2
              exact ⟨k + 1, by go_num, by omega, by omega, ⟨h2⟩, ⟨by repeat (first | exact HB.out | exact HBG.out | apply below_alloc | refine Below.drew ?_ | refine below_set ?_ _ ?_)⟩⟩
        · have hd : decide (k < n2) = false := decide_eq_false (by omega)
          obtain rfl : n2 = k := by omega
          have HO1 := HO.out
          rw [List.take_of_length_le (by rw [← HN2.out]; exact Nat.le_refl _), List.take_of_length_le (by rw [← HES.out]; exact Nat.le_refl _), HN.out, putB_rows HZ.out ls es (by rw [← HLS.out, HN1.out, HN.out]) (by rw [← HES.out, HN2.out, HN.out])] at HO1
          go_wp2
          go_ret2
          rw [← HN.out] at HO1
          exact ⟨g, c3, rfl, Kd.R_lower HO1 HB2.out.size, below_step HB2.out HB.out⟩
end Go.Proofs.YtdecijmncpbheaaGreatDoor
