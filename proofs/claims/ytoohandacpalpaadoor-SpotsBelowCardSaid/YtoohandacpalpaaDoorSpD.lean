/- spots.sides and spots.all: the spots of a body with their function values. -/
import Derived.Test.YtoohandacpalpaaDoorSpC
namespace Go.Proofs.YtoohandacpalpaaDoor
open Go.RowKit Go.Shelf Go.Proofs.YtoohandacpalpaaDoorW.PrintWords Go.Proofs.YtoohandacpalpaaDoorW.PrintLast Go.Proofs.YtoohandacpalpaaDoorW.PrintMore
set_option linter.unusedVariables false
set_option linter.unusedSimpArgs false
attribute [local go_sem] Oper.semAt_some
theorem sides_calls (w : World) (A : Option Addr) (n c : Nat) : Calls Tryd.prog 53 #[.slice A n c] w fun e w' => e = .returned (.func (.func 61) #[] #[.pointer (some ⟨w.heap.size, 0, none⟩)]) ∧ w' = w.alloc (.cells #[.slice A n c] 22) := by
  go_enter Tryd.func53, Tryd.ntmps53
  go_wp2
  go_ret
  exact ⟨rfl, rfl⟩
def partOf (x : Spot) : Int × Int × Int := (x.f0, x.f1, x.f2)
/-- What the first k nodes tell. -/
def labP (body : List Node) (k : Nat) : List (Int × Int × Int) := (labL 0 (body.take k) ((sidesB body).take k)).map partOf
def effP (body : List Node) (k : Nat) : List (Int × Int × Int) := (effL 0 (body.take k) ((sidesB body).take k)).map partOf
theorem labP_next (body : List Node) (k : Nat) (h1 : k < body.length) (h2 : k < (sidesB body).length) : labP body (k + 1) = labP body k ++ (labN k body[k] (sidesB body)[k]).map partOf := by
  unfold labP
  rw [List.take_succ_eq_append_getElem h1, List.take_succ_eq_append_getElem h2, labL_snoc _ _ _ _ _ (by rw [List.length_take, List.length_take]; omega), List.map_append, List.length_take, Nat.zero_add, show min k body.length = k by omega]
theorem effP_next (body : List Node) (k : Nat) (h1 : k < body.length) (h2 : k < (sidesB body).length) : effP body (k + 1) = effP body k ++ (effN k body[k] (sidesB body)[k]).map partOf := by
  unfold effP
  rw [List.take_succ_eq_append_getElem h1, List.take_succ_eq_append_getElem h2, effL_snoc _ _ _ _ _ (by rw [List.length_take, List.length_take]; omega), List.map_append, List.length_take, Nat.zero_add, show min k body.length = k by omega]
theorem labP_len (body : List Node) (k : Nat) : (labP body k).length ≤ 2 * body.length := by
  unfold labP
  rw [List.length_map]
  refine Nat.le_trans (labL_len _ _ _) ?_
  rw [List.length_take]
  omega
theorem effP_len (body : List Node) (k : Nat) : (effP body k).length ≤ body.length := by
  unfold effP
  rw [List.length_map]
  refine Nat.le_trans (effL_len _ _ _) ?_
  rw [List.length_take]
  omega
/-- A row of spots abides a change of a block of another type. -/
theorem partR_typed {A B : World} {base : Nat} {ok : Nat → Prop} {v : Value} {xs : List (Int × Int × Int)} (h : kPart.R 75 A base ok v xs)
    (hm : ∀ (k : Nat) cells t, A.heap[k]? = some (.cells cells t (0, 0)) → t = 75 ∨ t = 3 ∨ t = 47 → B.heap[k]? = A.heap[k]?) : kPart.R 75 B base ok v xs := by
  refine Kd.R_mono (Kd.R_move (Kd.R_bound h) (fun k hk => ?_)) (fun _ hk => hk.1)
  obtain ⟨_, _, _, q, hq, cells, hc⟩ := hk
  simp only [kPart, List.mem_cons, List.not_mem_nil, or_false] at hq
  exact hm k cells q hc hq
/-- The three boxes, and the two rows. -/
def AllB (w : World) (A : Option Addr) (n c : Nat) (W : World) (v1 v2 : Value) (l1 l2 : List (Int × Int × Int)) : Prop :=
  W.heap[w.heap.size]? = some (.cells #[.slice A n c] 22 (0, 0)) ∧ W.heap[w.heap.size + 1]? = some (.cells #[v1] 66 (0, 0)) ∧ W.heap[w.heap.size + 2]? = some (.cells #[v2] 66 (0, 0)) ∧
    kPart.R 75 W w.heap.size (fun k => some k ≠ v2.ownBlock) v1 l1 ∧ kPart.R 75 W w.heap.size (fun k => some k ≠ v1.ownBlock) v2 l2 ∧ Below w.heap.size w W
/-- The loop's invariant. -/
def AllI (w : World) (A : Option Addr) (n c : Nat) (body : List Node) (k : Nat) (W : World) : Prop := ∃ v1 v2, AllB w A n c W v1 v2 (labP body k) (effP body k)
theorem grown_cells {A B : World} {row : Option Nat} (hg : A.grownBy B row) {D : Nat} (hr : ∀ r, row = some r → D ≤ r ∧ ∃ o : Obj, A.heap[r]? = some o ∧ (o.isCells = false ∨ sidesT o)) {k : Nat} {cells : Array Value} {t : TypeId} (hk : A.heap[k]? = some (.cells cells t (0, 0))) (ht : t ≠ 48) : B.heap[k]? = A.heap[k]? := by
  refine hg.block k (Array.getElem?_eq_some_iff.1 hk).1 (fun e => ?_)
  obtain ⟨_, o, ho, h⟩ := hr k e.symm
  rw [hk] at ho
  cases ho
  rcases h with h | ⟨cs, h⟩
  · cases h
  · injection h with _ h2
    exact ht h2
theorem allI_own (w : World) (A : Option Addr) (n c : Nat) (body : List Node) (D : Nat) (hD : w.heap.size ≤ D) : ∀ s P Q row, AllI w A n c body s P → P.grownBy Q row → (∀ r, row = some r → D ≤ r ∧ ∃ o : Obj, P.heap[r]? = some o ∧ (o.isCells = false ∨ sidesT o)) → AllI w A n c body s Q := by
  rintro s P Q row ⟨v1, v2, h1, h2, h3, r1, r2, hb⟩ hg hr
  refine ⟨v1, v2, (grown_cells hg hr h1 (by decide)).trans h1, (grown_cells hg hr h2 (by decide)).trans h2, (grown_cells hg hr h3 (by decide)).trans h3, ?_, ?_, hb.grown hg hb.size (fun k e => Nat.le_trans hD (hr k e).1)⟩
  · exact partR_typed r1 (fun k cells t hk ht => grown_cells hg hr hk (by rcases ht with rfl | rfl | rfl <;> decide))
  · exact partR_typed r2 (fun k cells t hk ht => grown_cells hg hr hk (by rcases ht with rfl | rfl | rfl <;> decide))
/-- What a round keeps. -/
def RoundK (n0 : Nat) (A B : World) : Prop := KeepsOthers A B ∧ sidesKp n0 A B
theorem RoundK.trans {n0 : Nat} {A B C : World} (h : RoundK n0 A B) (k : RoundK n0 B C) : RoundK n0 A C :=
  ⟨h.1.trans k.1, h.2.1.trans k.2.1, fun q cells t ht hq => k.2.2 q cells t ht (h.2.2 q cells t ht hq)⟩
theorem RoundK.refl (n0 : Nat) (A : World) : RoundK n0 A A := ⟨KeepsOthers.refl A, Below.refl _ _, fun _ _ _ _ h => h⟩
theorem RoundK.below {n0 : Nat} {A B : World} (h : Below A.heap.size A B) (hn : n0 ≤ A.heap.size) : RoundK n0 A B :=
  ⟨⟨h.size, fun k o hk _ => (h.block k (blk_lt hk)).trans hk⟩, h.mono hn, fun k cells t _ hk => (h.block k (blk_lt hk)).trans hk⟩
theorem RoundK.grown {n0 : Nat} {A B : World} {row : Option Nat} (hg : A.grownBy B row) (hn : n0 ≤ A.heap.size) (hr : ∀ r, row = some r → n0 ≤ r ∧ ∃ cells t, A.heap[r]? = some (.cells cells t (0, 0)) ∧ t ≠ 48 ∧ t ≠ 36) : RoundK n0 A B := by
  refine ⟨KeepsOthers.of_grownBy hg (fun j o e hj => ?_), (Below.refl _ _).grown hg hn (fun k e => (hr k e).1), fun k cells t ht hk => ?_⟩
  · obtain ⟨_, cells, t, h, _⟩ := hr j e
    rw [h] at hj
    cases hj
    rfl
  · refine (hg.block k (blk_lt hk) (fun e => ?_)).trans hk
    obtain ⟨_, cells', t', h, h1, h2⟩ := hr k e.symm
    rw [h] at hk
    cases hk
    rcases ht with ht | ht
    · exact h1 ht
    · exact h2 ht
theorem setCell_other {A : World} {b : Nat} {k : Nat} {o : Obj} {off : Nat} (v : Value) (hk : A.heap[k]? = some o) (hne : k ≠ b) : (A.setCell ⟨b, off, none⟩ v).heap[k]? = some o := by
  rw [← hk]
  simp only [World.setCell]
  rw [Array.getElem?_modify, if_neg (fun h => hne h.symm)]
theorem RoundK.box {n0 : Nat} {A : World} {b : Nat} {cells : Array Value} {v : Value} (hb : A.heap[b]? = some (.cells cells 66 (0, 0))) (hn : n0 ≤ b) : RoundK n0 A (A.setCell ⟨b, 0, none⟩ v) := by
  refine ⟨KeepsOthers.setCell _ _ _, (Below.refl n0 A).setCell (p := ⟨b, 0, none⟩) hn _, fun k cs t ht hk => setCell_other v hk (fun e => ?_)⟩
  subst e
  rw [hb] at hk
  cases hk
  rcases ht with ht | ht <;> cases ht
section
variable {w W : World} {A : Option Addr} {n c : Nat} {v1 v2 : Value} {l1 l2 : List (Int × Int × Int)}
theorem AllB.drew (h : AllB w A n c W v1 v2 l1 l2) : AllB w A n c W.drew v1 v2 l1 l2 :=
  ⟨h.1, h.2.1, h.2.2.1, Kd.R_below h.2.2.2.1 (Below.refl _ W).drew, Kd.R_below h.2.2.2.2.1 (Below.refl _ W).drew, h.2.2.2.2.2.drew⟩
theorem AllB.below {W1 : World} (h : AllB w A n c W v1 v2 l1 l2) (hb : Below W.heap.size W W1) : AllB w A n c W1 v1 v2 l1 l2 :=
  ⟨(hb.block _ (blk_lt h.1)).trans h.1, (hb.block _ (blk_lt h.2.1)).trans h.2.1, (hb.block _ (blk_lt h.2.2.1)).trans h.2.2.1, Kd.R_below h.2.2.2.1 hb, Kd.R_below h.2.2.2.2.1 hb, below_step h.2.2.2.2.2 hb⟩
/-- The row's own block is one of spots. -/
theorem AllB.own1 (h : AllB w A n c W v1 v2 l1 l2) (r : Nat) (e : v1.ownBlock = some r) : w.heap.size ≤ r ∧ r < W.heap.size ∧ ∃ cells, W.heap[r]? = some (.cells cells 75 (0, 0)) :=
  ⟨own_base (Kd.R_own h.2.2.2.1).choose_spec r e, own_lt (Kd.R_own h.2.2.2.1).choose_spec r e, own_typed (Kd.R_own h.2.2.2.1).choose_spec r e⟩
theorem AllB.own2 (h : AllB w A n c W v1 v2 l1 l2) (r : Nat) (e : v2.ownBlock = some r) : w.heap.size ≤ r ∧ r < W.heap.size ∧ ∃ cells, W.heap[r]? = some (.cells cells 75 (0, 0)) :=
  ⟨own_base (Kd.R_own h.2.2.2.2.1).choose_spec r e, own_lt (Kd.R_own h.2.2.2.2.1).choose_spec r e, own_typed (Kd.R_own h.2.2.2.2.1).choose_spec r e⟩
theorem cells_of_type {W : World} {k r : Nat} {cs cs' : Array Value} {t t' : TypeId} (h : W.heap[k]? = some (.cells cs t (0, 0))) (h' : W.heap[r]? = some (.cells cs' t' (0, 0))) (ht : t ≠ t') : k ≠ r := by
  rintro rfl
  rw [h] at h'
  cases h'
  exact ht rfl
theorem AllB.fresh (h : AllB w A n c W v1 v2 l1 l2) {k : Nat} (hk : W.heap.size ≤ k) : some k ≠ v1.ownBlock ∧ some k ≠ v2.ownBlock :=
  ⟨fun e => by have := (h.own1 k e.symm).2.1; omega, fun e => by have := (h.own2 k e.symm).2.1; omega⟩
/-- One more spot in the first row. -/
theorem AllB.add1 {W2 w3 : World} {v1' : Value} {ys : List (Int × Int × Int)} (h : AllB w A n c W2 v1 v2 l1 l2) (hR : kPart.R 75 w3 w.heap.size (fun k => some k ≠ v2.ownBlock) v1' ys) (hg : W2.grownBy w3 v1.ownBlock) (hat : v1'.ownBlock = v1.ownBlock ∨ ∃ b, v1'.ownBlock = some b ∧ W2.heap.size ≤ b) :
    AllB w A n c (w3.setCell ⟨w.heap.size + 1, 0, none⟩ v1') v1' v2 ys l2 ∧ RoundK w.heap.size W2 (w3.setCell ⟨w.heap.size + 1, 0, none⟩ v1') ∧ w3.cell? ⟨w.heap.size + 1, 0, none⟩ = some v1 ∧ w3.frozen? ⟨w.heap.size + 1, 0, none⟩ = false := by
  obtain ⟨g0, g1, g2, r1, r2, hb⟩ := h
  have hk : ∀ (k : Nat) cells t, W2.heap[k]? = some (.cells cells t (0, 0)) → t ≠ 75 → w3.heap[k]? = some (.cells cells t (0, 0)) := fun k cells t hk ht => by
    refine (hg.block k (blk_lt hk) (fun e => ?_)).trans hk
    obtain ⟨cs, hc⟩ := own_typed (Kd.R_own r1).choose_spec k e.symm
    exact cells_of_type hk hc ht rfl
  have G1 := hk _ _ _ g1 (by decide)
  have hR1' : kPart.R 75 (w3.setCell ⟨w.heap.size + 1, 0, none⟩ v1') w.heap.size (fun k => some k ≠ v2.ownBlock) v1' ys :=
    partR_typed hR (fun k cells t hk ht => (setCell_other v1' hk (cells_of_type hk G1 (by rcases ht with rfl | rfl | rfl <;> decide))).trans hk.symm)
  have hR2 : kPart.R 75 w3 w.heap.size (fun k => some k ≠ v1'.ownBlock) v2 l2 := by
    have h1 := Kd.R_grown r2 hg (fun k hk => hk)
    have h2 : kPart.R 75 W2 w.heap.size (fun k => some k ≠ v1'.ownBlock ∧ some k ≠ v1.ownBlock) v2 l2 := by
      refine Kd.R_mono (Kd.R_bound r2) (fun k hk => ⟨?_, hk.1⟩)
      rcases hat with e | ⟨b, e, hle⟩
      · rw [e]; exact hk.1
      · rw [e]
        intro he
        injection he with he
        have := hk.2.2.1
        omega
    exact Kd.R_mono (Kd.R_grown h2 hg (fun k hk => hk.2)) (fun k hk => hk.1)
  have hR2' : kPart.R 75 (w3.setCell ⟨w.heap.size + 1, 0, none⟩ v1') w.heap.size (fun k => some k ≠ v1'.ownBlock) v2 l2 :=
    partR_typed hR2 (fun k cells t hk ht => (setCell_other v1' hk (cells_of_type hk G1 (by rcases ht with rfl | rfl | rfl <;> decide))).trans hk.symm)
  refine ⟨⟨setCell_other v1' (hk _ _ _ g0 (by decide)) (by omega), by simpa using blk_set G1 0 v1', setCell_other v1' (hk _ _ _ g2 (by decide)) (by omega), hR1', hR2', ?_⟩, ?_, blk_cell G1 0, blk_frozen G1 0⟩
  · exact (hb.grown hg hb.size (fun k e => own_base (Kd.R_own r1).choose_spec k e)).setCell (p := ⟨w.heap.size + 1, 0, none⟩) (Nat.le_succ _) _
  · refine (RoundK.grown hg hb.size (fun r e => ⟨own_base (Kd.R_own r1).choose_spec r e, ?_⟩)).trans (RoundK.box G1 (Nat.le_succ _))
    obtain ⟨cs, hc⟩ := own_typed (Kd.R_own r1).choose_spec r e
    exact ⟨cs, _, hc, by decide, by decide⟩
/-- One more spot in the second row. -/
theorem AllB.add2 {W2 w3 : World} {v2' : Value} {ys : List (Int × Int × Int)} (h : AllB w A n c W2 v1 v2 l1 l2) (hR : kPart.R 75 w3 w.heap.size (fun k => some k ≠ v1.ownBlock) v2' ys) (hg : W2.grownBy w3 v2.ownBlock) (hat : v2'.ownBlock = v2.ownBlock ∨ ∃ b, v2'.ownBlock = some b ∧ W2.heap.size ≤ b) :
    AllB w A n c (w3.setCell ⟨w.heap.size + 1 + 1, 0, none⟩ v2') v1 v2' l1 ys ∧ RoundK w.heap.size W2 (w3.setCell ⟨w.heap.size + 1 + 1, 0, none⟩ v2') ∧ w3.cell? ⟨w.heap.size + 1 + 1, 0, none⟩ = some v2 ∧ w3.frozen? ⟨w.heap.size + 1 + 1, 0, none⟩ = false := by
  obtain ⟨g0, g1, g2, r1, r2, hb⟩ := h
  have hk : ∀ (k : Nat) cells t, W2.heap[k]? = some (.cells cells t (0, 0)) → t ≠ 75 → w3.heap[k]? = some (.cells cells t (0, 0)) := fun k cells t hk ht => by
    refine (hg.block k (blk_lt hk) (fun e => ?_)).trans hk
    obtain ⟨cs, hc⟩ := own_typed (Kd.R_own r2).choose_spec k e.symm
    exact cells_of_type hk hc ht rfl
  have G2 := hk _ _ _ g2 (by decide)
  have hR2' : kPart.R 75 (w3.setCell ⟨w.heap.size + 1 + 1, 0, none⟩ v2') w.heap.size (fun k => some k ≠ v1.ownBlock) v2' ys :=
    partR_typed hR (fun k cells t hk ht => (setCell_other v2' hk (cells_of_type hk G2 (by rcases ht with rfl | rfl | rfl <;> decide))).trans hk.symm)
  have hR1 : kPart.R 75 w3 w.heap.size (fun k => some k ≠ v2'.ownBlock) v1 l1 := by
    have h2 : kPart.R 75 W2 w.heap.size (fun k => some k ≠ v2'.ownBlock ∧ some k ≠ v2.ownBlock) v1 l1 := by
      refine Kd.R_mono (Kd.R_bound r1) (fun k hk => ⟨?_, hk.1⟩)
      rcases hat with e | ⟨b, e, hle⟩
      · rw [e]; exact hk.1
      · rw [e]
        intro he
        injection he with he
        have := hk.2.2.1
        omega
    exact Kd.R_mono (Kd.R_grown h2 hg (fun k hk => hk.2)) (fun k hk => hk.1)
  have hR1' : kPart.R 75 (w3.setCell ⟨w.heap.size + 1 + 1, 0, none⟩ v2') w.heap.size (fun k => some k ≠ v2'.ownBlock) v1 l1 :=
    partR_typed hR1 (fun k cells t hk ht => (setCell_other v2' hk (cells_of_type hk G2 (by rcases ht with rfl | rfl | rfl <;> decide))).trans hk.symm)
  refine ⟨⟨setCell_other v2' (hk _ _ _ g0 (by decide)) (by omega), setCell_other v2' (hk _ _ _ g1 (by decide)) (by omega), by simpa using blk_set G2 0 v2', hR1', hR2', ?_⟩, ?_, blk_cell G2 0, blk_frozen G2 0⟩
  · exact (hb.grown hg hb.size (fun k e => own_base (Kd.R_own r2).choose_spec k e)).setCell (p := ⟨w.heap.size + 1 + 1, 0, none⟩) (by show w.heap.size ≤ w.heap.size + 1 + 1; omega) _
  · refine (RoundK.grown hg hb.size (fun r e => ⟨own_base (Kd.R_own r2).choose_spec r e, ?_⟩)).trans (RoundK.box G2 (by omega))
    obtain ⟨cs, hc⟩ := own_typed (Kd.R_own r2).choose_spec r e
    exact ⟨cs, _, hc, by decide, by decide⟩
end
/-- A new spot as a row of one, in a block that is new. -/
theorem part_row {W W1 : World} {x : Int × Int × Int} {b1 b2 : Nat} (hp : PartM W1 W.heap.size (fun _ => True) x (partC x b1 b2)) : ReadsRow (kPart.M (W1.alloc (.cells (partC x b1 b2).toArray 75)) W.heap.size (fun k => W.heap.size ≤ k)) kPart.sz (W1.alloc (.cells (partC x b1 b2).toArray 75)) (some ⟨W1.heap.size, 0, none⟩) 1 [x] := by
  refine ⟨rfl, by decide, fun _ => ⟨_, rfl, fun j p hj => ?_⟩⟩
  rcases j with _ | j
  · obtain rfl : x = p := by simpa using hj
    obtain ⟨c1, c2, e, -, -, h1, h2, h3, h4⟩ := hp
    refine ⟨partC x b1 b2, rfl, ⟨c1, c2, e, h1, h2, h1, h2, blk_alloc h3 _, blk_alloc h4 _⟩, fun i u hu => ?_⟩
    have hb := blk_cell (blk_new W1 (.cells (partC x b1 b2).toArray 75)) i
    rw [add_plain, Nat.zero_mul, Nat.zero_add, hb]
    simpa using hu
  · simp at hj
theorem part_lower {W2 : World} {base base' : Nat} {x : Int × Int × Int} {cs : List Value} (hb : base' ≤ base) (h : kPart.M W2 base (fun k => base ≤ k) x cs) : kPart.M W2 base' (fun k => base ≤ k) x cs := kPart.M_lower hb h
def allW (w : World) (A : Option Addr) (n c : Nat) : World := (((w.alloc (.cells #[.slice A n c] 22)).alloc (.cells #[.slice none 0 0] 66)).alloc (.cells #[.slice none 0 0] 66)).alloc (.cells #[.slice A n c] 22)
theorem allW_facts (w : World) (A : Option Addr) (n c : Nat) (body : List Node) : (allW w A n c).heap.size = w.heap.size + 4 ∧ AllI w A n c body 0 (allW w A n c) ∧ (allW w A n c).cell? ⟨w.heap.size + 1 + 1 + 1, 0, none⟩ = some (.slice A n c) ∧ Below w.heap.size w (allW w A n c) := by
  have hB : Below w.heap.size w (allW w A n c) := below_alloc (below_alloc (below_alloc (below_alloc (Below.refl _ _) _) _) _) _
  have h1 := blk_new w (.cells #[.slice A n c] 22)
  have h2 := blk_new (w.alloc (.cells #[.slice A n c] 22)) (.cells #[.slice none 0 0] 66)
  have h3 := blk_new ((w.alloc (.cells #[.slice A n c] 22)).alloc (.cells #[.slice none 0 0] 66)) (.cells #[.slice none 0 0] 66)
  have h4 := blk_new (((w.alloc (.cells #[.slice A n c] 22)).alloc (.cells #[.slice none 0 0] 66)).alloc (.cells #[.slice none 0 0] 66)) (.cells #[.slice A n c] 22)
  simp only [World.size_alloc] at h2 h3 h4
  refine ⟨by simp [allW], ⟨.slice none 0 0, .slice none 0 0, blk_alloc (blk_alloc (blk_alloc h1 _) _) _, blk_alloc (blk_alloc h2 _) _, blk_alloc h3 _, ?_, ?_, hB⟩, blk_cell h4 0, hB⟩
  · simp only [labP, List.take_zero]
    exact Kd.R_nil _ _ _ _ _
  · simp only [effP, List.take_zero]
    exact Kd.R_nil _ _ _ _ _
theorem sidesKp_put {n0 D : Nat} (h0 : n0 ≤ D) (W : World) (l : Nat) (o o' : Obj) (hl : D ≤ l) (h : W.heap[l]? = some o) (hc : o.isCells = false) : sidesKp n0 W (W.putObj l o') := by
  refine ⟨(Below.refl n0 W).grown (grownBy_putObj' W l o') (by have := (Array.getElem?_eq_some_iff.1 h).1; omega) (fun k e => by cases e; omega), fun k cells t _ hk => ?_⟩
  rw [World.putObj_heap_other (fun e => ?_)]
  · exact hk
  · subst e
    rw [h] at hk
    cases hk
    cases hc
theorem set_same {W : World} {b : Nat} {t : TypeId} {v : Value} (h : W.heap[b]? = some (.cells #[v] t (0, 0))) (k : Nat) (o : Obj) (hk : W.heap[k]? = some o) : (W.setCell ⟨b, 0, none⟩ v).heap[k]? = some o := by
  by_cases e : k = b
  · subst e
    rw [h] at hk
    cases hk
    simpa using blk_set h 0 v
  · rw [← hk]
    simp only [World.setCell]
    rw [Array.getElem?_modify, if_neg (fun h => e h.symm)]
set_option maxRecDepth 100000 in
set_option maxHeartbeats 4000000 in
theorem all_calls (w : World) (A : Option Addr) (c : Nat) (body : List Node) (hz : checkB body = 0) (hr : kNode.C w A body.length body) :
    Calls Tryd.prog 41 #[.slice A body.length c] w fun e w' => ∃ v1 v2, e = .returned (.tuple #[v1, v2]) ∧ kPart.R 75 w' w.heap.size (fun k => some k ≠ v2.ownBlock) v1 (labP body body.length) ∧ kPart.R 75 w' w.heap.size (fun k => some k ≠ v1.ownBlock) v2 (effP body body.length) ∧ Below w.heap.size w w' := by
  refine (callsIn_wide (n := 6)).1 ?_
  have HZ := Aside0.mk hz
  have HR := Aside0.mk hr
  have HL := Aside0.mk (sidesB_len hz 0)
  obtain ⟨N, hN⟩ : ∃ N, N = body.length := ⟨_, rfl⟩
  have HN := Aside0.mk hN
  rw [← hN]
  clear hz hr hN
  have h1 : 1 ≤ 6 := by decide
  refine callsIn_of_wp_marks Tryd.func41 rfl trivial ?_ rfl
  simp only [Tryd.ntmps41, List.size_toArray, List.length_cons, List.length_nil, Nat.reduceAdd, Nat.reduceSub, Array.replicate_succ, Array.replicate_zero, List.push_toArray, List.append_toArray, List.nil_append, List.cons_append]
  gi_wp2_with (refine ⟨trivial, ?_⟩; gi_at_call 53; refine (callsIn_wide.2 (sides_calls _ A N c)).mono ?_; rintro e w1 ⟨rfl, rfl⟩)
  change Code.wpIn _ _ _ _ _ _ (allW w A N c)
  obtain ⟨Wl, hWl⟩ : ∃ Wl, Wl = allW w A N c := ⟨_, rfl⟩
  have hF := allW_facts w A N c body
  rw [← hWl] at hF ⊢
  obtain ⟨hs, hI, hbx, hBl⟩ := hF
  clear hWl
  have hxl : (sidesXs (sidesB body)).length = N := by rw [sidesXs_len, show (sidesB body).length = body.length from HL.out, HN.out]
  refine wpIn_range_rows (n := 6) sidesT (fun o h => by obtain ⟨cells, h⟩ := h; rw [h]; rfl) rfl h1 (gf := 61) (lb := #[.pointer (some ⟨w.heap.size + 1 + 1 + 1, 0, none⟩)]) rfl trivial (enters_of Tryd.func61 (by kernel_rfl) rfl) (encs := sidesE) (fun _ => rfl) (Kp := sidesKp w.heap.size) (xs := sidesXs (sidesB body))
    (sides1_rows 5 (by decide) w Wl A c body _ HZ.out (by omega) (by rw [← HN.out]; exact hbx) HR.out hBl)
    (fun h k => ⟨h.1.trans k.1, fun q cells t ht hq => k.2 q cells t ht (h.2 q cells t ht hq)⟩) (fun W l o o' hl h hc => sidesKp_put (D := Wl.heap.size) (by omega) W l o o' hl h hc)
    (AllI w A N c body) (allI_own w A N c body _ (by omega)) hI
    (fun x => { tmps := #[.slice A N c, .pointer (some ⟨w.heap.size, 0, none⟩), .pointer (some ⟨w.heap.size + 1, 0, none⟩), .pointer (some ⟨w.heap.size + 1 + 1, 0, none⟩), .int .i64 (x.1 : Int), .int .u8 x.2, .slice A N c, .func (.func 61) #[] #[.pointer (some ⟨w.heap.size + 1 + 1 + 1, 0, none⟩)], .int .i64 (x.1 : Int), .int .u8 x.2, undef, undef, undef, undef, undef, undef, undef, undef, undef, undef, undef, undef, undef, undef, undef, undef, undef, undef, undef, undef, undef, undef, undef, undef, undef, undef, undef], defers := [] }) ?assign ?body ?done
  case assign =>
    intro l x W K hK
    simp only [sidesE]
    gi_wp2
    exact hK
  case done =>
    rintro D W hD hI hK
    obtain ⟨v1, v2, g0, g1, g2, r1, r2, hb⟩ := hI
    obtain ⟨A1, c1, rfl⟩ := Kd.R_slice r1
    obtain ⟨A2, c2, rfl⟩ := Kd.R_slice r2
    have q1 := blk_cell g1 0
    have f1 := blk_frozen g1 0
    have q2 := blk_cell g2 0
    have f2 := blk_frozen g2 0
    gi_wp2
    gi_region
    gi_wp2
    rw [hxl] at r1 r2 g1 g2
    obtain ⟨W5, hW5⟩ : ∃ W5, W5 = ((W.setCell ⟨w.heap.size + 1, 0, none⟩ (.slice A1 (labP body N).length c1)).setCell ⟨w.heap.size + 1 + 1, 0, none⟩ (.slice A2 (effP body N).length c2)).drew := ⟨_, rfl⟩
    rw [← hW5]
    have hk5 : ∀ k o, W.heap[k]? = some o → W5.heap[k]? = some o := fun k o h => by
      rw [hW5]
      exact set_same (set_same g1 _ _ g2) k o (set_same g1 k o h)
    have hb5 : Below w.heap.size w W5 := by
      rw [hW5]
      exact ((hb.setCell (p := ⟨w.heap.size + 1, 0, none⟩) (Nat.le_succ _) _).setCell (p := ⟨w.heap.size + 1 + 1, 0, none⟩) (show w.heap.size ≤ w.heap.size + 1 + 1 by omega) _).drew
    clear hW5
    have hK5 := hk5 _ _ hK
    have k5 : ∀ k (o : Obj), W.heap[k]? = some o → o.isCells = true → (W5.putObj D (.deferred none)).heap[k]? = some o := fun k o h hc => by
      rw [World.putObj_heap_other (fun e => ?_)]
      · exact hk5 k o h
      · rw [e] at h
        rw [hK] at h
        cases h
        cases hc
    have c1' := blk_cell (k5 _ _ g1 rfl) 0
    have c2' := blk_cell (k5 _ _ g2 rfl) 0
    refine ⟨by simp, .inl ⟨_, _, rfl, run_takeDeferred hK5, ?_⟩⟩
    refine ⟨.tuple #[.slice A1 (labP body N).length c1, .slice A2 (effP body N).length c2], by simp [results, Tryd.f41, go_sem, c1', c2'], _, _, rfl, ?_, ?_, ?_⟩
    · exact partR_typed r1 (fun k cells t hk _ => (k5 k _ hk rfl).trans hk.symm)
    · exact partR_typed r2 (fun k cells t hk _ => (k5 k _ hk rfl).trans hk.symm)
    · exact hb5.trans (belowK_b (w := w) (Nat.le_refl _) W5 D _ _ (by omega) hK5 rfl rfl)
  case body =>
    intro l k hk W hI
    have hkN : k < N := by rw [← hxl]; exact hk
    have hkb : k < body.length := by rw [← HN.out]; exact hkN
    have hks : k < (sidesB body).length := by rw [show (sidesB body).length = body.length from HL.out]; exact hkb
    have hx : (sidesXs (sidesB body))[k] = (k, (sidesB body)[k]) := sidesXs_get _ _ hk hks
    rw [hx]
    obtain ⟨s, hs'⟩ : ∃ s, s = (sidesB body)[k] := ⟨_, rfl⟩
    rw [← hs']
    obtain ⟨nd, hnd⟩ : ∃ nd, nd = body[k] := ⟨_, rfl⟩
    have HLN := Aside0.mk (labP_next body k hkb hks)
    have HEN := Aside0.mk (effP_next body k hkb hks)
    rw [← hs', ← hnd] at HLN HEN
    obtain ⟨v1, v2, hA⟩ := hI
    have hl1 := labP_len body k
    have hl2 := effP_len body k
    have hl128 : body.length ≤ 128 := (checkB_L HZ.out).2.1
    obtain ⟨ad, rfl, c0, -⟩ := C_nodeN (Kd.C_below HR.out hA.2.2.2.2.2) k hkb
    rw [← hnd] at c0
    have HND := Aside0.mk hnd
    have q1 : W.cell? ⟨w.heap.size + 1, 0, none⟩ = some v1 := blk_cell hA.2.1 0
    have HA := Aside0.mk hA.drew
    have HA0 := Aside0.mk hA
    clear hA hnd hs' hx c0
    have hd : 1 ≤ 6 - 1 - 1 := by decide
    have hmx : Tryd.prog.follows .mixedOrders = true := by kernel_rfl
    gi_wp2
    obtain ⟨Q4, hQ4⟩ : ∃ Q4, Q4 = (fun (e : Exit) (a' : Act) (W' : World) => e = Exit.normal ∧ ∃ t10 t11 t12 t13 t14 t15 u : Value, a' = { tmps := #[.slice (some ad) N c, .pointer (some ⟨w.heap.size, 0, none⟩), .pointer (some ⟨w.heap.size + 1, 0, none⟩), .pointer (some ⟨w.heap.size + 1 + 1, 0, none⟩), .int .i64 (k : Int), .int .u8 s, .slice (some ad) N c, .func (.func 61) #[] #[.pointer (some ⟨w.heap.size + 1 + 1 + 1, 0, none⟩)], .int .i64 (k : Int), .int .u8 s, t10, t11, t12, t13, t14, t15, undef, undef, undef, undef, undef, undef, undef, undef, undef, undef, undef, undef, undef, undef, undef, undef, undef, undef, undef, undef, undef], defers := [] } ∧ AllB w (some ad) N c W' u v2 (labP body k ++ [((k : Int), 0, s)]) (effP body k) ∧ RoundK w.heap.size W W') := ⟨_, rfl⟩
    have HQ := Aside0.mk hQ4
    clear hQ4
    refine wpIn_mono (Q := Q4) ?r4 ?k4
    case r4 =>
      refine wpIn_region_any (by assumption) ?_
      change wpAnyIn _ _ _ _ _ _ _ _ _ (World.drew _)
      refine wpAnyIn_ready (rs := [0, 1, 2]) (by kernel_rfl) (by simp) ?_
      refine AllReadyIn.cons rfl (fun K hK => ?_) ?_
      · go_simp
        refine hK _ _ ?_
        clear hK K
        refine wpAnyIn_ready (rs := [1, 2]) (by kernel_rfl) (by simp) ?_
        refine AllReadyIn.cons rfl (fun K hK => ?_) ?_
        · go_simp
          refine hK _ _ ?_
          clear hK K
          refine wpAnyIn_ready (rs := [2]) (by kernel_rfl) (by simp) ?_
          refine AllReadyIn.cons rfl (fun K hK => ?_) ?_
          · go_simp
            refine hK _ _ ?_
            clear hK K
            refine wpAnyIn_ready (rs := [3]) (by kernel_rfl) (by simp) ?_
            refine AllReadyIn.cons rfl (fun K hK => ?_) ?_
            · go_simp
              gi_wp2_with (refine ⟨trivial, ?_⟩; gi_at_call 54; refine (CallsIn.inRound l (callsIn_wide.2 (part_calls _ _ _ _))).mono ?_; rintro e W1 ⟨b1, b2, rfl, hpm, hb1⟩; have HA1 := Aside0.mk (HA.out.below hb1); have HP := Aside0.mk hpm; have HBB := Aside0.mk hb1; have q1' : W1.cell? ⟨w.heap.size + 1, 0, none⟩ = some v1 := blk_cell HA1.out.2.1 0; have q1'' : ∀ o, (W1.alloc o).cell? ⟨w.heap.size + 1, 0, none⟩ = some v1 := fun o => blk_cell (blk_alloc HA1.out.2.1 o) 0; clear hpm hb1; simp only [partC])
              try (refine hK _ _ ?_; clear hK K)
              refine wpAnyIn_ready (rs := [4]) (by kernel_rfl) (by simp) ?_
              refine AllReadyIn.cons rfl (fun K hK => ?_) ?_
              · go_simp
                refine hK _ _ ?_
                clear hK K
                refine wpAnyIn_ready (rs := [5]) (by kernel_rfl) (by simp) ?_
                refine AllReadyIn.cons rfl (fun K hK => ?_) ?_
                · refine step_append_RIn rfl kPart w.heap.size (.tmp 10) (.tmp 14) 66 66 75 75 (.agg #[.int .i64 0, .int .u8 0, .int .u8 0, .bool false, .int .u64 0, .nilFunc]) 40 rfl (by kernel_rfl) (by kernel_rfl) infoP rfl (by decide) (by decide) v1 (labP body k) [((k : Int), 0, s)] (some ⟨W1.heap.size, 0, none⟩) 1 1 (fun k => some k ≠ v2.ownBlock) (fun k => W.heap.size ≤ k) rfl rfl (HA1.out.below (below_alloc (Below.refl _ _) _)).2.2.2.1 (part_row (W := W.drew) HP.out) (fun x cs h => part_lower HA.out.2.2.2.2.2.size h) (fun k hk => ⟨(AllB.fresh HA.out hk).2, (AllB.fresh HA.out hk).1⟩) (fun k hk => (AllB.fresh (HA1.out.below (below_alloc (Below.refl _ _) _)) hk).2) (HA1.out.below (below_alloc (Below.refl _ _) (.cells (partC ((k : Int), 0, s) b1 b2).toArray 75))).2.2.2.2.2.size (by skip; omega) ?_
                  intro u3 w3 hR hg hat
                  obtain ⟨A3, c3, rfl⟩ := Kd.R_slice hR
                  obtain ⟨L3, hL3⟩ : ∃ L, L = ((labP body k) ++ [((k : Int), 0, s)]).length := ⟨_, rfl⟩
                  rw [← hL3] at hR hat ⊢
                  clear hL3
                  obtain ⟨hA3, hK3, q3, f3⟩ := (HA1.out.below (below_alloc (Below.refl _ _) (.cells (partC ((k : Int), 0, s) b1 b2).toArray 75))).add1 hR hg hat
                  have HA3 := Aside0.mk hA3
                  have HK3 := Aside0.mk ((RoundK.below (n0 := w.heap.size) (below_then (Below.refl _ W).drew (below_alloc HBB.out (.cells (partC ((k : Int), 0, s) b1 b2).toArray 75))) HA.out.2.2.2.2.2.size).trans hK3)
                  refine hK _ _ ?_
                  clear hK K hA3 hK3 hR hg hat
                  refine wpAnyIn_ready (rs := [6]) (by kernel_rfl) (by simp) ?_
                  refine AllReadyIn.cons rfl (fun K hK => ?_) ?_
                  · go_simp
                    refine hK _ _ ?_
                    clear hK K
                    refine wpAnyIn_done (by kernel_rfl) ?_ _
                    rw [HQ.out]
                    exact ⟨rfl, _, _, _, _, _, _, _, rfl, HA3.out, HK3.out⟩
                  exact AllReadyIn.nil
                exact AllReadyIn.nil
              exact AllReadyIn.nil
            exact AllReadyIn.nil
          exact AllReadyIn.nil
        refine AllReadyIn.cons rfl (fun K hK => ?_) ?_
        · go_simp
          refine hK _ _ ?_
          clear hK K
          refine wpAnyIn_ready (rs := [1]) (by kernel_rfl) (by simp) ?_
          refine AllReadyIn.cons rfl (fun K hK => ?_) ?_
          · go_simp
            refine hK _ _ ?_
            clear hK K
            refine wpAnyIn_ready (rs := [3]) (by kernel_rfl) (by simp) ?_
            refine AllReadyIn.cons rfl (fun K hK => ?_) ?_
            · go_simp
              gi_wp2_with (refine ⟨trivial, ?_⟩; gi_at_call 54; refine (CallsIn.inRound l (callsIn_wide.2 (part_calls _ _ _ _))).mono ?_; rintro e W1 ⟨b1, b2, rfl, hpm, hb1⟩; have HA1 := Aside0.mk (HA.out.below hb1); have HP := Aside0.mk hpm; have HBB := Aside0.mk hb1; have q1' : W1.cell? ⟨w.heap.size + 1, 0, none⟩ = some v1 := blk_cell HA1.out.2.1 0; have q1'' : ∀ o, (W1.alloc o).cell? ⟨w.heap.size + 1, 0, none⟩ = some v1 := fun o => blk_cell (blk_alloc HA1.out.2.1 o) 0; clear hpm hb1; simp only [partC])
              try (refine hK _ _ ?_; clear hK K)
              refine wpAnyIn_ready (rs := [4]) (by kernel_rfl) (by simp) ?_
              refine AllReadyIn.cons rfl (fun K hK => ?_) ?_
              · go_simp
                refine hK _ _ ?_
                clear hK K
                refine wpAnyIn_ready (rs := [5]) (by kernel_rfl) (by simp) ?_
                refine AllReadyIn.cons rfl (fun K hK => ?_) ?_
                · refine step_append_RIn rfl kPart w.heap.size (.tmp 10) (.tmp 14) 66 66 75 75 (.agg #[.int .i64 0, .int .u8 0, .int .u8 0, .bool false, .int .u64 0, .nilFunc]) 40 rfl (by kernel_rfl) (by kernel_rfl) infoP rfl (by decide) (by decide) v1 (labP body k) [((k : Int), 0, s)] (some ⟨W1.heap.size, 0, none⟩) 1 1 (fun k => some k ≠ v2.ownBlock) (fun k => W.heap.size ≤ k) rfl rfl (HA1.out.below (below_alloc (Below.refl _ _) _)).2.2.2.1 (part_row (W := W.drew) HP.out) (fun x cs h => part_lower HA.out.2.2.2.2.2.size h) (fun k hk => ⟨(AllB.fresh HA.out hk).2, (AllB.fresh HA.out hk).1⟩) (fun k hk => (AllB.fresh (HA1.out.below (below_alloc (Below.refl _ _) _)) hk).2) (HA1.out.below (below_alloc (Below.refl _ _) (.cells (partC ((k : Int), 0, s) b1 b2).toArray 75))).2.2.2.2.2.size (by skip; omega) ?_
                  intro u3 w3 hR hg hat
                  obtain ⟨A3, c3, rfl⟩ := Kd.R_slice hR
                  obtain ⟨L3, hL3⟩ : ∃ L, L = ((labP body k) ++ [((k : Int), 0, s)]).length := ⟨_, rfl⟩
                  rw [← hL3] at hR hat ⊢
                  clear hL3
                  obtain ⟨hA3, hK3, q3, f3⟩ := (HA1.out.below (below_alloc (Below.refl _ _) (.cells (partC ((k : Int), 0, s) b1 b2).toArray 75))).add1 hR hg hat
                  have HA3 := Aside0.mk hA3
                  have HK3 := Aside0.mk ((RoundK.below (n0 := w.heap.size) (below_then (Below.refl _ W).drew (below_alloc HBB.out (.cells (partC ((k : Int), 0, s) b1 b2).toArray 75))) HA.out.2.2.2.2.2.size).trans hK3)
                  refine hK _ _ ?_
                  clear hK K hA3 hK3 hR hg hat
                  refine wpAnyIn_ready (rs := [6]) (by kernel_rfl) (by simp) ?_
                  refine AllReadyIn.cons rfl (fun K hK => ?_) ?_
                  · go_simp
                    refine hK _ _ ?_
                    clear hK K
                    refine wpAnyIn_done (by kernel_rfl) ?_ _
                    rw [HQ.out]
                    exact ⟨rfl, _, _, _, _, _, _, _, rfl, HA3.out, HK3.out⟩
                  exact AllReadyIn.nil
                exact AllReadyIn.nil
              exact AllReadyIn.nil
            exact AllReadyIn.nil
          exact AllReadyIn.nil
        exact AllReadyIn.nil
      refine AllReadyIn.cons rfl (fun K hK => ?_) ?_
      · go_simp
        refine hK _ _ ?_
        clear hK K
        refine wpAnyIn_ready (rs := [0, 2]) (by kernel_rfl) (by simp) ?_
        refine AllReadyIn.cons rfl (fun K hK => ?_) ?_
        · go_simp
          refine hK _ _ ?_
          clear hK K
          refine wpAnyIn_ready (rs := [2]) (by kernel_rfl) (by simp) ?_
          refine AllReadyIn.cons rfl (fun K hK => ?_) ?_
          · go_simp
            refine hK _ _ ?_
            clear hK K
            refine wpAnyIn_ready (rs := [3]) (by kernel_rfl) (by simp) ?_
            refine AllReadyIn.cons rfl (fun K hK => ?_) ?_
            · go_simp
              gi_wp2_with (refine ⟨trivial, ?_⟩; gi_at_call 54; refine (CallsIn.inRound l (callsIn_wide.2 (part_calls _ _ _ _))).mono ?_; rintro e W1 ⟨b1, b2, rfl, hpm, hb1⟩; have HA1 := Aside0.mk (HA.out.below hb1); have HP := Aside0.mk hpm; have HBB := Aside0.mk hb1; have q1' : W1.cell? ⟨w.heap.size + 1, 0, none⟩ = some v1 := blk_cell HA1.out.2.1 0; have q1'' : ∀ o, (W1.alloc o).cell? ⟨w.heap.size + 1, 0, none⟩ = some v1 := fun o => blk_cell (blk_alloc HA1.out.2.1 o) 0; clear hpm hb1; simp only [partC])
              try (refine hK _ _ ?_; clear hK K)
              refine wpAnyIn_ready (rs := [4]) (by kernel_rfl) (by simp) ?_
              refine AllReadyIn.cons rfl (fun K hK => ?_) ?_
              · go_simp
                refine hK _ _ ?_
                clear hK K
                refine wpAnyIn_ready (rs := [5]) (by kernel_rfl) (by simp) ?_
                refine AllReadyIn.cons rfl (fun K hK => ?_) ?_
                · refine step_append_RIn rfl kPart w.heap.size (.tmp 10) (.tmp 14) 66 66 75 75 (.agg #[.int .i64 0, .int .u8 0, .int .u8 0, .bool false, .int .u64 0, .nilFunc]) 40 rfl (by kernel_rfl) (by kernel_rfl) infoP rfl (by decide) (by decide) v1 (labP body k) [((k : Int), 0, s)] (some ⟨W1.heap.size, 0, none⟩) 1 1 (fun k => some k ≠ v2.ownBlock) (fun k => W.heap.size ≤ k) rfl rfl (HA1.out.below (below_alloc (Below.refl _ _) _)).2.2.2.1 (part_row (W := W.drew) HP.out) (fun x cs h => part_lower HA.out.2.2.2.2.2.size h) (fun k hk => ⟨(AllB.fresh HA.out hk).2, (AllB.fresh HA.out hk).1⟩) (fun k hk => (AllB.fresh (HA1.out.below (below_alloc (Below.refl _ _) _)) hk).2) (HA1.out.below (below_alloc (Below.refl _ _) (.cells (partC ((k : Int), 0, s) b1 b2).toArray 75))).2.2.2.2.2.size (by skip; omega) ?_
                  intro u3 w3 hR hg hat
                  obtain ⟨A3, c3, rfl⟩ := Kd.R_slice hR
                  obtain ⟨L3, hL3⟩ : ∃ L, L = ((labP body k) ++ [((k : Int), 0, s)]).length := ⟨_, rfl⟩
                  rw [← hL3] at hR hat ⊢
                  clear hL3
                  obtain ⟨hA3, hK3, q3, f3⟩ := (HA1.out.below (below_alloc (Below.refl _ _) (.cells (partC ((k : Int), 0, s) b1 b2).toArray 75))).add1 hR hg hat
                  have HA3 := Aside0.mk hA3
                  have HK3 := Aside0.mk ((RoundK.below (n0 := w.heap.size) (below_then (Below.refl _ W).drew (below_alloc HBB.out (.cells (partC ((k : Int), 0, s) b1 b2).toArray 75))) HA.out.2.2.2.2.2.size).trans hK3)
                  refine hK _ _ ?_
                  clear hK K hA3 hK3 hR hg hat
                  refine wpAnyIn_ready (rs := [6]) (by kernel_rfl) (by simp) ?_
                  refine AllReadyIn.cons rfl (fun K hK => ?_) ?_
                  · go_simp
                    refine hK _ _ ?_
                    clear hK K
                    refine wpAnyIn_done (by kernel_rfl) ?_ _
                    rw [HQ.out]
                    exact ⟨rfl, _, _, _, _, _, _, _, rfl, HA3.out, HK3.out⟩
                  exact AllReadyIn.nil
                exact AllReadyIn.nil
              exact AllReadyIn.nil
            exact AllReadyIn.nil
          exact AllReadyIn.nil
        refine AllReadyIn.cons rfl (fun K hK => ?_) ?_
        · go_simp
          refine hK _ _ ?_
          clear hK K
          refine wpAnyIn_ready (rs := [0, 3]) (by kernel_rfl) (by simp) ?_
          refine AllReadyIn.cons rfl (fun K hK => ?_) ?_
          · go_simp
            refine hK _ _ ?_
            clear hK K
            refine wpAnyIn_ready (rs := [3]) (by kernel_rfl) (by simp) ?_
            refine AllReadyIn.cons rfl (fun K hK => ?_) ?_
            · go_simp
              gi_wp2_with (refine ⟨trivial, ?_⟩; gi_at_call 54; refine (CallsIn.inRound l (callsIn_wide.2 (part_calls _ _ _ _))).mono ?_; rintro e W1 ⟨b1, b2, rfl, hpm, hb1⟩; have HA1 := Aside0.mk (HA.out.below hb1); have HP := Aside0.mk hpm; have HBB := Aside0.mk hb1; have q1' : W1.cell? ⟨w.heap.size + 1, 0, none⟩ = some v1 := blk_cell HA1.out.2.1 0; have q1'' : ∀ o, (W1.alloc o).cell? ⟨w.heap.size + 1, 0, none⟩ = some v1 := fun o => blk_cell (blk_alloc HA1.out.2.1 o) 0; clear hpm hb1; simp only [partC])
              try (refine hK _ _ ?_; clear hK K)
              refine wpAnyIn_ready (rs := [4]) (by kernel_rfl) (by simp) ?_
              refine AllReadyIn.cons rfl (fun K hK => ?_) ?_
              · go_simp
                refine hK _ _ ?_
                clear hK K
                refine wpAnyIn_ready (rs := [5]) (by kernel_rfl) (by simp) ?_
                refine AllReadyIn.cons rfl (fun K hK => ?_) ?_
                · refine step_append_RIn rfl kPart w.heap.size (.tmp 10) (.tmp 14) 66 66 75 75 (.agg #[.int .i64 0, .int .u8 0, .int .u8 0, .bool false, .int .u64 0, .nilFunc]) 40 rfl (by kernel_rfl) (by kernel_rfl) infoP rfl (by decide) (by decide) v1 (labP body k) [((k : Int), 0, s)] (some ⟨W1.heap.size, 0, none⟩) 1 1 (fun k => some k ≠ v2.ownBlock) (fun k => W.heap.size ≤ k) rfl rfl (HA1.out.below (below_alloc (Below.refl _ _) _)).2.2.2.1 (part_row (W := W.drew) HP.out) (fun x cs h => part_lower HA.out.2.2.2.2.2.size h) (fun k hk => ⟨(AllB.fresh HA.out hk).2, (AllB.fresh HA.out hk).1⟩) (fun k hk => (AllB.fresh (HA1.out.below (below_alloc (Below.refl _ _) _)) hk).2) (HA1.out.below (below_alloc (Below.refl _ _) (.cells (partC ((k : Int), 0, s) b1 b2).toArray 75))).2.2.2.2.2.size (by skip; omega) ?_
                  intro u3 w3 hR hg hat
                  obtain ⟨A3, c3, rfl⟩ := Kd.R_slice hR
                  obtain ⟨L3, hL3⟩ : ∃ L, L = ((labP body k) ++ [((k : Int), 0, s)]).length := ⟨_, rfl⟩
                  rw [← hL3] at hR hat ⊢
                  clear hL3
                  obtain ⟨hA3, hK3, q3, f3⟩ := (HA1.out.below (below_alloc (Below.refl _ _) (.cells (partC ((k : Int), 0, s) b1 b2).toArray 75))).add1 hR hg hat
                  have HA3 := Aside0.mk hA3
                  have HK3 := Aside0.mk ((RoundK.below (n0 := w.heap.size) (below_then (Below.refl _ W).drew (below_alloc HBB.out (.cells (partC ((k : Int), 0, s) b1 b2).toArray 75))) HA.out.2.2.2.2.2.size).trans hK3)
                  refine hK _ _ ?_
                  clear hK K hA3 hK3 hR hg hat
                  refine wpAnyIn_ready (rs := [6]) (by kernel_rfl) (by simp) ?_
                  refine AllReadyIn.cons rfl (fun K hK => ?_) ?_
                  · go_simp
                    refine hK _ _ ?_
                    clear hK K
                    refine wpAnyIn_done (by kernel_rfl) ?_ _
                    rw [HQ.out]
                    exact ⟨rfl, _, _, _, _, _, _, _, rfl, HA3.out, HK3.out⟩
                  exact AllReadyIn.nil
                exact AllReadyIn.nil
              exact AllReadyIn.nil
            exact AllReadyIn.nil
          refine AllReadyIn.cons rfl (fun K hK => ?_) ?_
          · go_simp
            gi_wp2_with (refine ⟨trivial, ?_⟩; gi_at_call 54; refine (CallsIn.inRound l (callsIn_wide.2 (part_calls _ _ _ _))).mono ?_; rintro e W1 ⟨b1, b2, rfl, hpm, hb1⟩; have HA1 := Aside0.mk (HA.out.below hb1); have HP := Aside0.mk hpm; have HBB := Aside0.mk hb1; have q1' : W1.cell? ⟨w.heap.size + 1, 0, none⟩ = some v1 := blk_cell HA1.out.2.1 0; have q1'' : ∀ o, (W1.alloc o).cell? ⟨w.heap.size + 1, 0, none⟩ = some v1 := fun o => blk_cell (blk_alloc HA1.out.2.1 o) 0; clear hpm hb1; simp only [partC])
            try (refine hK _ _ ?_; clear hK K)
            refine wpAnyIn_ready (rs := [0, 4]) (by kernel_rfl) (by simp) ?_
            refine AllReadyIn.cons rfl (fun K hK => ?_) ?_
            · go_simp
              refine hK _ _ ?_
              clear hK K
              refine wpAnyIn_ready (rs := [4]) (by kernel_rfl) (by simp) ?_
              refine AllReadyIn.cons rfl (fun K hK => ?_) ?_
              · go_simp
                refine hK _ _ ?_
                clear hK K
                refine wpAnyIn_ready (rs := [5]) (by kernel_rfl) (by simp) ?_
                refine AllReadyIn.cons rfl (fun K hK => ?_) ?_
                · refine step_append_RIn rfl kPart w.heap.size (.tmp 10) (.tmp 14) 66 66 75 75 (.agg #[.int .i64 0, .int .u8 0, .int .u8 0, .bool false, .int .u64 0, .nilFunc]) 40 rfl (by kernel_rfl) (by kernel_rfl) infoP rfl (by decide) (by decide) v1 (labP body k) [((k : Int), 0, s)] (some ⟨W1.heap.size, 0, none⟩) 1 1 (fun k => some k ≠ v2.ownBlock) (fun k => W.heap.size ≤ k) rfl rfl (HA1.out.below (below_alloc (Below.refl _ _) _)).2.2.2.1 (part_row (W := W.drew) HP.out) (fun x cs h => part_lower HA.out.2.2.2.2.2.size h) (fun k hk => ⟨(AllB.fresh HA.out hk).2, (AllB.fresh HA.out hk).1⟩) (fun k hk => (AllB.fresh (HA1.out.below (below_alloc (Below.refl _ _) _)) hk).2) (HA1.out.below (below_alloc (Below.refl _ _) (.cells (partC ((k : Int), 0, s) b1 b2).toArray 75))).2.2.2.2.2.size (by skip; omega) ?_
                  intro u3 w3 hR hg hat
                  obtain ⟨A3, c3, rfl⟩ := Kd.R_slice hR
                  obtain ⟨L3, hL3⟩ : ∃ L, L = ((labP body k) ++ [((k : Int), 0, s)]).length := ⟨_, rfl⟩
                  rw [← hL3] at hR hat ⊢
                  clear hL3
                  obtain ⟨hA3, hK3, q3, f3⟩ := (HA1.out.below (below_alloc (Below.refl _ _) (.cells (partC ((k : Int), 0, s) b1 b2).toArray 75))).add1 hR hg hat
                  have HA3 := Aside0.mk hA3
                  have HK3 := Aside0.mk ((RoundK.below (n0 := w.heap.size) (below_then (Below.refl _ W).drew (below_alloc HBB.out (.cells (partC ((k : Int), 0, s) b1 b2).toArray 75))) HA.out.2.2.2.2.2.size).trans hK3)
                  refine hK _ _ ?_
                  clear hK K hA3 hK3 hR hg hat
                  refine wpAnyIn_ready (rs := [6]) (by kernel_rfl) (by simp) ?_
                  refine AllReadyIn.cons rfl (fun K hK => ?_) ?_
                  · go_simp
                    refine hK _ _ ?_
                    clear hK K
                    refine wpAnyIn_done (by kernel_rfl) ?_ _
                    rw [HQ.out]
                    exact ⟨rfl, _, _, _, _, _, _, _, rfl, HA3.out, HK3.out⟩
                  exact AllReadyIn.nil
                exact AllReadyIn.nil
              exact AllReadyIn.nil
            refine AllReadyIn.cons rfl (fun K hK => ?_) ?_
            · go_simp
              refine hK _ _ ?_
              clear hK K
              refine wpAnyIn_ready (rs := [0]) (by kernel_rfl) (by simp) ?_
              refine AllReadyIn.cons rfl (fun K hK => ?_) ?_
              · go_simp
                refine hK _ _ ?_
                clear hK K
                refine wpAnyIn_ready (rs := [5]) (by kernel_rfl) (by simp) ?_
                refine AllReadyIn.cons rfl (fun K hK => ?_) ?_
                · refine step_append_RIn rfl kPart w.heap.size (.tmp 10) (.tmp 14) 66 66 75 75 (.agg #[.int .i64 0, .int .u8 0, .int .u8 0, .bool false, .int .u64 0, .nilFunc]) 40 rfl (by kernel_rfl) (by kernel_rfl) infoP rfl (by decide) (by decide) v1 (labP body k) [((k : Int), 0, s)] (some ⟨W1.heap.size, 0, none⟩) 1 1 (fun k => some k ≠ v2.ownBlock) (fun k => W.heap.size ≤ k) rfl rfl (HA1.out.below (below_alloc (Below.refl _ _) _)).2.2.2.1 (part_row (W := W.drew) HP.out) (fun x cs h => part_lower HA.out.2.2.2.2.2.size h) (fun k hk => ⟨(AllB.fresh HA.out hk).2, (AllB.fresh HA.out hk).1⟩) (fun k hk => (AllB.fresh (HA1.out.below (below_alloc (Below.refl _ _) _)) hk).2) (HA1.out.below (below_alloc (Below.refl _ _) (.cells (partC ((k : Int), 0, s) b1 b2).toArray 75))).2.2.2.2.2.size (by skip; omega) ?_
                  intro u3 w3 hR hg hat
                  obtain ⟨A3, c3, rfl⟩ := Kd.R_slice hR
                  obtain ⟨L3, hL3⟩ : ∃ L, L = ((labP body k) ++ [((k : Int), 0, s)]).length := ⟨_, rfl⟩
                  rw [← hL3] at hR hat ⊢
                  clear hL3
                  obtain ⟨hA3, hK3, q3, f3⟩ := (HA1.out.below (below_alloc (Below.refl _ _) (.cells (partC ((k : Int), 0, s) b1 b2).toArray 75))).add1 hR hg hat
                  have HA3 := Aside0.mk hA3
                  have HK3 := Aside0.mk ((RoundK.below (n0 := w.heap.size) (below_then (Below.refl _ W).drew (below_alloc HBB.out (.cells (partC ((k : Int), 0, s) b1 b2).toArray 75))) HA.out.2.2.2.2.2.size).trans hK3)
                  refine hK _ _ ?_
                  clear hK K hA3 hK3 hR hg hat
                  refine wpAnyIn_ready (rs := [6]) (by kernel_rfl) (by simp) ?_
                  refine AllReadyIn.cons rfl (fun K hK => ?_) ?_
                  · go_simp
                    refine hK _ _ ?_
                    clear hK K
                    refine wpAnyIn_done (by kernel_rfl) ?_ _
                    rw [HQ.out]
                    exact ⟨rfl, _, _, _, _, _, _, _, rfl, HA3.out, HK3.out⟩
                  exact AllReadyIn.nil
                exact AllReadyIn.nil
              exact AllReadyIn.nil
            exact AllReadyIn.nil
          exact AllReadyIn.nil
        exact AllReadyIn.nil
      refine AllReadyIn.cons rfl (fun K hK => ?_) ?_
      · go_simp
        refine hK _ _ ?_
        clear hK K
        refine wpAnyIn_ready (rs := [0, 1]) (by kernel_rfl) (by simp) ?_
        refine AllReadyIn.cons rfl (fun K hK => ?_) ?_
        · go_simp
          refine hK _ _ ?_
          clear hK K
          refine wpAnyIn_ready (rs := [1]) (by kernel_rfl) (by simp) ?_
          refine AllReadyIn.cons rfl (fun K hK => ?_) ?_
          · go_simp
            refine hK _ _ ?_
            clear hK K
            refine wpAnyIn_ready (rs := [3]) (by kernel_rfl) (by simp) ?_
            refine AllReadyIn.cons rfl (fun K hK => ?_) ?_
            · go_simp
              gi_wp2_with (refine ⟨trivial, ?_⟩; gi_at_call 54; refine (CallsIn.inRound l (callsIn_wide.2 (part_calls _ _ _ _))).mono ?_; rintro e W1 ⟨b1, b2, rfl, hpm, hb1⟩; have HA1 := Aside0.mk (HA.out.below hb1); have HP := Aside0.mk hpm; have HBB := Aside0.mk hb1; have q1' : W1.cell? ⟨w.heap.size + 1, 0, none⟩ = some v1 := blk_cell HA1.out.2.1 0; have q1'' : ∀ o, (W1.alloc o).cell? ⟨w.heap.size + 1, 0, none⟩ = some v1 := fun o => blk_cell (blk_alloc HA1.out.2.1 o) 0; clear hpm hb1; simp only [partC])
              try (refine hK _ _ ?_; clear hK K)
              refine wpAnyIn_ready (rs := [4]) (by kernel_rfl) (by simp) ?_
              refine AllReadyIn.cons rfl (fun K hK => ?_) ?_
              · go_simp
                refine hK _ _ ?_
                clear hK K
                refine wpAnyIn_ready (rs := [5]) (by kernel_rfl) (by simp) ?_
                refine AllReadyIn.cons rfl (fun K hK => ?_) ?_
                · refine step_append_RIn rfl kPart w.heap.size (.tmp 10) (.tmp 14) 66 66 75 75 (.agg #[.int .i64 0, .int .u8 0, .int .u8 0, .bool false, .int .u64 0, .nilFunc]) 40 rfl (by kernel_rfl) (by kernel_rfl) infoP rfl (by decide) (by decide) v1 (labP body k) [((k : Int), 0, s)] (some ⟨W1.heap.size, 0, none⟩) 1 1 (fun k => some k ≠ v2.ownBlock) (fun k => W.heap.size ≤ k) rfl rfl (HA1.out.below (below_alloc (Below.refl _ _) _)).2.2.2.1 (part_row (W := W.drew) HP.out) (fun x cs h => part_lower HA.out.2.2.2.2.2.size h) (fun k hk => ⟨(AllB.fresh HA.out hk).2, (AllB.fresh HA.out hk).1⟩) (fun k hk => (AllB.fresh (HA1.out.below (below_alloc (Below.refl _ _) _)) hk).2) (HA1.out.below (below_alloc (Below.refl _ _) (.cells (partC ((k : Int), 0, s) b1 b2).toArray 75))).2.2.2.2.2.size (by skip; omega) ?_
                  intro u3 w3 hR hg hat
                  obtain ⟨A3, c3, rfl⟩ := Kd.R_slice hR
                  obtain ⟨L3, hL3⟩ : ∃ L, L = ((labP body k) ++ [((k : Int), 0, s)]).length := ⟨_, rfl⟩
                  rw [← hL3] at hR hat ⊢
                  clear hL3
                  obtain ⟨hA3, hK3, q3, f3⟩ := (HA1.out.below (below_alloc (Below.refl _ _) (.cells (partC ((k : Int), 0, s) b1 b2).toArray 75))).add1 hR hg hat
                  have HA3 := Aside0.mk hA3
                  have HK3 := Aside0.mk ((RoundK.below (n0 := w.heap.size) (below_then (Below.refl _ W).drew (below_alloc HBB.out (.cells (partC ((k : Int), 0, s) b1 b2).toArray 75))) HA.out.2.2.2.2.2.size).trans hK3)
                  refine hK _ _ ?_
                  clear hK K hA3 hK3 hR hg hat
                  refine wpAnyIn_ready (rs := [6]) (by kernel_rfl) (by simp) ?_
                  refine AllReadyIn.cons rfl (fun K hK => ?_) ?_
                  · go_simp
                    refine hK _ _ ?_
                    clear hK K
                    refine wpAnyIn_done (by kernel_rfl) ?_ _
                    rw [HQ.out]
                    exact ⟨rfl, _, _, _, _, _, _, _, rfl, HA3.out, HK3.out⟩
                  exact AllReadyIn.nil
                exact AllReadyIn.nil
              exact AllReadyIn.nil
            exact AllReadyIn.nil
          exact AllReadyIn.nil
        refine AllReadyIn.cons rfl (fun K hK => ?_) ?_
        · go_simp
          refine hK _ _ ?_
          clear hK K
          refine wpAnyIn_ready (rs := [0, 3]) (by kernel_rfl) (by simp) ?_
          refine AllReadyIn.cons rfl (fun K hK => ?_) ?_
          · go_simp
            refine hK _ _ ?_
            clear hK K
            refine wpAnyIn_ready (rs := [3]) (by kernel_rfl) (by simp) ?_
            refine AllReadyIn.cons rfl (fun K hK => ?_) ?_
            · go_simp
              gi_wp2_with (refine ⟨trivial, ?_⟩; gi_at_call 54; refine (CallsIn.inRound l (callsIn_wide.2 (part_calls _ _ _ _))).mono ?_; rintro e W1 ⟨b1, b2, rfl, hpm, hb1⟩; have HA1 := Aside0.mk (HA.out.below hb1); have HP := Aside0.mk hpm; have HBB := Aside0.mk hb1; have q1' : W1.cell? ⟨w.heap.size + 1, 0, none⟩ = some v1 := blk_cell HA1.out.2.1 0; have q1'' : ∀ o, (W1.alloc o).cell? ⟨w.heap.size + 1, 0, none⟩ = some v1 := fun o => blk_cell (blk_alloc HA1.out.2.1 o) 0; clear hpm hb1; simp only [partC])
              try (refine hK _ _ ?_; clear hK K)
              refine wpAnyIn_ready (rs := [4]) (by kernel_rfl) (by simp) ?_
              refine AllReadyIn.cons rfl (fun K hK => ?_) ?_
              · go_simp
                refine hK _ _ ?_
                clear hK K
                refine wpAnyIn_ready (rs := [5]) (by kernel_rfl) (by simp) ?_
                refine AllReadyIn.cons rfl (fun K hK => ?_) ?_
                · refine step_append_RIn rfl kPart w.heap.size (.tmp 10) (.tmp 14) 66 66 75 75 (.agg #[.int .i64 0, .int .u8 0, .int .u8 0, .bool false, .int .u64 0, .nilFunc]) 40 rfl (by kernel_rfl) (by kernel_rfl) infoP rfl (by decide) (by decide) v1 (labP body k) [((k : Int), 0, s)] (some ⟨W1.heap.size, 0, none⟩) 1 1 (fun k => some k ≠ v2.ownBlock) (fun k => W.heap.size ≤ k) rfl rfl (HA1.out.below (below_alloc (Below.refl _ _) _)).2.2.2.1 (part_row (W := W.drew) HP.out) (fun x cs h => part_lower HA.out.2.2.2.2.2.size h) (fun k hk => ⟨(AllB.fresh HA.out hk).2, (AllB.fresh HA.out hk).1⟩) (fun k hk => (AllB.fresh (HA1.out.below (below_alloc (Below.refl _ _) _)) hk).2) (HA1.out.below (below_alloc (Below.refl _ _) (.cells (partC ((k : Int), 0, s) b1 b2).toArray 75))).2.2.2.2.2.size (by skip; omega) ?_
                  intro u3 w3 hR hg hat
                  obtain ⟨A3, c3, rfl⟩ := Kd.R_slice hR
                  obtain ⟨L3, hL3⟩ : ∃ L, L = ((labP body k) ++ [((k : Int), 0, s)]).length := ⟨_, rfl⟩
                  rw [← hL3] at hR hat ⊢
                  clear hL3
                  obtain ⟨hA3, hK3, q3, f3⟩ := (HA1.out.below (below_alloc (Below.refl _ _) (.cells (partC ((k : Int), 0, s) b1 b2).toArray 75))).add1 hR hg hat
                  have HA3 := Aside0.mk hA3
                  have HK3 := Aside0.mk ((RoundK.below (n0 := w.heap.size) (below_then (Below.refl _ W).drew (below_alloc HBB.out (.cells (partC ((k : Int), 0, s) b1 b2).toArray 75))) HA.out.2.2.2.2.2.size).trans hK3)
                  refine hK _ _ ?_
                  clear hK K hA3 hK3 hR hg hat
                  refine wpAnyIn_ready (rs := [6]) (by kernel_rfl) (by simp) ?_
                  refine AllReadyIn.cons rfl (fun K hK => ?_) ?_
                  · go_simp
                    refine hK _ _ ?_
                    clear hK K
                    refine wpAnyIn_done (by kernel_rfl) ?_ _
                    rw [HQ.out]
                    exact ⟨rfl, _, _, _, _, _, _, _, rfl, HA3.out, HK3.out⟩
                  exact AllReadyIn.nil
                exact AllReadyIn.nil
              exact AllReadyIn.nil
            exact AllReadyIn.nil
          refine AllReadyIn.cons rfl (fun K hK => ?_) ?_
          · go_simp
            gi_wp2_with (refine ⟨trivial, ?_⟩; gi_at_call 54; refine (CallsIn.inRound l (callsIn_wide.2 (part_calls _ _ _ _))).mono ?_; rintro e W1 ⟨b1, b2, rfl, hpm, hb1⟩; have HA1 := Aside0.mk (HA.out.below hb1); have HP := Aside0.mk hpm; have HBB := Aside0.mk hb1; have q1' : W1.cell? ⟨w.heap.size + 1, 0, none⟩ = some v1 := blk_cell HA1.out.2.1 0; have q1'' : ∀ o, (W1.alloc o).cell? ⟨w.heap.size + 1, 0, none⟩ = some v1 := fun o => blk_cell (blk_alloc HA1.out.2.1 o) 0; clear hpm hb1; simp only [partC])
            try (refine hK _ _ ?_; clear hK K)
            refine wpAnyIn_ready (rs := [0, 4]) (by kernel_rfl) (by simp) ?_
            refine AllReadyIn.cons rfl (fun K hK => ?_) ?_
            · go_simp
              refine hK _ _ ?_
              clear hK K
              refine wpAnyIn_ready (rs := [4]) (by kernel_rfl) (by simp) ?_
              refine AllReadyIn.cons rfl (fun K hK => ?_) ?_
              · go_simp
                refine hK _ _ ?_
                clear hK K
                refine wpAnyIn_ready (rs := [5]) (by kernel_rfl) (by simp) ?_
                refine AllReadyIn.cons rfl (fun K hK => ?_) ?_
                · refine step_append_RIn rfl kPart w.heap.size (.tmp 10) (.tmp 14) 66 66 75 75 (.agg #[.int .i64 0, .int .u8 0, .int .u8 0, .bool false, .int .u64 0, .nilFunc]) 40 rfl (by kernel_rfl) (by kernel_rfl) infoP rfl (by decide) (by decide) v1 (labP body k) [((k : Int), 0, s)] (some ⟨W1.heap.size, 0, none⟩) 1 1 (fun k => some k ≠ v2.ownBlock) (fun k => W.heap.size ≤ k) rfl rfl (HA1.out.below (below_alloc (Below.refl _ _) _)).2.2.2.1 (part_row (W := W.drew) HP.out) (fun x cs h => part_lower HA.out.2.2.2.2.2.size h) (fun k hk => ⟨(AllB.fresh HA.out hk).2, (AllB.fresh HA.out hk).1⟩) (fun k hk => (AllB.fresh (HA1.out.below (below_alloc (Below.refl _ _) _)) hk).2) (HA1.out.below (below_alloc (Below.refl _ _) (.cells (partC ((k : Int), 0, s) b1 b2).toArray 75))).2.2.2.2.2.size (by skip; omega) ?_
                  intro u3 w3 hR hg hat
                  obtain ⟨A3, c3, rfl⟩ := Kd.R_slice hR
                  obtain ⟨L3, hL3⟩ : ∃ L, L = ((labP body k) ++ [((k : Int), 0, s)]).length := ⟨_, rfl⟩
                  rw [← hL3] at hR hat ⊢
                  clear hL3
                  obtain ⟨hA3, hK3, q3, f3⟩ := (HA1.out.below (below_alloc (Below.refl _ _) (.cells (partC ((k : Int), 0, s) b1 b2).toArray 75))).add1 hR hg hat
                  have HA3 := Aside0.mk hA3
                  have HK3 := Aside0.mk ((RoundK.below (n0 := w.heap.size) (below_then (Below.refl _ W).drew (below_alloc HBB.out (.cells (partC ((k : Int), 0, s) b1 b2).toArray 75))) HA.out.2.2.2.2.2.size).trans hK3)
                  refine hK _ _ ?_
                  clear hK K hA3 hK3 hR hg hat
                  refine wpAnyIn_ready (rs := [6]) (by kernel_rfl) (by simp) ?_
                  refine AllReadyIn.cons rfl (fun K hK => ?_) ?_
                  · go_simp
                    refine hK _ _ ?_
                    clear hK K
                    refine wpAnyIn_done (by kernel_rfl) ?_ _
                    rw [HQ.out]
                    exact ⟨rfl, _, _, _, _, _, _, _, rfl, HA3.out, HK3.out⟩
                  exact AllReadyIn.nil
                exact AllReadyIn.nil
              exact AllReadyIn.nil
            refine AllReadyIn.cons rfl (fun K hK => ?_) ?_
            · go_simp
              refine hK _ _ ?_
              clear hK K
              refine wpAnyIn_ready (rs := [0]) (by kernel_rfl) (by simp) ?_
              refine AllReadyIn.cons rfl (fun K hK => ?_) ?_
              · go_simp
                refine hK _ _ ?_
                clear hK K
                refine wpAnyIn_ready (rs := [5]) (by kernel_rfl) (by simp) ?_
                refine AllReadyIn.cons rfl (fun K hK => ?_) ?_
                · refine step_append_RIn rfl kPart w.heap.size (.tmp 10) (.tmp 14) 66 66 75 75 (.agg #[.int .i64 0, .int .u8 0, .int .u8 0, .bool false, .int .u64 0, .nilFunc]) 40 rfl (by kernel_rfl) (by kernel_rfl) infoP rfl (by decide) (by decide) v1 (labP body k) [((k : Int), 0, s)] (some ⟨W1.heap.size, 0, none⟩) 1 1 (fun k => some k ≠ v2.ownBlock) (fun k => W.heap.size ≤ k) rfl rfl (HA1.out.below (below_alloc (Below.refl _ _) _)).2.2.2.1 (part_row (W := W.drew) HP.out) (fun x cs h => part_lower HA.out.2.2.2.2.2.size h) (fun k hk => ⟨(AllB.fresh HA.out hk).2, (AllB.fresh HA.out hk).1⟩) (fun k hk => (AllB.fresh (HA1.out.below (below_alloc (Below.refl _ _) _)) hk).2) (HA1.out.below (below_alloc (Below.refl _ _) (.cells (partC ((k : Int), 0, s) b1 b2).toArray 75))).2.2.2.2.2.size (by skip; omega) ?_
                  intro u3 w3 hR hg hat
                  obtain ⟨A3, c3, rfl⟩ := Kd.R_slice hR
                  obtain ⟨L3, hL3⟩ : ∃ L, L = ((labP body k) ++ [((k : Int), 0, s)]).length := ⟨_, rfl⟩
                  rw [← hL3] at hR hat ⊢
                  clear hL3
                  obtain ⟨hA3, hK3, q3, f3⟩ := (HA1.out.below (below_alloc (Below.refl _ _) (.cells (partC ((k : Int), 0, s) b1 b2).toArray 75))).add1 hR hg hat
                  have HA3 := Aside0.mk hA3
                  have HK3 := Aside0.mk ((RoundK.below (n0 := w.heap.size) (below_then (Below.refl _ W).drew (below_alloc HBB.out (.cells (partC ((k : Int), 0, s) b1 b2).toArray 75))) HA.out.2.2.2.2.2.size).trans hK3)
                  refine hK _ _ ?_
                  clear hK K hA3 hK3 hR hg hat
                  refine wpAnyIn_ready (rs := [6]) (by kernel_rfl) (by simp) ?_
                  refine AllReadyIn.cons rfl (fun K hK => ?_) ?_
                  · go_simp
                    refine hK _ _ ?_
                    clear hK K
                    refine wpAnyIn_done (by kernel_rfl) ?_ _
                    rw [HQ.out]
                    exact ⟨rfl, _, _, _, _, _, _, _, rfl, HA3.out, HK3.out⟩
                  exact AllReadyIn.nil
                exact AllReadyIn.nil
              exact AllReadyIn.nil
            exact AllReadyIn.nil
          exact AllReadyIn.nil
        exact AllReadyIn.nil
      exact AllReadyIn.nil
    case k4 =>
      rw [HQ.out]
      rintro e a' W ⟨rfl, t10, t11, t12, t13, t14, t15, v1, rfl, hA4, hK4⟩
      clear HQ q1 HA HA0
      have HK4 := Aside0.mk hK4
      obtain ⟨ad', e', c0, -⟩ := C_nodeN (Kd.C_below HR.out hA4.2.2.2.2.2) k hkb
      cases e'
      rw [← HND.out] at c0
      have q0 : W.cell? ⟨w.heap.size, 0, none⟩ = some (.slice (some ad) N c) := blk_cell hA4.1 0
      have q1 : W.cell? ⟨w.heap.size + 1, 0, none⟩ = some v1 := blk_cell hA4.2.1 0
      have HA := Aside0.mk hA4.drew
      have HA0 := Aside0.mk hA4
      clear hA4 hK4
      by_cases k5 : nd.f0 = 5
      · rw [k5] at c0
        gi_wp2
        obtain ⟨Q6, hQ6⟩ : ∃ Q6, Q6 = (fun (e : Exit) (a' : Act) (W' : World) => e = Exit.normal ∧ ∃ t22 t23 t24 t25 t26 t27 t28 u : Value, a' = { tmps := #[.slice (some ad) N c, .pointer (some ⟨w.heap.size, 0, none⟩), .pointer (some ⟨w.heap.size + 1, 0, none⟩), .pointer (some ⟨w.heap.size + 1 + 1, 0, none⟩), .int .i64 (k : Int), .int .u8 s, .slice (some ad) N c, .func (.func 61) #[] #[.pointer (some ⟨w.heap.size + 1 + 1 + 1, 0, none⟩)], .int .i64 (k : Int), .int .u8 s, t10, t11, t12, t13, t14, t15, .slice (some ad) N c, .int .i64 (k : Int), .pointer (some (ad.add (k * 10))), .pointer (some (ad.add (k * 10))), .int .u8 5, .bool true, t22, t23, t24, t25, t26, t27, t28, undef, undef, undef, undef, undef, undef, undef, undef], defers := [] } ∧ AllB w (some ad) N c W' u v2 (labP body k ++ [((k : Int), 0, s)] ++ [((k : Int), 1, turnI s)]) (effP body k) ∧ RoundK w.heap.size W W') := ⟨_, rfl⟩
        have HQ := Aside0.mk hQ6
        clear hQ6
        refine wpIn_mono (Q := Q6) ?r6 ?k6
        case r6 =>
          refine wpIn_region_any (by assumption) ?_
          change wpAnyIn _ _ _ _ _ _ _ _ _ (World.drew _)
          refine wpAnyIn_ready (rs := [0, 1, 2]) (by kernel_rfl) (by simp) ?_
          refine AllReadyIn.cons rfl (fun K hK => ?_) ?_
          · go_simp
            refine hK _ _ ?_
            clear hK K
            refine wpAnyIn_ready (rs := [1, 2]) (by kernel_rfl) (by simp) ?_
            refine AllReadyIn.cons rfl (fun K hK => ?_) ?_
            · go_simp
              refine hK _ _ ?_
              clear hK K
              refine wpAnyIn_ready (rs := [2]) (by kernel_rfl) (by simp) ?_
              refine AllReadyIn.cons rfl (fun K hK => ?_) ?_
              · go_simp
                refine hK _ _ ?_
                clear hK K
                refine wpAnyIn_ready (rs := [3]) (by kernel_rfl) (by simp) ?_
                refine AllReadyIn.cons rfl (fun K hK => ?_) ?_
                · go_simp
                  gi_wp2_with (refine ⟨trivial, ?_⟩; gi_at_call 55; refine (CallsIn.inRound l (callsIn_wide.2 (turned_calls _ _))).mono ?_; rintro e W1 ⟨rfl, rfl⟩)
                  try (refine hK _ _ ?_; clear hK K)
                  refine wpAnyIn_ready (rs := [4]) (by kernel_rfl) (by simp) ?_
                  refine AllReadyIn.cons rfl (fun K hK => ?_) ?_
                  · go_simp
                    gi_wp2_with (refine ⟨trivial, ?_⟩; gi_at_call 54; refine (CallsIn.inRound l (callsIn_wide.2 (part_calls _ _ _ _))).mono ?_; rintro e W1 ⟨b1, b2, rfl, hpm, hb1⟩; have HA1 := Aside0.mk (HA.out.below hb1); have HP := Aside0.mk hpm; have HBB := Aside0.mk hb1; have q1' : W1.cell? ⟨w.heap.size + 1, 0, none⟩ = some v1 := blk_cell HA1.out.2.1 0; have q1'' : ∀ o, (W1.alloc o).cell? ⟨w.heap.size + 1, 0, none⟩ = some v1 := fun o => blk_cell (blk_alloc HA1.out.2.1 o) 0; clear hpm hb1; simp only [partC])
                    try (refine hK _ _ ?_; clear hK K)
                    refine wpAnyIn_ready (rs := [5]) (by kernel_rfl) (by simp) ?_
                    refine AllReadyIn.cons rfl (fun K hK => ?_) ?_
                    · go_simp
                      refine hK _ _ ?_
                      clear hK K
                      refine wpAnyIn_ready (rs := [6]) (by kernel_rfl) (by simp) ?_
                      refine AllReadyIn.cons rfl (fun K hK => ?_) ?_
                      · refine step_append_RIn rfl kPart w.heap.size (.tmp 22) (.tmp 27) 66 66 75 75 (.agg #[.int .i64 0, .int .u8 0, .int .u8 0, .bool false, .int .u64 0, .nilFunc]) 40 rfl (by kernel_rfl) (by kernel_rfl) infoP rfl (by decide) (by decide) v1 (labP body k ++ [((k : Int), 0, s)]) [((k : Int), 1, turnI s)] (some ⟨W1.heap.size, 0, none⟩) 1 1 (fun k => some k ≠ v2.ownBlock) (fun k => W.heap.size ≤ k) rfl rfl (HA1.out.below (below_alloc (Below.refl _ _) _)).2.2.2.1 (part_row (W := W.drew) HP.out) (fun x cs h => part_lower HA.out.2.2.2.2.2.size h) (fun k hk => ⟨(AllB.fresh HA.out hk).2, (AllB.fresh HA.out hk).1⟩) (fun k hk => (AllB.fresh (HA1.out.below (below_alloc (Below.refl _ _) _)) hk).2) (HA1.out.below (below_alloc (Below.refl _ _) (.cells (partC ((k : Int), 1, turnI s) b1 b2).toArray 75))).2.2.2.2.2.size (by rw [List.length_append, List.length_singleton]; omega) ?_
                        intro u3 w3 hR hg hat
                        obtain ⟨A3, c3, rfl⟩ := Kd.R_slice hR
                        obtain ⟨L3, hL3⟩ : ∃ L, L = ((labP body k ++ [((k : Int), 0, s)]) ++ [((k : Int), 1, turnI s)]).length := ⟨_, rfl⟩
                        rw [← hL3] at hR hat ⊢
                        clear hL3
                        obtain ⟨hA3, hK3, q3, f3⟩ := (HA1.out.below (below_alloc (Below.refl _ _) (.cells (partC ((k : Int), 1, turnI s) b1 b2).toArray 75))).add1 hR hg hat
                        have HA3 := Aside0.mk hA3
                        have HK3 := Aside0.mk ((RoundK.below (n0 := w.heap.size) (below_then (Below.refl _ W).drew (below_alloc HBB.out (.cells (partC ((k : Int), 1, turnI s) b1 b2).toArray 75))) HA.out.2.2.2.2.2.size).trans hK3)
                        refine hK _ _ ?_
                        clear hK K hA3 hK3 hR hg hat
                        refine wpAnyIn_ready (rs := [7]) (by kernel_rfl) (by simp) ?_
                        refine AllReadyIn.cons rfl (fun K hK => ?_) ?_
                        · go_simp
                          refine hK _ _ ?_
                          clear hK K
                          refine wpAnyIn_done (by kernel_rfl) ?_ _
                          rw [HQ.out]
                          exact ⟨rfl, _, _, _, _, _, _, _, _, rfl, HA3.out, HK3.out⟩
                        exact AllReadyIn.nil
                      exact AllReadyIn.nil
                    exact AllReadyIn.nil
                  exact AllReadyIn.nil
                exact AllReadyIn.nil
              exact AllReadyIn.nil
            refine AllReadyIn.cons rfl (fun K hK => ?_) ?_
            · go_simp
              refine hK _ _ ?_
              clear hK K
              refine wpAnyIn_ready (rs := [1, 3]) (by kernel_rfl) (by simp) ?_
              refine AllReadyIn.cons rfl (fun K hK => ?_) ?_
              · go_simp
                refine hK _ _ ?_
                clear hK K
                refine wpAnyIn_ready (rs := [3]) (by kernel_rfl) (by simp) ?_
                refine AllReadyIn.cons rfl (fun K hK => ?_) ?_
                · go_simp
                  gi_wp2_with (refine ⟨trivial, ?_⟩; gi_at_call 55; refine (CallsIn.inRound l (callsIn_wide.2 (turned_calls _ _))).mono ?_; rintro e W1 ⟨rfl, rfl⟩)
                  try (refine hK _ _ ?_; clear hK K)
                  refine wpAnyIn_ready (rs := [4]) (by kernel_rfl) (by simp) ?_
                  refine AllReadyIn.cons rfl (fun K hK => ?_) ?_
                  · go_simp
                    gi_wp2_with (refine ⟨trivial, ?_⟩; gi_at_call 54; refine (CallsIn.inRound l (callsIn_wide.2 (part_calls _ _ _ _))).mono ?_; rintro e W1 ⟨b1, b2, rfl, hpm, hb1⟩; have HA1 := Aside0.mk (HA.out.below hb1); have HP := Aside0.mk hpm; have HBB := Aside0.mk hb1; have q1' : W1.cell? ⟨w.heap.size + 1, 0, none⟩ = some v1 := blk_cell HA1.out.2.1 0; have q1'' : ∀ o, (W1.alloc o).cell? ⟨w.heap.size + 1, 0, none⟩ = some v1 := fun o => blk_cell (blk_alloc HA1.out.2.1 o) 0; clear hpm hb1; simp only [partC])
                    try (refine hK _ _ ?_; clear hK K)
                    refine wpAnyIn_ready (rs := [5]) (by kernel_rfl) (by simp) ?_
                    refine AllReadyIn.cons rfl (fun K hK => ?_) ?_
                    · go_simp
                      refine hK _ _ ?_
                      clear hK K
                      refine wpAnyIn_ready (rs := [6]) (by kernel_rfl) (by simp) ?_
                      refine AllReadyIn.cons rfl (fun K hK => ?_) ?_
                      · refine step_append_RIn rfl kPart w.heap.size (.tmp 22) (.tmp 27) 66 66 75 75 (.agg #[.int .i64 0, .int .u8 0, .int .u8 0, .bool false, .int .u64 0, .nilFunc]) 40 rfl (by kernel_rfl) (by kernel_rfl) infoP rfl (by decide) (by decide) v1 (labP body k ++ [((k : Int), 0, s)]) [((k : Int), 1, turnI s)] (some ⟨W1.heap.size, 0, none⟩) 1 1 (fun k => some k ≠ v2.ownBlock) (fun k => W.heap.size ≤ k) rfl rfl (HA1.out.below (below_alloc (Below.refl _ _) _)).2.2.2.1 (part_row (W := W.drew) HP.out) (fun x cs h => part_lower HA.out.2.2.2.2.2.size h) (fun k hk => ⟨(AllB.fresh HA.out hk).2, (AllB.fresh HA.out hk).1⟩) (fun k hk => (AllB.fresh (HA1.out.below (below_alloc (Below.refl _ _) _)) hk).2) (HA1.out.below (below_alloc (Below.refl _ _) (.cells (partC ((k : Int), 1, turnI s) b1 b2).toArray 75))).2.2.2.2.2.size (by rw [List.length_append, List.length_singleton]; omega) ?_
                        intro u3 w3 hR hg hat
                        obtain ⟨A3, c3, rfl⟩ := Kd.R_slice hR
                        obtain ⟨L3, hL3⟩ : ∃ L, L = ((labP body k ++ [((k : Int), 0, s)]) ++ [((k : Int), 1, turnI s)]).length := ⟨_, rfl⟩
                        rw [← hL3] at hR hat ⊢
                        clear hL3
                        obtain ⟨hA3, hK3, q3, f3⟩ := (HA1.out.below (below_alloc (Below.refl _ _) (.cells (partC ((k : Int), 1, turnI s) b1 b2).toArray 75))).add1 hR hg hat
                        have HA3 := Aside0.mk hA3
                        have HK3 := Aside0.mk ((RoundK.below (n0 := w.heap.size) (below_then (Below.refl _ W).drew (below_alloc HBB.out (.cells (partC ((k : Int), 1, turnI s) b1 b2).toArray 75))) HA.out.2.2.2.2.2.size).trans hK3)
                        refine hK _ _ ?_
                        clear hK K hA3 hK3 hR hg hat
                        refine wpAnyIn_ready (rs := [7]) (by kernel_rfl) (by simp) ?_
                        refine AllReadyIn.cons rfl (fun K hK => ?_) ?_
                        · go_simp
                          refine hK _ _ ?_
                          clear hK K
                          refine wpAnyIn_done (by kernel_rfl) ?_ _
                          rw [HQ.out]
                          exact ⟨rfl, _, _, _, _, _, _, _, _, rfl, HA3.out, HK3.out⟩
                        exact AllReadyIn.nil
                      exact AllReadyIn.nil
                    exact AllReadyIn.nil
                  exact AllReadyIn.nil
                exact AllReadyIn.nil
              refine AllReadyIn.cons rfl (fun K hK => ?_) ?_
              · go_simp
                gi_wp2_with (refine ⟨trivial, ?_⟩; gi_at_call 55; refine (CallsIn.inRound l (callsIn_wide.2 (turned_calls _ _))).mono ?_; rintro e W1 ⟨rfl, rfl⟩)
                try (refine hK _ _ ?_; clear hK K)
                refine wpAnyIn_ready (rs := [1]) (by kernel_rfl) (by simp) ?_
                refine AllReadyIn.cons rfl (fun K hK => ?_) ?_
                · go_simp
                  refine hK _ _ ?_
                  clear hK K
                  refine wpAnyIn_ready (rs := [4]) (by kernel_rfl) (by simp) ?_
                  refine AllReadyIn.cons rfl (fun K hK => ?_) ?_
                  · go_simp
                    gi_wp2_with (refine ⟨trivial, ?_⟩; gi_at_call 54; refine (CallsIn.inRound l (callsIn_wide.2 (part_calls _ _ _ _))).mono ?_; rintro e W1 ⟨b1, b2, rfl, hpm, hb1⟩; have HA1 := Aside0.mk (HA.out.below hb1); have HP := Aside0.mk hpm; have HBB := Aside0.mk hb1; have q1' : W1.cell? ⟨w.heap.size + 1, 0, none⟩ = some v1 := blk_cell HA1.out.2.1 0; have q1'' : ∀ o, (W1.alloc o).cell? ⟨w.heap.size + 1, 0, none⟩ = some v1 := fun o => blk_cell (blk_alloc HA1.out.2.1 o) 0; clear hpm hb1; simp only [partC])
                    try (refine hK _ _ ?_; clear hK K)
                    refine wpAnyIn_ready (rs := [5]) (by kernel_rfl) (by simp) ?_
                    refine AllReadyIn.cons rfl (fun K hK => ?_) ?_
                    · go_simp
                      refine hK _ _ ?_
                      clear hK K
                      refine wpAnyIn_ready (rs := [6]) (by kernel_rfl) (by simp) ?_
                      refine AllReadyIn.cons rfl (fun K hK => ?_) ?_
                      · refine step_append_RIn rfl kPart w.heap.size (.tmp 22) (.tmp 27) 66 66 75 75 (.agg #[.int .i64 0, .int .u8 0, .int .u8 0, .bool false, .int .u64 0, .nilFunc]) 40 rfl (by kernel_rfl) (by kernel_rfl) infoP rfl (by decide) (by decide) v1 (labP body k ++ [((k : Int), 0, s)]) [((k : Int), 1, turnI s)] (some ⟨W1.heap.size, 0, none⟩) 1 1 (fun k => some k ≠ v2.ownBlock) (fun k => W.heap.size ≤ k) rfl rfl (HA1.out.below (below_alloc (Below.refl _ _) _)).2.2.2.1 (part_row (W := W.drew) HP.out) (fun x cs h => part_lower HA.out.2.2.2.2.2.size h) (fun k hk => ⟨(AllB.fresh HA.out hk).2, (AllB.fresh HA.out hk).1⟩) (fun k hk => (AllB.fresh (HA1.out.below (below_alloc (Below.refl _ _) _)) hk).2) (HA1.out.below (below_alloc (Below.refl _ _) (.cells (partC ((k : Int), 1, turnI s) b1 b2).toArray 75))).2.2.2.2.2.size (by rw [List.length_append, List.length_singleton]; omega) ?_
                        intro u3 w3 hR hg hat
                        obtain ⟨A3, c3, rfl⟩ := Kd.R_slice hR
                        obtain ⟨L3, hL3⟩ : ∃ L, L = ((labP body k ++ [((k : Int), 0, s)]) ++ [((k : Int), 1, turnI s)]).length := ⟨_, rfl⟩
                        rw [← hL3] at hR hat ⊢
                        clear hL3
                        obtain ⟨hA3, hK3, q3, f3⟩ := (HA1.out.below (below_alloc (Below.refl _ _) (.cells (partC ((k : Int), 1, turnI s) b1 b2).toArray 75))).add1 hR hg hat
                        have HA3 := Aside0.mk hA3
                        have HK3 := Aside0.mk ((RoundK.below (n0 := w.heap.size) (below_then (Below.refl _ W).drew (below_alloc HBB.out (.cells (partC ((k : Int), 1, turnI s) b1 b2).toArray 75))) HA.out.2.2.2.2.2.size).trans hK3)
                        refine hK _ _ ?_
                        clear hK K hA3 hK3 hR hg hat
                        refine wpAnyIn_ready (rs := [7]) (by kernel_rfl) (by simp) ?_
                        refine AllReadyIn.cons rfl (fun K hK => ?_) ?_
                        · go_simp
                          refine hK _ _ ?_
                          clear hK K
                          refine wpAnyIn_done (by kernel_rfl) ?_ _
                          rw [HQ.out]
                          exact ⟨rfl, _, _, _, _, _, _, _, _, rfl, HA3.out, HK3.out⟩
                        exact AllReadyIn.nil
                      exact AllReadyIn.nil
                    exact AllReadyIn.nil
                  exact AllReadyIn.nil
                exact AllReadyIn.nil
              exact AllReadyIn.nil
            exact AllReadyIn.nil
          refine AllReadyIn.cons rfl (fun K hK => ?_) ?_
          · go_simp
            refine hK _ _ ?_
            clear hK K
            refine wpAnyIn_ready (rs := [0, 2]) (by kernel_rfl) (by simp) ?_
            refine AllReadyIn.cons rfl (fun K hK => ?_) ?_
            · go_simp
              refine hK _ _ ?_
              clear hK K
              refine wpAnyIn_ready (rs := [2]) (by kernel_rfl) (by simp) ?_
              refine AllReadyIn.cons rfl (fun K hK => ?_) ?_
              · go_simp
                refine hK _ _ ?_
                clear hK K
                refine wpAnyIn_ready (rs := [3]) (by kernel_rfl) (by simp) ?_
                refine AllReadyIn.cons rfl (fun K hK => ?_) ?_
                · go_simp
                  gi_wp2_with (refine ⟨trivial, ?_⟩; gi_at_call 55; refine (CallsIn.inRound l (callsIn_wide.2 (turned_calls _ _))).mono ?_; rintro e W1 ⟨rfl, rfl⟩)
                  try (refine hK _ _ ?_; clear hK K)
                  refine wpAnyIn_ready (rs := [4]) (by kernel_rfl) (by simp) ?_
                  refine AllReadyIn.cons rfl (fun K hK => ?_) ?_
                  · go_simp
                    gi_wp2_with (refine ⟨trivial, ?_⟩; gi_at_call 54; refine (CallsIn.inRound l (callsIn_wide.2 (part_calls _ _ _ _))).mono ?_; rintro e W1 ⟨b1, b2, rfl, hpm, hb1⟩; have HA1 := Aside0.mk (HA.out.below hb1); have HP := Aside0.mk hpm; have HBB := Aside0.mk hb1; have q1' : W1.cell? ⟨w.heap.size + 1, 0, none⟩ = some v1 := blk_cell HA1.out.2.1 0; have q1'' : ∀ o, (W1.alloc o).cell? ⟨w.heap.size + 1, 0, none⟩ = some v1 := fun o => blk_cell (blk_alloc HA1.out.2.1 o) 0; clear hpm hb1; simp only [partC])
                    try (refine hK _ _ ?_; clear hK K)
                    refine wpAnyIn_ready (rs := [5]) (by kernel_rfl) (by simp) ?_
                    refine AllReadyIn.cons rfl (fun K hK => ?_) ?_
                    · go_simp
                      refine hK _ _ ?_
                      clear hK K
                      refine wpAnyIn_ready (rs := [6]) (by kernel_rfl) (by simp) ?_
                      refine AllReadyIn.cons rfl (fun K hK => ?_) ?_
                      · refine step_append_RIn rfl kPart w.heap.size (.tmp 22) (.tmp 27) 66 66 75 75 (.agg #[.int .i64 0, .int .u8 0, .int .u8 0, .bool false, .int .u64 0, .nilFunc]) 40 rfl (by kernel_rfl) (by kernel_rfl) infoP rfl (by decide) (by decide) v1 (labP body k ++ [((k : Int), 0, s)]) [((k : Int), 1, turnI s)] (some ⟨W1.heap.size, 0, none⟩) 1 1 (fun k => some k ≠ v2.ownBlock) (fun k => W.heap.size ≤ k) rfl rfl (HA1.out.below (below_alloc (Below.refl _ _) _)).2.2.2.1 (part_row (W := W.drew) HP.out) (fun x cs h => part_lower HA.out.2.2.2.2.2.size h) (fun k hk => ⟨(AllB.fresh HA.out hk).2, (AllB.fresh HA.out hk).1⟩) (fun k hk => (AllB.fresh (HA1.out.below (below_alloc (Below.refl _ _) _)) hk).2) (HA1.out.below (below_alloc (Below.refl _ _) (.cells (partC ((k : Int), 1, turnI s) b1 b2).toArray 75))).2.2.2.2.2.size (by rw [List.length_append, List.length_singleton]; omega) ?_
                        intro u3 w3 hR hg hat
                        obtain ⟨A3, c3, rfl⟩ := Kd.R_slice hR
                        obtain ⟨L3, hL3⟩ : ∃ L, L = ((labP body k ++ [((k : Int), 0, s)]) ++ [((k : Int), 1, turnI s)]).length := ⟨_, rfl⟩
                        rw [← hL3] at hR hat ⊢
                        clear hL3
                        obtain ⟨hA3, hK3, q3, f3⟩ := (HA1.out.below (below_alloc (Below.refl _ _) (.cells (partC ((k : Int), 1, turnI s) b1 b2).toArray 75))).add1 hR hg hat
                        have HA3 := Aside0.mk hA3
                        have HK3 := Aside0.mk ((RoundK.below (n0 := w.heap.size) (below_then (Below.refl _ W).drew (below_alloc HBB.out (.cells (partC ((k : Int), 1, turnI s) b1 b2).toArray 75))) HA.out.2.2.2.2.2.size).trans hK3)
                        refine hK _ _ ?_
                        clear hK K hA3 hK3 hR hg hat
                        refine wpAnyIn_ready (rs := [7]) (by kernel_rfl) (by simp) ?_
                        refine AllReadyIn.cons rfl (fun K hK => ?_) ?_
                        · go_simp
                          refine hK _ _ ?_
                          clear hK K
                          refine wpAnyIn_done (by kernel_rfl) ?_ _
                          rw [HQ.out]
                          exact ⟨rfl, _, _, _, _, _, _, _, _, rfl, HA3.out, HK3.out⟩
                        exact AllReadyIn.nil
                      exact AllReadyIn.nil
                    exact AllReadyIn.nil
                  exact AllReadyIn.nil
                exact AllReadyIn.nil
              exact AllReadyIn.nil
            refine AllReadyIn.cons rfl (fun K hK => ?_) ?_
            · go_simp
              refine hK _ _ ?_
              clear hK K
              refine wpAnyIn_ready (rs := [0, 3]) (by kernel_rfl) (by simp) ?_
              refine AllReadyIn.cons rfl (fun K hK => ?_) ?_
              · go_simp
                refine hK _ _ ?_
                clear hK K
                refine wpAnyIn_ready (rs := [3]) (by kernel_rfl) (by simp) ?_
                refine AllReadyIn.cons rfl (fun K hK => ?_) ?_
                · go_simp
                  gi_wp2_with (refine ⟨trivial, ?_⟩; gi_at_call 55; refine (CallsIn.inRound l (callsIn_wide.2 (turned_calls _ _))).mono ?_; rintro e W1 ⟨rfl, rfl⟩)
                  try (refine hK _ _ ?_; clear hK K)
                  refine wpAnyIn_ready (rs := [4]) (by kernel_rfl) (by simp) ?_
                  refine AllReadyIn.cons rfl (fun K hK => ?_) ?_
                  · go_simp
                    gi_wp2_with (refine ⟨trivial, ?_⟩; gi_at_call 54; refine (CallsIn.inRound l (callsIn_wide.2 (part_calls _ _ _ _))).mono ?_; rintro e W1 ⟨b1, b2, rfl, hpm, hb1⟩; have HA1 := Aside0.mk (HA.out.below hb1); have HP := Aside0.mk hpm; have HBB := Aside0.mk hb1; have q1' : W1.cell? ⟨w.heap.size + 1, 0, none⟩ = some v1 := blk_cell HA1.out.2.1 0; have q1'' : ∀ o, (W1.alloc o).cell? ⟨w.heap.size + 1, 0, none⟩ = some v1 := fun o => blk_cell (blk_alloc HA1.out.2.1 o) 0; clear hpm hb1; simp only [partC])
                    try (refine hK _ _ ?_; clear hK K)
                    refine wpAnyIn_ready (rs := [5]) (by kernel_rfl) (by simp) ?_
                    refine AllReadyIn.cons rfl (fun K hK => ?_) ?_
                    · go_simp
                      refine hK _ _ ?_
                      clear hK K
                      refine wpAnyIn_ready (rs := [6]) (by kernel_rfl) (by simp) ?_
                      refine AllReadyIn.cons rfl (fun K hK => ?_) ?_
                      · refine step_append_RIn rfl kPart w.heap.size (.tmp 22) (.tmp 27) 66 66 75 75 (.agg #[.int .i64 0, .int .u8 0, .int .u8 0, .bool false, .int .u64 0, .nilFunc]) 40 rfl (by kernel_rfl) (by kernel_rfl) infoP rfl (by decide) (by decide) v1 (labP body k ++ [((k : Int), 0, s)]) [((k : Int), 1, turnI s)] (some ⟨W1.heap.size, 0, none⟩) 1 1 (fun k => some k ≠ v2.ownBlock) (fun k => W.heap.size ≤ k) rfl rfl (HA1.out.below (below_alloc (Below.refl _ _) _)).2.2.2.1 (part_row (W := W.drew) HP.out) (fun x cs h => part_lower HA.out.2.2.2.2.2.size h) (fun k hk => ⟨(AllB.fresh HA.out hk).2, (AllB.fresh HA.out hk).1⟩) (fun k hk => (AllB.fresh (HA1.out.below (below_alloc (Below.refl _ _) _)) hk).2) (HA1.out.below (below_alloc (Below.refl _ _) (.cells (partC ((k : Int), 1, turnI s) b1 b2).toArray 75))).2.2.2.2.2.size (by rw [List.length_append, List.length_singleton]; omega) ?_
                        intro u3 w3 hR hg hat
                        obtain ⟨A3, c3, rfl⟩ := Kd.R_slice hR
                        obtain ⟨L3, hL3⟩ : ∃ L, L = ((labP body k ++ [((k : Int), 0, s)]) ++ [((k : Int), 1, turnI s)]).length := ⟨_, rfl⟩
                        rw [← hL3] at hR hat ⊢
                        clear hL3
                        obtain ⟨hA3, hK3, q3, f3⟩ := (HA1.out.below (below_alloc (Below.refl _ _) (.cells (partC ((k : Int), 1, turnI s) b1 b2).toArray 75))).add1 hR hg hat
                        have HA3 := Aside0.mk hA3
                        have HK3 := Aside0.mk ((RoundK.below (n0 := w.heap.size) (below_then (Below.refl _ W).drew (below_alloc HBB.out (.cells (partC ((k : Int), 1, turnI s) b1 b2).toArray 75))) HA.out.2.2.2.2.2.size).trans hK3)
                        refine hK _ _ ?_
                        clear hK K hA3 hK3 hR hg hat
                        refine wpAnyIn_ready (rs := [7]) (by kernel_rfl) (by simp) ?_
                        refine AllReadyIn.cons rfl (fun K hK => ?_) ?_
                        · go_simp
                          refine hK _ _ ?_
                          clear hK K
                          refine wpAnyIn_done (by kernel_rfl) ?_ _
                          rw [HQ.out]
                          exact ⟨rfl, _, _, _, _, _, _, _, _, rfl, HA3.out, HK3.out⟩
                        exact AllReadyIn.nil
                      exact AllReadyIn.nil
                    exact AllReadyIn.nil
                  exact AllReadyIn.nil
                exact AllReadyIn.nil
              refine AllReadyIn.cons rfl (fun K hK => ?_) ?_
              · go_simp
                gi_wp2_with (refine ⟨trivial, ?_⟩; gi_at_call 55; refine (CallsIn.inRound l (callsIn_wide.2 (turned_calls _ _))).mono ?_; rintro e W1 ⟨rfl, rfl⟩)
                try (refine hK _ _ ?_; clear hK K)
                refine wpAnyIn_ready (rs := [0, 4]) (by kernel_rfl) (by simp) ?_
                refine AllReadyIn.cons rfl (fun K hK => ?_) ?_
                · go_simp
                  refine hK _ _ ?_
                  clear hK K
                  refine wpAnyIn_ready (rs := [4]) (by kernel_rfl) (by simp) ?_
                  refine AllReadyIn.cons rfl (fun K hK => ?_) ?_
                  · go_simp
                    gi_wp2_with (refine ⟨trivial, ?_⟩; gi_at_call 54; refine (CallsIn.inRound l (callsIn_wide.2 (part_calls _ _ _ _))).mono ?_; rintro e W1 ⟨b1, b2, rfl, hpm, hb1⟩; have HA1 := Aside0.mk (HA.out.below hb1); have HP := Aside0.mk hpm; have HBB := Aside0.mk hb1; have q1' : W1.cell? ⟨w.heap.size + 1, 0, none⟩ = some v1 := blk_cell HA1.out.2.1 0; have q1'' : ∀ o, (W1.alloc o).cell? ⟨w.heap.size + 1, 0, none⟩ = some v1 := fun o => blk_cell (blk_alloc HA1.out.2.1 o) 0; clear hpm hb1; simp only [partC])
                    try (refine hK _ _ ?_; clear hK K)
                    refine wpAnyIn_ready (rs := [5]) (by kernel_rfl) (by simp) ?_
                    refine AllReadyIn.cons rfl (fun K hK => ?_) ?_
                    · go_simp
                      refine hK _ _ ?_
                      clear hK K
                      refine wpAnyIn_ready (rs := [6]) (by kernel_rfl) (by simp) ?_
                      refine AllReadyIn.cons rfl (fun K hK => ?_) ?_
                      · refine step_append_RIn rfl kPart w.heap.size (.tmp 22) (.tmp 27) 66 66 75 75 (.agg #[.int .i64 0, .int .u8 0, .int .u8 0, .bool false, .int .u64 0, .nilFunc]) 40 rfl (by kernel_rfl) (by kernel_rfl) infoP rfl (by decide) (by decide) v1 (labP body k ++ [((k : Int), 0, s)]) [((k : Int), 1, turnI s)] (some ⟨W1.heap.size, 0, none⟩) 1 1 (fun k => some k ≠ v2.ownBlock) (fun k => W.heap.size ≤ k) rfl rfl (HA1.out.below (below_alloc (Below.refl _ _) _)).2.2.2.1 (part_row (W := W.drew) HP.out) (fun x cs h => part_lower HA.out.2.2.2.2.2.size h) (fun k hk => ⟨(AllB.fresh HA.out hk).2, (AllB.fresh HA.out hk).1⟩) (fun k hk => (AllB.fresh (HA1.out.below (below_alloc (Below.refl _ _) _)) hk).2) (HA1.out.below (below_alloc (Below.refl _ _) (.cells (partC ((k : Int), 1, turnI s) b1 b2).toArray 75))).2.2.2.2.2.size (by rw [List.length_append, List.length_singleton]; omega) ?_
                        intro u3 w3 hR hg hat
                        obtain ⟨A3, c3, rfl⟩ := Kd.R_slice hR
                        obtain ⟨L3, hL3⟩ : ∃ L, L = ((labP body k ++ [((k : Int), 0, s)]) ++ [((k : Int), 1, turnI s)]).length := ⟨_, rfl⟩
                        rw [← hL3] at hR hat ⊢
                        clear hL3
                        obtain ⟨hA3, hK3, q3, f3⟩ := (HA1.out.below (below_alloc (Below.refl _ _) (.cells (partC ((k : Int), 1, turnI s) b1 b2).toArray 75))).add1 hR hg hat
                        have HA3 := Aside0.mk hA3
                        have HK3 := Aside0.mk ((RoundK.below (n0 := w.heap.size) (below_then (Below.refl _ W).drew (below_alloc HBB.out (.cells (partC ((k : Int), 1, turnI s) b1 b2).toArray 75))) HA.out.2.2.2.2.2.size).trans hK3)
                        refine hK _ _ ?_
                        clear hK K hA3 hK3 hR hg hat
                        refine wpAnyIn_ready (rs := [7]) (by kernel_rfl) (by simp) ?_
                        refine AllReadyIn.cons rfl (fun K hK => ?_) ?_
                        · go_simp
                          refine hK _ _ ?_
                          clear hK K
                          refine wpAnyIn_done (by kernel_rfl) ?_ _
                          rw [HQ.out]
                          exact ⟨rfl, _, _, _, _, _, _, _, _, rfl, HA3.out, HK3.out⟩
                        exact AllReadyIn.nil
                      exact AllReadyIn.nil
                    exact AllReadyIn.nil
                  exact AllReadyIn.nil
                refine AllReadyIn.cons rfl (fun K hK => ?_) ?_
                · go_simp
                  gi_wp2_with (refine ⟨trivial, ?_⟩; gi_at_call 54; refine (CallsIn.inRound l (callsIn_wide.2 (part_calls _ _ _ _))).mono ?_; rintro e W1 ⟨b1, b2, rfl, hpm, hb1⟩; have HA1 := Aside0.mk (HA.out.below hb1); have HP := Aside0.mk hpm; have HBB := Aside0.mk hb1; have q1' : W1.cell? ⟨w.heap.size + 1, 0, none⟩ = some v1 := blk_cell HA1.out.2.1 0; have q1'' : ∀ o, (W1.alloc o).cell? ⟨w.heap.size + 1, 0, none⟩ = some v1 := fun o => blk_cell (blk_alloc HA1.out.2.1 o) 0; clear hpm hb1; simp only [partC])
                  try (refine hK _ _ ?_; clear hK K)
                  refine wpAnyIn_ready (rs := [0, 5]) (by kernel_rfl) (by simp) ?_
                  refine AllReadyIn.cons rfl (fun K hK => ?_) ?_
                  · go_simp
                    refine hK _ _ ?_
                    clear hK K
                    refine wpAnyIn_ready (rs := [5]) (by kernel_rfl) (by simp) ?_
                    refine AllReadyIn.cons rfl (fun K hK => ?_) ?_
                    · go_simp
                      refine hK _ _ ?_
                      clear hK K
                      refine wpAnyIn_ready (rs := [6]) (by kernel_rfl) (by simp) ?_
                      refine AllReadyIn.cons rfl (fun K hK => ?_) ?_
                      · refine step_append_RIn rfl kPart w.heap.size (.tmp 22) (.tmp 27) 66 66 75 75 (.agg #[.int .i64 0, .int .u8 0, .int .u8 0, .bool false, .int .u64 0, .nilFunc]) 40 rfl (by kernel_rfl) (by kernel_rfl) infoP rfl (by decide) (by decide) v1 (labP body k ++ [((k : Int), 0, s)]) [((k : Int), 1, turnI s)] (some ⟨W1.heap.size, 0, none⟩) 1 1 (fun k => some k ≠ v2.ownBlock) (fun k => W.heap.size ≤ k) rfl rfl (HA1.out.below (below_alloc (Below.refl _ _) _)).2.2.2.1 (part_row (W := W.drew) HP.out) (fun x cs h => part_lower HA.out.2.2.2.2.2.size h) (fun k hk => ⟨(AllB.fresh HA.out hk).2, (AllB.fresh HA.out hk).1⟩) (fun k hk => (AllB.fresh (HA1.out.below (below_alloc (Below.refl _ _) _)) hk).2) (HA1.out.below (below_alloc (Below.refl _ _) (.cells (partC ((k : Int), 1, turnI s) b1 b2).toArray 75))).2.2.2.2.2.size (by rw [List.length_append, List.length_singleton]; omega) ?_
                        intro u3 w3 hR hg hat
                        obtain ⟨A3, c3, rfl⟩ := Kd.R_slice hR
                        obtain ⟨L3, hL3⟩ : ∃ L, L = ((labP body k ++ [((k : Int), 0, s)]) ++ [((k : Int), 1, turnI s)]).length := ⟨_, rfl⟩
                        rw [← hL3] at hR hat ⊢
                        clear hL3
                        obtain ⟨hA3, hK3, q3, f3⟩ := (HA1.out.below (below_alloc (Below.refl _ _) (.cells (partC ((k : Int), 1, turnI s) b1 b2).toArray 75))).add1 hR hg hat
                        have HA3 := Aside0.mk hA3
                        have HK3 := Aside0.mk ((RoundK.below (n0 := w.heap.size) (below_then (Below.refl _ W).drew (below_alloc HBB.out (.cells (partC ((k : Int), 1, turnI s) b1 b2).toArray 75))) HA.out.2.2.2.2.2.size).trans hK3)
                        refine hK _ _ ?_
                        clear hK K hA3 hK3 hR hg hat
                        refine wpAnyIn_ready (rs := [7]) (by kernel_rfl) (by simp) ?_
                        refine AllReadyIn.cons rfl (fun K hK => ?_) ?_
                        · go_simp
                          refine hK _ _ ?_
                          clear hK K
                          refine wpAnyIn_done (by kernel_rfl) ?_ _
                          rw [HQ.out]
                          exact ⟨rfl, _, _, _, _, _, _, _, _, rfl, HA3.out, HK3.out⟩
                        exact AllReadyIn.nil
                      exact AllReadyIn.nil
                    exact AllReadyIn.nil
                  refine AllReadyIn.cons rfl (fun K hK => ?_) ?_
                  · go_simp
                    refine hK _ _ ?_
                    clear hK K
                    refine wpAnyIn_ready (rs := [0]) (by kernel_rfl) (by simp) ?_
                    refine AllReadyIn.cons rfl (fun K hK => ?_) ?_
                    · go_simp
                      refine hK _ _ ?_
                      clear hK K
                      refine wpAnyIn_ready (rs := [6]) (by kernel_rfl) (by simp) ?_
                      refine AllReadyIn.cons rfl (fun K hK => ?_) ?_
                      · refine step_append_RIn rfl kPart w.heap.size (.tmp 22) (.tmp 27) 66 66 75 75 (.agg #[.int .i64 0, .int .u8 0, .int .u8 0, .bool false, .int .u64 0, .nilFunc]) 40 rfl (by kernel_rfl) (by kernel_rfl) infoP rfl (by decide) (by decide) v1 (labP body k ++ [((k : Int), 0, s)]) [((k : Int), 1, turnI s)] (some ⟨W1.heap.size, 0, none⟩) 1 1 (fun k => some k ≠ v2.ownBlock) (fun k => W.heap.size ≤ k) rfl rfl (HA1.out.below (below_alloc (Below.refl _ _) _)).2.2.2.1 (part_row (W := W.drew) HP.out) (fun x cs h => part_lower HA.out.2.2.2.2.2.size h) (fun k hk => ⟨(AllB.fresh HA.out hk).2, (AllB.fresh HA.out hk).1⟩) (fun k hk => (AllB.fresh (HA1.out.below (below_alloc (Below.refl _ _) _)) hk).2) (HA1.out.below (below_alloc (Below.refl _ _) (.cells (partC ((k : Int), 1, turnI s) b1 b2).toArray 75))).2.2.2.2.2.size (by rw [List.length_append, List.length_singleton]; omega) ?_
                        intro u3 w3 hR hg hat
                        obtain ⟨A3, c3, rfl⟩ := Kd.R_slice hR
                        obtain ⟨L3, hL3⟩ : ∃ L, L = ((labP body k ++ [((k : Int), 0, s)]) ++ [((k : Int), 1, turnI s)]).length := ⟨_, rfl⟩
                        rw [← hL3] at hR hat ⊢
                        clear hL3
                        obtain ⟨hA3, hK3, q3, f3⟩ := (HA1.out.below (below_alloc (Below.refl _ _) (.cells (partC ((k : Int), 1, turnI s) b1 b2).toArray 75))).add1 hR hg hat
                        have HA3 := Aside0.mk hA3
                        have HK3 := Aside0.mk ((RoundK.below (n0 := w.heap.size) (below_then (Below.refl _ W).drew (below_alloc HBB.out (.cells (partC ((k : Int), 1, turnI s) b1 b2).toArray 75))) HA.out.2.2.2.2.2.size).trans hK3)
                        refine hK _ _ ?_
                        clear hK K hA3 hK3 hR hg hat
                        refine wpAnyIn_ready (rs := [7]) (by kernel_rfl) (by simp) ?_
                        refine AllReadyIn.cons rfl (fun K hK => ?_) ?_
                        · go_simp
                          refine hK _ _ ?_
                          clear hK K
                          refine wpAnyIn_done (by kernel_rfl) ?_ _
                          rw [HQ.out]
                          exact ⟨rfl, _, _, _, _, _, _, _, _, rfl, HA3.out, HK3.out⟩
                        exact AllReadyIn.nil
                      exact AllReadyIn.nil
                    exact AllReadyIn.nil
                  exact AllReadyIn.nil
                exact AllReadyIn.nil
              exact AllReadyIn.nil
            exact AllReadyIn.nil
          refine AllReadyIn.cons rfl (fun K hK => ?_) ?_
          · go_simp
            refine hK _ _ ?_
            clear hK K
            refine wpAnyIn_ready (rs := [0, 1, 3]) (by kernel_rfl) (by simp) ?_
            refine AllReadyIn.cons rfl (fun K hK => ?_) ?_
            · go_simp
              refine hK _ _ ?_
              clear hK K
              refine wpAnyIn_ready (rs := [1, 3]) (by kernel_rfl) (by simp) ?_
              refine AllReadyIn.cons rfl (fun K hK => ?_) ?_
              · go_simp
                refine hK _ _ ?_
                clear hK K
                refine wpAnyIn_ready (rs := [3]) (by kernel_rfl) (by simp) ?_
                refine AllReadyIn.cons rfl (fun K hK => ?_) ?_
                · go_simp
                  gi_wp2_with (refine ⟨trivial, ?_⟩; gi_at_call 55; refine (CallsIn.inRound l (callsIn_wide.2 (turned_calls _ _))).mono ?_; rintro e W1 ⟨rfl, rfl⟩)
                  try (refine hK _ _ ?_; clear hK K)
                  refine wpAnyIn_ready (rs := [4]) (by kernel_rfl) (by simp) ?_
                  refine AllReadyIn.cons rfl (fun K hK => ?_) ?_
                  · go_simp
                    gi_wp2_with (refine ⟨trivial, ?_⟩; gi_at_call 54; refine (CallsIn.inRound l (callsIn_wide.2 (part_calls _ _ _ _))).mono ?_; rintro e W1 ⟨b1, b2, rfl, hpm, hb1⟩; have HA1 := Aside0.mk (HA.out.below hb1); have HP := Aside0.mk hpm; have HBB := Aside0.mk hb1; have q1' : W1.cell? ⟨w.heap.size + 1, 0, none⟩ = some v1 := blk_cell HA1.out.2.1 0; have q1'' : ∀ o, (W1.alloc o).cell? ⟨w.heap.size + 1, 0, none⟩ = some v1 := fun o => blk_cell (blk_alloc HA1.out.2.1 o) 0; clear hpm hb1; simp only [partC])
                    try (refine hK _ _ ?_; clear hK K)
                    refine wpAnyIn_ready (rs := [5]) (by kernel_rfl) (by simp) ?_
                    refine AllReadyIn.cons rfl (fun K hK => ?_) ?_
                    · go_simp
                      refine hK _ _ ?_
                      clear hK K
                      refine wpAnyIn_ready (rs := [6]) (by kernel_rfl) (by simp) ?_
                      refine AllReadyIn.cons rfl (fun K hK => ?_) ?_
                      · refine step_append_RIn rfl kPart w.heap.size (.tmp 22) (.tmp 27) 66 66 75 75 (.agg #[.int .i64 0, .int .u8 0, .int .u8 0, .bool false, .int .u64 0, .nilFunc]) 40 rfl (by kernel_rfl) (by kernel_rfl) infoP rfl (by decide) (by decide) v1 (labP body k ++ [((k : Int), 0, s)]) [((k : Int), 1, turnI s)] (some ⟨W1.heap.size, 0, none⟩) 1 1 (fun k => some k ≠ v2.ownBlock) (fun k => W.heap.size ≤ k) rfl rfl (HA1.out.below (below_alloc (Below.refl _ _) _)).2.2.2.1 (part_row (W := W.drew) HP.out) (fun x cs h => part_lower HA.out.2.2.2.2.2.size h) (fun k hk => ⟨(AllB.fresh HA.out hk).2, (AllB.fresh HA.out hk).1⟩) (fun k hk => (AllB.fresh (HA1.out.below (below_alloc (Below.refl _ _) _)) hk).2) (HA1.out.below (below_alloc (Below.refl _ _) (.cells (partC ((k : Int), 1, turnI s) b1 b2).toArray 75))).2.2.2.2.2.size (by rw [List.length_append, List.length_singleton]; omega) ?_
                        intro u3 w3 hR hg hat
                        obtain ⟨A3, c3, rfl⟩ := Kd.R_slice hR
                        obtain ⟨L3, hL3⟩ : ∃ L, L = ((labP body k ++ [((k : Int), 0, s)]) ++ [((k : Int), 1, turnI s)]).length := ⟨_, rfl⟩
                        rw [← hL3] at hR hat ⊢
                        clear hL3
                        obtain ⟨hA3, hK3, q3, f3⟩ := (HA1.out.below (below_alloc (Below.refl _ _) (.cells (partC ((k : Int), 1, turnI s) b1 b2).toArray 75))).add1 hR hg hat
                        have HA3 := Aside0.mk hA3
                        have HK3 := Aside0.mk ((RoundK.below (n0 := w.heap.size) (below_then (Below.refl _ W).drew (below_alloc HBB.out (.cells (partC ((k : Int), 1, turnI s) b1 b2).toArray 75))) HA.out.2.2.2.2.2.size).trans hK3)
                        refine hK _ _ ?_
                        clear hK K hA3 hK3 hR hg hat
                        refine wpAnyIn_ready (rs := [7]) (by kernel_rfl) (by simp) ?_
                        refine AllReadyIn.cons rfl (fun K hK => ?_) ?_
                        · go_simp
                          refine hK _ _ ?_
                          clear hK K
                          refine wpAnyIn_done (by kernel_rfl) ?_ _
                          rw [HQ.out]
                          exact ⟨rfl, _, _, _, _, _, _, _, _, rfl, HA3.out, HK3.out⟩
                        exact AllReadyIn.nil
                      exact AllReadyIn.nil
                    exact AllReadyIn.nil
                  exact AllReadyIn.nil
                exact AllReadyIn.nil
              refine AllReadyIn.cons rfl (fun K hK => ?_) ?_
              · go_simp
                gi_wp2_with (refine ⟨trivial, ?_⟩; gi_at_call 55; refine (CallsIn.inRound l (callsIn_wide.2 (turned_calls _ _))).mono ?_; rintro e W1 ⟨rfl, rfl⟩)
                try (refine hK _ _ ?_; clear hK K)
                refine wpAnyIn_ready (rs := [1]) (by kernel_rfl) (by simp) ?_
                refine AllReadyIn.cons rfl (fun K hK => ?_) ?_
                · go_simp
                  refine hK _ _ ?_
                  clear hK K
                  refine wpAnyIn_ready (rs := [4]) (by kernel_rfl) (by simp) ?_
                  refine AllReadyIn.cons rfl (fun K hK => ?_) ?_
                  · go_simp
                    gi_wp2_with (refine ⟨trivial, ?_⟩; gi_at_call 54; refine (CallsIn.inRound l (callsIn_wide.2 (part_calls _ _ _ _))).mono ?_; rintro e W1 ⟨b1, b2, rfl, hpm, hb1⟩; have HA1 := Aside0.mk (HA.out.below hb1); have HP := Aside0.mk hpm; have HBB := Aside0.mk hb1; have q1' : W1.cell? ⟨w.heap.size + 1, 0, none⟩ = some v1 := blk_cell HA1.out.2.1 0; have q1'' : ∀ o, (W1.alloc o).cell? ⟨w.heap.size + 1, 0, none⟩ = some v1 := fun o => blk_cell (blk_alloc HA1.out.2.1 o) 0; clear hpm hb1; simp only [partC])
                    try (refine hK _ _ ?_; clear hK K)
                    refine wpAnyIn_ready (rs := [5]) (by kernel_rfl) (by simp) ?_
                    refine AllReadyIn.cons rfl (fun K hK => ?_) ?_
                    · go_simp
                      refine hK _ _ ?_
                      clear hK K
                      refine wpAnyIn_ready (rs := [6]) (by kernel_rfl) (by simp) ?_
                      refine AllReadyIn.cons rfl (fun K hK => ?_) ?_
                      · refine step_append_RIn rfl kPart w.heap.size (.tmp 22) (.tmp 27) 66 66 75 75 (.agg #[.int .i64 0, .int .u8 0, .int .u8 0, .bool false, .int .u64 0, .nilFunc]) 40 rfl (by kernel_rfl) (by kernel_rfl) infoP rfl (by decide) (by decide) v1 (labP body k ++ [((k : Int), 0, s)]) [((k : Int), 1, turnI s)] (some ⟨W1.heap.size, 0, none⟩) 1 1 (fun k => some k ≠ v2.ownBlock) (fun k => W.heap.size ≤ k) rfl rfl (HA1.out.below (below_alloc (Below.refl _ _) _)).2.2.2.1 (part_row (W := W.drew) HP.out) (fun x cs h => part_lower HA.out.2.2.2.2.2.size h) (fun k hk => ⟨(AllB.fresh HA.out hk).2, (AllB.fresh HA.out hk).1⟩) (fun k hk => (AllB.fresh (HA1.out.below (below_alloc (Below.refl _ _) _)) hk).2) (HA1.out.below (below_alloc (Below.refl _ _) (.cells (partC ((k : Int), 1, turnI s) b1 b2).toArray 75))).2.2.2.2.2.size (by rw [List.length_append, List.length_singleton]; omega) ?_
                        intro u3 w3 hR hg hat
                        obtain ⟨A3, c3, rfl⟩ := Kd.R_slice hR
                        obtain ⟨L3, hL3⟩ : ∃ L, L = ((labP body k ++ [((k : Int), 0, s)]) ++ [((k : Int), 1, turnI s)]).length := ⟨_, rfl⟩
                        rw [← hL3] at hR hat ⊢
                        clear hL3
                        obtain ⟨hA3, hK3, q3, f3⟩ := (HA1.out.below (below_alloc (Below.refl _ _) (.cells (partC ((k : Int), 1, turnI s) b1 b2).toArray 75))).add1 hR hg hat
                        have HA3 := Aside0.mk hA3
                        have HK3 := Aside0.mk ((RoundK.below (n0 := w.heap.size) (below_then (Below.refl _ W).drew (below_alloc HBB.out (.cells (partC ((k : Int), 1, turnI s) b1 b2).toArray 75))) HA.out.2.2.2.2.2.size).trans hK3)
                        refine hK _ _ ?_
                        clear hK K hA3 hK3 hR hg hat
                        refine wpAnyIn_ready (rs := [7]) (by kernel_rfl) (by simp) ?_
                        refine AllReadyIn.cons rfl (fun K hK => ?_) ?_
                        · go_simp
                          refine hK _ _ ?_
                          clear hK K
                          refine wpAnyIn_done (by kernel_rfl) ?_ _
                          rw [HQ.out]
                          exact ⟨rfl, _, _, _, _, _, _, _, _, rfl, HA3.out, HK3.out⟩
                        exact AllReadyIn.nil
                      exact AllReadyIn.nil
                    exact AllReadyIn.nil
                  exact AllReadyIn.nil
                exact AllReadyIn.nil
              exact AllReadyIn.nil
            refine AllReadyIn.cons rfl (fun K hK => ?_) ?_
            · go_simp
              refine hK _ _ ?_
              clear hK K
              refine wpAnyIn_ready (rs := [0, 3]) (by kernel_rfl) (by simp) ?_
              refine AllReadyIn.cons rfl (fun K hK => ?_) ?_
              · go_simp
                refine hK _ _ ?_
                clear hK K
                refine wpAnyIn_ready (rs := [3]) (by kernel_rfl) (by simp) ?_
                refine AllReadyIn.cons rfl (fun K hK => ?_) ?_
                · go_simp
                  gi_wp2_with (refine ⟨trivial, ?_⟩; gi_at_call 55; refine (CallsIn.inRound l (callsIn_wide.2 (turned_calls _ _))).mono ?_; rintro e W1 ⟨rfl, rfl⟩)
                  try (refine hK _ _ ?_; clear hK K)
                  refine wpAnyIn_ready (rs := [4]) (by kernel_rfl) (by simp) ?_
                  refine AllReadyIn.cons rfl (fun K hK => ?_) ?_
                  · go_simp
                    gi_wp2_with (refine ⟨trivial, ?_⟩; gi_at_call 54; refine (CallsIn.inRound l (callsIn_wide.2 (part_calls _ _ _ _))).mono ?_; rintro e W1 ⟨b1, b2, rfl, hpm, hb1⟩; have HA1 := Aside0.mk (HA.out.below hb1); have HP := Aside0.mk hpm; have HBB := Aside0.mk hb1; have q1' : W1.cell? ⟨w.heap.size + 1, 0, none⟩ = some v1 := blk_cell HA1.out.2.1 0; have q1'' : ∀ o, (W1.alloc o).cell? ⟨w.heap.size + 1, 0, none⟩ = some v1 := fun o => blk_cell (blk_alloc HA1.out.2.1 o) 0; clear hpm hb1; simp only [partC])
                    try (refine hK _ _ ?_; clear hK K)
                    refine wpAnyIn_ready (rs := [5]) (by kernel_rfl) (by simp) ?_
                    refine AllReadyIn.cons rfl (fun K hK => ?_) ?_
                    · go_simp
                      refine hK _ _ ?_
                      clear hK K
                      refine wpAnyIn_ready (rs := [6]) (by kernel_rfl) (by simp) ?_
                      refine AllReadyIn.cons rfl (fun K hK => ?_) ?_
                      · refine step_append_RIn rfl kPart w.heap.size (.tmp 22) (.tmp 27) 66 66 75 75 (.agg #[.int .i64 0, .int .u8 0, .int .u8 0, .bool false, .int .u64 0, .nilFunc]) 40 rfl (by kernel_rfl) (by kernel_rfl) infoP rfl (by decide) (by decide) v1 (labP body k ++ [((k : Int), 0, s)]) [((k : Int), 1, turnI s)] (some ⟨W1.heap.size, 0, none⟩) 1 1 (fun k => some k ≠ v2.ownBlock) (fun k => W.heap.size ≤ k) rfl rfl (HA1.out.below (below_alloc (Below.refl _ _) _)).2.2.2.1 (part_row (W := W.drew) HP.out) (fun x cs h => part_lower HA.out.2.2.2.2.2.size h) (fun k hk => ⟨(AllB.fresh HA.out hk).2, (AllB.fresh HA.out hk).1⟩) (fun k hk => (AllB.fresh (HA1.out.below (below_alloc (Below.refl _ _) _)) hk).2) (HA1.out.below (below_alloc (Below.refl _ _) (.cells (partC ((k : Int), 1, turnI s) b1 b2).toArray 75))).2.2.2.2.2.size (by rw [List.length_append, List.length_singleton]; omega) ?_
                        intro u3 w3 hR hg hat
                        obtain ⟨A3, c3, rfl⟩ := Kd.R_slice hR
                        obtain ⟨L3, hL3⟩ : ∃ L, L = ((labP body k ++ [((k : Int), 0, s)]) ++ [((k : Int), 1, turnI s)]).length := ⟨_, rfl⟩
                        rw [← hL3] at hR hat ⊢
                        clear hL3
                        obtain ⟨hA3, hK3, q3, f3⟩ := (HA1.out.below (below_alloc (Below.refl _ _) (.cells (partC ((k : Int), 1, turnI s) b1 b2).toArray 75))).add1 hR hg hat
                        have HA3 := Aside0.mk hA3
                        have HK3 := Aside0.mk ((RoundK.below (n0 := w.heap.size) (below_then (Below.refl _ W).drew (below_alloc HBB.out (.cells (partC ((k : Int), 1, turnI s) b1 b2).toArray 75))) HA.out.2.2.2.2.2.size).trans hK3)
                        refine hK _ _ ?_
                        clear hK K hA3 hK3 hR hg hat
                        refine wpAnyIn_ready (rs := [7]) (by kernel_rfl) (by simp) ?_
                        refine AllReadyIn.cons rfl (fun K hK => ?_) ?_
                        · go_simp
                          refine hK _ _ ?_
                          clear hK K
                          refine wpAnyIn_done (by kernel_rfl) ?_ _
                          rw [HQ.out]
                          exact ⟨rfl, _, _, _, _, _, _, _, _, rfl, HA3.out, HK3.out⟩
                        exact AllReadyIn.nil
                      exact AllReadyIn.nil
                    exact AllReadyIn.nil
                  exact AllReadyIn.nil
                exact AllReadyIn.nil
              refine AllReadyIn.cons rfl (fun K hK => ?_) ?_
              · go_simp
                gi_wp2_with (refine ⟨trivial, ?_⟩; gi_at_call 55; refine (CallsIn.inRound l (callsIn_wide.2 (turned_calls _ _))).mono ?_; rintro e W1 ⟨rfl, rfl⟩)
                try (refine hK _ _ ?_; clear hK K)
                refine wpAnyIn_ready (rs := [0, 4]) (by kernel_rfl) (by simp) ?_
                refine AllReadyIn.cons rfl (fun K hK => ?_) ?_
                · go_simp
                  refine hK _ _ ?_
                  clear hK K
                  refine wpAnyIn_ready (rs := [4]) (by kernel_rfl) (by simp) ?_
                  refine AllReadyIn.cons rfl (fun K hK => ?_) ?_
                  · go_simp
                    gi_wp2_with (refine ⟨trivial, ?_⟩; gi_at_call 54; refine (CallsIn.inRound l (callsIn_wide.2 (part_calls _ _ _ _))).mono ?_; rintro e W1 ⟨b1, b2, rfl, hpm, hb1⟩; have HA1 := Aside0.mk (HA.out.below hb1); have HP := Aside0.mk hpm; have HBB := Aside0.mk hb1; have q1' : W1.cell? ⟨w.heap.size + 1, 0, none⟩ = some v1 := blk_cell HA1.out.2.1 0; have q1'' : ∀ o, (W1.alloc o).cell? ⟨w.heap.size + 1, 0, none⟩ = some v1 := fun o => blk_cell (blk_alloc HA1.out.2.1 o) 0; clear hpm hb1; simp only [partC])
                    try (refine hK _ _ ?_; clear hK K)
                    refine wpAnyIn_ready (rs := [5]) (by kernel_rfl) (by simp) ?_
                    refine AllReadyIn.cons rfl (fun K hK => ?_) ?_
                    · go_simp
                      refine hK _ _ ?_
                      clear hK K
                      refine wpAnyIn_ready (rs := [6]) (by kernel_rfl) (by simp) ?_
                      refine AllReadyIn.cons rfl (fun K hK => ?_) ?_
                      · refine step_append_RIn rfl kPart w.heap.size (.tmp 22) (.tmp 27) 66 66 75 75 (.agg #[.int .i64 0, .int .u8 0, .int .u8 0, .bool false, .int .u64 0, .nilFunc]) 40 rfl (by kernel_rfl) (by kernel_rfl) infoP rfl (by decide) (by decide) v1 (labP body k ++ [((k : Int), 0, s)]) [((k : Int), 1, turnI s)] (some ⟨W1.heap.size, 0, none⟩) 1 1 (fun k => some k ≠ v2.ownBlock) (fun k => W.heap.size ≤ k) rfl rfl (HA1.out.below (below_alloc (Below.refl _ _) _)).2.2.2.1 (part_row (W := W.drew) HP.out) (fun x cs h => part_lower HA.out.2.2.2.2.2.size h) (fun k hk => ⟨(AllB.fresh HA.out hk).2, (AllB.fresh HA.out hk).1⟩) (fun k hk => (AllB.fresh (HA1.out.below (below_alloc (Below.refl _ _) _)) hk).2) (HA1.out.below (below_alloc (Below.refl _ _) (.cells (partC ((k : Int), 1, turnI s) b1 b2).toArray 75))).2.2.2.2.2.size (by rw [List.length_append, List.length_singleton]; omega) ?_
                        intro u3 w3 hR hg hat
                        obtain ⟨A3, c3, rfl⟩ := Kd.R_slice hR
                        obtain ⟨L3, hL3⟩ : ∃ L, L = ((labP body k ++ [((k : Int), 0, s)]) ++ [((k : Int), 1, turnI s)]).length := ⟨_, rfl⟩
                        rw [← hL3] at hR hat ⊢
                        clear hL3
                        obtain ⟨hA3, hK3, q3, f3⟩ := (HA1.out.below (below_alloc (Below.refl _ _) (.cells (partC ((k : Int), 1, turnI s) b1 b2).toArray 75))).add1 hR hg hat
                        have HA3 := Aside0.mk hA3
                        have HK3 := Aside0.mk ((RoundK.below (n0 := w.heap.size) (below_then (Below.refl _ W).drew (below_alloc HBB.out (.cells (partC ((k : Int), 1, turnI s) b1 b2).toArray 75))) HA.out.2.2.2.2.2.size).trans hK3)
                        refine hK _ _ ?_
                        clear hK K hA3 hK3 hR hg hat
                        refine wpAnyIn_ready (rs := [7]) (by kernel_rfl) (by simp) ?_
                        refine AllReadyIn.cons rfl (fun K hK => ?_) ?_
                        · go_simp
                          refine hK _ _ ?_
                          clear hK K
                          refine wpAnyIn_done (by kernel_rfl) ?_ _
                          rw [HQ.out]
                          exact ⟨rfl, _, _, _, _, _, _, _, _, rfl, HA3.out, HK3.out⟩
                        exact AllReadyIn.nil
                      exact AllReadyIn.nil
                    exact AllReadyIn.nil
                  exact AllReadyIn.nil
                refine AllReadyIn.cons rfl (fun K hK => ?_) ?_
                · go_simp
                  gi_wp2_with (refine ⟨trivial, ?_⟩; gi_at_call 54; refine (CallsIn.inRound l (callsIn_wide.2 (part_calls _ _ _ _))).mono ?_; rintro e W1 ⟨b1, b2, rfl, hpm, hb1⟩; have HA1 := Aside0.mk (HA.out.below hb1); have HP := Aside0.mk hpm; have HBB := Aside0.mk hb1; have q1' : W1.cell? ⟨w.heap.size + 1, 0, none⟩ = some v1 := blk_cell HA1.out.2.1 0; have q1'' : ∀ o, (W1.alloc o).cell? ⟨w.heap.size + 1, 0, none⟩ = some v1 := fun o => blk_cell (blk_alloc HA1.out.2.1 o) 0; clear hpm hb1; simp only [partC])
                  try (refine hK _ _ ?_; clear hK K)
                  refine wpAnyIn_ready (rs := [0, 5]) (by kernel_rfl) (by simp) ?_
                  refine AllReadyIn.cons rfl (fun K hK => ?_) ?_
                  · go_simp
                    refine hK _ _ ?_
                    clear hK K
                    refine wpAnyIn_ready (rs := [5]) (by kernel_rfl) (by simp) ?_
                    refine AllReadyIn.cons rfl (fun K hK => ?_) ?_
                    · go_simp
                      refine hK _ _ ?_
                      clear hK K
                      refine wpAnyIn_ready (rs := [6]) (by kernel_rfl) (by simp) ?_
                      refine AllReadyIn.cons rfl (fun K hK => ?_) ?_
                      · refine step_append_RIn rfl kPart w.heap.size (.tmp 22) (.tmp 27) 66 66 75 75 (.agg #[.int .i64 0, .int .u8 0, .int .u8 0, .bool false, .int .u64 0, .nilFunc]) 40 rfl (by kernel_rfl) (by kernel_rfl) infoP rfl (by decide) (by decide) v1 (labP body k ++ [((k : Int), 0, s)]) [((k : Int), 1, turnI s)] (some ⟨W1.heap.size, 0, none⟩) 1 1 (fun k => some k ≠ v2.ownBlock) (fun k => W.heap.size ≤ k) rfl rfl (HA1.out.below (below_alloc (Below.refl _ _) _)).2.2.2.1 (part_row (W := W.drew) HP.out) (fun x cs h => part_lower HA.out.2.2.2.2.2.size h) (fun k hk => ⟨(AllB.fresh HA.out hk).2, (AllB.fresh HA.out hk).1⟩) (fun k hk => (AllB.fresh (HA1.out.below (below_alloc (Below.refl _ _) _)) hk).2) (HA1.out.below (below_alloc (Below.refl _ _) (.cells (partC ((k : Int), 1, turnI s) b1 b2).toArray 75))).2.2.2.2.2.size (by rw [List.length_append, List.length_singleton]; omega) ?_
                        intro u3 w3 hR hg hat
                        obtain ⟨A3, c3, rfl⟩ := Kd.R_slice hR
                        obtain ⟨L3, hL3⟩ : ∃ L, L = ((labP body k ++ [((k : Int), 0, s)]) ++ [((k : Int), 1, turnI s)]).length := ⟨_, rfl⟩
                        rw [← hL3] at hR hat ⊢
                        clear hL3
                        obtain ⟨hA3, hK3, q3, f3⟩ := (HA1.out.below (below_alloc (Below.refl _ _) (.cells (partC ((k : Int), 1, turnI s) b1 b2).toArray 75))).add1 hR hg hat
                        have HA3 := Aside0.mk hA3
                        have HK3 := Aside0.mk ((RoundK.below (n0 := w.heap.size) (below_then (Below.refl _ W).drew (below_alloc HBB.out (.cells (partC ((k : Int), 1, turnI s) b1 b2).toArray 75))) HA.out.2.2.2.2.2.size).trans hK3)
                        refine hK _ _ ?_
                        clear hK K hA3 hK3 hR hg hat
                        refine wpAnyIn_ready (rs := [7]) (by kernel_rfl) (by simp) ?_
                        refine AllReadyIn.cons rfl (fun K hK => ?_) ?_
                        · go_simp
                          refine hK _ _ ?_
                          clear hK K
                          refine wpAnyIn_done (by kernel_rfl) ?_ _
                          rw [HQ.out]
                          exact ⟨rfl, _, _, _, _, _, _, _, _, rfl, HA3.out, HK3.out⟩
                        exact AllReadyIn.nil
                      exact AllReadyIn.nil
                    exact AllReadyIn.nil
                  refine AllReadyIn.cons rfl (fun K hK => ?_) ?_
                  · go_simp
                    refine hK _ _ ?_
                    clear hK K
                    refine wpAnyIn_ready (rs := [0]) (by kernel_rfl) (by simp) ?_
                    refine AllReadyIn.cons rfl (fun K hK => ?_) ?_
                    · go_simp
                      refine hK _ _ ?_
                      clear hK K
                      refine wpAnyIn_ready (rs := [6]) (by kernel_rfl) (by simp) ?_
                      refine AllReadyIn.cons rfl (fun K hK => ?_) ?_
                      · refine step_append_RIn rfl kPart w.heap.size (.tmp 22) (.tmp 27) 66 66 75 75 (.agg #[.int .i64 0, .int .u8 0, .int .u8 0, .bool false, .int .u64 0, .nilFunc]) 40 rfl (by kernel_rfl) (by kernel_rfl) infoP rfl (by decide) (by decide) v1 (labP body k ++ [((k : Int), 0, s)]) [((k : Int), 1, turnI s)] (some ⟨W1.heap.size, 0, none⟩) 1 1 (fun k => some k ≠ v2.ownBlock) (fun k => W.heap.size ≤ k) rfl rfl (HA1.out.below (below_alloc (Below.refl _ _) _)).2.2.2.1 (part_row (W := W.drew) HP.out) (fun x cs h => part_lower HA.out.2.2.2.2.2.size h) (fun k hk => ⟨(AllB.fresh HA.out hk).2, (AllB.fresh HA.out hk).1⟩) (fun k hk => (AllB.fresh (HA1.out.below (below_alloc (Below.refl _ _) _)) hk).2) (HA1.out.below (below_alloc (Below.refl _ _) (.cells (partC ((k : Int), 1, turnI s) b1 b2).toArray 75))).2.2.2.2.2.size (by rw [List.length_append, List.length_singleton]; omega) ?_
                        intro u3 w3 hR hg hat
                        obtain ⟨A3, c3, rfl⟩ := Kd.R_slice hR
                        obtain ⟨L3, hL3⟩ : ∃ L, L = ((labP body k ++ [((k : Int), 0, s)]) ++ [((k : Int), 1, turnI s)]).length := ⟨_, rfl⟩
                        rw [← hL3] at hR hat ⊢
                        clear hL3
                        obtain ⟨hA3, hK3, q3, f3⟩ := (HA1.out.below (below_alloc (Below.refl _ _) (.cells (partC ((k : Int), 1, turnI s) b1 b2).toArray 75))).add1 hR hg hat
                        have HA3 := Aside0.mk hA3
                        have HK3 := Aside0.mk ((RoundK.below (n0 := w.heap.size) (below_then (Below.refl _ W).drew (below_alloc HBB.out (.cells (partC ((k : Int), 1, turnI s) b1 b2).toArray 75))) HA.out.2.2.2.2.2.size).trans hK3)
                        refine hK _ _ ?_
                        clear hK K hA3 hK3 hR hg hat
                        refine wpAnyIn_ready (rs := [7]) (by kernel_rfl) (by simp) ?_
                        refine AllReadyIn.cons rfl (fun K hK => ?_) ?_
                        · go_simp
                          refine hK _ _ ?_
                          clear hK K
                          refine wpAnyIn_done (by kernel_rfl) ?_ _
                          rw [HQ.out]
                          exact ⟨rfl, _, _, _, _, _, _, _, _, rfl, HA3.out, HK3.out⟩
                        exact AllReadyIn.nil
                      exact AllReadyIn.nil
                    exact AllReadyIn.nil
                  exact AllReadyIn.nil
                exact AllReadyIn.nil
              exact AllReadyIn.nil
            refine AllReadyIn.cons rfl (fun K hK => ?_) ?_
            · go_simp
              gi_wp2_with (refine ⟨trivial, ?_⟩; gi_at_call 55; refine (CallsIn.inRound l (callsIn_wide.2 (turned_calls _ _))).mono ?_; rintro e W1 ⟨rfl, rfl⟩)
              try (refine hK _ _ ?_; clear hK K)
              refine wpAnyIn_ready (rs := [0, 1]) (by kernel_rfl) (by simp) ?_
              refine AllReadyIn.cons rfl (fun K hK => ?_) ?_
              · go_simp
                refine hK _ _ ?_
                clear hK K
                refine wpAnyIn_ready (rs := [1]) (by kernel_rfl) (by simp) ?_
                refine AllReadyIn.cons rfl (fun K hK => ?_) ?_
                · go_simp
                  refine hK _ _ ?_
                  clear hK K
                  refine wpAnyIn_ready (rs := [4]) (by kernel_rfl) (by simp) ?_
                  refine AllReadyIn.cons rfl (fun K hK => ?_) ?_
                  · go_simp
                    gi_wp2_with (refine ⟨trivial, ?_⟩; gi_at_call 54; refine (CallsIn.inRound l (callsIn_wide.2 (part_calls _ _ _ _))).mono ?_; rintro e W1 ⟨b1, b2, rfl, hpm, hb1⟩; have HA1 := Aside0.mk (HA.out.below hb1); have HP := Aside0.mk hpm; have HBB := Aside0.mk hb1; have q1' : W1.cell? ⟨w.heap.size + 1, 0, none⟩ = some v1 := blk_cell HA1.out.2.1 0; have q1'' : ∀ o, (W1.alloc o).cell? ⟨w.heap.size + 1, 0, none⟩ = some v1 := fun o => blk_cell (blk_alloc HA1.out.2.1 o) 0; clear hpm hb1; simp only [partC])
                    try (refine hK _ _ ?_; clear hK K)
                    refine wpAnyIn_ready (rs := [5]) (by kernel_rfl) (by simp) ?_
                    refine AllReadyIn.cons rfl (fun K hK => ?_) ?_
                    · go_simp
                      refine hK _ _ ?_
                      clear hK K
                      refine wpAnyIn_ready (rs := [6]) (by kernel_rfl) (by simp) ?_
                      refine AllReadyIn.cons rfl (fun K hK => ?_) ?_
                      · refine step_append_RIn rfl kPart w.heap.size (.tmp 22) (.tmp 27) 66 66 75 75 (.agg #[.int .i64 0, .int .u8 0, .int .u8 0, .bool false, .int .u64 0, .nilFunc]) 40 rfl (by kernel_rfl) (by kernel_rfl) infoP rfl (by decide) (by decide) v1 (labP body k ++ [((k : Int), 0, s)]) [((k : Int), 1, turnI s)] (some ⟨W1.heap.size, 0, none⟩) 1 1 (fun k => some k ≠ v2.ownBlock) (fun k => W.heap.size ≤ k) rfl rfl (HA1.out.below (below_alloc (Below.refl _ _) _)).2.2.2.1 (part_row (W := W.drew) HP.out) (fun x cs h => part_lower HA.out.2.2.2.2.2.size h) (fun k hk => ⟨(AllB.fresh HA.out hk).2, (AllB.fresh HA.out hk).1⟩) (fun k hk => (AllB.fresh (HA1.out.below (below_alloc (Below.refl _ _) _)) hk).2) (HA1.out.below (below_alloc (Below.refl _ _) (.cells (partC ((k : Int), 1, turnI s) b1 b2).toArray 75))).2.2.2.2.2.size (by rw [List.length_append, List.length_singleton]; omega) ?_
                        intro u3 w3 hR hg hat
                        obtain ⟨A3, c3, rfl⟩ := Kd.R_slice hR
                        obtain ⟨L3, hL3⟩ : ∃ L, L = ((labP body k ++ [((k : Int), 0, s)]) ++ [((k : Int), 1, turnI s)]).length := ⟨_, rfl⟩
                        rw [← hL3] at hR hat ⊢
                        clear hL3
                        obtain ⟨hA3, hK3, q3, f3⟩ := (HA1.out.below (below_alloc (Below.refl _ _) (.cells (partC ((k : Int), 1, turnI s) b1 b2).toArray 75))).add1 hR hg hat
                        have HA3 := Aside0.mk hA3
                        have HK3 := Aside0.mk ((RoundK.below (n0 := w.heap.size) (below_then (Below.refl _ W).drew (below_alloc HBB.out (.cells (partC ((k : Int), 1, turnI s) b1 b2).toArray 75))) HA.out.2.2.2.2.2.size).trans hK3)
                        refine hK _ _ ?_
                        clear hK K hA3 hK3 hR hg hat
                        refine wpAnyIn_ready (rs := [7]) (by kernel_rfl) (by simp) ?_
                        refine AllReadyIn.cons rfl (fun K hK => ?_) ?_
                        · go_simp
                          refine hK _ _ ?_
                          clear hK K
                          refine wpAnyIn_done (by kernel_rfl) ?_ _
                          rw [HQ.out]
                          exact ⟨rfl, _, _, _, _, _, _, _, _, rfl, HA3.out, HK3.out⟩
                        exact AllReadyIn.nil
                      exact AllReadyIn.nil
                    exact AllReadyIn.nil
                  exact AllReadyIn.nil
                exact AllReadyIn.nil
              refine AllReadyIn.cons rfl (fun K hK => ?_) ?_
              · go_simp
                refine hK _ _ ?_
                clear hK K
                refine wpAnyIn_ready (rs := [0, 4]) (by kernel_rfl) (by simp) ?_
                refine AllReadyIn.cons rfl (fun K hK => ?_) ?_
                · go_simp
                  refine hK _ _ ?_
                  clear hK K
                  refine wpAnyIn_ready (rs := [4]) (by kernel_rfl) (by simp) ?_
                  refine AllReadyIn.cons rfl (fun K hK => ?_) ?_
                  · go_simp
                    gi_wp2_with (refine ⟨trivial, ?_⟩; gi_at_call 54; refine (CallsIn.inRound l (callsIn_wide.2 (part_calls _ _ _ _))).mono ?_; rintro e W1 ⟨b1, b2, rfl, hpm, hb1⟩; have HA1 := Aside0.mk (HA.out.below hb1); have HP := Aside0.mk hpm; have HBB := Aside0.mk hb1; have q1' : W1.cell? ⟨w.heap.size + 1, 0, none⟩ = some v1 := blk_cell HA1.out.2.1 0; have q1'' : ∀ o, (W1.alloc o).cell? ⟨w.heap.size + 1, 0, none⟩ = some v1 := fun o => blk_cell (blk_alloc HA1.out.2.1 o) 0; clear hpm hb1; simp only [partC])
                    try (refine hK _ _ ?_; clear hK K)
                    refine wpAnyIn_ready (rs := [5]) (by kernel_rfl) (by simp) ?_
                    refine AllReadyIn.cons rfl (fun K hK => ?_) ?_
                    · go_simp
                      refine hK _ _ ?_
                      clear hK K
                      refine wpAnyIn_ready (rs := [6]) (by kernel_rfl) (by simp) ?_
                      refine AllReadyIn.cons rfl (fun K hK => ?_) ?_
                      · refine step_append_RIn rfl kPart w.heap.size (.tmp 22) (.tmp 27) 66 66 75 75 (.agg #[.int .i64 0, .int .u8 0, .int .u8 0, .bool false, .int .u64 0, .nilFunc]) 40 rfl (by kernel_rfl) (by kernel_rfl) infoP rfl (by decide) (by decide) v1 (labP body k ++ [((k : Int), 0, s)]) [((k : Int), 1, turnI s)] (some ⟨W1.heap.size, 0, none⟩) 1 1 (fun k => some k ≠ v2.ownBlock) (fun k => W.heap.size ≤ k) rfl rfl (HA1.out.below (below_alloc (Below.refl _ _) _)).2.2.2.1 (part_row (W := W.drew) HP.out) (fun x cs h => part_lower HA.out.2.2.2.2.2.size h) (fun k hk => ⟨(AllB.fresh HA.out hk).2, (AllB.fresh HA.out hk).1⟩) (fun k hk => (AllB.fresh (HA1.out.below (below_alloc (Below.refl _ _) _)) hk).2) (HA1.out.below (below_alloc (Below.refl _ _) (.cells (partC ((k : Int), 1, turnI s) b1 b2).toArray 75))).2.2.2.2.2.size (by rw [List.length_append, List.length_singleton]; omega) ?_
                        intro u3 w3 hR hg hat
                        obtain ⟨A3, c3, rfl⟩ := Kd.R_slice hR
                        obtain ⟨L3, hL3⟩ : ∃ L, L = ((labP body k ++ [((k : Int), 0, s)]) ++ [((k : Int), 1, turnI s)]).length := ⟨_, rfl⟩
                        rw [← hL3] at hR hat ⊢
                        clear hL3
                        obtain ⟨hA3, hK3, q3, f3⟩ := (HA1.out.below (below_alloc (Below.refl _ _) (.cells (partC ((k : Int), 1, turnI s) b1 b2).toArray 75))).add1 hR hg hat
                        have HA3 := Aside0.mk hA3
                        have HK3 := Aside0.mk ((RoundK.below (n0 := w.heap.size) (below_then (Below.refl _ W).drew (below_alloc HBB.out (.cells (partC ((k : Int), 1, turnI s) b1 b2).toArray 75))) HA.out.2.2.2.2.2.size).trans hK3)
                        refine hK _ _ ?_
                        clear hK K hA3 hK3 hR hg hat
                        refine wpAnyIn_ready (rs := [7]) (by kernel_rfl) (by simp) ?_
                        refine AllReadyIn.cons rfl (fun K hK => ?_) ?_
                        · go_simp
                          refine hK _ _ ?_
                          clear hK K
                          refine wpAnyIn_done (by kernel_rfl) ?_ _
                          rw [HQ.out]
                          exact ⟨rfl, _, _, _, _, _, _, _, _, rfl, HA3.out, HK3.out⟩
                        exact AllReadyIn.nil
                      exact AllReadyIn.nil
                    exact AllReadyIn.nil
                  exact AllReadyIn.nil
                refine AllReadyIn.cons rfl (fun K hK => ?_) ?_
                · go_simp
                  gi_wp2_with (refine ⟨trivial, ?_⟩; gi_at_call 54; refine (CallsIn.inRound l (callsIn_wide.2 (part_calls _ _ _ _))).mono ?_; rintro e W1 ⟨b1, b2, rfl, hpm, hb1⟩; have HA1 := Aside0.mk (HA.out.below hb1); have HP := Aside0.mk hpm; have HBB := Aside0.mk hb1; have q1' : W1.cell? ⟨w.heap.size + 1, 0, none⟩ = some v1 := blk_cell HA1.out.2.1 0; have q1'' : ∀ o, (W1.alloc o).cell? ⟨w.heap.size + 1, 0, none⟩ = some v1 := fun o => blk_cell (blk_alloc HA1.out.2.1 o) 0; clear hpm hb1; simp only [partC])
                  try (refine hK _ _ ?_; clear hK K)
                  refine wpAnyIn_ready (rs := [0, 5]) (by kernel_rfl) (by simp) ?_
                  refine AllReadyIn.cons rfl (fun K hK => ?_) ?_
                  · go_simp
                    refine hK _ _ ?_
                    clear hK K
                    refine wpAnyIn_ready (rs := [5]) (by kernel_rfl) (by simp) ?_
                    refine AllReadyIn.cons rfl (fun K hK => ?_) ?_
                    · go_simp
                      refine hK _ _ ?_
                      clear hK K
                      refine wpAnyIn_ready (rs := [6]) (by kernel_rfl) (by simp) ?_
                      refine AllReadyIn.cons rfl (fun K hK => ?_) ?_
                      · refine step_append_RIn rfl kPart w.heap.size (.tmp 22) (.tmp 27) 66 66 75 75 (.agg #[.int .i64 0, .int .u8 0, .int .u8 0, .bool false, .int .u64 0, .nilFunc]) 40 rfl (by kernel_rfl) (by kernel_rfl) infoP rfl (by decide) (by decide) v1 (labP body k ++ [((k : Int), 0, s)]) [((k : Int), 1, turnI s)] (some ⟨W1.heap.size, 0, none⟩) 1 1 (fun k => some k ≠ v2.ownBlock) (fun k => W.heap.size ≤ k) rfl rfl (HA1.out.below (below_alloc (Below.refl _ _) _)).2.2.2.1 (part_row (W := W.drew) HP.out) (fun x cs h => part_lower HA.out.2.2.2.2.2.size h) (fun k hk => ⟨(AllB.fresh HA.out hk).2, (AllB.fresh HA.out hk).1⟩) (fun k hk => (AllB.fresh (HA1.out.below (below_alloc (Below.refl _ _) _)) hk).2) (HA1.out.below (below_alloc (Below.refl _ _) (.cells (partC ((k : Int), 1, turnI s) b1 b2).toArray 75))).2.2.2.2.2.size (by rw [List.length_append, List.length_singleton]; omega) ?_
                        intro u3 w3 hR hg hat
                        obtain ⟨A3, c3, rfl⟩ := Kd.R_slice hR
                        obtain ⟨L3, hL3⟩ : ∃ L, L = ((labP body k ++ [((k : Int), 0, s)]) ++ [((k : Int), 1, turnI s)]).length := ⟨_, rfl⟩
                        rw [← hL3] at hR hat ⊢
                        clear hL3
                        obtain ⟨hA3, hK3, q3, f3⟩ := (HA1.out.below (below_alloc (Below.refl _ _) (.cells (partC ((k : Int), 1, turnI s) b1 b2).toArray 75))).add1 hR hg hat
                        have HA3 := Aside0.mk hA3
                        have HK3 := Aside0.mk ((RoundK.below (n0 := w.heap.size) (below_then (Below.refl _ W).drew (below_alloc HBB.out (.cells (partC ((k : Int), 1, turnI s) b1 b2).toArray 75))) HA.out.2.2.2.2.2.size).trans hK3)
                        refine hK _ _ ?_
                        clear hK K hA3 hK3 hR hg hat
                        refine wpAnyIn_ready (rs := [7]) (by kernel_rfl) (by simp) ?_
                        refine AllReadyIn.cons rfl (fun K hK => ?_) ?_
                        · go_simp
                          refine hK _ _ ?_
                          clear hK K
                          refine wpAnyIn_done (by kernel_rfl) ?_ _
                          rw [HQ.out]
                          exact ⟨rfl, _, _, _, _, _, _, _, _, rfl, HA3.out, HK3.out⟩
                        exact AllReadyIn.nil
                      exact AllReadyIn.nil
                    exact AllReadyIn.nil
                  refine AllReadyIn.cons rfl (fun K hK => ?_) ?_
                  · go_simp
                    refine hK _ _ ?_
                    clear hK K
                    refine wpAnyIn_ready (rs := [0]) (by kernel_rfl) (by simp) ?_
                    refine AllReadyIn.cons rfl (fun K hK => ?_) ?_
                    · go_simp
                      refine hK _ _ ?_
                      clear hK K
                      refine wpAnyIn_ready (rs := [6]) (by kernel_rfl) (by simp) ?_
                      refine AllReadyIn.cons rfl (fun K hK => ?_) ?_
                      · refine step_append_RIn rfl kPart w.heap.size (.tmp 22) (.tmp 27) 66 66 75 75 (.agg #[.int .i64 0, .int .u8 0, .int .u8 0, .bool false, .int .u64 0, .nilFunc]) 40 rfl (by kernel_rfl) (by kernel_rfl) infoP rfl (by decide) (by decide) v1 (labP body k ++ [((k : Int), 0, s)]) [((k : Int), 1, turnI s)] (some ⟨W1.heap.size, 0, none⟩) 1 1 (fun k => some k ≠ v2.ownBlock) (fun k => W.heap.size ≤ k) rfl rfl (HA1.out.below (below_alloc (Below.refl _ _) _)).2.2.2.1 (part_row (W := W.drew) HP.out) (fun x cs h => part_lower HA.out.2.2.2.2.2.size h) (fun k hk => ⟨(AllB.fresh HA.out hk).2, (AllB.fresh HA.out hk).1⟩) (fun k hk => (AllB.fresh (HA1.out.below (below_alloc (Below.refl _ _) _)) hk).2) (HA1.out.below (below_alloc (Below.refl _ _) (.cells (partC ((k : Int), 1, turnI s) b1 b2).toArray 75))).2.2.2.2.2.size (by rw [List.length_append, List.length_singleton]; omega) ?_
                        intro u3 w3 hR hg hat
                        obtain ⟨A3, c3, rfl⟩ := Kd.R_slice hR
                        obtain ⟨L3, hL3⟩ : ∃ L, L = ((labP body k ++ [((k : Int), 0, s)]) ++ [((k : Int), 1, turnI s)]).length := ⟨_, rfl⟩
                        rw [← hL3] at hR hat ⊢
                        clear hL3
                        obtain ⟨hA3, hK3, q3, f3⟩ := (HA1.out.below (below_alloc (Below.refl _ _) (.cells (partC ((k : Int), 1, turnI s) b1 b2).toArray 75))).add1 hR hg hat
                        have HA3 := Aside0.mk hA3
                        have HK3 := Aside0.mk ((RoundK.below (n0 := w.heap.size) (below_then (Below.refl _ W).drew (below_alloc HBB.out (.cells (partC ((k : Int), 1, turnI s) b1 b2).toArray 75))) HA.out.2.2.2.2.2.size).trans hK3)
                        refine hK _ _ ?_
                        clear hK K hA3 hK3 hR hg hat
                        refine wpAnyIn_ready (rs := [7]) (by kernel_rfl) (by simp) ?_
                        refine AllReadyIn.cons rfl (fun K hK => ?_) ?_
                        · go_simp
                          refine hK _ _ ?_
                          clear hK K
                          refine wpAnyIn_done (by kernel_rfl) ?_ _
                          rw [HQ.out]
                          exact ⟨rfl, _, _, _, _, _, _, _, _, rfl, HA3.out, HK3.out⟩
                        exact AllReadyIn.nil
                      exact AllReadyIn.nil
                    exact AllReadyIn.nil
                  exact AllReadyIn.nil
                exact AllReadyIn.nil
              exact AllReadyIn.nil
            exact AllReadyIn.nil
          exact AllReadyIn.nil
        case k6 =>
          rw [HQ.out]
          rintro e a' W ⟨rfl, t22, t23, t24, t25, t26, t27, t28, v1, rfl, hA6, hK6⟩
          clear HQ q0 q1 HA HA0 c0
          have HK6 := Aside0.mk (RoundK.trans HK4.out hK6)
          have q2 : W.cell? ⟨w.heap.size + 1 + 1, 0, none⟩ = some v2 := blk_cell hA6.2.2.1 0
          have HA := Aside0.mk hA6.drew
          clear hA6 hK6 HK4
          gi_wp2
          obtain ⟨Q7, hQ7⟩ : ∃ Q7, Q7 = (fun (e : Exit) (a' : Act) (W' : World) => e = Exit.normal ∧ ∃ t29 t30 t31 t32 t33 t34 u : Value, a' = { tmps := #[.slice (some ad) N c, .pointer (some ⟨w.heap.size, 0, none⟩), .pointer (some ⟨w.heap.size + 1, 0, none⟩), .pointer (some ⟨w.heap.size + 1 + 1, 0, none⟩), .int .i64 (k : Int), .int .u8 s, .slice (some ad) N c, .func (.func 61) #[] #[.pointer (some ⟨w.heap.size + 1 + 1 + 1, 0, none⟩)], .int .i64 (k : Int), .int .u8 s, t10, t11, t12, t13, t14, t15, .slice (some ad) N c, .int .i64 (k : Int), .pointer (some (ad.add (k * 10))), .pointer (some (ad.add (k * 10))), .int .u8 5, .bool true, t22, t23, t24, t25, t26, t27, t28, t29, t30, t31, t32, t33, t34, undef, undef], defers := [] } ∧ AllB w (some ad) N c W' v1 u (labP body k ++ [((k : Int), 0, s)] ++ [((k : Int), 1, turnI s)]) (effP body k ++ [((k : Int), 2, s)]) ∧ RoundK w.heap.size W W') := ⟨_, rfl⟩
          have HQ := Aside0.mk hQ7
          clear hQ7
          refine wpIn_mono (Q := Q7) ?r7 ?k7
          case r7 =>
            refine wpIn_region_any (by assumption) ?_
            change wpAnyIn _ _ _ _ _ _ _ _ _ (World.drew _)
            refine wpAnyIn_ready (rs := [0, 1, 2]) (by kernel_rfl) (by simp) ?_
            refine AllReadyIn.cons rfl (fun K hK => ?_) ?_
            · go_simp
              refine hK _ _ ?_
              clear hK K
              refine wpAnyIn_ready (rs := [1, 2]) (by kernel_rfl) (by simp) ?_
              refine AllReadyIn.cons rfl (fun K hK => ?_) ?_
              · go_simp
                refine hK _ _ ?_
                clear hK K
                refine wpAnyIn_ready (rs := [2]) (by kernel_rfl) (by simp) ?_
                refine AllReadyIn.cons rfl (fun K hK => ?_) ?_
                · go_simp
                  refine hK _ _ ?_
                  clear hK K
                  refine wpAnyIn_ready (rs := [3]) (by kernel_rfl) (by simp) ?_
                  refine AllReadyIn.cons rfl (fun K hK => ?_) ?_
                  · go_simp
                    gi_wp2_with (refine ⟨trivial, ?_⟩; gi_at_call 54; refine (CallsIn.inRound l (callsIn_wide.2 (part_calls _ _ _ _))).mono ?_; rintro e W1 ⟨b1, b2, rfl, hpm, hb1⟩; have HA1 := Aside0.mk (HA.out.below hb1); have HP := Aside0.mk hpm; have HBB := Aside0.mk hb1; have q1' : W1.cell? ⟨w.heap.size + 1 + 1, 0, none⟩ = some v2 := blk_cell HA1.out.2.2.1 0; have q1'' : ∀ o, (W1.alloc o).cell? ⟨w.heap.size + 1 + 1, 0, none⟩ = some v2 := fun o => blk_cell (blk_alloc HA1.out.2.2.1 o) 0; clear hpm hb1; simp only [partC])
                    try (refine hK _ _ ?_; clear hK K)
                    refine wpAnyIn_ready (rs := [4]) (by kernel_rfl) (by simp) ?_
                    refine AllReadyIn.cons rfl (fun K hK => ?_) ?_
                    · go_simp
                      refine hK _ _ ?_
                      clear hK K
                      refine wpAnyIn_ready (rs := [5]) (by kernel_rfl) (by simp) ?_
                      refine AllReadyIn.cons rfl (fun K hK => ?_) ?_
                      · refine step_append_RIn rfl kPart w.heap.size (.tmp 29) (.tmp 33) 66 66 75 75 (.agg #[.int .i64 0, .int .u8 0, .int .u8 0, .bool false, .int .u64 0, .nilFunc]) 40 rfl (by kernel_rfl) (by kernel_rfl) infoP rfl (by decide) (by decide) v2 (effP body k) [((k : Int), 2, s)] (some ⟨W1.heap.size, 0, none⟩) 1 1 (fun k => some k ≠ v1.ownBlock) (fun k => W.heap.size ≤ k) rfl rfl (HA1.out.below (below_alloc (Below.refl _ _) _)).2.2.2.2.1 (part_row (W := W.drew) HP.out) (fun x cs h => part_lower HA.out.2.2.2.2.2.size h) (fun k hk => ⟨(AllB.fresh HA.out hk).1, (AllB.fresh HA.out hk).2⟩) (fun k hk => (AllB.fresh (HA1.out.below (below_alloc (Below.refl _ _) _)) hk).1) (HA1.out.below (below_alloc (Below.refl _ _) (.cells (partC ((k : Int), 2, s) b1 b2).toArray 75))).2.2.2.2.2.size (by skip; omega) ?_
                        intro u3 w3 hR hg hat
                        obtain ⟨A3, c3, rfl⟩ := Kd.R_slice hR
                        obtain ⟨L3, hL3⟩ : ∃ L, L = ((effP body k) ++ [((k : Int), 2, s)]).length := ⟨_, rfl⟩
                        rw [← hL3] at hR hat ⊢
                        clear hL3
                        obtain ⟨hA3, hK3, q3, f3⟩ := (HA1.out.below (below_alloc (Below.refl _ _) (.cells (partC ((k : Int), 2, s) b1 b2).toArray 75))).add2 hR hg hat
                        have HA3 := Aside0.mk hA3
                        have HK3 := Aside0.mk ((RoundK.below (n0 := w.heap.size) (below_then (Below.refl _ W).drew (below_alloc HBB.out (.cells (partC ((k : Int), 2, s) b1 b2).toArray 75))) HA.out.2.2.2.2.2.size).trans hK3)
                        refine hK _ _ ?_
                        clear hK K hA3 hK3 hR hg hat
                        refine wpAnyIn_ready (rs := [6]) (by kernel_rfl) (by simp) ?_
                        refine AllReadyIn.cons rfl (fun K hK => ?_) ?_
                        · go_simp
                          refine hK _ _ ?_
                          clear hK K
                          refine wpAnyIn_done (by kernel_rfl) ?_ _
                          rw [HQ.out]
                          exact ⟨rfl, _, _, _, _, _, _, _, rfl, HA3.out, HK3.out⟩
                        exact AllReadyIn.nil
                      exact AllReadyIn.nil
                    exact AllReadyIn.nil
                  exact AllReadyIn.nil
                exact AllReadyIn.nil
              refine AllReadyIn.cons rfl (fun K hK => ?_) ?_
              · go_simp
                refine hK _ _ ?_
                clear hK K
                refine wpAnyIn_ready (rs := [1]) (by kernel_rfl) (by simp) ?_
                refine AllReadyIn.cons rfl (fun K hK => ?_) ?_
                · go_simp
                  refine hK _ _ ?_
                  clear hK K
                  refine wpAnyIn_ready (rs := [3]) (by kernel_rfl) (by simp) ?_
                  refine AllReadyIn.cons rfl (fun K hK => ?_) ?_
                  · go_simp
                    gi_wp2_with (refine ⟨trivial, ?_⟩; gi_at_call 54; refine (CallsIn.inRound l (callsIn_wide.2 (part_calls _ _ _ _))).mono ?_; rintro e W1 ⟨b1, b2, rfl, hpm, hb1⟩; have HA1 := Aside0.mk (HA.out.below hb1); have HP := Aside0.mk hpm; have HBB := Aside0.mk hb1; have q1' : W1.cell? ⟨w.heap.size + 1 + 1, 0, none⟩ = some v2 := blk_cell HA1.out.2.2.1 0; have q1'' : ∀ o, (W1.alloc o).cell? ⟨w.heap.size + 1 + 1, 0, none⟩ = some v2 := fun o => blk_cell (blk_alloc HA1.out.2.2.1 o) 0; clear hpm hb1; simp only [partC])
                    try (refine hK _ _ ?_; clear hK K)
                    refine wpAnyIn_ready (rs := [4]) (by kernel_rfl) (by simp) ?_
                    refine AllReadyIn.cons rfl (fun K hK => ?_) ?_
                    · go_simp
                      refine hK _ _ ?_
                      clear hK K
                      refine wpAnyIn_ready (rs := [5]) (by kernel_rfl) (by simp) ?_
                      refine AllReadyIn.cons rfl (fun K hK => ?_) ?_
                      · refine step_append_RIn rfl kPart w.heap.size (.tmp 29) (.tmp 33) 66 66 75 75 (.agg #[.int .i64 0, .int .u8 0, .int .u8 0, .bool false, .int .u64 0, .nilFunc]) 40 rfl (by kernel_rfl) (by kernel_rfl) infoP rfl (by decide) (by decide) v2 (effP body k) [((k : Int), 2, s)] (some ⟨W1.heap.size, 0, none⟩) 1 1 (fun k => some k ≠ v1.ownBlock) (fun k => W.heap.size ≤ k) rfl rfl (HA1.out.below (below_alloc (Below.refl _ _) _)).2.2.2.2.1 (part_row (W := W.drew) HP.out) (fun x cs h => part_lower HA.out.2.2.2.2.2.size h) (fun k hk => ⟨(AllB.fresh HA.out hk).1, (AllB.fresh HA.out hk).2⟩) (fun k hk => (AllB.fresh (HA1.out.below (below_alloc (Below.refl _ _) _)) hk).1) (HA1.out.below (below_alloc (Below.refl _ _) (.cells (partC ((k : Int), 2, s) b1 b2).toArray 75))).2.2.2.2.2.size (by skip; omega) ?_
                        intro u3 w3 hR hg hat
                        obtain ⟨A3, c3, rfl⟩ := Kd.R_slice hR
                        obtain ⟨L3, hL3⟩ : ∃ L, L = ((effP body k) ++ [((k : Int), 2, s)]).length := ⟨_, rfl⟩
                        rw [← hL3] at hR hat ⊢
                        clear hL3
                        obtain ⟨hA3, hK3, q3, f3⟩ := (HA1.out.below (below_alloc (Below.refl _ _) (.cells (partC ((k : Int), 2, s) b1 b2).toArray 75))).add2 hR hg hat
                        have HA3 := Aside0.mk hA3
                        have HK3 := Aside0.mk ((RoundK.below (n0 := w.heap.size) (below_then (Below.refl _ W).drew (below_alloc HBB.out (.cells (partC ((k : Int), 2, s) b1 b2).toArray 75))) HA.out.2.2.2.2.2.size).trans hK3)
                        refine hK _ _ ?_
                        clear hK K hA3 hK3 hR hg hat
                        refine wpAnyIn_ready (rs := [6]) (by kernel_rfl) (by simp) ?_
                        refine AllReadyIn.cons rfl (fun K hK => ?_) ?_
                        · go_simp
                          refine hK _ _ ?_
                          clear hK K
                          refine wpAnyIn_done (by kernel_rfl) ?_ _
                          rw [HQ.out]
                          exact ⟨rfl, _, _, _, _, _, _, _, rfl, HA3.out, HK3.out⟩
                        exact AllReadyIn.nil
                      exact AllReadyIn.nil
                    exact AllReadyIn.nil
                  exact AllReadyIn.nil
                exact AllReadyIn.nil
              exact AllReadyIn.nil
            refine AllReadyIn.cons rfl (fun K hK => ?_) ?_
            · go_simp
              refine hK _ _ ?_
              clear hK K
              refine wpAnyIn_ready (rs := [0, 2]) (by kernel_rfl) (by simp) ?_
              refine AllReadyIn.cons rfl (fun K hK => ?_) ?_
              · go_simp
                refine hK _ _ ?_
                clear hK K
                refine wpAnyIn_ready (rs := [2]) (by kernel_rfl) (by simp) ?_
                refine AllReadyIn.cons rfl (fun K hK => ?_) ?_
                · go_simp
                  refine hK _ _ ?_
                  clear hK K
                  refine wpAnyIn_ready (rs := [3]) (by kernel_rfl) (by simp) ?_
                  refine AllReadyIn.cons rfl (fun K hK => ?_) ?_
                  · go_simp
                    gi_wp2_with (refine ⟨trivial, ?_⟩; gi_at_call 54; refine (CallsIn.inRound l (callsIn_wide.2 (part_calls _ _ _ _))).mono ?_; rintro e W1 ⟨b1, b2, rfl, hpm, hb1⟩; have HA1 := Aside0.mk (HA.out.below hb1); have HP := Aside0.mk hpm; have HBB := Aside0.mk hb1; have q1' : W1.cell? ⟨w.heap.size + 1 + 1, 0, none⟩ = some v2 := blk_cell HA1.out.2.2.1 0; have q1'' : ∀ o, (W1.alloc o).cell? ⟨w.heap.size + 1 + 1, 0, none⟩ = some v2 := fun o => blk_cell (blk_alloc HA1.out.2.2.1 o) 0; clear hpm hb1; simp only [partC])
                    try (refine hK _ _ ?_; clear hK K)
                    refine wpAnyIn_ready (rs := [4]) (by kernel_rfl) (by simp) ?_
                    refine AllReadyIn.cons rfl (fun K hK => ?_) ?_
                    · go_simp
                      refine hK _ _ ?_
                      clear hK K
                      refine wpAnyIn_ready (rs := [5]) (by kernel_rfl) (by simp) ?_
                      refine AllReadyIn.cons rfl (fun K hK => ?_) ?_
                      · refine step_append_RIn rfl kPart w.heap.size (.tmp 29) (.tmp 33) 66 66 75 75 (.agg #[.int .i64 0, .int .u8 0, .int .u8 0, .bool false, .int .u64 0, .nilFunc]) 40 rfl (by kernel_rfl) (by kernel_rfl) infoP rfl (by decide) (by decide) v2 (effP body k) [((k : Int), 2, s)] (some ⟨W1.heap.size, 0, none⟩) 1 1 (fun k => some k ≠ v1.ownBlock) (fun k => W.heap.size ≤ k) rfl rfl (HA1.out.below (below_alloc (Below.refl _ _) _)).2.2.2.2.1 (part_row (W := W.drew) HP.out) (fun x cs h => part_lower HA.out.2.2.2.2.2.size h) (fun k hk => ⟨(AllB.fresh HA.out hk).1, (AllB.fresh HA.out hk).2⟩) (fun k hk => (AllB.fresh (HA1.out.below (below_alloc (Below.refl _ _) _)) hk).1) (HA1.out.below (below_alloc (Below.refl _ _) (.cells (partC ((k : Int), 2, s) b1 b2).toArray 75))).2.2.2.2.2.size (by skip; omega) ?_
                        intro u3 w3 hR hg hat
                        obtain ⟨A3, c3, rfl⟩ := Kd.R_slice hR
                        obtain ⟨L3, hL3⟩ : ∃ L, L = ((effP body k) ++ [((k : Int), 2, s)]).length := ⟨_, rfl⟩
                        rw [← hL3] at hR hat ⊢
                        clear hL3
                        obtain ⟨hA3, hK3, q3, f3⟩ := (HA1.out.below (below_alloc (Below.refl _ _) (.cells (partC ((k : Int), 2, s) b1 b2).toArray 75))).add2 hR hg hat
                        have HA3 := Aside0.mk hA3
                        have HK3 := Aside0.mk ((RoundK.below (n0 := w.heap.size) (below_then (Below.refl _ W).drew (below_alloc HBB.out (.cells (partC ((k : Int), 2, s) b1 b2).toArray 75))) HA.out.2.2.2.2.2.size).trans hK3)
                        refine hK _ _ ?_
                        clear hK K hA3 hK3 hR hg hat
                        refine wpAnyIn_ready (rs := [6]) (by kernel_rfl) (by simp) ?_
                        refine AllReadyIn.cons rfl (fun K hK => ?_) ?_
                        · go_simp
                          refine hK _ _ ?_
                          clear hK K
                          refine wpAnyIn_done (by kernel_rfl) ?_ _
                          rw [HQ.out]
                          exact ⟨rfl, _, _, _, _, _, _, _, rfl, HA3.out, HK3.out⟩
                        exact AllReadyIn.nil
                      exact AllReadyIn.nil
                    exact AllReadyIn.nil
                  exact AllReadyIn.nil
                exact AllReadyIn.nil
              refine AllReadyIn.cons rfl (fun K hK => ?_) ?_
              · go_simp
                refine hK _ _ ?_
                clear hK K
                refine wpAnyIn_ready (rs := [0, 3]) (by kernel_rfl) (by simp) ?_
                refine AllReadyIn.cons rfl (fun K hK => ?_) ?_
                · go_simp
                  refine hK _ _ ?_
                  clear hK K
                  refine wpAnyIn_ready (rs := [3]) (by kernel_rfl) (by simp) ?_
                  refine AllReadyIn.cons rfl (fun K hK => ?_) ?_
                  · go_simp
                    gi_wp2_with (refine ⟨trivial, ?_⟩; gi_at_call 54; refine (CallsIn.inRound l (callsIn_wide.2 (part_calls _ _ _ _))).mono ?_; rintro e W1 ⟨b1, b2, rfl, hpm, hb1⟩; have HA1 := Aside0.mk (HA.out.below hb1); have HP := Aside0.mk hpm; have HBB := Aside0.mk hb1; have q1' : W1.cell? ⟨w.heap.size + 1 + 1, 0, none⟩ = some v2 := blk_cell HA1.out.2.2.1 0; have q1'' : ∀ o, (W1.alloc o).cell? ⟨w.heap.size + 1 + 1, 0, none⟩ = some v2 := fun o => blk_cell (blk_alloc HA1.out.2.2.1 o) 0; clear hpm hb1; simp only [partC])
                    try (refine hK _ _ ?_; clear hK K)
                    refine wpAnyIn_ready (rs := [4]) (by kernel_rfl) (by simp) ?_
                    refine AllReadyIn.cons rfl (fun K hK => ?_) ?_
                    · go_simp
                      refine hK _ _ ?_
                      clear hK K
                      refine wpAnyIn_ready (rs := [5]) (by kernel_rfl) (by simp) ?_
                      refine AllReadyIn.cons rfl (fun K hK => ?_) ?_
                      · refine step_append_RIn rfl kPart w.heap.size (.tmp 29) (.tmp 33) 66 66 75 75 (.agg #[.int .i64 0, .int .u8 0, .int .u8 0, .bool false, .int .u64 0, .nilFunc]) 40 rfl (by kernel_rfl) (by kernel_rfl) infoP rfl (by decide) (by decide) v2 (effP body k) [((k : Int), 2, s)] (some ⟨W1.heap.size, 0, none⟩) 1 1 (fun k => some k ≠ v1.ownBlock) (fun k => W.heap.size ≤ k) rfl rfl (HA1.out.below (below_alloc (Below.refl _ _) _)).2.2.2.2.1 (part_row (W := W.drew) HP.out) (fun x cs h => part_lower HA.out.2.2.2.2.2.size h) (fun k hk => ⟨(AllB.fresh HA.out hk).1, (AllB.fresh HA.out hk).2⟩) (fun k hk => (AllB.fresh (HA1.out.below (below_alloc (Below.refl _ _) _)) hk).1) (HA1.out.below (below_alloc (Below.refl _ _) (.cells (partC ((k : Int), 2, s) b1 b2).toArray 75))).2.2.2.2.2.size (by skip; omega) ?_
                        intro u3 w3 hR hg hat
                        obtain ⟨A3, c3, rfl⟩ := Kd.R_slice hR
                        obtain ⟨L3, hL3⟩ : ∃ L, L = ((effP body k) ++ [((k : Int), 2, s)]).length := ⟨_, rfl⟩
                        rw [← hL3] at hR hat ⊢
                        clear hL3
                        obtain ⟨hA3, hK3, q3, f3⟩ := (HA1.out.below (below_alloc (Below.refl _ _) (.cells (partC ((k : Int), 2, s) b1 b2).toArray 75))).add2 hR hg hat
                        have HA3 := Aside0.mk hA3
                        have HK3 := Aside0.mk ((RoundK.below (n0 := w.heap.size) (below_then (Below.refl _ W).drew (below_alloc HBB.out (.cells (partC ((k : Int), 2, s) b1 b2).toArray 75))) HA.out.2.2.2.2.2.size).trans hK3)
                        refine hK _ _ ?_
                        clear hK K hA3 hK3 hR hg hat
                        refine wpAnyIn_ready (rs := [6]) (by kernel_rfl) (by simp) ?_
                        refine AllReadyIn.cons rfl (fun K hK => ?_) ?_
                        · go_simp
                          refine hK _ _ ?_
                          clear hK K
                          refine wpAnyIn_done (by kernel_rfl) ?_ _
                          rw [HQ.out]
                          exact ⟨rfl, _, _, _, _, _, _, _, rfl, HA3.out, HK3.out⟩
                        exact AllReadyIn.nil
                      exact AllReadyIn.nil
                    exact AllReadyIn.nil
                  exact AllReadyIn.nil
                refine AllReadyIn.cons rfl (fun K hK => ?_) ?_
                · go_simp
                  gi_wp2_with (refine ⟨trivial, ?_⟩; gi_at_call 54; refine (CallsIn.inRound l (callsIn_wide.2 (part_calls _ _ _ _))).mono ?_; rintro e W1 ⟨b1, b2, rfl, hpm, hb1⟩; have HA1 := Aside0.mk (HA.out.below hb1); have HP := Aside0.mk hpm; have HBB := Aside0.mk hb1; have q1' : W1.cell? ⟨w.heap.size + 1 + 1, 0, none⟩ = some v2 := blk_cell HA1.out.2.2.1 0; have q1'' : ∀ o, (W1.alloc o).cell? ⟨w.heap.size + 1 + 1, 0, none⟩ = some v2 := fun o => blk_cell (blk_alloc HA1.out.2.2.1 o) 0; clear hpm hb1; simp only [partC])
                  try (refine hK _ _ ?_; clear hK K)
                  refine wpAnyIn_ready (rs := [0, 4]) (by kernel_rfl) (by simp) ?_
                  refine AllReadyIn.cons rfl (fun K hK => ?_) ?_
                  · go_simp
                    refine hK _ _ ?_
                    clear hK K
                    refine wpAnyIn_ready (rs := [4]) (by kernel_rfl) (by simp) ?_
                    refine AllReadyIn.cons rfl (fun K hK => ?_) ?_
                    · go_simp
                      refine hK _ _ ?_
                      clear hK K
                      refine wpAnyIn_ready (rs := [5]) (by kernel_rfl) (by simp) ?_
                      refine AllReadyIn.cons rfl (fun K hK => ?_) ?_
                      · refine step_append_RIn rfl kPart w.heap.size (.tmp 29) (.tmp 33) 66 66 75 75 (.agg #[.int .i64 0, .int .u8 0, .int .u8 0, .bool false, .int .u64 0, .nilFunc]) 40 rfl (by kernel_rfl) (by kernel_rfl) infoP rfl (by decide) (by decide) v2 (effP body k) [((k : Int), 2, s)] (some ⟨W1.heap.size, 0, none⟩) 1 1 (fun k => some k ≠ v1.ownBlock) (fun k => W.heap.size ≤ k) rfl rfl (HA1.out.below (below_alloc (Below.refl _ _) _)).2.2.2.2.1 (part_row (W := W.drew) HP.out) (fun x cs h => part_lower HA.out.2.2.2.2.2.size h) (fun k hk => ⟨(AllB.fresh HA.out hk).1, (AllB.fresh HA.out hk).2⟩) (fun k hk => (AllB.fresh (HA1.out.below (below_alloc (Below.refl _ _) _)) hk).1) (HA1.out.below (below_alloc (Below.refl _ _) (.cells (partC ((k : Int), 2, s) b1 b2).toArray 75))).2.2.2.2.2.size (by skip; omega) ?_
                        intro u3 w3 hR hg hat
                        obtain ⟨A3, c3, rfl⟩ := Kd.R_slice hR
                        obtain ⟨L3, hL3⟩ : ∃ L, L = ((effP body k) ++ [((k : Int), 2, s)]).length := ⟨_, rfl⟩
                        rw [← hL3] at hR hat ⊢
                        clear hL3
                        obtain ⟨hA3, hK3, q3, f3⟩ := (HA1.out.below (below_alloc (Below.refl _ _) (.cells (partC ((k : Int), 2, s) b1 b2).toArray 75))).add2 hR hg hat
                        have HA3 := Aside0.mk hA3
                        have HK3 := Aside0.mk ((RoundK.below (n0 := w.heap.size) (below_then (Below.refl _ W).drew (below_alloc HBB.out (.cells (partC ((k : Int), 2, s) b1 b2).toArray 75))) HA.out.2.2.2.2.2.size).trans hK3)
                        refine hK _ _ ?_
                        clear hK K hA3 hK3 hR hg hat
                        refine wpAnyIn_ready (rs := [6]) (by kernel_rfl) (by simp) ?_
                        refine AllReadyIn.cons rfl (fun K hK => ?_) ?_
                        · go_simp
                          refine hK _ _ ?_
                          clear hK K
                          refine wpAnyIn_done (by kernel_rfl) ?_ _
                          rw [HQ.out]
                          exact ⟨rfl, _, _, _, _, _, _, _, rfl, HA3.out, HK3.out⟩
                        exact AllReadyIn.nil
                      exact AllReadyIn.nil
                    exact AllReadyIn.nil
                  refine AllReadyIn.cons rfl (fun K hK => ?_) ?_
                  · go_simp
                    refine hK _ _ ?_
                    clear hK K
                    refine wpAnyIn_ready (rs := [0]) (by kernel_rfl) (by simp) ?_
                    refine AllReadyIn.cons rfl (fun K hK => ?_) ?_
                    · go_simp
                      refine hK _ _ ?_
                      clear hK K
                      refine wpAnyIn_ready (rs := [5]) (by kernel_rfl) (by simp) ?_
                      refine AllReadyIn.cons rfl (fun K hK => ?_) ?_
                      · refine step_append_RIn rfl kPart w.heap.size (.tmp 29) (.tmp 33) 66 66 75 75 (.agg #[.int .i64 0, .int .u8 0, .int .u8 0, .bool false, .int .u64 0, .nilFunc]) 40 rfl (by kernel_rfl) (by kernel_rfl) infoP rfl (by decide) (by decide) v2 (effP body k) [((k : Int), 2, s)] (some ⟨W1.heap.size, 0, none⟩) 1 1 (fun k => some k ≠ v1.ownBlock) (fun k => W.heap.size ≤ k) rfl rfl (HA1.out.below (below_alloc (Below.refl _ _) _)).2.2.2.2.1 (part_row (W := W.drew) HP.out) (fun x cs h => part_lower HA.out.2.2.2.2.2.size h) (fun k hk => ⟨(AllB.fresh HA.out hk).1, (AllB.fresh HA.out hk).2⟩) (fun k hk => (AllB.fresh (HA1.out.below (below_alloc (Below.refl _ _) _)) hk).1) (HA1.out.below (below_alloc (Below.refl _ _) (.cells (partC ((k : Int), 2, s) b1 b2).toArray 75))).2.2.2.2.2.size (by skip; omega) ?_
                        intro u3 w3 hR hg hat
                        obtain ⟨A3, c3, rfl⟩ := Kd.R_slice hR
                        obtain ⟨L3, hL3⟩ : ∃ L, L = ((effP body k) ++ [((k : Int), 2, s)]).length := ⟨_, rfl⟩
                        rw [← hL3] at hR hat ⊢
                        clear hL3
                        obtain ⟨hA3, hK3, q3, f3⟩ := (HA1.out.below (below_alloc (Below.refl _ _) (.cells (partC ((k : Int), 2, s) b1 b2).toArray 75))).add2 hR hg hat
                        have HA3 := Aside0.mk hA3
                        have HK3 := Aside0.mk ((RoundK.below (n0 := w.heap.size) (below_then (Below.refl _ W).drew (below_alloc HBB.out (.cells (partC ((k : Int), 2, s) b1 b2).toArray 75))) HA.out.2.2.2.2.2.size).trans hK3)
                        refine hK _ _ ?_
                        clear hK K hA3 hK3 hR hg hat
                        refine wpAnyIn_ready (rs := [6]) (by kernel_rfl) (by simp) ?_
                        refine AllReadyIn.cons rfl (fun K hK => ?_) ?_
                        · go_simp
                          refine hK _ _ ?_
                          clear hK K
                          refine wpAnyIn_done (by kernel_rfl) ?_ _
                          rw [HQ.out]
                          exact ⟨rfl, _, _, _, _, _, _, _, rfl, HA3.out, HK3.out⟩
                        exact AllReadyIn.nil
                      exact AllReadyIn.nil
                    exact AllReadyIn.nil
                  exact AllReadyIn.nil
                exact AllReadyIn.nil
              exact AllReadyIn.nil
            refine AllReadyIn.cons rfl (fun K hK => ?_) ?_
            · go_simp
              refine hK _ _ ?_
              clear hK K
              refine wpAnyIn_ready (rs := [0, 1]) (by kernel_rfl) (by simp) ?_
              refine AllReadyIn.cons rfl (fun K hK => ?_) ?_
              · go_simp
                refine hK _ _ ?_
                clear hK K
                refine wpAnyIn_ready (rs := [1]) (by kernel_rfl) (by simp) ?_
                refine AllReadyIn.cons rfl (fun K hK => ?_) ?_
                · go_simp
                  refine hK _ _ ?_
                  clear hK K
                  refine wpAnyIn_ready (rs := [3]) (by kernel_rfl) (by simp) ?_
                  refine AllReadyIn.cons rfl (fun K hK => ?_) ?_
                  · go_simp
                    gi_wp2_with (refine ⟨trivial, ?_⟩; gi_at_call 54; refine (CallsIn.inRound l (callsIn_wide.2 (part_calls _ _ _ _))).mono ?_; rintro e W1 ⟨b1, b2, rfl, hpm, hb1⟩; have HA1 := Aside0.mk (HA.out.below hb1); have HP := Aside0.mk hpm; have HBB := Aside0.mk hb1; have q1' : W1.cell? ⟨w.heap.size + 1 + 1, 0, none⟩ = some v2 := blk_cell HA1.out.2.2.1 0; have q1'' : ∀ o, (W1.alloc o).cell? ⟨w.heap.size + 1 + 1, 0, none⟩ = some v2 := fun o => blk_cell (blk_alloc HA1.out.2.2.1 o) 0; clear hpm hb1; simp only [partC])
                    try (refine hK _ _ ?_; clear hK K)
                    refine wpAnyIn_ready (rs := [4]) (by kernel_rfl) (by simp) ?_
                    refine AllReadyIn.cons rfl (fun K hK => ?_) ?_
                    · go_simp
                      refine hK _ _ ?_
                      clear hK K
                      refine wpAnyIn_ready (rs := [5]) (by kernel_rfl) (by simp) ?_
                      refine AllReadyIn.cons rfl (fun K hK => ?_) ?_
                      · refine step_append_RIn rfl kPart w.heap.size (.tmp 29) (.tmp 33) 66 66 75 75 (.agg #[.int .i64 0, .int .u8 0, .int .u8 0, .bool false, .int .u64 0, .nilFunc]) 40 rfl (by kernel_rfl) (by kernel_rfl) infoP rfl (by decide) (by decide) v2 (effP body k) [((k : Int), 2, s)] (some ⟨W1.heap.size, 0, none⟩) 1 1 (fun k => some k ≠ v1.ownBlock) (fun k => W.heap.size ≤ k) rfl rfl (HA1.out.below (below_alloc (Below.refl _ _) _)).2.2.2.2.1 (part_row (W := W.drew) HP.out) (fun x cs h => part_lower HA.out.2.2.2.2.2.size h) (fun k hk => ⟨(AllB.fresh HA.out hk).1, (AllB.fresh HA.out hk).2⟩) (fun k hk => (AllB.fresh (HA1.out.below (below_alloc (Below.refl _ _) _)) hk).1) (HA1.out.below (below_alloc (Below.refl _ _) (.cells (partC ((k : Int), 2, s) b1 b2).toArray 75))).2.2.2.2.2.size (by skip; omega) ?_
                        intro u3 w3 hR hg hat
                        obtain ⟨A3, c3, rfl⟩ := Kd.R_slice hR
                        obtain ⟨L3, hL3⟩ : ∃ L, L = ((effP body k) ++ [((k : Int), 2, s)]).length := ⟨_, rfl⟩
                        rw [← hL3] at hR hat ⊢
                        clear hL3
                        obtain ⟨hA3, hK3, q3, f3⟩ := (HA1.out.below (below_alloc (Below.refl _ _) (.cells (partC ((k : Int), 2, s) b1 b2).toArray 75))).add2 hR hg hat
                        have HA3 := Aside0.mk hA3
                        have HK3 := Aside0.mk ((RoundK.below (n0 := w.heap.size) (below_then (Below.refl _ W).drew (below_alloc HBB.out (.cells (partC ((k : Int), 2, s) b1 b2).toArray 75))) HA.out.2.2.2.2.2.size).trans hK3)
                        refine hK _ _ ?_
                        clear hK K hA3 hK3 hR hg hat
                        refine wpAnyIn_ready (rs := [6]) (by kernel_rfl) (by simp) ?_
                        refine AllReadyIn.cons rfl (fun K hK => ?_) ?_
                        · go_simp
                          refine hK _ _ ?_
                          clear hK K
                          refine wpAnyIn_done (by kernel_rfl) ?_ _
                          rw [HQ.out]
                          exact ⟨rfl, _, _, _, _, _, _, _, rfl, HA3.out, HK3.out⟩
                        exact AllReadyIn.nil
                      exact AllReadyIn.nil
                    exact AllReadyIn.nil
                  exact AllReadyIn.nil
                exact AllReadyIn.nil
              refine AllReadyIn.cons rfl (fun K hK => ?_) ?_
              · go_simp
                refine hK _ _ ?_
                clear hK K
                refine wpAnyIn_ready (rs := [0, 3]) (by kernel_rfl) (by simp) ?_
                refine AllReadyIn.cons rfl (fun K hK => ?_) ?_
                · go_simp
                  refine hK _ _ ?_
                  clear hK K
                  refine wpAnyIn_ready (rs := [3]) (by kernel_rfl) (by simp) ?_
                  refine AllReadyIn.cons rfl (fun K hK => ?_) ?_
                  · go_simp
                    gi_wp2_with (refine ⟨trivial, ?_⟩; gi_at_call 54; refine (CallsIn.inRound l (callsIn_wide.2 (part_calls _ _ _ _))).mono ?_; rintro e W1 ⟨b1, b2, rfl, hpm, hb1⟩; have HA1 := Aside0.mk (HA.out.below hb1); have HP := Aside0.mk hpm; have HBB := Aside0.mk hb1; have q1' : W1.cell? ⟨w.heap.size + 1 + 1, 0, none⟩ = some v2 := blk_cell HA1.out.2.2.1 0; have q1'' : ∀ o, (W1.alloc o).cell? ⟨w.heap.size + 1 + 1, 0, none⟩ = some v2 := fun o => blk_cell (blk_alloc HA1.out.2.2.1 o) 0; clear hpm hb1; simp only [partC])
                    try (refine hK _ _ ?_; clear hK K)
                    refine wpAnyIn_ready (rs := [4]) (by kernel_rfl) (by simp) ?_
                    refine AllReadyIn.cons rfl (fun K hK => ?_) ?_
                    · go_simp
                      refine hK _ _ ?_
                      clear hK K
                      refine wpAnyIn_ready (rs := [5]) (by kernel_rfl) (by simp) ?_
                      refine AllReadyIn.cons rfl (fun K hK => ?_) ?_
                      · refine step_append_RIn rfl kPart w.heap.size (.tmp 29) (.tmp 33) 66 66 75 75 (.agg #[.int .i64 0, .int .u8 0, .int .u8 0, .bool false, .int .u64 0, .nilFunc]) 40 rfl (by kernel_rfl) (by kernel_rfl) infoP rfl (by decide) (by decide) v2 (effP body k) [((k : Int), 2, s)] (some ⟨W1.heap.size, 0, none⟩) 1 1 (fun k => some k ≠ v1.ownBlock) (fun k => W.heap.size ≤ k) rfl rfl (HA1.out.below (below_alloc (Below.refl _ _) _)).2.2.2.2.1 (part_row (W := W.drew) HP.out) (fun x cs h => part_lower HA.out.2.2.2.2.2.size h) (fun k hk => ⟨(AllB.fresh HA.out hk).1, (AllB.fresh HA.out hk).2⟩) (fun k hk => (AllB.fresh (HA1.out.below (below_alloc (Below.refl _ _) _)) hk).1) (HA1.out.below (below_alloc (Below.refl _ _) (.cells (partC ((k : Int), 2, s) b1 b2).toArray 75))).2.2.2.2.2.size (by skip; omega) ?_
                        intro u3 w3 hR hg hat
                        obtain ⟨A3, c3, rfl⟩ := Kd.R_slice hR
                        obtain ⟨L3, hL3⟩ : ∃ L, L = ((effP body k) ++ [((k : Int), 2, s)]).length := ⟨_, rfl⟩
                        rw [← hL3] at hR hat ⊢
                        clear hL3
                        obtain ⟨hA3, hK3, q3, f3⟩ := (HA1.out.below (below_alloc (Below.refl _ _) (.cells (partC ((k : Int), 2, s) b1 b2).toArray 75))).add2 hR hg hat
                        have HA3 := Aside0.mk hA3
                        have HK3 := Aside0.mk ((RoundK.below (n0 := w.heap.size) (below_then (Below.refl _ W).drew (below_alloc HBB.out (.cells (partC ((k : Int), 2, s) b1 b2).toArray 75))) HA.out.2.2.2.2.2.size).trans hK3)
                        refine hK _ _ ?_
                        clear hK K hA3 hK3 hR hg hat
                        refine wpAnyIn_ready (rs := [6]) (by kernel_rfl) (by simp) ?_
                        refine AllReadyIn.cons rfl (fun K hK => ?_) ?_
                        · go_simp
                          refine hK _ _ ?_
                          clear hK K
                          refine wpAnyIn_done (by kernel_rfl) ?_ _
                          rw [HQ.out]
                          exact ⟨rfl, _, _, _, _, _, _, _, rfl, HA3.out, HK3.out⟩
                        exact AllReadyIn.nil
                      exact AllReadyIn.nil
                    exact AllReadyIn.nil
                  exact AllReadyIn.nil
                refine AllReadyIn.cons rfl (fun K hK => ?_) ?_
                · go_simp
                  gi_wp2_with (refine ⟨trivial, ?_⟩; gi_at_call 54; refine (CallsIn.inRound l (callsIn_wide.2 (part_calls _ _ _ _))).mono ?_; rintro e W1 ⟨b1, b2, rfl, hpm, hb1⟩; have HA1 := Aside0.mk (HA.out.below hb1); have HP := Aside0.mk hpm; have HBB := Aside0.mk hb1; have q1' : W1.cell? ⟨w.heap.size + 1 + 1, 0, none⟩ = some v2 := blk_cell HA1.out.2.2.1 0; have q1'' : ∀ o, (W1.alloc o).cell? ⟨w.heap.size + 1 + 1, 0, none⟩ = some v2 := fun o => blk_cell (blk_alloc HA1.out.2.2.1 o) 0; clear hpm hb1; simp only [partC])
                  try (refine hK _ _ ?_; clear hK K)
                  refine wpAnyIn_ready (rs := [0, 4]) (by kernel_rfl) (by simp) ?_
                  refine AllReadyIn.cons rfl (fun K hK => ?_) ?_
                  · go_simp
                    refine hK _ _ ?_
                    clear hK K
                    refine wpAnyIn_ready (rs := [4]) (by kernel_rfl) (by simp) ?_
                    refine AllReadyIn.cons rfl (fun K hK => ?_) ?_
                    · go_simp
                      refine hK _ _ ?_
                      clear hK K
                      refine wpAnyIn_ready (rs := [5]) (by kernel_rfl) (by simp) ?_
                      refine AllReadyIn.cons rfl (fun K hK => ?_) ?_
                      · refine step_append_RIn rfl kPart w.heap.size (.tmp 29) (.tmp 33) 66 66 75 75 (.agg #[.int .i64 0, .int .u8 0, .int .u8 0, .bool false, .int .u64 0, .nilFunc]) 40 rfl (by kernel_rfl) (by kernel_rfl) infoP rfl (by decide) (by decide) v2 (effP body k) [((k : Int), 2, s)] (some ⟨W1.heap.size, 0, none⟩) 1 1 (fun k => some k ≠ v1.ownBlock) (fun k => W.heap.size ≤ k) rfl rfl (HA1.out.below (below_alloc (Below.refl _ _) _)).2.2.2.2.1 (part_row (W := W.drew) HP.out) (fun x cs h => part_lower HA.out.2.2.2.2.2.size h) (fun k hk => ⟨(AllB.fresh HA.out hk).1, (AllB.fresh HA.out hk).2⟩) (fun k hk => (AllB.fresh (HA1.out.below (below_alloc (Below.refl _ _) _)) hk).1) (HA1.out.below (below_alloc (Below.refl _ _) (.cells (partC ((k : Int), 2, s) b1 b2).toArray 75))).2.2.2.2.2.size (by skip; omega) ?_
                        intro u3 w3 hR hg hat
                        obtain ⟨A3, c3, rfl⟩ := Kd.R_slice hR
                        obtain ⟨L3, hL3⟩ : ∃ L, L = ((effP body k) ++ [((k : Int), 2, s)]).length := ⟨_, rfl⟩
                        rw [← hL3] at hR hat ⊢
                        clear hL3
                        obtain ⟨hA3, hK3, q3, f3⟩ := (HA1.out.below (below_alloc (Below.refl _ _) (.cells (partC ((k : Int), 2, s) b1 b2).toArray 75))).add2 hR hg hat
                        have HA3 := Aside0.mk hA3
                        have HK3 := Aside0.mk ((RoundK.below (n0 := w.heap.size) (below_then (Below.refl _ W).drew (below_alloc HBB.out (.cells (partC ((k : Int), 2, s) b1 b2).toArray 75))) HA.out.2.2.2.2.2.size).trans hK3)
                        refine hK _ _ ?_
                        clear hK K hA3 hK3 hR hg hat
                        refine wpAnyIn_ready (rs := [6]) (by kernel_rfl) (by simp) ?_
                        refine AllReadyIn.cons rfl (fun K hK => ?_) ?_
                        · go_simp
                          refine hK _ _ ?_
                          clear hK K
                          refine wpAnyIn_done (by kernel_rfl) ?_ _
                          rw [HQ.out]
                          exact ⟨rfl, _, _, _, _, _, _, _, rfl, HA3.out, HK3.out⟩
                        exact AllReadyIn.nil
                      exact AllReadyIn.nil
                    exact AllReadyIn.nil
                  refine AllReadyIn.cons rfl (fun K hK => ?_) ?_
                  · go_simp
                    refine hK _ _ ?_
                    clear hK K
                    refine wpAnyIn_ready (rs := [0]) (by kernel_rfl) (by simp) ?_
                    refine AllReadyIn.cons rfl (fun K hK => ?_) ?_
                    · go_simp
                      refine hK _ _ ?_
                      clear hK K
                      refine wpAnyIn_ready (rs := [5]) (by kernel_rfl) (by simp) ?_
                      refine AllReadyIn.cons rfl (fun K hK => ?_) ?_
                      · refine step_append_RIn rfl kPart w.heap.size (.tmp 29) (.tmp 33) 66 66 75 75 (.agg #[.int .i64 0, .int .u8 0, .int .u8 0, .bool false, .int .u64 0, .nilFunc]) 40 rfl (by kernel_rfl) (by kernel_rfl) infoP rfl (by decide) (by decide) v2 (effP body k) [((k : Int), 2, s)] (some ⟨W1.heap.size, 0, none⟩) 1 1 (fun k => some k ≠ v1.ownBlock) (fun k => W.heap.size ≤ k) rfl rfl (HA1.out.below (below_alloc (Below.refl _ _) _)).2.2.2.2.1 (part_row (W := W.drew) HP.out) (fun x cs h => part_lower HA.out.2.2.2.2.2.size h) (fun k hk => ⟨(AllB.fresh HA.out hk).1, (AllB.fresh HA.out hk).2⟩) (fun k hk => (AllB.fresh (HA1.out.below (below_alloc (Below.refl _ _) _)) hk).1) (HA1.out.below (below_alloc (Below.refl _ _) (.cells (partC ((k : Int), 2, s) b1 b2).toArray 75))).2.2.2.2.2.size (by skip; omega) ?_
                        intro u3 w3 hR hg hat
                        obtain ⟨A3, c3, rfl⟩ := Kd.R_slice hR
                        obtain ⟨L3, hL3⟩ : ∃ L, L = ((effP body k) ++ [((k : Int), 2, s)]).length := ⟨_, rfl⟩
                        rw [← hL3] at hR hat ⊢
                        clear hL3
                        obtain ⟨hA3, hK3, q3, f3⟩ := (HA1.out.below (below_alloc (Below.refl _ _) (.cells (partC ((k : Int), 2, s) b1 b2).toArray 75))).add2 hR hg hat
                        have HA3 := Aside0.mk hA3
                        have HK3 := Aside0.mk ((RoundK.below (n0 := w.heap.size) (below_then (Below.refl _ W).drew (below_alloc HBB.out (.cells (partC ((k : Int), 2, s) b1 b2).toArray 75))) HA.out.2.2.2.2.2.size).trans hK3)
                        refine hK _ _ ?_
                        clear hK K hA3 hK3 hR hg hat
                        refine wpAnyIn_ready (rs := [6]) (by kernel_rfl) (by simp) ?_
                        refine AllReadyIn.cons rfl (fun K hK => ?_) ?_
                        · go_simp
                          refine hK _ _ ?_
                          clear hK K
                          refine wpAnyIn_done (by kernel_rfl) ?_ _
                          rw [HQ.out]
                          exact ⟨rfl, _, _, _, _, _, _, _, rfl, HA3.out, HK3.out⟩
                        exact AllReadyIn.nil
                      exact AllReadyIn.nil
                    exact AllReadyIn.nil
                  exact AllReadyIn.nil
                exact AllReadyIn.nil
              exact AllReadyIn.nil
            exact AllReadyIn.nil
          case k7 =>
            rw [HQ.out]
            rintro e a' W ⟨rfl, t29, t30, t31, t32, t33, t34, v2, rfl, hA7, hK7⟩
            have HK7 := Aside0.mk (RoundK.trans HK6.out hK7)
            have HA7 := Aside0.mk hA7
            clear HQ q2 HA HK6 hA7 hK7
            gi_wp2
            refine ⟨HK7.out.1, HK7.out.2, v1, v2, ?_⟩
            rw [HLN.out, HEN.out, labN, effN, if_pos k5, if_pos k5]
            simpa [partOf] using HA7.out
      · have e5 : (nd.f0 == 5) = false := beq_eq_false_iff_ne.mpr k5
        gi_wp2
        refine ⟨HK4.out.1, HK4.out.2, v1, v2, ?_⟩
        rw [HLN.out, HEN.out, labN, effN, if_neg k5, if_neg k5]
        simpa [partOf] using HA0.out
end Go.Proofs.YtoohandacpalpaaDoor
