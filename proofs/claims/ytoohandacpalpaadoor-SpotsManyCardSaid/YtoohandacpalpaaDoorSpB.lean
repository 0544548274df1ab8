/- The program's spots: in plain Lean; a spot with its function value as a kind of elements; 'turned', 'part', 'part's function value, 'slices.Repeat' of one side. -/
import Derived.Test.YtoohandacpalpaaDoorTyP
import Derived.Test.YtoohandacpalpaaDoorL07C
import Derived.Laws.CopyOwn
import Derived.Laws.EntriesVeiled
import Derived.Deep.RegionLaw
import Derived.StillTailTactics
namespace Go.Proofs.YtoohandacpalpaaDoor
set_option linter.unusedVariables false
set_option linter.unusedSimpArgs false

/-- A side turned. -/
def turnI (s : Int) : Int := if s = 0 then 1 else if s = 1 then 0 else s
/-- The sides of the nodes below one, the first one first. -/
def belowS (n : Node) (s : Int) : List Int := if n.f0 = 5 then (List.replicate n.f3.toNat s).set 0 (turnI s) else if n.f0 = 4 then List.replicate n.f3.toNat 2 else List.replicate n.f3.toNat s
/-- The sides of the nodes, from the sides of those that are missing, the next one first. -/
def sidesL : List Node → List Int → List Int
  | n :: t, s :: st => s :: sidesL t (belowS n s ++ st)
  | _, _ => []
/-- What is missing behind the first k nodes. -/
def leftL : List Node → List Int → List Int
  | n :: t, s :: st => leftL t (belowS n s ++ st)
  | _, st => st
theorem belowS_len (n : Node) (s : Int) : (belowS n s).length = n.f3.toNat := by
  unfold belowS
  split
  · simp
  · split <;> simp
namespace Fo
def sides : Fo → List Int → List Int
  | cons n ks r, s :: ss => s :: (sides ks (belowS n s) ++ sides r ss)
  | _, _ => []
theorem sides_len : ∀ (f : Fo) (ss : List Int), f.fit → ss.length = f.count → (f.sides ss).length = f.flat.length
  | nil, _, _, _ => rfl
  | cons n ks r, [], _, h => by simp [count] at h
  | cons n ks r, s :: ss, ⟨h1, h2, h3, h4, h5⟩, h => by
    have e1 := sides_len ks (belowS n s) h4 (by rw [belowS_len, h2]; rfl)
    have e2 := sides_len r ss h5 (by simpa [count] using h)
    simp [sides, flat, e1, e2]
end Fo
theorem sidesL_fo : ∀ (f : Fo) (ss st : List Int) (r : List Node), f.fit → ss.length = f.count → sidesL (f.flat ++ r) (ss ++ st) = f.sides ss ++ sidesL r st
  | .nil, ss, st, r, _, h => by
    obtain rfl := List.eq_nil_of_length_eq_zero h
    rfl
  | .cons n ks rest, [], st, r, _, h => by simp [Fo.count] at h
  | .cons n ks rest, s :: ss, st, r, ⟨h1, h2, h3, h4, h5⟩, h => by
    have e1 := sidesL_fo ks (belowS n s) (ss ++ st) (rest.flat ++ r) h4 (by rw [belowS_len, h2]; rfl)
    have e2 := sidesL_fo rest ss st r h5 (by simpa [Fo.count] using h)
    rw [Fo.flat, List.cons_append, List.cons_append, sidesL, List.append_assoc, e1, e2, Fo.sides, List.cons_append, List.append_assoc]
theorem leftL_fo : ∀ (f : Fo) (ss st : List Int) (r : List Node), f.fit → ss.length = f.count → leftL (f.flat ++ r) (ss ++ st) = leftL r st
  | .nil, ss, st, r, _, h => by
    obtain rfl := List.eq_nil_of_length_eq_zero h
    rfl
  | .cons n ks rest, [], st, r, _, h => by simp [Fo.count] at h
  | .cons n ks rest, s :: ss, st, r, ⟨h1, h2, h3, h4, h5⟩, h => by
    have e1 := leftL_fo ks (belowS n s) (ss ++ st) (rest.flat ++ r) h4 (by rw [belowS_len, h2]; rfl)
    have e2 := leftL_fo rest ss st r h5 (by simpa [Fo.count] using h)
    rw [Fo.flat, List.cons_append, List.cons_append, leftL, List.append_assoc, e1, e2]
theorem sidesL_nil (l : List Node) : sidesL l [] = [] := by cases l <;> rfl
/-- The sides of a body's nodes. -/
def sidesB (body : List Node) : List Int := sidesL body [0]
theorem sidesB_tree (f : Fo) (hf : f.fit) (hc : f.count = 1) (s : Int) : sidesL f.flat [s] = f.sides [s] := by
  have := sidesL_fo f [s] [] [] hf (by simp [hc])
  simpa [sidesL_nil] using this
theorem sidesB_len {body : List Node} (h : checkB body = 0) (s : Int) : (sidesL body [s]).length = body.length := by
  obtain ⟨f, hf, hc, rfl, _⟩ := body_tree h
  rw [sidesB_tree f hf hc, Fo.sides_len f _ hf (by simp [hc])]
/-- While nodes are left one is missing. -/
theorem leftL_pos : ∀ (l : List Node) (st : List Int) (k : Nat), (sidesL l st).length = l.length → k < l.length → ∃ s r, leftL (l.take k) st = s :: r ∧ (sidesL l st)[k]? = some s
  | [], _, _, _, h => by simp at h
  | n :: t, [], k, h, hk => by simp [sidesL] at h
  | n :: t, s :: st, 0, h, hk => ⟨s, st, rfl, rfl⟩
  | n :: t, s :: st, k + 1, h, hk => by
    simp only [sidesL, List.length_cons] at h hk ⊢
    obtain ⟨s', r, h1, h2⟩ := leftL_pos t (belowS n s ++ st) k (by omega) (by omega)
    exact ⟨s', r, h1, by simpa using h2⟩
theorem leftL_snoc : ∀ (l : List Node) (st : List Int) (n : Node) (s : Int) (r : List Int), leftL l st = s :: r → leftL (l ++ [n]) st = belowS n s ++ r
  | [], st, n, s, r, h => by
    simp only [leftL] at h
    subst h
    simp [leftL]
  | m :: t, [], n, s, r, h => by simp [leftL] at h
  | m :: t, q :: st, n, s, r, h => by
    rw [List.cons_append, leftL]
    exact leftL_snoc t _ n s r h
theorem leftL_len : ∀ (l : List Node) (st : List Int), (∀ n ∈ l, n.f3 ≤ 8) → (leftL l st).length ≤ st.length + 8 * l.length
  | [], st, _ => by simp [leftL]
  | m :: t, [], _ => by simp [leftL]
  | m :: t, q :: st, h => by
    have h1 := leftL_len t (belowS m q ++ st) (fun n hn => h n (List.mem_cons_of_mem _ hn))
    have h2 := h m List.mem_cons_self
    rw [leftL]
    rw [List.length_append, belowS_len] at h1
    simp only [List.length_cons]
    omega
theorem sides_mem : ∀ (l : List Node) (st : List Int), (∀ s ∈ st, 0 ≤ s ∧ s ≤ 2) → ∀ s ∈ sidesL l st, 0 ≤ s ∧ s ≤ 2
  | [], st, _, s, h => by cases st <;> simp [sidesL] at h
  | n :: t, [], _, s, h => by simp [sidesL] at h
  | n :: t, q :: st, hq, s, h => by
    rw [sidesL] at h
    have h0 := hq q List.mem_cons_self
    rcases List.mem_cons.1 h with h | h
    · rw [h]; exact h0
    · refine sides_mem t _ (fun x hx => ?_) s h
      rcases List.mem_append.1 hx with hx | hx
      · unfold belowS at hx
        split at hx
        · rcases List.mem_or_eq_of_mem_set hx with hx | hx
          · rw [List.eq_of_mem_replicate hx]; exact h0
          · rw [hx]; unfold turnI; split <;> (try split) <;> omega
        · split at hx
          · rw [List.eq_of_mem_replicate hx]; omega
          · rw [List.eq_of_mem_replicate hx]; exact h0
      · exact hq x (List.mem_cons_of_mem _ hx)

theorem mem_may : ∀ (l : List Node) (o : List Int), openInv o → checkL l o = 0 → ∀ n ∈ l, mayB n = true
  | [], _, _, _, _, hn => by simp at hn
  | m :: t, o, hi, h, n, hn => by
    obtain ⟨h1, h2, h3, h4, h5, h6⟩ := checkL_cons h
    rcases List.mem_cons.1 hn with rfl | hn
    · exact h2
    · exact mem_may t _ (takes_inv _ o m.f3 (Nat.le_refl _) hi h3 h4 h1).1 h6 n hn
theorem check_may {body : List Node} (h : checkB body = 0) : ∀ n ∈ body, mayB n = true := mem_may body [1] openInv_one (checkB_L h).2.2
theorem may_ref {n : Node} (h : mayB n = true) (hk : n.f0 = 4) : n.f3 = 1 := by
  simp only [mayB, mayV, hk] at h
  simp_all
theorem may_fun {n : Node} (h : mayB n = true) (hk : n.f0 = 5) : n.f3 = 2 := by
  simp only [mayB, mayV, hk] at h
  simp_all

/-! ### spots -/
/-- The spots of labels of one node. -/
def labN (i : Nat) (n : Node) (s : Int) : List Spot := ⟨i, 0, s, n.f4⟩ :: (if n.f0 = 5 then [⟨i, 1, turnI s, n.f5⟩] else [])
/-- The spots of effects of one node. -/
def effN (i : Nat) (n : Node) (s : Int) : List Spot := if n.f0 = 5 then [⟨i, 2, s, n.f6⟩] else []
def labL : Nat → List Node → List Int → List Spot
  | i, n :: t, s :: ss => labN i n s ++ labL (i + 1) t ss
  | _, _, _ => []
def effL : Nat → List Node → List Int → List Spot
  | i, n :: t, s :: ss => effN i n s ++ effL (i + 1) t ss
  | _, _, _ => []
/-- The spots of a body: labels, effects. -/
def labB (body : List Node) : List Spot := if checkB body = 0 then labL 0 body (sidesB body) else []
def effB (body : List Node) : List Spot := if checkB body = 0 then effL 0 body (sidesB body) else []
theorem labN_len (i : Nat) (n : Node) (s : Int) : (labN i n s).length ≤ 2 := by unfold labN; split <;> simp
theorem effN_len (i : Nat) (n : Node) (s : Int) : (effN i n s).length ≤ 1 := by unfold effN; split <;> simp
theorem labL_len : ∀ (i : Nat) (l : List Node) (ss : List Int), (labL i l ss).length ≤ 2 * l.length
  | i, [], ss => by cases ss <;> simp [labL]
  | i, n :: t, [] => by simp [labL]
  | i, n :: t, s :: ss => by
    have := labL_len (i + 1) t ss
    have := labN_len i n s
    rw [labL, List.length_append, List.length_cons]
    omega
theorem effL_len : ∀ (i : Nat) (l : List Node) (ss : List Int), (effL i l ss).length ≤ l.length
  | i, [], ss => by cases ss <;> simp [effL]
  | i, n :: t, [] => by simp [effL]
  | i, n :: t, s :: ss => by
    have := effL_len (i + 1) t ss
    have := effN_len i n s
    rw [effL, List.length_append, List.length_cons]
    omega
theorem labL_snoc : ∀ (i : Nat) (l : List Node) (ss : List Int) (n : Node) (s : Int), ss.length = l.length → labL i (l ++ [n]) (ss ++ [s]) = labL i l ss ++ labN (i + l.length) n s
  | i, [], [], n, s, _ => by simp [labL]
  | i, [], _ :: _, n, s, h => by simp at h
  | i, m :: t, [], n, s, h => by simp at h
  | i, m :: t, q :: ss, n, s, h => by
    rw [List.cons_append, List.cons_append, labL, labL, labL_snoc (i + 1) t ss n s (by simpa using h), List.append_assoc, List.length_cons, show i + 1 + t.length = i + (t.length + 1) by omega]
theorem effL_snoc : ∀ (i : Nat) (l : List Node) (ss : List Int) (n : Node) (s : Int), ss.length = l.length → effL i (l ++ [n]) (ss ++ [s]) = effL i l ss ++ effN (i + l.length) n s
  | i, [], [], n, s, _ => by simp [effL]
  | i, [], _ :: _, n, s, h => by simp at h
  | i, m :: t, [], n, s, h => by simp at h
  | i, m :: t, q :: ss, n, s, h => by
    rw [List.cons_append, List.cons_append, effL, effL, effL_snoc (i + 1) t ss n s (by simpa using h), List.append_assoc, List.length_cons, show i + 1 + t.length = i + (t.length + 1) by omega]
end Go.Proofs.YtoohandacpalpaaDoor
namespace Go.Proofs.YtoohandacpalpaaDoor
open Go.RowKit Go.Shelf Go.Proofs.YtoohandacpalpaaDoorW.PrintWords Go.Proofs.YtoohandacpalpaaDoorW.PrintLast Go.Proofs.YtoohandacpalpaaDoorW.PrintMore
set_option linter.unusedVariables false
set_option linter.unusedSimpArgs false
def partC (x : Int × Int × Int) (b1 b2 : Nat) : List Value := [.int .i64 x.1, .int .u8 x.2.1, .int .u8 x.2.2, .bool false, .int .u64 0, .func (.func 63) #[] #[.pointer (some ⟨b1, 0, none⟩), .pointer (some ⟨b2, 0, none⟩)]]
def PartK (w : World) (x : Int × Int × Int) (cs : List Value) : Prop := ∃ b1 b2, cs = partC x b1 b2 ∧ b1 < w.heap.size ∧ b2 < w.heap.size ∧ w.cell? ⟨b1, 0, none⟩ = some (.int .i64 x.1) ∧ w.cell? ⟨b2, 0, none⟩ = some (.int .u8 x.2.1)
def PartM (w : World) (base : Nat) (ok : Nat → Prop) (x : Int × Int × Int) (cs : List Value) : Prop := ∃ b1 b2, cs = partC x b1 b2 ∧ ok b1 ∧ ok b2 ∧ base ≤ b1 ∧ base ≤ b2 ∧ w.heap[b1]? = some (.cells #[.int .i64 x.1] 3 (0, 0)) ∧ w.heap[b2]? = some (.cells #[.int .u8 x.2.1] 47 (0, 0))
/-- A place, a part, a side; and a function value that holds the boxes of the place and the part. -/
def kPart : Kd (Int × Int × Int) where
  sz := 6
  E := [3, 47]
  K := PartK
  M := PartM
  K_len := by rintro w x cs ⟨b1, b2, rfl, _⟩; rfl
  K_one := by
    rintro w x cs ⟨b1, b2, rfl, _⟩ u hu
    simp only [partC, List.mem_cons, List.not_mem_nil, or_false] at hu
    rcases hu with rfl | rfl | rfl | rfl | rfl | rfl <;> rfl
  K_below := by
    rintro w w1 x cs hb ⟨b1, b2, rfl, l1, l2, c1, c2⟩
    exact ⟨b1, b2, rfl, Nat.lt_of_lt_of_le l1 hb.size, Nat.lt_of_lt_of_le l2 hb.size, (hb.cell (p := ⟨b1, 0, none⟩) l1).trans c1, (hb.cell (p := ⟨b2, 0, none⟩) l2).trans c2⟩
  K_of_M := by
    rintro w base ok x cs ⟨b1, b2, rfl, _, _, _, _, h1, h2⟩
    exact ⟨b1, b2, rfl, blk_lt h1, blk_lt h2, blk_cell h1 0, blk_cell h2 0⟩
  M_mono := by
    rintro w base ok ok' x cs hok ⟨b1, b2, rfl, h1, h2, h3⟩
    exact ⟨b1, b2, rfl, hok _ h1, hok _ h2, h3⟩
  M_bound := by
    rintro w base ok x cs ⟨b1, b2, rfl, o1, o2, l1, l2, h1, h2⟩
    exact ⟨b1, b2, rfl, ⟨o1, l1, blk_lt h1, _, List.mem_cons_self, _, h1⟩, ⟨o2, l2, blk_lt h2, _, List.mem_cons_of_mem _ List.mem_cons_self, _, h2⟩, l1, l2, h1, h2⟩
  M_move := by
    rintro w w1 base ok x cs hm ⟨b1, b2, rfl, o1, o2, l1, l2, h1, h2⟩
    exact ⟨b1, b2, rfl, o1, o2, l1, l2, (hm _ o1).trans h1, (hm _ o2).trans h2⟩
  M_lower := by
    rintro w base base' ok x cs hb ⟨b1, b2, rfl, o1, o2, l1, l2, h⟩
    exact ⟨b1, b2, rfl, o1, o2, Nat.le_trans hb l1, Nat.le_trans hb l2, h⟩
theorem infoP : (Tryd.prog.info? 75).map (fun i => (i.zero, i.size, i.bytes)) = some (some (.agg #[.int .i64 0, .int .u8 0, .int .u8 0, .bool false, .int .u64 0, .nilFunc]), 6, 40) := by kernel_rfl
theorem turned_calls (w : World) (s : Int) : Calls Tryd.prog 55 #[.int .u8 s] w fun e w' => e = .returned (.int .u8 (turnI s)) ∧ w = w' := by
  obtain ⟨q, hq⟩ : ∃ q, q = turnI s := ⟨_, rfl⟩
  rw [← hq]
  unfold turnI at hq
  by_cases h0 : s = 0
  · rw [if_pos h0] at hq
    subst h0 hq
    go_enter Tryd.func55, Tryd.ntmps55
    go_wp2
    go_ret
    exact ⟨rfl, rfl⟩
  · have z0 : (s == 0) = false := beq_eq_false_iff_ne.mpr h0
    rw [if_neg h0] at hq
    by_cases h1 : s = 1
    · rw [if_pos h1] at hq
      subst h1 hq
      go_enter Tryd.func55, Tryd.ntmps55
      go_wp2
      go_ret
      exact ⟨rfl, rfl⟩
    · have z1 : (s == 1) = false := beq_eq_false_iff_ne.mpr h1
      rw [if_neg h1] at hq
      subst hq
      clear h0 h1
      go_enter Tryd.func55, Tryd.ntmps55
      go_wp2
      go_ret
      exact ⟨rfl, rfl⟩
set_option maxRecDepth 100000 in
set_option maxHeartbeats 1000000 in
theorem part_calls (w : World) (at_ p s : Int) : Calls Tryd.prog 54 #[.int .i64 at_, .int .u8 p, .int .u8 s] w fun e w' => ∃ b1 b2, e = .returned (.agg (partC (at_, p, s) b1 b2).toArray) ∧ PartM w' w.heap.size (fun _ => True) (at_, p, s) (partC (at_, p, s) b1 b2) ∧ Below w.heap.size w w' := by
  go_enter Tryd.func54, Tryd.ntmps54
  go_wp2
  have h1 := blk_new w (.cells #[.int .i64 at_] 3)
  have h2 := blk_new (w.alloc (.cells #[.int .i64 at_] 3)) (.cells #[.int .u8 p] 47)
  have h3 := blk_new ((w.alloc (.cells #[.int .i64 at_] 3)).alloc (.cells #[.int .u8 p] 47)) (.cells (partC (at_, p, s) w.heap.size (w.heap.size + 1)).toArray 75)
  simp only [World.size_alloc] at h2 h3
  refine bodyPost_ret (results_cell_row rfl _ _ _ _ _ _ _ rfl h3 Tryd.underlying75 rfl (by kernel_rfl)) rfl ?_
  exact ⟨w.heap.size, w.heap.size + 1, rfl, ⟨_, _, rfl, trivial, trivial, Nat.le_refl _, Nat.le_succ _, blk_alloc (blk_alloc h1 _) _, blk_alloc h2 _⟩, by repeat (first | exact Below.refl _ _ | apply below_alloc)⟩
/-- Where a part's term stands in a node. -/
def partOff (p : Int) : Nat := if p = 0 then 4 else if p = 1 then 6 else 8
set_option maxRecDepth 100000 in
set_option maxHeartbeats 1000000 in
theorem part1_calls (w : World) (ad : Addr) (n c k : Nat) (p : Int) (b1 b2 : Nat) (hk : k < n) (h1 : w.cell? ⟨b1, 0, none⟩ = some (.int .i64 (k : Int))) (h2 : w.cell? ⟨b2, 0, none⟩ = some (.int .u8 p)) :
    Calls Tryd.prog 63 #[.slice (some ad) n c, .pointer (some ⟨b1, 0, none⟩), .pointer (some ⟨b2, 0, none⟩)] w fun e w' => e = .returned (.pointer (some ⟨(ad.add (k * 10)).block, (ad.add (k * 10)).off + partOff p, none⟩)) ∧ w = w' := by
  by_cases p0 : p = 0
  · subst p0
    go_enter Tryd.func63, Tryd.ntmps63
    go_wp2
    go_ret
    exact ⟨rfl, rfl⟩
  · have z0 : (p == 0) = false := beq_eq_false_iff_ne.mpr p0
    by_cases p1 : p = 1
    · subst p1
      clear p0
      go_enter Tryd.func63, Tryd.ntmps63
      go_wp2
      go_ret
      exact ⟨rfl, rfl⟩
    · have z1 : (p == 1) = false := beq_eq_false_iff_ne.mpr p1
      have e : partOff p = 8 := by unfold partOff; rw [if_neg p0, if_neg p1]
      rw [e]
      clear p0 p1
      go_enter Tryd.func63, Tryd.ntmps63
      go_wp2
      go_ret
      exact ⟨rfl, rfl⟩
theorem mul64_calls (w : World) (n : Nat) (hn : n ≤ 8) : Calls Tryd.prog 81 #[.int .u64 1, .int .u64 (n : Int)] w fun e w' => e = .returned (.tuple #[.int .u64 0, .int .u64 (n : Int)]) ∧ w = w' := by
  obtain rfl | rfl | rfl | rfl | rfl | rfl | rfl | rfl | rfl : n = 0 ∨ n = 1 ∨ n = 2 ∨ n = 3 ∨ n = 4 ∨ n = 5 ∨ n = 6 ∨ n = 7 ∨ n = 8 := by omega
  all_goals
    go_enter Tryd.func81, Tryd.ntmps81
    go_wp2
    go_ret2
    exact ⟨rfl, rfl⟩
theorem mul_calls (w : World) (n : Nat) (hn : n ≤ 8) : Calls Tryd.prog 74 #[.int .u64 1, .int .u64 (n : Int)] w fun e w' => e = .returned (.tuple #[.int .u64 0, .int .u64 (n : Int)]) ∧ w = w' := by
  have C := Aside0.mk (mul64_calls w n hn)
  clear hn
  go_enter Tryd.func74, Tryd.ntmps74
  go_wp2_with (go_at_call 81; (with_reducible refine C.out.mono ?_); rintro e w1 ⟨rfl, rfl⟩)
  go_ret2
  exact ⟨rfl, rfl⟩
end Go.Proofs.YtoohandacpalpaaDoor
namespace Go.Proofs.YtoohandacpalpaaDoor
open Go.RowKit Go.Shelf Go.Proofs.YtoohandacpalpaaDoorW.PrintWords Go.Proofs.YtoohandacpalpaaDoorW.PrintLast Go.Proofs.YtoohandacpalpaaDoorW.PrintMore
set_option linter.unusedVariables false
set_option linter.unusedSimpArgs false
def repL (s : Int) (k n : Nat) : List Value := List.replicate k (.int .u8 s) ++ List.replicate (n - k) (.int .u8 0)
theorem repL_len (s : Int) (k n : Nat) (h : k ≤ n) : (repL s k n).length = n := by simp [repL]; omega
theorem repL_splice (s : Int) (k m n : Nat) (h : k + m ≤ n) : splice (repL s k n) k (List.replicate m (.int .u8 s)) = repL s (k + m) n := by
  unfold splice repL
  have e1 : (List.replicate k (Value.int .u8 s) ++ List.replicate (n - k) (Value.int .u8 0)).take k = List.replicate k (Value.int .u8 s) := by
    rw [List.take_append_of_le_length (by simp), List.take_of_length_le (by simp)]
  have e2 : (List.replicate k (Value.int .u8 s) ++ List.replicate (n - k) (Value.int .u8 0)).drop (k + m) = List.replicate (n - (k + m)) (Value.int .u8 0) := by
    rw [List.drop_append, List.drop_eq_nil_of_le (by simp), List.nil_append, List.length_replicate, List.drop_replicate]
    congr 1
    omega
  rw [e1, List.length_replicate, e2, ← List.append_assoc, List.replicate_append_replicate]
theorem repL_zero (s : Int) (n : Nat) : (repL s 0 n).toArray = Array.replicate n (.int .u8 0) := by
  simp [repL]
theorem repL_all (s : Int) (n : Nat) : repL s n n = List.replicate n (.int .u8 s) := by simp [repL]
theorem repL_get (s : Int) (k n j : Nat) (h : j < k) : (repL s k n)[j]? = some (.int .u8 s) := by
  unfold repL
  rw [List.getElem?_append_left (by simpa using h)]
  simp [h]
theorem wpList_make1 {P : Program} {W : World} {ops : Array Oper} {rest : List Oper} {o : Oper} {a : Act} {Q : Exit → Act → World → Prop} (hgd : o.guard = none) (e : Nat) (t : TypeId) (x y : Operand) (ho : o.op = .makeSlice t x y) (n : Nat) (hx : a.eval x = .int .i64 (n : Int)) (hy : a.eval y = .int .i64 (n : Int))
    (ht : P.underlying t = some (.slice e)) (z : Value) (bytes : Nat) (hinfo : (P.info? e).map (fun i => (i.zero, i.size, i.bytes)) = some (some z, 1, bytes)) (hz : z.cells = #[z]) (hb0 : 0 < bytes) (hl : n * bytes ≤ 281474976710656)
    (h : wpList P ops Q rest (a.put o.dst (.slice (some ⟨W.heap.size, 0, none⟩) n n)) (W.alloc (.cells (Array.replicate n z) e))) : wpList P ops Q (o :: rest) a W := by
  obtain ⟨i0, hi, hzz⟩ := Option.map_eq_some_iff.1 hinfo
  simp only [Prod.mk.injEq] at hzz
  obtain ⟨hz0, hz1, hz2⟩ := hzz
  have hc : n ≤ 281474976710656 := Nat.le_trans (Nat.le_mul_of_pos_right _ hb0) hl
  have hr := run_make (P := P) W t e i0 z ht hi hz0 .i64 .i64 (n : Int) (n : Int) (by omega) (by omega) (by rw [hz2, ← Int.natCast_mul, Nat.mul_comm]; omega) (by omega)
  rw [hz1, hz] at hr
  have e2 : madeCells #[z] ((n : Int).toNat * 1) = Array.replicate n z := by
    rw [Int.toNat_natCast, Nat.mul_one]
    apply Array.ext
    · simp [madeCells]
    · intro i h1 h2
      simp [madeCells, Nat.mod_one]
  rw [e2, Int.toNat_natCast] at hr
  refine Kd.event_run hgd (v := .slice (some ⟨W.heap.size, 0, none⟩) n n) (w1 := W.alloc (.cells (Array.replicate n z) e)) ?_ h
  simp [execOp, ho, hx, hy, hr]
theorem add_zero (ad : Addr) : ad.add 0 = ad := by
  unfold Addr.add
  split <;> simp_all
theorem copy_one (w : World) (s : Int) (n : Nat) (ad : Addr) (hx : w.cell? ad = some (.int .u8 s)) (hb : ad.block < w.heap.size) (o : Obj) (g : Nat) :
    0 < (List.replicate (min 1 n) (Value.int .u8 s)).length → (some ⟨g, 0, none⟩ : Option Addr) = some ⟨g, 0, none⟩ ∧ ∃ ad', some ad = some ad' ∧ ∀ j v, (List.replicate (min 1 n) (Value.int .u8 s))[j]? = some v → (w.alloc o).cell? (ad'.add j) = some v := by
  refine fun _ => ⟨rfl, ad, rfl, fun j v hj => ?_⟩
  have h1 := (List.getElem?_eq_some_iff.1 hj).1
  simp only [List.length_replicate] at h1
  obtain rfl : j = 0 := by omega
  rw [List.getElem?_replicate, if_pos h1] at hj
  cases hj
  rw [add_zero]
  exact ((below_alloc (Below.refl w.heap.size w) o).cell (p := ad) hb).trans hx
theorem copy_more (W : World) (s : Int) (k n g : Nat) (hk : 0 < k) (hg : W.heap[g]? = some (.cells (repL s k n).toArray 48 (0, 0))) :
    0 < (List.replicate (min k (n - k)) (Value.int .u8 s)).length → (some ⟨g, k, none⟩ : Option Addr) = some ⟨g, k, none⟩ ∧ ∃ ad', (some ⟨g, 0, none⟩ : Option Addr) = some ad' ∧ ∀ j v, (List.replicate (min k (n - k)) (Value.int .u8 s))[j]? = some v → W.cell? (ad'.add j) = some v := by
  refine fun _ => ⟨rfl, ⟨g, 0, none⟩, rfl, fun j v hj => ?_⟩
  have h1 := (List.getElem?_eq_some_iff.1 hj).1
  simp only [List.length_replicate] at h1
  rw [List.getElem?_replicate, if_pos h1] at hj
  cases hj
  rw [add_plain, blk_cell hg]
  have := repL_get s k n (0 + j) (by omega)
  simpa using this
theorem repl_one {n : Nat} {s : Int} : ∀ v ∈ List.replicate n (Value.int .u8 s), v.oneCell' = true := fun v hv => by rw [List.eq_of_mem_replicate hv]; rfl
theorem infoS : (Tryd.prog.info? 48).map (fun i => (i.zero, i.size, i.bytes)) = some (some (.int .u8 0), 1, 1) := by kernel_rfl
set_option maxRecDepth 100000 in
set_option maxHeartbeats 1000000 in
theorem repeat_calls (w : World) (s : Int) (n : Nat) (hn : n ≤ 8) (ad : Addr) (c : Nat) (hx : w.cell? ad = some (.int .u8 s)) (hb : ad.block < w.heap.size) :
    Calls Tryd.prog 62 #[.slice (some ad) 1 c, .int .i64 (n : Int)] w fun e w' => e = .returned (.slice (some ⟨w.heap.size, 0, none⟩) n n) ∧ w'.heap[w.heap.size]? = some (.cells (List.replicate n (Value.int .u8 s)).toArray 48 (0, 0)) ∧ Below w.heap.size w w' := by
  have z0 : decide ((n : Int) < 0) = false := decide_eq_false (by omega)
  have C := Aside0.mk (mul_calls w n hn)
  have HX := Aside0.mk hx
  have HL := Aside0.mk hb
  clear hx hb
  go_enter Tryd.func62, Tryd.ntmps62
  go_wp2_with (first
    | (go_at_call 74; (with_reducible refine C.out.mono ?_); rintro e w1 ⟨rfl, rfl⟩)
    | (at_make; refine wpList_make1 rfl 48 71 _ _ rfl n rfl rfl (by kernel_rfl) (.int .u8 0) 1 infoS rfl (by decide) (by omega) ?_; have HG : Aside0 ((w.alloc (.cells (Array.replicate n (.int .u8 0)) 48)).heap[w.heap.size]? = some (.cells (repL s 0 n).toArray 48 (0, 0))) := ⟨(by rw [repL_zero]; exact blk_new w _)⟩)
    | (refine wpList_copy_splice rfl (.tmp 31) (.tmp 32) 71 71 rfl 48 (by kernel_rfl) (by kernel_rfl) _ _ n n 1 c rfl rfl w.heap.size 0 (repL s 0 n) 48 HG.out (List.replicate (min 1 n) (.int .u8 s)) (by simp) (copy_one w s n ad HX.out HL.out _ _) (by rw [repL_len _ _ _ (Nat.zero_le _)]; simp; omega) repl_one w.heap.size w (below_alloc (Below.refl _ _) _) (Nat.le_refl _) ?_; intro w2 hw2 hb2; rw [repL_splice _ _ _ _ (by omega), Nat.zero_add] at hw2; have HG2 : Aside0 (w2.heap[w.heap.size]? = some (.cells (repL s (min 1 n) n).toArray 48 (0, 0))) := ⟨hw2⟩; have HB := Aside0.mk hb2; clear hw2 hb2 HG))
  go_loopg [8] 10 (fun g i W => ∃ k : Nat, i = .int .i64 (k : Int) ∧ k ≤ n ∧ n - k + 1 ≤ g ∧ Aside0 (n ≠ 0 → 0 < k) ∧ Aside0 (W.heap[w.heap.size]? = some (.cells (repL s k n).toArray 48 (0, 0))) ∧ Aside0 (Below w.heap.size w W))
  case atStart => exact ⟨min 1 n, rfl, by omega, by omega, ⟨by omega⟩, HG2, HB⟩
  case round =>
    clear HG2 HB
    obtain ⟨k, rfl, hkn, hkg, HK, HG, HB⟩ := hrel
    rcases Nat.lt_or_ge k n with hlt | hge
    · have hd : decide (k < n) = true := decide_eq_true hlt
      have hne : ¬ n = k := by omega
      have HB2 : Aside0 (Below w.heap.size w wr.drew) := ⟨HB.out.drew⟩
      have HKp := HK.out (by omega)
      go_wp2
      go_region_law (refine step_copy_splice rfl (.tmp 41) (.tmp 44) 71 71 rfl 48 (by kernel_rfl) (by kernel_rfl) (some ⟨w.heap.size, k, none⟩) (some ⟨w.heap.size, 0, none⟩) (n - k) (n - k) k n (by simp [Act.eval, Act.put]) (by simp [Act.eval, Act.put]) w.heap.size k (repL s k n) 48 HG.out (List.replicate (min k (n - k)) (.int .u8 s)) (by simp) (copy_more wr.drew s k n w.heap.size HKp HG.out) (by rw [repL_len _ _ _ hkn]; simp; omega) repl_one w.heap.size w HB2.out (Nat.le_refl _) ?_; intro w2 hw2 hb2; rw [repL_splice _ _ _ _ (by omega)] at hw2; have HG2 : Aside0 (w2.heap[w.heap.size]? = some (.cells (repL s (k + min k (n - k)) n).toArray 48 (0, 0))) := ⟨hw2⟩; have HB3 := Aside0.mk hb2; clear hw2 hb2)
      have hw : IntKind.i64.wrap ((k : Int) + ((min k (n - k) : Nat) : Int)) = ((k + min k (n - k) : Nat) : Int) := by rw [IntWalk.i64_in _ (by omega)]; omega
      rw [hw]
      clear HG HB HB2
      go_wp2
      go_roundg (gk - 1)
      case measure => omega
      case rel => exact ⟨k + min k (n - k), rfl, by omega, by omega, ⟨by omega⟩, HG2, HB3⟩
    · have hd : decide (k < n) = false := decide_eq_false (by omega)
      obtain rfl : k = n := by omega
      go_wp2
      go_ret
      exact ⟨rfl, by rw [← repL_all]; exact HG.out, HB.out⟩
end Go.Proofs.YtoohandacpalpaaDoor
