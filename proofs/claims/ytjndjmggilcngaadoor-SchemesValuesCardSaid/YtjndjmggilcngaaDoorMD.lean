/- Several texts as one: GrB, GrC, GrD, GrE, GrF, GrT, GrG. -/
import Derived.Test.YtjndjmggilcngaaDoorME
import Derived.Test.YtjndjmggilcngaaDoorMC
import Derived.Test.YtjndjmggilcngaaDoorMB
import Derived.RangeFuncNested
import Derived.RangeFuncCalls
import Derived.RangeFuncLeaves
import Derived.Shelf.Abstract
import Derived.Shelf.RegionOpen
import Derived.WalkKit
import Derived.OwnWalkIn
import Derived.TacticsInMore
import Derived.LoopNIn
import Derived.LoopIn
import Derived.Stop.RegionWithIn
import Derived.Test.YtjndjmggilcngaaDoorMO

namespace Go.Proofs.YtjndjmggilcngaaDoor
open Go.RowKit Go.Shelf Go.Proofs.YtjndjmggilcngaaDoorW.PrintWords Go.Proofs.YtjndjmggilcngaaDoorW.PrintLast Go.Proofs.YtjndjmggilcngaaDoorW.PrintMore
set_option linter.unusedVariables false
set_option linter.unusedSimpArgs false
/-- The values that stand at the same spots, by a way of the sides. -/
def holdsS (le : Int → Int → Bool) (s p q : Int) : Bool := if s = 0 then le p q else if s = 1 then le q p else le p q && le q p
def belowL (le : Int → Int → Bool) : List Spot → List Spot → Bool
  | x :: xs, y :: ys => holdsS le x.f2 x.f3.f1 y.f3.f1 && belowL le xs ys
  | _, _ => true
/-- Are all terms values of a sort? -/
def termsB (has : Int → Bool) (l : List Spot) : Bool := l.all fun x => !x.f3.f0 && has x.f3.f1
/-- What grounds.Below answers. -/
def groundB (hasL hasX : Int → Bool) (leL leX : Int → Int → Bool) (a b : List Node) : Bool × Int :=
  if checkB a ≠ 0 ∨ checkB b ≠ 0 then (false, 4)
  else if (termsB hasL (labB a) && termsB hasX (effB a) && termsB hasL (labB b) && termsB hasX (effB b)) = false then (false, 1)
  else if sameL a b = false then (false, 0)
  else (belowL leL (labB a) (labB b) && belowL leX (effB a) (effB b), 0)
end Go.Proofs.YtjndjmggilcngaaDoor

namespace Go.Proofs.YtjndjmggilcngaaDoor
open Go.RowKit Go.Proofs.YtjndjmggilcngaaDoorW.PrintWords Go.Proofs.YtjndjmggilcngaaDoorW.PrintLast Go.Proofs.YtjndjmggilcngaaDoorW.PrintMore
set_option linter.unusedVariables false
set_option linter.unusedSimpArgs false
theorem hasLb_calls (w : World) (v : Value) (o : Option (List Int)) (a : Int) (ha : 0 ≤ a) (hv : LatV w v o) :
    Calls Tryd.prog 151 #[v, .int .u64 a] w fun e w' => e = .returned (.bool (hasLat o a)) ∧ Below w.heap.size w w' := by
  refine (has_calls w v o a ha hv).mono ?_
  rintro e w' ⟨rfl, rfl⟩
  exact ⟨rfl, Below.refl _ _⟩
theorem mHasL (k : Nat) (v : Value) (w : World) : (method (k + 1) 60 v "Has").run Tryd.prog w = .ok (151, v) w := by kernel_rfl
theorem mHasE (k : Nat) (v : Value) (w : World) : (method (k + 1) 63 v "Has").run Tryd.prog w = .ok (157, v) w := by kernel_rfl
end Go.Proofs.YtjndjmggilcngaaDoor

namespace Go.Proofs.YtjndjmggilcngaaDoor
open Go.RowKit Go.Proofs.YtjndjmggilcngaaDoorW.PrintWords Go.Proofs.YtjndjmggilcngaaDoorW.PrintLast Go.Proofs.YtjndjmggilcngaaDoorW.PrintMore
set_option linter.unusedVariables false
set_option linter.unusedSimpArgs false
end Go.Proofs.YtjndjmggilcngaaDoor

namespace Go.Proofs.YtjndjmggilcngaaDoor
open Go.RowKit Go.Proofs.YtjndjmggilcngaaDoorW.PrintWords Go.Proofs.YtjndjmggilcngaaDoorW.PrintLast Go.Proofs.YtjndjmggilcngaaDoorW.PrintMore
set_option linter.unusedVariables false
set_option linter.unusedSimpArgs false
attribute [local go_sem] Oper.semAt_some
/-- Two terms, and the way in which they are held against one another: up, down, or both. -/
abbrev Pr := Nat × Nat × Option Bool
def wayOf (s : Int) : Option Bool := if s = 0 then some true else if s = 1 then some false else none
def prOf (x y : Spot) : Pr := (x.f3.f1.toNat, y.f3.f1.toNat, wayOf x.f2)
def prsOf (la lb : List Spot) : List Pr := List.zipWith prOf la lb
def U8s (l : List Spot) : Prop := ∀ x ∈ l, 0 ≤ x.f3.f1 ∧ 0 ≤ x.f2 ∧ x.f2 < 256
end Go.Proofs.YtjndjmggilcngaaDoor

namespace Go.Proofs.YtjndjmggilcngaaDoor
open Go.RowKit Go.Proofs.YtjndjmggilcngaaDoorW.PrintWords Go.Proofs.YtjndjmggilcngaaDoorW.PrintLast Go.Proofs.YtjndjmggilcngaaDoorW.PrintMore
set_option linter.unusedVariables false
set_option linter.unusedSimpArgs false
attribute [local go_sem] Oper.semAt_some
def okPL (o : Option (List Int)) (p : Pr) : Bool := match p.2.2 with
  | some true => leLat o (p.1 : Int) (p.2.1 : Int)
  | some false => leLat o (p.2.1 : Int) (p.1 : Int)
  | none => leLat o (p.1 : Int) (p.2.1 : Int) && leLat o (p.2.1 : Int) (p.1 : Int)
theorem belowL_allL (o : Option (List Int)) : ∀ la lb : List Spot, U8s la → U8s lb → belowL (leLat o) la lb = (prsOf la lb).all (okPL o)
  | [], lb, _, _ => rfl
  | _ :: _, [], _, _ => rfl
  | x :: xs, y :: ys, ha, hb => by
    have h1 : ((x.f3.f1.toNat : Nat) : Int) = x.f3.f1 := Int.toNat_of_nonneg (ha x List.mem_cons_self).1
    have h2 : ((y.f3.f1.toNat : Nat) : Int) = y.f3.f1 := Int.toNat_of_nonneg (hb y List.mem_cons_self).1
    have ih := belowL_allL o xs ys (fun z hz => ha z (List.mem_cons_of_mem _ hz)) (fun z hz => hb z (List.mem_cons_of_mem _ hz))
    have e : prsOf (x :: xs) (y :: ys) = prOf x y :: prsOf xs ys := rfl
    rw [belowL, e, List.all_cons, ← ih]
    congr 1
    simp only [okPL, prOf, wayOf, h1, h2, holdsS]
    by_cases h0 : x.f2 = 0
    · simp [h0]
    · by_cases h3 : x.f2 = 1
      · simp [h3]
      · simp [h0, h3]
def okPE (o : Option Int) (p : Pr) : Bool := match p.2.2 with
  | some true => leEff o (p.1 : Int) (p.2.1 : Int)
  | some false => leEff o (p.2.1 : Int) (p.1 : Int)
  | none => leEff o (p.1 : Int) (p.2.1 : Int) && leEff o (p.2.1 : Int) (p.1 : Int)
theorem belowL_allE (o : Option Int) : ∀ la lb : List Spot, U8s la → U8s lb → belowL (leEff o) la lb = (prsOf la lb).all (okPE o)
  | [], lb, _, _ => rfl
  | _ :: _, [], _, _ => rfl
  | x :: xs, y :: ys, ha, hb => by
    have h1 : ((x.f3.f1.toNat : Nat) : Int) = x.f3.f1 := Int.toNat_of_nonneg (ha x List.mem_cons_self).1
    have h2 : ((y.f3.f1.toNat : Nat) : Int) = y.f3.f1 := Int.toNat_of_nonneg (hb y List.mem_cons_self).1
    have ih := belowL_allE o xs ys (fun z hz => ha z (List.mem_cons_of_mem _ hz)) (fun z hz => hb z (List.mem_cons_of_mem _ hz))
    have e : prsOf (x :: xs) (y :: ys) = prOf x y :: prsOf xs ys := rfl
    rw [belowL, e, List.all_cons, ← ih]
    congr 1
    simp only [okPE, prOf, wayOf, h1, h2, holdsS]
    by_cases h0 : x.f2 = 0
    · simp [h0]
    · by_cases h3 : x.f2 = 1
      · simp [h3]
      · simp [h0, h3]
end Go.Proofs.YtjndjmggilcngaaDoor

namespace Go.Proofs.YtjndjmggilcngaaDoor
open Go.RowKit Go.Proofs.YtjndjmggilcngaaDoorW.PrintWords Go.Proofs.YtjndjmggilcngaaDoorW.PrintLast Go.Proofs.YtjndjmggilcngaaDoorW.PrintMore
set_option linter.unusedVariables false
set_option linter.unusedSimpArgs false
/-- A value of a sort: a word of 64 bits. -/
def DU (a : Int) : Prop := 0 ≤ a ∧ a < 2 ^ 64
/-- What is asked of a sort. -/
structure SortOk (has : Int → Bool) (le : Int → Int → Bool) : Prop where
  refl : ∀ a, DU a → has a = true → le a a = true
  trans : ∀ a b c, DU a → DU b → DU c → le a b = true → le b c = true → le a c = true
  anti : ∀ a b, DU a → DU b → le a b = true → le b a = true → a = b
/-! ### spots: whose they are -/
theorem labL_all : ∀ (i : Nat) (l : List Node) (ss : List Int), ∀ x ∈ labL i l ss, (∃ n ∈ l, x.f3 = n.f4 ∨ x.f3 = n.f5) ∧ ∃ s ∈ ss, x.f2 = s ∨ x.f2 = turnI s
  | i, [], ss, x, h => by cases ss <;> simp [labL] at h
  | i, n :: t, [], x, h => by simp [labL] at h
  | i, n :: t, s :: ss, x, h => by
    rw [labL] at h
    rcases List.mem_append.1 h with h | h
    · unfold labN at h
      split at h
      · simp at h
        rcases h with rfl | rfl
        · exact ⟨⟨n, by simp, .inl rfl⟩, s, by simp, .inl rfl⟩
        · exact ⟨⟨n, by simp, .inr rfl⟩, s, by simp, .inr rfl⟩
      · simp at h
        subst h
        exact ⟨⟨n, by simp, .inl rfl⟩, s, by simp, .inl rfl⟩
    · obtain ⟨⟨m, hm, e⟩, q, hq, e2⟩ := labL_all (i + 1) t ss x h
      exact ⟨⟨m, List.mem_cons_of_mem _ hm, e⟩, q, List.mem_cons_of_mem _ hq, e2⟩
theorem effL_all : ∀ (i : Nat) (l : List Node) (ss : List Int), ∀ x ∈ effL i l ss, (∃ n ∈ l, x.f3 = n.f6) ∧ ∃ s ∈ ss, x.f2 = s
  | i, [], ss, x, h => by cases ss <;> simp [effL] at h
  | i, n :: t, [], x, h => by simp [effL] at h
  | i, n :: t, s :: ss, x, h => by
    rw [effL] at h
    rcases List.mem_append.1 h with h | h
    · unfold effN at h
      split at h
      · simp at h
        subst h
        exact ⟨⟨n, by simp, rfl⟩, s, by simp, rfl⟩
      · simp at h
    · obtain ⟨⟨m, hm, e⟩, q, hq, e2⟩ := effL_all (i + 1) t ss x h
      exact ⟨⟨m, List.mem_cons_of_mem _ hm, e⟩, q, List.mem_cons_of_mem _ hq, e2⟩
theorem turn_range {s : Int} (h : 0 ≤ s ∧ s ≤ 2) : 0 ≤ turnI s ∧ turnI s ≤ 2 := by unfold turnI; split <;> first | omega | (split <;> omega)
theorem wf_DU {t : Term} (h : Term.wf t) : DU t.f1 := by
  have := wf_u64 h
  exact ⟨this.1, by have := this.2; omega⟩
/-- Each spot of a body that came in: its value is a word, its side one of three. -/
def SpW (l : List Spot) : Prop := ∀ x ∈ l, DU x.f3.f1 ∧ 0 ≤ x.f2 ∧ x.f2 ≤ 2
theorem labB_W {a : List Node} (hw : ∀ n ∈ a, Node.wf n) : SpW (labB a) := fun x hx => by
  unfold labB at hx
  split at hx
  · obtain ⟨⟨n, hn, e⟩, s, hs, e2⟩ := labL_all _ _ _ x hx
    have h1 := sides_mem a [0] (by simp) s hs
    have h2 := hw n hn
    refine ⟨?_, ?_⟩
    · rcases e with e | e <;> rw [e]
      · exact wf_DU h2.2.2.2.2.1
      · exact wf_DU h2.2.2.2.2.2.1
    · rcases e2 with e2 | e2 <;> rw [e2]
      · exact h1
      · exact turn_range h1
  · cases hx
theorem effB_W {a : List Node} (hw : ∀ n ∈ a, Node.wf n) : SpW (effB a) := fun x hx => by
  unfold effB at hx
  split at hx
  · obtain ⟨⟨n, hn, e⟩, s, hs, e2⟩ := effL_all _ _ _ x hx
    have h1 := sides_mem a [0] (by simp) s hs
    have h2 := hw n hn
    rw [e, e2]
    exact ⟨wf_DU h2.2.2.2.2.2.2, h1⟩
  · cases hx
/-! ### two bodies that are the same but for their terms -/
theorem bytes_ext {s t : ByteArray} (h : s.toList = t.toList) : s = t := by
  rw [ByteArray.toList_eq, ByteArray.toList_eq] at h
  cases s
  cases t
  congr 1
  exact Array.toList_inj.1 h
theorem zero_of_may {n : Node} (h : mayB n = true) (h5 : n.f0 ≠ 5) : n.f5 = ⟨false, 0⟩ ∧ n.f6 = ⟨false, 0⟩ := by
  have e : (n.f5.f0 = false ∧ n.f5.f1 = 0) ∧ n.f6.f0 = false ∧ n.f6.f1 = 0 := by
    simp only [mayB, mayV, if_neg h5] at h
    split at h
    · simp at h; exact ⟨h.1.2, h.2⟩
    · split at h
      · simp at h; exact ⟨h.1.2, h.2⟩
      · split at h
        · simp at h; exact ⟨h.1.2, h.2⟩
        · split at h
          · simp at h; exact ⟨h.1.2, h.2⟩
          · cases h
  obtain ⟨⟨e1, e2⟩, e3, e4⟩ := e
  refine ⟨?_, ?_⟩
  · cases hx : n.f5
    rw [hx] at e1 e2
    simp only at e1 e2
    rw [e1, e2]
  · cases hx : n.f6
    rw [hx] at e3 e4
    simp only at e3 e4
    rw [e3, e4]
theorem base_of_same : ∀ {a b : List Node}, (∀ n ∈ a, mayB n = true) → (∀ n ∈ b, mayB n = true) → sameL a b = true → baseL a b
  | [], [], _, _, _ => trivial
  | [], _ :: _, _, _, h => by simp [sameL] at h
  | _ :: _, [], _, _, h => by simp [sameL] at h
  | x :: xs, y :: ys, ha, hb, h => by
    simp only [sameL, Bool.and_eq_true] at h
    obtain ⟨h1, h2⟩ := h
    refine ⟨?_, base_of_same (fun n hn => ha n (List.mem_cons_of_mem _ hn)) (fun n hn => hb n (List.mem_cons_of_mem _ hn)) h2⟩
    simp only [sameN, Bool.and_eq_true, beq_iff_eq] at h1
    obtain ⟨⟨⟨e0, e1⟩, e2⟩, e3⟩ := h1
    refine ⟨e0, e1, bytes_ext e2, e3, fun hne => ?_⟩
    have m1 := zero_of_may (ha x List.mem_cons_self) hne
    have m2 := zero_of_may (hb y List.mem_cons_self) (by rw [← e0]; exact hne)
    exact ⟨m1.1.trans m2.1.symm, m1.2.trans m2.2.symm⟩
theorem base_symm : ∀ {a b : List Node}, baseL a b → baseL b a
  | [], [], _ => trivial
  | [], _ :: _, h => h.elim
  | _ :: _, [], h => h.elim
  | x :: xs, y :: ys, ⟨⟨e0, e1, e2, e3, e4⟩, h⟩ => ⟨⟨e0.symm, e1.symm, e2.symm, e3.symm, fun hn => ⟨(e4 (by rw [e0]; exact hn)).1.symm, (e4 (by rw [e0]; exact hn)).2.symm⟩⟩, base_symm h⟩
theorem eq_of_spots : ∀ (i : Nat) (a b : List Node) (ss : List Int), baseL a b → ss.length = a.length → (labL i a ss).map (·.f3) = (labL i b ss).map (·.f3) → (effL i a ss).map (·.f3) = (effL i b ss).map (·.f3) → a = b
  | i, [], [], _, _, _, _, _ => rfl
  | i, [], _ :: _, _, h, _, _, _ => h.elim
  | i, _ :: _, [], _, h, _, _, _ => h.elim
  | i, x :: xs, y :: ys, [], _, h, _, _ => by simp at h
  | i, x :: xs, y :: ys, s :: ss, ⟨⟨e0, e1, e2, e3, e4⟩, hb⟩, hl, h1, h2 => by
    rw [labL, labL, List.map_append, List.map_append] at h1
    rw [effL, effL, List.map_append, List.map_append] at h2
    have l1 : ((labN i x s).map (·.f3)).length = ((labN i y s).map (·.f3)).length := by unfold labN; rw [e0]; split <;> rfl
    have l2 : ((effN i x s).map (·.f3)).length = ((effN i y s).map (·.f3)).length := by unfold effN; rw [e0]; split <;> rfl
    obtain ⟨p1, q1⟩ := List.append_inj h1 l1
    obtain ⟨p2, q2⟩ := List.append_inj h2 l2
    rw [eq_of_spots (i + 1) xs ys ss hb (by simpa using hl) q1 q2]
    congr 1
    by_cases h5 : x.f0 = 5
    · unfold labN at p1
      unfold effN at p2
      rw [if_pos h5, if_pos (e0 ▸ h5)] at p1 p2
      simp only [List.map_cons, List.map_nil, List.cons.injEq, and_true] at p1 p2
      cases x
      cases y
      simp only at e0 e1 e2 e3 p1 p2
      rw [e0, e1, e2, e3, p1.1, p1.2, p2]
    · unfold labN at p1
      rw [if_neg h5, if_neg (e0 ▸ h5)] at p1
      simp only [List.map_cons, List.map_nil, List.cons.injEq, and_true] at p1
      have e5 := e4 h5
      cases x
      cases y
      simp only at e0 e1 e2 e3 p1 e5
      rw [e0, e1, e2, e3, p1, e5.1, e5.2]
theorem lab_sides : ∀ (i : Nat) (a b : List Node) (ss : List Int), baseL a b → (labL i a ss).map (·.f2) = (labL i b ss).map (·.f2)
  | i, [], [], ss, _ => rfl
  | i, [], _ :: _, _, h => h.elim
  | i, _ :: _, [], _, h => h.elim
  | i, x :: xs, y :: ys, [], _ => rfl
  | i, x :: xs, y :: ys, s :: ss, ⟨⟨e0, _⟩, hb⟩ => by
    rw [labL, labL, List.map_append, List.map_append, lab_sides (i + 1) xs ys ss hb]
    congr 1
    unfold labN
    rw [e0]
    split <;> rfl
theorem eff_sides : ∀ (i : Nat) (a b : List Node) (ss : List Int), baseL a b → (effL i a ss).map (·.f2) = (effL i b ss).map (·.f2)
  | i, [], [], ss, _ => rfl
  | i, [], _ :: _, _, h => h.elim
  | i, _ :: _, [], _, h => h.elim
  | i, x :: xs, y :: ys, [], _ => rfl
  | i, x :: xs, y :: ys, s :: ss, ⟨⟨e0, _⟩, hb⟩ => by
    rw [effL, effL, List.map_append, List.map_append, eff_sides (i + 1) xs ys ss hb]
    congr 1
    unfold effN
    rw [e0]
    split <;> rfl
/-! ### the values of a sort, spot by spot -/
section
variable {has : Int → Bool} {le : Int → Int → Bool}
theorem holds_refl (h : SortOk has le) {s p : Int} (hp : DU p) (hh : has p = true) : holdsS le s p p = true := by
  have := h.refl p hp hh
  unfold holdsS
  split
  · exact this
  · split
    · exact this
    · rw [this]; rfl
theorem belowL_refl (h : SortOk has le) : ∀ l : List Spot, SpW l → termsB has l = true → belowL le l l = true
  | [], _, _ => rfl
  | x :: xs, hw, ht => by
    simp only [termsB, List.all_cons, Bool.and_eq_true] at ht
    rw [belowL, holds_refl h (hw x List.mem_cons_self).1 ht.1.2, belowL_refl h xs (fun y hy => hw y (List.mem_cons_of_mem _ hy)) ht.2]
    rfl
theorem holds_trans (h : SortOk has le) {s p q r : Int} (hp : DU p) (hq : DU q) (hr : DU r) (h1 : holdsS le s p q = true) (h2 : holdsS le s q r = true) : holdsS le s p r = true := by
  unfold holdsS at h1 h2 ⊢
  split
  · rename_i e
    rw [if_pos e] at h1 h2
    exact h.trans p q r hp hq hr h1 h2
  · rename_i e
    rw [if_neg e] at h1 h2
    split
    · rename_i e2
      rw [if_pos e2] at h1 h2
      exact h.trans r q p hr hq hp h2 h1
    · rename_i e2
      rw [if_neg e2, Bool.and_eq_true] at h1 h2
      rw [h.trans p q r hp hq hr h1.1 h2.1, h.trans r q p hr hq hp h2.2 h1.2]
      rfl
theorem belowL_trans (h : SortOk has le) : ∀ a b c : List Spot, SpW a → SpW b → SpW c → a.map (·.f2) = b.map (·.f2) → b.map (·.f2) = c.map (·.f2) → belowL le a b = true → belowL le b c = true → belowL le a c = true
  | [], _, c, _, _, _, _, _, _, _ => by cases c <;> rfl
  | x :: xs, [], _, _, _, _, e, _, _, _ => by simp at e
  | x :: xs, y :: ys, [], _, _, _, _, e, _, _ => by simp at e
  | x :: xs, y :: ys, z :: zs, ha, hb, hc, e1, e2, h1, h2 => by
    simp only [List.map_cons, List.cons.injEq] at e1 e2
    simp only [belowL, Bool.and_eq_true] at h1 h2 ⊢
    refine ⟨holds_trans h (ha x List.mem_cons_self).1 (hb y List.mem_cons_self).1 (hc z List.mem_cons_self).1 h1.1 (by rw [e1.1]; exact h2.1), ?_⟩
    exact belowL_trans h xs ys zs (fun q hq => ha q (List.mem_cons_of_mem _ hq)) (fun q hq => hb q (List.mem_cons_of_mem _ hq)) (fun q hq => hc q (List.mem_cons_of_mem _ hq)) e1.2 e2.2 h1.2 h2.2
theorem holds_anti (h : SortOk has le) {s p q : Int} (hp : DU p) (hq : DU q) (h1 : holdsS le s p q = true) (h2 : holdsS le s q p = true) : p = q := by
  unfold holdsS at h1 h2
  split at h1
  · rename_i e
    rw [if_pos e] at h2
    exact h.anti p q hp hq h1 h2
  · rename_i e
    rw [if_neg e] at h2
    split at h1
    · rename_i e2
      rw [if_pos e2] at h2
      exact h.anti p q hp hq h2 h1
    · rw [Bool.and_eq_true] at h1
      exact h.anti p q hp hq h1.1 h1.2
theorem belowL_anti (h : SortOk has le) : ∀ a b : List Spot, SpW a → SpW b → a.map (·.f2) = b.map (·.f2) → termsB has a = true → termsB has b = true → belowL le a b = true → belowL le b a = true → a.map (·.f3) = b.map (·.f3)
  | [], [], _, _, _, _, _, _, _ => rfl
  | [], _ :: _, _, _, e, _, _, _, _ => by simp at e
  | x :: xs, [], _, _, e, _, _, _, _ => by simp at e
  | x :: xs, y :: ys, ha, hb, e, t1, t2, h1, h2 => by
    simp only [List.map_cons, List.cons.injEq] at e
    simp only [termsB, List.all_cons, Bool.and_eq_true] at t1 t2
    simp only [belowL, Bool.and_eq_true] at h1 h2
    have hv := holds_anti h (ha x List.mem_cons_self).1 (hb y List.mem_cons_self).1 h1.1 (by rw [e.1]; exact h2.1)
    have ih := belowL_anti h xs ys (fun q hq => ha q (List.mem_cons_of_mem _ hq)) (fun q hq => hb q (List.mem_cons_of_mem _ hq)) e.2 t1.2 t2.2 h1.2 h2.2
    rw [List.map_cons, List.map_cons, ih]
    congr 1
    have f1 : x.f3.f0 = false := by simpa using t1.1.1
    have f2 : y.f3.f0 = false := by simpa using t2.1.1
    cases hx : x.f3
    cases hy : y.f3
    rw [hx] at f1 hv
    rw [hy] at f2 hv
    simp only at f1 f2 hv
    rw [f1, f2, hv]
end
/-! ### the two sorts -/
theorem leLat_leB (rows : List Int) (a b : Nat) : leLat (some rows) (a : Int) (b : Int) = leB rows a b := by
  simp only [leLat, leB, Int.toNat_natCast]
  congr 1
  congr 1
  · exact decide_eq_decide.2 (by omega)
  · exact decide_eq_decide.2 (by omega)
theorem lat_ok (o : Option (List Int)) (h : ∀ rows, o = some rows → U64s rows ∧ orderedB rows = true) : SortOk (hasLat o) (leLat o) := by
  cases o with
  | none => exact ⟨fun _ _ h => by simp [hasLat] at h, fun _ _ _ _ _ _ h => by simp [leLat] at h, fun _ _ _ _ h => by simp [leLat] at h⟩
  | some rows =>
    obtain ⟨hU, ho⟩ := h rows rfl
    refine ⟨fun a ha hh => ?_, fun a b c ha hb hc h1 h2 => ?_, fun a b ha hb h1 h2 => ?_⟩
    · obtain ⟨k, rfl⟩ := Int.eq_ofNat_of_zero_le ha.1
      rw [leLat_leB]
      refine ordered_refl hU ho k ?_
      have h3 : decide ((k : Int) < (rows.length : Int)) = true := hh
      have := of_decide_eq_true h3
      omega
    · obtain ⟨k, rfl⟩ := Int.eq_ofNat_of_zero_le ha.1
      obtain ⟨l, rfl⟩ := Int.eq_ofNat_of_zero_le hb.1
      obtain ⟨m, rfl⟩ := Int.eq_ofNat_of_zero_le hc.1
      rw [leLat_leB] at h1 h2 ⊢
      exact ordered_trans hU ho k l m h1 h2
    · obtain ⟨k, rfl⟩ := Int.eq_ofNat_of_zero_le ha.1
      obtain ⟨l, rfl⟩ := Int.eq_ofNat_of_zero_le hb.1
      rw [leLat_leB] at h1 h2
      rw [ordered_anti hU ho k l h1 h2]
theorem less_self {a : Int} (h : DU a) : lessI a a = 0 := (lessI_zero a a h.1 h.2 h.1 h.2).2 fun j h => h
theorem less_trans {a b c : Int} (ha : DU a) (hb : DU b) (hc : DU c) (h1 : lessI a b = 0) (h2 : lessI b c = 0) : lessI a c = 0 :=
  (lessI_zero a c ha.1 ha.2 hc.1 hc.2).2 fun j hj => (lessI_zero b c hb.1 hb.2 hc.1 hc.2).1 h2 j ((lessI_zero a b ha.1 ha.2 hb.1 hb.2).1 h1 j hj)
theorem less_anti {a b : Int} (ha : DU a) (hb : DU b) (h1 : lessI a b = 0) (h2 : lessI b a = 0) : a = b := by
  have g1 := (lessI_zero a b ha.1 ha.2 hb.1 hb.2).1 h1
  have g2 := (lessI_zero b a hb.1 hb.2 ha.1 ha.2).1 h2
  have : a.toNat = b.toNat := Nat.eq_of_testBit_eq fun j => by
    cases h3 : a.toNat.testBit j with
    | true => exact (g1 j h3).symm
    | false =>
      cases h4 : b.toNat.testBit j with
      | true => rw [g2 j h4] at h3; cases h3
      | false => rfl
  have := ha.1
  have := hb.1
  omega
theorem eff_ok (o : Option Int) : SortOk (hasEff o) (leEff o) := by
  cases o with
  | none => exact ⟨fun _ _ h => by simp [hasEff] at h, fun _ _ _ _ _ _ h => by simp [leEff] at h, fun _ _ _ _ h => by simp [leEff] at h⟩
  | some t =>
    refine ⟨fun a ha hh => ?_, fun a b c ha hb hc h1 h2 => ?_, fun a b ha hb h1 h2 => ?_⟩
    · have h1 : (lessI a t == 0) = true := hh
      simp only [leEff, h1, less_self ha]
      rfl
    · simp only [leEff, Bool.and_eq_true, beq_iff_eq] at h1 h2 ⊢
      exact ⟨⟨h1.1.1, h2.1.2⟩, less_trans ha hb hc h1.2 h2.2⟩
    · simp only [leEff, Bool.and_eq_true, beq_iff_eq] at h1 h2
      exact less_anti ha hb h1.2 h2.2
/-! ### what grounds.Below answers -/
section
variable {hasL hasX : Int → Bool} {leL leX : Int → Int → Bool}
def okT (hasL hasX : Int → Bool) (a : List Node) : Bool := termsB hasL (labB a) && termsB hasX (effB a)
theorem ground_eq (a b : List Node) : groundB hasL hasX leL leX a b = if checkB a ≠ 0 ∨ checkB b ≠ 0 then (false, 4) else if (okT hasL hasX a && okT hasL hasX b) = false then (false, 1) else (sameL a b && (belowL leL (labB a) (labB b) && belowL leX (effB a) (effB b)), 0) := by
  unfold groundB okT
  rw [← Bool.and_assoc]
  split
  · rfl
  · split
    · rfl
    · split
      · rename_i h
        rw [h]
        rfl
      · rename_i h
        rw [Bool.not_eq_false] at h
        rw [h]
        rfl
theorem ground_ok {a b : List Node} (h : (groundB hasL hasX leL leX a b).2 = 0) : checkB a = 0 ∧ checkB b = 0 ∧ okT hasL hasX a = true ∧ okT hasL hasX b = true ∧ (groundB hasL hasX leL leX a b).1 = (sameL a b && (belowL leL (labB a) (labB b) && belowL leX (effB a) (effB b))) := by
  rw [ground_eq] at h ⊢
  split at h
  · simp at h
  · rename_i h1
    rw [if_neg h1]
    split at h
    · simp at h
    · rename_i h2
      rw [if_neg h2]
      rw [Bool.not_eq_false, Bool.and_eq_true] at h2
      exact ⟨Decidable.not_not.1 fun h => h1 (.inl h), Decidable.not_not.1 fun h => h1 (.inr h), h2.1, h2.2, rfl⟩
theorem ground_bad {a b : List Node} (h : (groundB hasL hasX leL leX a b).2 ≠ 0) : (groundB hasL hasX leL leX a b).1 = false := by
  rw [ground_eq] at h ⊢
  split
  · rfl
  · split
    · rfl
    · rename_i h1 h2
      rw [if_neg h1, if_neg h2] at h
      exact absurd rfl h
theorem ground_zero {a b : List Node} (h1 : checkB a = 0) (h2 : checkB b = 0) (h3 : okT hasL hasX a = true) (h4 : okT hasL hasX b = true) : groundB hasL hasX leL leX a b = (sameL a b && (belowL leL (labB a) (labB b) && belowL leX (effB a) (effB b)), 0) := by
  rw [ground_eq, if_neg (by simp [h1, h2]), if_neg (by simp [h3, h4])]
theorem sameL_refl (a : List Node) : sameL a a = true := baseL_same (baseL_refl a)
/-- GroundsSelf, in plain Lean. -/
theorem ground_self (hL : SortOk hasL leL) (hX : SortOk hasX leX) (a b : List Node) (hw : ∀ n ∈ a, Node.wf n) :
    ((groundB hasL hasX leL leX a a).2 ≠ 0 → (groundB hasL hasX leL leX a a).1 = false ∧ (groundB hasL hasX leL leX a b).2 ≠ 0 ∧ (groundB hasL hasX leL leX b a).2 ≠ 0) ∧
    ((groundB hasL hasX leL leX a a).2 = 0 → (groundB hasL hasX leL leX a a).1 = true ∧ (groundB hasL hasX leL leX a b).2 = (groundB hasL hasX leL leX b a).2) := by
  refine ⟨fun h => ⟨ground_bad h, fun h2 => h ?_, fun h2 => h ?_⟩, fun h => ?_⟩
  · obtain ⟨c1, c2, o1, o2, _⟩ := ground_ok h2
    rw [ground_zero c1 c1 o1 o1]
  · obtain ⟨c1, c2, o1, o2, _⟩ := ground_ok h2
    rw [ground_zero c2 c2 o2 o2]
  · obtain ⟨c1, c2, o1, o2, he⟩ := ground_ok h
    have o1' := o1
    rw [okT, Bool.and_eq_true] at o1'
    refine ⟨?_, ?_⟩
    · rw [he, sameL_refl, belowL_refl hL _ (labB_W hw) o1'.1, belowL_refl hX _ (effB_W hw) o1'.2]
      rfl
    · rw [ground_eq, ground_eq]
      by_cases hb : checkB b = 0
      · have n1 : ¬ (checkB a ≠ 0 ∨ checkB b ≠ 0) := by simp [c1, hb]
        have n2 : ¬ (checkB b ≠ 0 ∨ checkB a ≠ 0) := by simp [c1, hb]
        rw [if_neg n1, if_neg n2, Bool.and_comm (okT hasL hasX b)]
        split <;> rfl
      · have n1 : checkB a ≠ 0 ∨ checkB b ≠ 0 := .inr hb
        have n2 : checkB b ≠ 0 ∨ checkB a ≠ 0 := .inl hb
        rw [if_pos n1, if_pos n2]
theorem labB_base {a b : List Node} (ca : checkB a = 0) (cb : checkB b = 0) (h : baseL a b) : (labB a).map (·.f2) = (labB b).map (·.f2) := by
  unfold labB
  rw [if_pos ca, if_pos cb, show sidesB a = sidesB b from baseL_sides [0] h]
  exact lab_sides 0 a b _ h
theorem effB_base {a b : List Node} (ca : checkB a = 0) (cb : checkB b = 0) (h : baseL a b) : (effB a).map (·.f2) = (effB b).map (·.f2) := by
  unfold effB
  rw [if_pos ca, if_pos cb, show sidesB a = sidesB b from baseL_sides [0] h]
  exact eff_sides 0 a b _ h
/-- GroundsChain, in plain Lean. -/
theorem ground_chain (hL : SortOk hasL leL) (hX : SortOk hasX leX) (a b c : List Node) (hwa : ∀ n ∈ a, Node.wf n) (hwb : ∀ n ∈ b, Node.wf n) (hwc : ∀ n ∈ c, Node.wf n)
    (e : (groundB hasL hasX leL leX a b).2 = 0) (f : (groundB hasL hasX leL leX b c).2 = 0) (g : (groundB hasL hasX leL leX a c).2 = 0) (h : (groundB hasL hasX leL leX b a).2 = 0) :
    ((groundB hasL hasX leL leX a b).1 = true → (groundB hasL hasX leL leX b c).1 = true → (groundB hasL hasX leL leX a c).1 = true) ∧
    ((groundB hasL hasX leL leX a b).1 = true → (groundB hasL hasX leL leX b a).1 = true → a = b) ∧ ((groundB hasL hasX leL leX a b).1 = true → sameL a b = true) := by
  obtain ⟨ca, cb, oa, ob, e1⟩ := ground_ok e
  obtain ⟨_, cc, _, oc, f1⟩ := ground_ok f
  obtain ⟨_, _, _, _, g1⟩ := ground_ok g
  obtain ⟨_, _, _, _, h1⟩ := ground_ok h
  rw [e1, f1, g1, h1]
  simp only [Bool.and_eq_true]
  refine ⟨fun ⟨s1, l1, x1⟩ ⟨s2, l2, x2⟩ => ?_, fun ⟨s1, l1, x1⟩ ⟨s2, l2, x2⟩ => ?_, fun h => h.1⟩
  · have b1 := base_of_same (check_may ca) (check_may cb) s1
    have b2 := base_of_same (check_may cb) (check_may cc) s2
    exact ⟨baseL_same (baseL_trans b1 b2), belowL_trans hL _ _ _ (labB_W hwa) (labB_W hwb) (labB_W hwc) (labB_base ca cb b1) (labB_base cb cc b2) l1 l2, belowL_trans hX _ _ _ (effB_W hwa) (effB_W hwb) (effB_W hwc) (effB_base ca cb b1) (effB_base cb cc b2) x1 x2⟩
  · have b1 := base_of_same (check_may ca) (check_may cb) s1
    rw [okT, Bool.and_eq_true] at oa ob
    have k1 := belowL_anti hL _ _ (labB_W hwa) (labB_W hwb) (labB_base ca cb b1) oa.1 ob.1 l1 l2
    have k2 := belowL_anti hX _ _ (effB_W hwa) (effB_W hwb) (effB_base ca cb b1) oa.2 ob.2 x1 x2
    unfold labB at k1
    unfold effB at k2
    rw [if_pos ca, if_pos cb, show sidesB b = sidesB a from (baseL_sides [0] b1).symm] at k1 k2
    exact eq_of_spots 0 a b _ b1 (sidesB_len ca 0) k1 k2
end
end Go.Proofs.YtjndjmggilcngaaDoor

namespace Go.Proofs.YtjndjmggilcngaaDoor
open Go.RowKit Go.Proofs.YtjndjmggilcngaaDoorW.PrintWords Go.Proofs.YtjndjmggilcngaaDoorW.PrintLast Go.Proofs.YtjndjmggilcngaaDoorW.PrintMore
set_option linter.unusedVariables false
set_option linter.unusedSimpArgs false
theorem labB_U8 {a : List Node} (hw : ∀ n ∈ a, Node.wf n) : U8s (labB a) := fun x hx => by
  have := labB_W hw x hx
  exact ⟨this.1.1, this.2.1, by have := this.2.2; omega⟩
theorem effB_U8 {a : List Node} (hw : ∀ n ∈ a, Node.wf n) : U8s (effB a) := fun x hx => by
  have := effB_W hw x hx
  exact ⟨this.1.1, this.2.1, by have := this.2.2; omega⟩
theorem labB_nonneg {a : List Node} (hw : ∀ n ∈ a, Node.wf n) : ∀ x ∈ labB a, 0 ≤ x.f3.f1 := fun x hx => (labB_W hw x hx).1.1
theorem effB_nonneg {a : List Node} (hw : ∀ n ∈ a, Node.wf n) : ∀ x ∈ effB a, 0 ≤ x.f3.f1 := fun x hx => (effB_W hw x hx).1.1
theorem labB_max (a : List Node) : (labB a).length ≤ 256 := by
  unfold labB
  split
  · rename_i h
    have := labL_len 0 a (sidesB a)
    have := (checkB_L h).2.1
    omega
  · simp
theorem effB_max (a : List Node) : (effB a).length ≤ 256 := by
  unfold effB
  split
  · rename_i h
    have := effL_len 0 a (sidesB a)
    have := (checkB_L h).2.1
    omega
  · simp
theorem same_labs {a b : List Node} (ca : checkB a = 0) (cb : checkB b = 0) (h : sameL a b = true) : (labB a).length = (labB b).length ∧ (effB a).length = (effB b).length := by
  have hb := base_of_same (check_may ca) (check_may cb) h
  have h1 := congrArg List.length (labB_base ca cb hb)
  have h2 := congrArg List.length (effB_base ca cb hb)
  simp only [List.length_map] at h1 h2
  exact ⟨h1, h2⟩
end Go.Proofs.YtjndjmggilcngaaDoor
