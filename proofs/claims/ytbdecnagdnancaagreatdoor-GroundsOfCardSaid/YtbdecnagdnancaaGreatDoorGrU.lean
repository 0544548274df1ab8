/- What the law GroundsParts says, in plain Lean: below a function, below a ref. -/
import Derived.Test.YtbdecnagdnancaaGreatDoorMD

namespace Go.Proofs.YtbdecnagdnancaaGreatDoor
open Go.RowKit Go.Proofs.YtbdecnagdnancaaGreatDoorW.PrintWords Go.Proofs.YtbdecnagdnancaaGreatDoorW.PrintLast Go.Proofs.YtbdecnagdnancaaGreatDoorW.PrintMore
set_option linter.unusedVariables false
set_option linter.unusedSimpArgs false
namespace L09
def zT : Term := ⟨false, 0⟩
def funN : Node := ⟨5, 0, ⟨#[]⟩, 2, zT, zT, zT⟩
def refN : Node := ⟨4, 0, ⟨#[]⟩, 1, zT, zT, zT⟩
def Way (g : Int → Int) : Prop := g 2 = 2 ∧ ∀ s, turnI (g s) = g (turnI s)
theorem way_both : Way (fun _ => 2) := ⟨rfl, fun _ => rfl⟩
theorem way_turn : Way turnI := ⟨rfl, fun s => rfl⟩
theorem belowS_map {g : Int → Int} (h : Way g) (n : Node) (s : Int) : belowS n (g s) = (belowS n s).map g := by
  unfold belowS
  split
  · rw [List.map_set, List.map_replicate, h.2]
  · split
    · rw [List.map_replicate, h.1]
    · rw [List.map_replicate]
theorem sidesF_map {g : Int → Int} (h : Way g) : ∀ (f : Fo) (ss : List Int), f.sides (ss.map g) = (f.sides ss).map g
  | .nil, ss => by cases ss <;> rfl
  | .cons n ks r, [] => rfl
  | .cons n ks r, s :: ss => by
    rw [List.map_cons, Fo.sides, Fo.sides, belowS_map h, sidesF_map h ks, sidesF_map h r, List.map_cons, List.map_append]
theorem sides_way {g : Int → Int} (h : Way g) {body : List Node} (hz : checkB body = 0) : sidesL body [g 0] = (sidesB body).map g := by
  obtain ⟨f, hf, hc, rfl, _⟩ := body_tree hz
  rw [sidesB_tree f hf hc, sidesB, sidesB_tree f hf hc, ← sidesF_map h]
  rfl
theorem labL_append : ∀ (i : Nat) (l m : List Node) (ss ts : List Int), ss.length = l.length → labL i (l ++ m) (ss ++ ts) = labL i l ss ++ labL (i + l.length) m ts
  | i, [], m, [], ts, _ => by simp [labL]
  | i, [], m, _ :: _, ts, h => by simp at h
  | i, n :: t, m, [], ts, h => by simp at h
  | i, n :: t, m, s :: ss, ts, h => by
    rw [List.cons_append, List.cons_append, labL, labL, labL_append (i + 1) t m ss ts (by simpa using h), List.append_assoc, List.length_cons, show i + 1 + t.length = i + (t.length + 1) by omega]
theorem effL_append : ∀ (i : Nat) (l m : List Node) (ss ts : List Int), ss.length = l.length → effL i (l ++ m) (ss ++ ts) = effL i l ss ++ effL (i + l.length) m ts
  | i, [], m, [], ts, _ => by simp [effL]
  | i, [], m, _ :: _, ts, h => by simp at h
  | i, n :: t, m, [], ts, h => by simp at h
  | i, n :: t, m, s :: ss, ts, h => by
    rw [List.cons_append, List.cons_append, effL, effL, effL_append (i + 1) t m ss ts (by simpa using h), List.append_assoc, List.length_cons, show i + 1 + t.length = i + (t.length + 1) by omega]
/-! ### what belowL and termsB look at -/
def keyS (x : Spot) : Int × Term := (x.f2, x.f3)
theorem belowL_key {le : Int → Int → Bool} : ∀ (l l' m m' : List Spot), l.map keyS = l'.map keyS → m.map keyS = m'.map keyS → belowL le l m = belowL le l' m'
  | [], [], m, m', _, _ => rfl
  | [], _ :: _, _, _, h, _ => by simp at h
  | _ :: _, [], _, _, h, _ => by simp at h
  | _ :: _, _ :: _, [], [], _, _ => rfl
  | _ :: _, _ :: _, [], _ :: _, _, h => by simp at h
  | _ :: _, _ :: _, _ :: _, [], _, h => by simp at h
  | x :: xs, x' :: xs', y :: ys, y' :: ys', h, k => by
    simp only [List.map_cons, List.cons.injEq, keyS, Prod.mk.injEq] at h k
    rw [belowL, belowL, h.1.1, h.1.2, k.1.2, belowL_key xs xs' ys ys' h.2 k.2]
theorem lab_shift : ∀ (i j : Nat) (l : List Node) (ss : List Int), (labL i l ss).map keyS = (labL j l ss).map keyS
  | i, j, [], ss => rfl
  | i, j, n :: t, [] => rfl
  | i, j, n :: t, s :: ss => by
    rw [labL, labL, List.map_append, List.map_append, lab_shift (i + 1) (j + 1) t ss]
    congr 1
    unfold labN
    split <;> rfl
theorem eff_shift : ∀ (i j : Nat) (l : List Node) (ss : List Int), (effL i l ss).map keyS = (effL j l ss).map keyS
  | i, j, [], ss => rfl
  | i, j, n :: t, [] => rfl
  | i, j, n :: t, s :: ss => by
    rw [effL, effL, List.map_append, List.map_append, eff_shift (i + 1) (j + 1) t ss]
    congr 1
    unfold effN
    split <;> rfl
theorem termsB_f3 {has : Int → Bool} {l m : List Spot} (h : l.map (·.f3) = m.map (·.f3)) : termsB has l = termsB has m := by
  have e : ∀ l : List Spot, termsB has l = (l.map (·.f3)).all fun t => !t.f0 && has t.f1 := fun l => by simp [termsB, List.all_map, Function.comp_def]
  rw [e, e, h]
theorem termsB_append {has : Int → Bool} (l m : List Spot) : termsB has (l ++ m) = (termsB has l && termsB has m) := by simp [termsB, List.all_append]
theorem lab_f3 : ∀ (i j : Nat) (l : List Node) (ss ts : List Int), ss.length = l.length → ts.length = l.length → (labL i l ss).map (·.f3) = (labL j l ts).map (·.f3)
  | i, j, [], ss, ts, _, _ => rfl
  | i, j, n :: t, [], _, h, _ => by simp at h
  | i, j, n :: t, _ :: _, [], _, h => by simp at h
  | i, j, n :: t, s :: ss, u :: us, h, k => by
    rw [labL, labL, List.map_append, List.map_append, lab_f3 (i + 1) (j + 1) t ss us (by simpa using h) (by simpa using k)]
    congr 1
    unfold labN
    split <;> rfl
theorem eff_f3 : ∀ (i j : Nat) (l : List Node) (ss ts : List Int), ss.length = l.length → ts.length = l.length → (effL i l ss).map (·.f3) = (effL j l ts).map (·.f3)
  | i, j, [], ss, ts, _, _ => rfl
  | i, j, n :: t, [], _, h, _ => by simp at h
  | i, j, n :: t, _ :: _, [], _, h => by simp at h
  | i, j, n :: t, s :: ss, u :: us, h, k => by
    rw [effL, effL, List.map_append, List.map_append, eff_f3 (i + 1) (j + 1) t ss us (by simpa using h) (by simpa using k)]
    congr 1
    unfold effN
    split <;> rfl
theorem belowL_append {le : Int → Int → Bool} : ∀ (l m l' m' : List Spot), l.length = m.length → belowL le (l ++ l') (m ++ m') = (belowL le l m && belowL le l' m')
  | [], [], l', m', _ => by simp [belowL]
  | [], _ :: _, _, _, h => by simp at h
  | _ :: _, [], _, _, h => by simp at h
  | x :: xs, y :: ys, l', m', h => by
    rw [List.cons_append, List.cons_append, belowL, belowL, belowL_append xs ys l' m' (by simpa using h), Bool.and_assoc]
theorem holds_turn {le : Int → Int → Bool} (s p q : Int) : holdsS le (turnI s) p q = holdsS le s q p := by
  unfold holdsS turnI
  by_cases h0 : s = 0
  · simp [h0]
  · by_cases h1 : s = 1
    · simp [h1]
    · simp only [if_neg h0, if_neg h1]
      exact Bool.and_comm _ _
theorem holds_both {le : Int → Int → Bool} (s p q : Int) : holdsS le 2 p q = (holdsS le s q p && holdsS le s p q) := by
  have e : holdsS le 2 p q = (le p q && le q p) := rfl
  rw [e]
  unfold holdsS
  by_cases h0 : s = 0
  · simp only [if_pos h0]
    exact Bool.and_comm _ _
  · by_cases h1 : s = 1
    · simp only [if_neg h0, if_pos h1]
    · simp only [if_neg h0, if_neg h1]
      cases le p q <;> cases le q p <;> rfl
theorem lab_turn {le : Int → Int → Bool} : ∀ (i j : Nat) (a b : List Node) (ss : List Int), baseL a b → belowL le (labL i a (ss.map turnI)) (labL j b (ss.map turnI)) = belowL le (labL j b ss) (labL i a ss)
  | i, j, [], [], ss, _ => by cases ss <;> rfl
  | i, j, [], _ :: _, _, h => h.elim
  | i, j, _ :: _, [], _, h => h.elim
  | i, j, x :: xs, y :: ys, [], _ => rfl
  | i, j, x :: xs, y :: ys, s :: ss, ⟨⟨e0, _⟩, hb⟩ => by
    rw [List.map_cons, labL, labL, labL, labL]
    by_cases h5 : x.f0 = 5
    · simp only [labN, if_pos h5, if_pos (e0 ▸ h5), List.cons_append, List.nil_append, belowL, holds_turn, lab_turn (i + 1) (j + 1) xs ys ss hb]
    · simp only [labN, if_neg h5, if_neg (e0 ▸ h5), List.cons_append, List.nil_append, belowL, holds_turn, lab_turn (i + 1) (j + 1) xs ys ss hb]
theorem eff_turn {le : Int → Int → Bool} : ∀ (i j : Nat) (a b : List Node) (ss : List Int), baseL a b → belowL le (effL i a (ss.map turnI)) (effL j b (ss.map turnI)) = belowL le (effL j b ss) (effL i a ss)
  | i, j, [], [], ss, _ => by cases ss <;> rfl
  | i, j, [], _ :: _, _, h => h.elim
  | i, j, _ :: _, [], _, h => h.elim
  | i, j, x :: xs, y :: ys, [], _ => rfl
  | i, j, x :: xs, y :: ys, s :: ss, ⟨⟨e0, _⟩, hb⟩ => by
    rw [List.map_cons, effL, effL, effL, effL]
    by_cases h5 : x.f0 = 5
    · simp only [effN, if_pos h5, if_pos (e0 ▸ h5), List.cons_append, List.nil_append, belowL, holds_turn, eff_turn (i + 1) (j + 1) xs ys ss hb]
    · simp only [effN, if_neg h5, if_neg (e0 ▸ h5), List.nil_append, eff_turn (i + 1) (j + 1) xs ys ss hb]
theorem lab_both {le : Int → Int → Bool} : ∀ (i j : Nat) (a b : List Node) (ss : List Int), baseL a b → belowL le (labL i a (ss.map fun _ => 2)) (labL j b (ss.map fun _ => 2)) = (belowL le (labL j b ss) (labL i a ss) && belowL le (labL i a ss) (labL j b ss))
  | i, j, [], [], ss, _ => by cases ss <;> rfl
  | i, j, [], _ :: _, _, h => h.elim
  | i, j, _ :: _, [], _, h => h.elim
  | i, j, x :: xs, y :: ys, [], _ => rfl
  | i, j, x :: xs, y :: ys, s :: ss, ⟨⟨e0, _⟩, hb⟩ => by
    rw [List.map_cons, labL, labL, labL, labL]
    have ih := lab_both (le := le) (i + 1) (j + 1) xs ys ss hb
    by_cases h5 : x.f0 = 5
    · simp only [labN, if_pos h5, if_pos (e0 ▸ h5), List.cons_append, List.nil_append, belowL, ih, show turnI 2 = 2 from rfl]
      rw [holds_both s, holds_both (turnI s)]
      cases holdsS le s y.f4.f1 x.f4.f1 <;> cases holdsS le s x.f4.f1 y.f4.f1 <;> cases holdsS le (turnI s) y.f5.f1 x.f5.f1 <;> cases holdsS le (turnI s) x.f5.f1 y.f5.f1 <;> simp
    · simp only [labN, if_neg h5, if_neg (e0 ▸ h5), List.cons_append, List.nil_append, belowL, ih]
      rw [holds_both s]
      cases holdsS le s y.f4.f1 x.f4.f1 <;> cases holdsS le s x.f4.f1 y.f4.f1 <;> simp
theorem eff_both {le : Int → Int → Bool} : ∀ (i j : Nat) (a b : List Node) (ss : List Int), baseL a b → belowL le (effL i a (ss.map fun _ => 2)) (effL j b (ss.map fun _ => 2)) = (belowL le (effL j b ss) (effL i a ss) && belowL le (effL i a ss) (effL j b ss))
  | i, j, [], [], ss, _ => by cases ss <;> rfl
  | i, j, [], _ :: _, _, h => h.elim
  | i, j, _ :: _, [], _, h => h.elim
  | i, j, x :: xs, y :: ys, [], _ => rfl
  | i, j, x :: xs, y :: ys, s :: ss, ⟨⟨e0, _⟩, hb⟩ => by
    rw [List.map_cons, effL, effL, effL, effL]
    have ih := eff_both (le := le) (i + 1) (j + 1) xs ys ss hb
    by_cases h5 : x.f0 = 5
    · simp only [effN, if_pos h5, if_pos (e0 ▸ h5), List.cons_append, List.nil_append, belowL, ih]
      rw [holds_both s]
      cases holdsS le s y.f6.f1 x.f6.f1 <;> cases holdsS le s x.f6.f1 y.f6.f1 <;> simp
    · simp only [effN, if_neg h5, if_neg (e0 ▸ h5), List.nil_append, ih]
/-! ### where the first of two bodies ends -/
theorem same_f3 : ∀ {a b : List Node}, sameL a b = true → a.map (·.f3) = b.map (·.f3)
  | [], [], _ => rfl
  | [], _ :: _, h => by simp [sameL] at h
  | _ :: _, [], h => by simp [sameL] at h
  | x :: xs, y :: ys, h => by
    simp only [sameL, Bool.and_eq_true] at h
    have h1 := h.1
    simp only [sameN, Bool.and_eq_true, beq_iff_eq] at h1
    rw [List.map_cons, List.map_cons, same_f3 h.2, h1.2]
theorem endL_f3 : ∀ (a b : List Node) (o : List Int), a.map (·.f3) = b.map (·.f3) → endL a o = endL b o
  | [], [], _, _ => rfl
  | [], _ :: _, _, h => by simp at h
  | _ :: _, [], _, h => by simp at h
  | x :: xs, y :: ys, o, h => by
    simp only [List.map_cons, List.cons.injEq] at h
    rw [endL, endL, h.1, endL_f3 xs ys _ h.2]
theorem end_body {a : List Node} (ca : checkB a = 0) (r : List Node) : endL (a ++ r) [1] = some a.length := by
  obtain ⟨f, hf, hb⟩ := ((check_iff a).1 ca).2
  rw [hb, endL_tree f hf r]
theorem sameL_append : ∀ (a b c d : List Node), a.length = b.length → sameL (a ++ c) (b ++ d) = (sameL a b && sameL c d)
  | [], [], c, d, _ => by simp [sameL]
  | [], _ :: _, _, _, h => by simp at h
  | _ :: _, [], _, _, h => by simp at h
  | x :: xs, y :: ys, c, d, h => by
    rw [List.cons_append, List.cons_append, sameL, sameL, sameL_append xs ys c d (by simpa using h), Bool.and_assoc]
theorem same_len {a b : List Node} (h : sameL a b = true) : a.length = b.length := ((sameL_iff a b).1 h).1
theorem same_two {a0 a1 b0 b1 : List Node} (c0 : checkB a0 = 0) (d0 : checkB b0 = 0) : sameL (a0 ++ a1) (b0 ++ b1) = (sameL a0 b0 && sameL a1 b1) := by
  cases h : sameL (a0 ++ a1) (b0 ++ b1) with
  | true =>
    have e := endL_f3 _ _ [1] (same_f3 h)
    rw [end_body c0, end_body d0] at e
    rw [← sameL_append _ _ _ _ (Option.some.inj e), h]
  | false =>
    cases h2 : sameL a0 b0 with
    | false => rfl
    | true => rw [← h2, ← sameL_append _ _ _ _ (same_len h2), h]
theorem sameN_refl (n : Node) : sameN n n = true := by simp [sameN]
theorem same_symm {a b : List Node} (ca : checkB a = 0) (cb : checkB b = 0) : sameL a b = sameL b a := by
  cases h : sameL a b with
  | true => exact (baseL_same (base_symm (base_of_same (check_may ca) (check_may cb) h))).symm
  | false =>
    cases h2 : sameL b a with
    | false => rfl
    | true => rw [baseL_same (base_symm (base_of_same (check_may cb) (check_may ca) h2))] at h; cases h
/-! ### a function's spots, a ref's -/
theorem sides_two {a b : List Node} (ca : checkB a = 0) (cb : checkB b = 0) : sidesB (funN :: (a ++ b)) = 0 :: ((sidesB a).map turnI ++ sidesB b) := by
  obtain ⟨f, hf, hc, hfb, _⟩ := body_tree ca
  have h1 := sidesL_fo f [1] [0] b hf (by simp [hc])
  rw [← sidesB_tree f hf hc, ← hfb] at h1
  have h3 : sidesB (funN :: (a ++ b)) = 0 :: sidesL (a ++ b) ([1] ++ [0]) := rfl
  rw [h3, h1, ← sides_way way_turn ca]
  rfl
theorem fun_lab {a b : List Node} (ca : checkB a = 0) (cb : checkB b = 0) (cp : checkB (funN :: (a ++ b)) = 0) : labB (funN :: (a ++ b)) = ⟨0, 0, 0, zT⟩ :: ⟨0, 1, 1, zT⟩ :: (labL 1 a ((sidesB a).map turnI) ++ labL (1 + a.length) b (sidesB b)) := by
  unfold labB
  rw [if_pos cp, sides_two ca cb, ← labL_append 1 a b _ _ (by rw [List.length_map]; exact sidesB_len ca 0)]
  rfl
theorem fun_eff {a b : List Node} (ca : checkB a = 0) (cb : checkB b = 0) (cp : checkB (funN :: (a ++ b)) = 0) : effB (funN :: (a ++ b)) = ⟨0, 2, 0, zT⟩ :: (effL 1 a ((sidesB a).map turnI) ++ effL (1 + a.length) b (sidesB b)) := by
  unfold effB
  rw [if_pos cp, sides_two ca cb, ← effL_append 1 a b _ _ (by rw [List.length_map]; exact sidesB_len ca 0)]
  rfl
theorem ref_lab {a : List Node} (ca : checkB a = 0) (cp : checkB (refN :: a) = 0) : labB (refN :: a) = ⟨0, 0, 0, zT⟩ :: labL 1 a ((sidesB a).map fun _ => 2) := by
  unfold labB
  rw [if_pos cp, ← sides_way way_both ca, show sidesB (refN :: a) = 0 :: sidesL a ([2] ++ []) from rfl, List.append_nil]
  rfl
theorem ref_eff {a : List Node} (ca : checkB a = 0) (cp : checkB (refN :: a) = 0) : effB (refN :: a) = effL 1 a ((sidesB a).map fun _ => 2) := by
  unfold effB
  rw [if_pos cp, ← sides_way way_both ca, show sidesB (refN :: a) = 0 :: sidesL a ([2] ++ []) from rfl, List.append_nil]
  rfl
section
variable {hasL hasX : Int → Bool} {leL leX : Int → Int → Bool}
theorem lab_def {a : List Node} (ca : checkB a = 0) : labB a = labL 0 a (sidesB a) := by unfold labB; rw [if_pos ca]
theorem eff_def {a : List Node} (ca : checkB a = 0) : effB a = effL 0 a (sidesB a) := by unfold effB; rw [if_pos ca]
theorem termsB_cons {has : Int → Bool} (x : Spot) (l : List Spot) : termsB has (x :: l) = ((!x.f3.f0 && has x.f3.f1) && termsB has l) := rfl
theorem fun_ok {a b : List Node} (ca : checkB a = 0) (cb : checkB b = 0) (cp : checkB (funN :: (a ++ b)) = 0) (l0 : hasL 0 = true) (x0 : hasX 0 = true) (oa : okT hasL hasX a = true) (ob : okT hasL hasX b = true) : okT hasL hasX (funN :: (a ++ b)) = true := by
  rw [okT, Bool.and_eq_true] at oa ob ⊢
  have l1 : (sidesB a).length = a.length := sidesB_len ca 0
  have l2 : (sidesB b).length = b.length := sidesB_len cb 0
  constructor
  · rw [fun_lab ca cb cp, termsB_cons, termsB_cons, termsB_append, termsB_f3 (lab_f3 1 0 a _ (sidesB a) (by rw [List.length_map]; exact l1) l1), termsB_f3 (lab_f3 (1 + a.length) 0 b _ (sidesB b) l2 l2), ← lab_def ca, ← lab_def cb, oa.1, ob.1]
    simp [zT, l0]
  · rw [fun_eff ca cb cp, termsB_cons, termsB_append, termsB_f3 (eff_f3 1 0 a _ (sidesB a) (by rw [List.length_map]; exact l1) l1), termsB_f3 (eff_f3 (1 + a.length) 0 b _ (sidesB b) l2 l2), ← eff_def ca, ← eff_def cb, oa.2, ob.2]
    simp [zT, x0]
theorem ref_ok {a : List Node} (ca : checkB a = 0) (cp : checkB (refN :: a) = 0) (l0 : hasL 0 = true) (oa : okT hasL hasX a = true) : okT hasL hasX (refN :: a) = true := by
  rw [okT, Bool.and_eq_true] at oa ⊢
  have l1 : (sidesB a).length = a.length := sidesB_len ca 0
  constructor
  · rw [ref_lab ca cp, termsB_cons, termsB_f3 (lab_f3 1 0 a _ (sidesB a) (by rw [List.length_map]; exact l1) l1), ← lab_def ca, oa.1]
    simp [zT, l0]
  · rw [ref_eff ca cp, termsB_f3 (eff_f3 1 0 a _ (sidesB a) (by rw [List.length_map]; exact l1) l1), ← eff_def ca, oa.2]
theorem lab_len {a b : List Node} (h : baseL a b) (i j : Nat) (ss : List Int) : (labL i a ss).length = (labL j b ss).length := by
  have h1 := congrArg List.length (lab_sides i a b ss h)
  have h2 := congrArg List.length (lab_shift i j b ss)
  simp only [List.length_map] at h1 h2
  omega
theorem eff_len {a b : List Node} (h : baseL a b) (i j : Nat) (ss : List Int) : (effL i a ss).length = (effL j b ss).length := by
  have h1 := congrArg List.length (eff_sides i a b ss h)
  have h2 := congrArg List.length (eff_shift i j b ss)
  simp only [List.length_map] at h1 h2
  omega
theorem zero_holds {has : Int → Bool} {le : Int → Int → Bool} (h : SortOk has le) (h0 : has 0 = true) (s : Int) : holdsS le s zT.f1 zT.f1 = true := holds_refl h ⟨by decide, by decide⟩ h0
/-- GroundsParts, in plain Lean: a function. -/
theorem ground_fun (hL : SortOk hasL leL) (hX : SortOk hasX leX) (l0 : hasL 0 = true) (x0 : hasX 0 = true) (a0 a1 b0 b1 : List Node)
    (e : (groundB hasL hasX leL leX b0 a0).2 = 0) (g : (groundB hasL hasX leL leX a1 b1).2 = 0) (cp : checkB (funN :: (a0 ++ a1)) = 0) (cq : checkB (funN :: (b0 ++ b1)) = 0) :
    groundB hasL hasX leL leX (funN :: (a0 ++ a1)) (funN :: (b0 ++ b1)) = ((groundB hasL hasX leL leX b0 a0).1 && (groundB hasL hasX leL leX a1 b1).1, 0) := by
  obtain ⟨cb0, ca0, ob0, oa0, e1⟩ := ground_ok e
  obtain ⟨ca1, cb1, oa1, ob1, g1⟩ := ground_ok g
  rw [ground_zero cp cq (fun_ok ca0 ca1 cp l0 x0 oa0 oa1) (fun_ok cb0 cb1 cq l0 x0 ob0 ob1), e1, g1, sameL, sameN_refl, Bool.true_and, same_two ca0 cb0, same_symm cb0 ca0]
  congr 1
  cases s0 : sameL a0 b0 with
  | false => rfl
  | true =>
    cases s1 : sameL a1 b1 with
    | false => simp
    | true =>
      have h0 := base_of_same (check_may ca0) (check_may cb0) s0
      have h1 := base_of_same (check_may ca1) (check_may cb1) s1
      have q0 : sidesB a0 = sidesB b0 := baseL_sides [0] h0
      have q1 : sidesB a1 = sidesB b1 := baseL_sides [0] h1
      rw [fun_lab ca0 ca1 cp, fun_lab cb0 cb1 cq, fun_eff ca0 ca1 cp, fun_eff cb0 cb1 cq, lab_def ca0, lab_def cb0, lab_def ca1, lab_def cb1, eff_def ca0, eff_def cb0, eff_def ca1, eff_def cb1, q0, q1]
      simp only [belowL]
      rw [zero_holds hL l0, zero_holds hL l0, zero_holds hX x0, belowL_append _ _ _ _ (lab_len h0 1 1 _), belowL_append _ _ _ _ (eff_len h0 1 1 _), lab_turn 1 1 a0 b0 _ h0, eff_turn 1 1 a0 b0 _ h0,
        belowL_key _ _ _ _ (lab_shift 1 0 b0 _) (lab_shift 1 0 a0 _), belowL_key _ _ _ _ (eff_shift 1 0 b0 _) (eff_shift 1 0 a0 _),
        belowL_key _ _ _ _ (lab_shift (1 + a0.length) 0 a1 _) (lab_shift (1 + b0.length) 0 b1 _), belowL_key _ _ _ _ (eff_shift (1 + a0.length) 0 a1 _) (eff_shift (1 + b0.length) 0 b1 _)]
      simp only [Bool.true_and]
      generalize belowL leL (labL 0 b0 (sidesB b0)) (labL 0 a0 (sidesB b0)) = x1
      generalize belowL leX (effL 0 b0 (sidesB b0)) (effL 0 a0 (sidesB b0)) = x2
      generalize belowL leL (labL 0 a1 (sidesB b1)) (labL 0 b1 (sidesB b1)) = x3
      generalize belowL leX (effL 0 a1 (sidesB b1)) (effL 0 b1 (sidesB b1)) = x4
      cases x1 <;> cases x2 <;> cases x3 <;> cases x4 <;> rfl
/-- GroundsParts, in plain Lean: a ref. -/
theorem ground_ref (hL : SortOk hasL leL) (hX : SortOk hasX leX) (l0 : hasL 0 = true) (a0 b0 : List Node)
    (e : (groundB hasL hasX leL leX b0 a0).2 = 0) (f : (groundB hasL hasX leL leX a0 b0).2 = 0) (cp : checkB (refN :: a0) = 0) (cq : checkB (refN :: b0) = 0) :
    groundB hasL hasX leL leX (refN :: a0) (refN :: b0) = ((groundB hasL hasX leL leX b0 a0).1 && (groundB hasL hasX leL leX a0 b0).1, 0) := by
  obtain ⟨cb0, ca0, ob0, oa0, e1⟩ := ground_ok e
  obtain ⟨_, _, _, _, f1⟩ := ground_ok f
  rw [ground_zero cp cq (ref_ok ca0 cp l0 oa0) (ref_ok cb0 cq l0 ob0), e1, f1, sameL, sameN_refl, Bool.true_and, same_symm cb0 ca0]
  congr 1
  cases s0 : sameL a0 b0 with
  | false => rfl
  | true =>
    have h0 := base_of_same (check_may ca0) (check_may cb0) s0
    have q0 : sidesB a0 = sidesB b0 := baseL_sides [0] h0
    rw [ref_lab ca0 cp, ref_lab cb0 cq, ref_eff ca0 cp, ref_eff cb0 cq, lab_def ca0, lab_def cb0, eff_def ca0, eff_def cb0, q0]
    simp only [belowL]
    rw [zero_holds hL l0, lab_both 1 1 a0 b0 _ h0, eff_both 1 1 a0 b0 _ h0, belowL_key _ _ _ _ (lab_shift 1 0 b0 _) (lab_shift 1 0 a0 _), belowL_key _ _ _ _ (eff_shift 1 0 b0 _) (eff_shift 1 0 a0 _),
      belowL_key _ _ _ _ (lab_shift 1 0 a0 _) (lab_shift 1 0 b0 _), belowL_key _ _ _ _ (eff_shift 1 0 a0 _) (eff_shift 1 0 b0 _)]
    simp only [Bool.true_and]
    generalize belowL leL (labL 0 b0 (sidesB b0)) (labL 0 a0 (sidesB b0)) = x1
    generalize belowL leX (effL 0 b0 (sidesB b0)) (effL 0 a0 (sidesB b0)) = x2
    generalize belowL leL (labL 0 a0 (sidesB b0)) (labL 0 b0 (sidesB b0)) = x3
    generalize belowL leX (effL 0 a0 (sidesB b0)) (effL 0 b0 (sidesB b0)) = x4
    cases x1 <;> cases x2 <;> cases x3 <;> cases x4 <;> rfl
end
end L09
end Go.Proofs.YtbdecnagdnancaaGreatDoor
