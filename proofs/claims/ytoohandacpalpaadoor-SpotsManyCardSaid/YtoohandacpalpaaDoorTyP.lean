/- Bodies cut, lengthened, put below another node, and changed: what Check and Deep tell of them. Plain Lean: no program stands in it. -/
import Derived.Test.YtoohandacpalpaaDoorTyE
namespace Go.Proofs.YtoohandacpalpaaDoor
open Go.RowKit Go.Proofs.YtoohandacpalpaaDoorW.PrintWords Go.Proofs.YtoohandacpalpaaDoorW.PrintLast Go.Proofs.YtoohandacpalpaaDoorW.PrintMore
set_option linter.unusedVariables false
set_option linter.unusedSimpArgs false

/-- Counts of what is open: none below nought, none great. -/
def openInv (o : List Int) : Prop := ∀ x ∈ o, 0 ≤ x ∧ x ≤ 8
theorem takes_inv : ∀ (m : Nat) (o : List Int) (k : Int), o.length ≤ m → openInv o → 0 ≤ k → k ≤ 8 → (takes o k).1 ≠ 0 → openInv (takes o k).2 ∧ (takes o k).2.sum = o.sum - 1 + k := by
  intro m
  induction m with
  | zero =>
    intro o k hl hi h0 h8 hn
    obtain rfl := List.eq_nil_of_length_eq_zero (by omega : o.length = 0)
    rw [takes_nil] at hn
    exact absurd rfl hn
  | succ m ih =>
    intro o k hl hi h0 h8 hn
    rcases List.eq_nil_or_concat o with rfl | ⟨p, x, rfl⟩
    · rw [takes_nil] at hn
      exact absurd rfl hn
    · rw [List.concat_eq_append] at hi hn hl ⊢
      have hx := hi x (by simp)
      by_cases hz : x = 0
      · subst hz
        rw [takes_zero'] at hn ⊢
        have := ih p k (by simp at hl; omega) (fun y hy => hi y (by simp [hy])) h0 h8 hn
        refine ⟨this.1, ?_⟩
        rw [this.2]
        simp
      · rw [takes_snoc p x k (by omega) hx.2]
        refine ⟨fun y hy => ?_, ?_⟩
        · simp only [List.mem_append, List.mem_singleton] at hy
          rcases hy with (hy | rfl) | rfl
          · exact hi y (by simp [hy])
          · omega
          · omega
        · simp only [List.sum_append, List.sum_cons, List.sum_nil]
          omega
theorem takes_none : ∀ (m : Nat) (o : List Int) (k : Int), o.length ≤ m → openInv o → ((takes o k).1 = 0 ↔ o.any (fun x => decide (x > 0)) = false) := by
  intro m
  induction m with
  | zero =>
    intro o k hl hi
    obtain rfl := List.eq_nil_of_length_eq_zero (by omega : o.length = 0)
    rw [takes_nil]
    simp
  | succ m ih =>
    intro o k hl hi
    rcases List.eq_nil_or_concat o with rfl | ⟨p, x, rfl⟩
    · rw [takes_nil]
      simp
    · rw [List.concat_eq_append] at hi hl ⊢
      have hx := hi x (by simp)
      by_cases hz : x = 0
      · subst hz
        rw [takes_zero', ih p k (by simp at hl; omega) (fun y hy => hi y (by simp [hy]))]
        simp
      · rw [takes_snoc p x k (by omega) hx.2]
        constructor
        · intro h; simp only at h; omega
        · intro h
          rw [List.any_append, Bool.or_eq_false_iff] at h
          have := h.2
          simp at this
          omega
theorem checkL_cons {n : Node} {t : List Node} {o : List Int} (h : checkL (n :: t) o = 0) : (takes o n.f3).1 ≠ 0 ∧ mayB n = true ∧ 0 ≤ n.f3 ∧ n.f3 ≤ 8 ∧ (takes o n.f3).1 ≤ 16 ∧ checkL t (takes o n.f3).2 = 0 := by
  rw [checkL] at h
  split at h
  · omega
  split at h
  · omega
  split at h
  · omega
  split at h
  · omega
  rename_i h1 h2 h3 h4
  have hm : mayB n = true := by simpa using h2
  have hk := mayB_kids hm
  have e : max 0 n.f3 = n.f3 := by omega
  rw [e] at h h1 h4
  exact ⟨h1, hm, hk, by omega, by omega, h⟩
theorem checkL_cons_eq {n : Node} {t : List Node} {o : List Int} (h1 : (takes o n.f3).1 ≠ 0) (h2 : mayB n = true) (h3 : n.f3 ≤ 8) (h4 : (takes o n.f3).1 ≤ 16) : checkL (n :: t) o = checkL t (takes o n.f3).2 := by
  have hk := mayB_kids h2
  have e : max 0 n.f3 = n.f3 := by omega
  rw [checkL, e, if_neg h1, if_neg (by rw [h2]; decide), if_neg (by omega), if_neg (by omega)]
theorem checkL_last : ∀ (l : List Node) (n : Node) (o : List Int), openInv o → checkL (l ++ [n]) o = 0 → checkL l o = 4
  | [], n, o, hi, h => by
    obtain ⟨h1, _⟩ := checkL_cons h
    rw [checkL, if_pos]
    cases he : o.any (fun x => decide (x > 0)) with
    | true => rfl
    | false => exact absurd ((takes_none o.length o n.f3 (Nat.le_refl _) hi).2 he) h1
  | m :: t, n, o, hi, h => by
    obtain ⟨h1, h2, h3, h4, h5, h6⟩ := checkL_cons (show checkL (m :: (t ++ [n])) o = 0 from h)
    rw [checkL_cons_eq h1 h2 h4 h5]
    exact checkL_last t n _ (takes_inv o.length o m.f3 (Nat.le_refl _) hi h3 h4 h1).1 h6
theorem checkL_next : ∀ (l : List Node) (n : Node) (o : List Int), openInv o → checkL l o = 0 → checkL (l ++ [n]) o = 4
  | [], n, o, hi, h => by
    rw [checkL] at h
    split at h
    · omega
    · rename_i hn
      rw [List.nil_append, checkL, if_pos]
      exact (takes_none o.length o _ (Nat.le_refl _) hi).2 (by simpa using hn)
  | m :: t, n, o, hi, h => by
    obtain ⟨h1, h2, h3, h4, h5, h6⟩ := checkL_cons h
    rw [List.cons_append, checkL_cons_eq h1 h2 h4 h5]
    exact checkL_next t n _ (takes_inv o.length o m.f3 (Nat.le_refl _) hi h3 h4 h1).1 h6
theorem checkL_sum : ∀ (l : List Node) (o : List Int), openInv o → checkL l o = 0 → o.sum + (l.map (·.f3)).sum = l.length
  | [], o, hi, h => by
    rw [checkL] at h
    split at h
    · omega
    · rename_i hn
      have : ∀ (p : List Int), openInv p → p.any (fun x => decide (x > 0)) = false → p.sum = 0 := by
        intro p
        induction p with
        | nil => intros; rfl
        | cons a q ih =>
          intro hp ha
          rw [List.any_cons, Bool.or_eq_false_iff] at ha
          have h1 := hp a (by simp)
          have h2 := ha.1
          simp at h2
          rw [List.sum_cons, ih (fun y hy => hp y (by simp [hy])) ha.2]
          omega
      rw [this o hi (by simpa using hn)]
      simp
  | m :: t, o, hi, h => by
    obtain ⟨h1, h2, h3, h4, h5, h6⟩ := checkL_cons h
    have hv := takes_inv o.length o m.f3 (Nat.le_refl _) hi h3 h4 h1
    have := checkL_sum t _ hv.1 h6
    rw [hv.2] at this
    simp only [List.map_cons, List.sum_cons, List.length_cons]
    omega
theorem openInv_one : openInv [1] := fun x hx => by simp at hx; omega
theorem checkB_L {body : List Node} (h : checkB body = 0) : 0 < body.length ∧ body.length ≤ 128 ∧ checkL body [1] = 0 := by
  unfold checkB at h
  split at h
  · omega
  split at h
  · omega
  exact ⟨by omega, by omega, h⟩
/-- One node fewer at the end. -/
theorem check_init {body : List Node} (h : checkB body = 0) : checkB (body.take (body.length - 1)) = if body.length = 1 then 1 else 4 := by
  obtain ⟨h0, h1, h2⟩ := checkB_L h
  obtain ⟨p, n, rfl⟩ : ∃ p n, body = p ++ [n] := by
    rcases List.eq_nil_or_concat body with rfl | ⟨p, x, rfl⟩
    · simp at h0
    · exact ⟨p, x, by simp⟩
  have e : (p ++ [n]).take ((p ++ [n]).length - 1) = p := by simp
  rw [e]
  simp only [List.length_append, List.length_singleton] at h0 h1 ⊢
  unfold checkB
  by_cases hz : p.length = 0
  · rw [if_pos hz, if_pos (by omega)]
  · rw [if_neg hz, if_neg (by omega), if_neg (by omega)]
    exact checkL_last p n [1] openInv_one h2
/-- One node more at the end. -/
theorem check_more {body : List Node} (h : checkB body = 0) (h7 : body.length ≤ 127) (n : Node) : checkB (body ++ [n]) = 4 := by
  obtain ⟨h0, h1, h2⟩ := checkB_L h
  unfold checkB
  rw [if_neg (by simp), if_neg (by simp; omega)]
  exact checkL_next body n [1] openInv_one h2
theorem sum_set : ∀ (l : List Node) (k : Nat) (hk : k < l.length) (n : Node), ((l.set k n).map (·.f3)).sum = (l.map (·.f3)).sum - (l[k]).f3 + n.f3
  | a :: t, 0, _, n => by simp; omega
  | a :: t, k + 1, hk, n => by
    have := sum_set t k (by simpa using hk) n
    simp only [List.set_cons_succ, List.map_cons, List.sum_cons, List.getElem_cons_succ]
    omega
/-- One more below a node. -/
theorem check_kid {body : List Node} (h : checkB body = 0) (k : Nat) (hk : k < body.length) (n : Node) (hn : n.f3 = body[k].f3 + 1) : checkB (body.set k n) ≠ 0 := by
  intro h'
  obtain ⟨h0, h1, h2⟩ := checkB_L h
  obtain ⟨_, _, h3⟩ := checkB_L h'
  have a := checkL_sum body [1] openInv_one h2
  have b := checkL_sum _ [1] openInv_one h3
  rw [sum_set body k hk, hn] at b
  simp only [List.length_set] at b
  omega
theorem mem_f3 : ∀ (l : List Node) (o : List Int), openInv o → checkL l o = 0 → ∀ n ∈ l, 0 ≤ n.f3 ∧ n.f3 ≤ 8
  | [], _, _, _, _, hn => by simp at hn
  | m :: t, o, hi, h, n, hn => by
    obtain ⟨h1, h2, h3, h4, h5, h6⟩ := checkL_cons h
    rcases List.mem_cons.1 hn with rfl | hn
    · exact ⟨h3, h4⟩
    · exact mem_f3 t _ (takes_inv o.length o m.f3 (Nat.le_refl _) hi h3 h4 h1).1 h6 n hn
theorem check_f3 {body : List Node} (h : checkB body = 0) : ∀ n ∈ body, 0 ≤ n.f3 ∧ n.f3 ≤ 8 := mem_f3 body [1] openInv_one (checkB_L h).2.2

/-! ### forests that may be too deep -/
namespace Fo
def fit : Fo → Prop
  | nil => True
  | cons n ks r => mayB n = true ∧ n.f3 = (count ks : Int) ∧ n.f3 ≤ 8 ∧ fit ks ∧ fit r
theorem fit_of_ok : ∀ (f : Fo) (d : Nat), ok f d → fit f
  | nil, _, _ => trivial
  | cons n ks r, d, ⟨h1, h2, h3, h4, h5, h6⟩ => ⟨h1, h2, h3, fit_of_ok ks _ h5, fit_of_ok r _ h6⟩
theorem ok_of_fit : ∀ (f : Fo) (d : Nat), fit f → (0 < height f → d + height f ≤ 17) → ok f d
  | nil, _, _, _ => trivial
  | cons n ks r, d, ⟨h1, h2, h3, h5, h6⟩, h => by
    simp only [height] at h
    have h0 := h (by omega)
    exact ⟨h1, h2, h3, by omega, ok_of_fit ks _ h5 (fun _ => by omega), ok_of_fit r _ h6 (fun _ => by omega)⟩
end Fo
theorem checkL_deep : ∀ (f : Fo) (os : List Int) (x : Int) (r : List Node), f.fit → (f.count : Int) ≤ x → x ≤ 8 → 16 < os.length + f.height → 0 < f.height → checkL (f.flat ++ r) (os ++ [x]) = 3
  | .nil, os, x, r, _, _, _, _, h => absurd h (by simp [Fo.height])
  | .cons n ks rest, os, x, r, ⟨h1, h2, h3, h5, h6⟩, hc, h8, hd, hp => by
    simp only [Fo.count] at hc
    have hk := mayB_kids h1
    have e1 : max 0 n.f3 = n.f3 := by omega
    simp only [Fo.flat, List.cons_append, List.append_assoc]
    rw [checkL, e1, takes_snoc os x n.f3 (by omega) h8]
    rw [if_neg (by simp only; omega), if_neg (by rw [h1]; simp), if_neg (by omega)]
    by_cases ht : (os.length : Int) + 1 > 16
    · rw [if_pos ht]
    · rw [if_neg ht]
      simp only
      by_cases hks : 16 < os.length + 1 + ks.height ∧ 0 < ks.height
      · exact checkL_deep ks (os ++ [x - 1]) n.f3 _ h5 (by omega) h3 (by simp; omega) hks.2
      · rw [checkL_fo ks (os ++ [x - 1]) n.f3 _ (Fo.ok_of_fit ks _ h5 (fun hpos => by simp; omega)) (by omega) h3, h2, Int.sub_self, checkL_zero]
        simp only [Fo.height] at hd
        exact checkL_deep rest os (x - 1) r h6 (by omega) (by omega) (by omega) (by omega)
/-- A tree that is a body, but perhaps too deep, or has too many nodes. -/
theorem check_fit (f : Fo) (hf : f.fit) (hc : f.count = 1) : checkB f.flat = if 128 < f.flat.length then 3 else if 16 < f.height then 3 else 0 := by
  have hp := Fo.flat_len_pos f (by omega)
  have hh := Fo.height_pos f (by omega)
  by_cases h1 : 128 < f.flat.length
  · unfold checkB
    rw [if_neg (by omega), if_pos h1, if_pos h1]
  rw [if_neg h1]
  by_cases h2 : 16 < f.height
  · rw [if_pos h2]
    unfold checkB
    rw [if_neg (by omega), if_neg (by omega)]
    have := checkL_deep f [] 1 [] hf (by omega) (by omega) (by simpa using h2) hh
    simpa using this
  · rw [if_neg h2]
    exact check_tree f ⟨hc, Fo.ok_of_fit f 1 hf (fun _ => by omega)⟩ (by omega)
theorem deep_fit (f : Fo) (hf : f.fit) (hc : f.count = 1) (h1 : f.flat.length ≤ 128) (h2 : f.height ≤ 16) : deepB f.flat = f.height :=
  deep_tree f ⟨hc, Fo.ok_of_fit f 1 hf (fun _ => by omega)⟩ h1
theorem body_tree {body : List Node} (h : checkB body = 0) : ∃ f : Fo, f.fit ∧ f.count = 1 ∧ body = f.flat ∧ deepB body = f.height ∧ 0 < f.height ∧ f.height ≤ 16 ∧ body.length ≤ 128 := by
  obtain ⟨hl, f, hf, rfl⟩ := (check_iff body).1 h
  refine ⟨f, Fo.fit_of_ok f 1 hf.2, hf.1, rfl, deep_tree f hf hl, Fo.height_pos f (by have := hf.1; omega), ?_, hl⟩
  have := Fo.ok_height f 1 hf.2 (Fo.height_pos f (by have := hf.1; omega))
  omega

/-! ### one node alone -/
theorem check_one (n : Node) : checkB [n] = if mayB n = false then 4 else if n.f3 > 8 then 3 else if n.f3 > 0 then 4 else 0 := by
  unfold checkB
  rw [if_neg (by simp), if_neg (by simp), checkL]
  have e : takes [1] (max 0 n.f3) = (1, [0] ++ [max 0 n.f3]) := takes_snoc [] 1 (max 0 n.f3) (by omega) (by omega)
  rw [e]
  simp only
  rw [if_neg (by decide)]
  split
  · rfl
  split
  · rfl
  rw [if_neg (by decide), checkL]
  simp
  by_cases h : 0 < n.f3
  · simp [h]
    omega
  · simp [h]
    omega

/-! ### the same but for terms -/
theorem sameL_iff : ∀ (xs ys : List Node), sameL xs ys = true ↔ xs.length = ys.length ∧ ∀ (i : Nat) (h1 : i < xs.length) (h2 : i < ys.length), sameN xs[i] ys[i] = true
  | [], [] => by simp [sameL]
  | [], y :: ys => by simp [sameL]
  | x :: xs, [] => by simp [sameL]
  | x :: xs, y :: ys => by
    rw [sameL, Bool.and_eq_true, sameL_iff xs ys]
    constructor
    · rintro ⟨h1, h2, h3⟩
      refine ⟨by simp [h2], fun i => ?_⟩
      cases i with
      | zero => intro _ _; exact h1
      | succ i => intro a b; exact h3 i (by simpa using a) (by simpa using b)
    · rintro ⟨h1, h2⟩
      exact ⟨h2 0 (by simp) (by simp), by simpa using h1, fun i a b => h2 (i + 1) (by simpa using a) (by simpa using b)⟩
end Go.Proofs.YtoohandacpalpaaDoor
