/- Bodies as forests: what Check, End and Deep tell of them. Plain Lean: no program stands in it. -/
import Derived.Test.YtoohandacpalpaaDoorTyD
namespace Go.Proofs.YtoohandacpalpaaDoor
open Go.RowKit Go.Proofs.YtoohandacpalpaaDoorW.PrintWords Go.Proofs.YtoohandacpalpaaDoorW.PrintLast Go.Proofs.YtoohandacpalpaaDoorW.PrintMore
set_option linter.unusedVariables false
set_option linter.unusedSimpArgs false

/-- Trees side by side: a node, those below it, and the rest. -/
inductive Fo where
  | nil
  | cons (n : Node) (ks rest : Fo)
namespace Fo
def flat : Fo → List Node
  | nil => []
  | cons n ks r => n :: (flat ks ++ flat r)
def count : Fo → Nat
  | nil => 0
  | cons _ _ r => count r + 1
def height : Fo → Nat
  | nil => 0
  | cons _ ks r => max (height ks + 1) (height r)
/-- Each node may be, has as many below it as it says, not too many, and is not too deep. -/
def ok : Fo → Nat → Prop
  | nil, _ => True
  | cons n ks r, d => mayB n = true ∧ n.f3 = (count ks : Int) ∧ n.f3 ≤ 8 ∧ d ≤ 16 ∧ ok ks (d + 1) ∧ ok r d
theorem ok_le : ∀ (f : Fo) (d d' : Nat), ok f d → d' ≤ d → ok f d'
  | nil, _, _, _, _ => trivial
  | cons n ks r, d, d', ⟨h1, h2, h3, h4, h5, h6⟩, h => ⟨h1, h2, h3, by omega, ok_le ks _ _ h5 (by omega), ok_le r _ _ h6 h⟩
theorem ok_height : ∀ (f : Fo) (d : Nat), ok f d → 0 < height f → d + height f ≤ 17
  | nil, _, _, h => absurd h (by simp [height])
  | cons n ks r, d, ⟨h1, h2, h3, h4, h5, h6⟩, _ => by
    have i1 := ok_height ks (d + 1) h5
    have i2 := ok_height r d h6
    simp only [height]
    omega
theorem ok_of_height : ∀ (f : Fo) (d d' : Nat), ok f d → (0 < height f → d' + height f ≤ 17) → ok f d'
  | nil, _, _, _, _ => trivial
  | cons n ks r, d, d', ⟨h1, h2, h3, h4, h5, h6⟩, h => by
    simp only [height] at h
    have h0 := h (by omega)
    exact ⟨h1, h2, h3, by omega, ok_of_height ks _ _ h5 (fun _ => by omega), ok_of_height r _ _ h6 (fun _ => by omega)⟩
theorem height_pos : ∀ (f : Fo), 0 < count f → 0 < height f
  | nil, h => absurd h (by simp [count])
  | cons n ks r, _ => by simp only [height]; omega
theorem flat_len_pos (f : Fo) (h : 0 < count f) : 0 < f.flat.length := by
  cases f with
  | nil => simp [count] at h
  | cons n ks r => simp [flat]
theorem flat_nil_of_count (f : Fo) (h : count f = 0) : f = nil := by
  cases f with
  | nil => rfl
  | cons n ks r => simp [count] at h
end Fo

theorem wrap_small (x : Int) (h0 : 0 ≤ x) (h : x ≤ 100) : wrap64 x = x := by unfold wrap64; omega
theorem takes_snoc (os : List Int) (x k : Int) (h1 : 1 ≤ x) (h8 : x ≤ 8) : takes (os ++ [x]) k = ((os.length : Int) + 1, os ++ [x - 1] ++ [k]) := by
  have e : popZ (os ++ [x]) = os ++ [x] := by rw [popZ_snoc, if_neg (by omega)]
  unfold takes
  rw [e]
  have e2 : (os ++ [x]).length = os.length + 1 := by simp
  simp only [e2, Nat.add_sub_cancel]
  rw [if_neg (by omega)]
  have e3 : (os ++ [x]).getD os.length 0 = x := by simp [List.getD_eq_getElem?_getD]
  have e4 : (os ++ [x]).set os.length (wrap64 (x - 1)) = os ++ [wrap64 (x - 1)] := by
    rw [List.set_append_right _ _ (Nat.le_refl _)]; simp
  rw [e3, e4, wrap_small _ (by omega) (by omega)]
  simp
theorem takes_zero' (os : List Int) (k : Int) : takes (os ++ [0]) k = takes os k := by
  unfold takes
  rw [popZ_snoc, if_pos rfl]
theorem takes_nil (k : Int) : takes [] k = (0, []) := by simp [takes, popZ]
theorem checkL_zero (l : List Node) (os : List Int) : checkL l (os ++ [0]) = checkL l os := by
  cases l with
  | nil => simp [checkL]
  | cons n t => rw [checkL, checkL, takes_zero']
theorem mayB_kids {n : Node} (h : mayB n = true) : 0 ≤ n.f3 := by
  unfold mayB mayV at h
  repeat' split at h
  all_goals simp at h
  all_goals omega

/-- A forest at its place: what Check makes of it. -/
theorem checkL_fo : ∀ (f : Fo) (os : List Int) (x : Int) (r : List Node), f.ok (os.length + 1) → (f.count : Int) ≤ x → x ≤ 8 → checkL (f.flat ++ r) (os ++ [x]) = checkL r (os ++ [x - f.count])
  | .nil, os, x, r, _, _, _ => by simp [Fo.flat, Fo.count]
  | .cons n ks rest, os, x, r, ⟨h1, h2, h3, h4, h5, h6⟩, hc, h8 => by
    simp only [Fo.count] at hc
    have hk := mayB_kids h1
    have e1 : max 0 n.f3 = n.f3 := by omega
    simp only [Fo.flat, List.cons_append, List.append_assoc]
    rw [checkL, e1, takes_snoc os x n.f3 (by omega) h8]
    rw [if_neg (by simp only; omega), if_neg (by rw [h1]; simp), if_neg (by omega), if_neg (by simp only; omega)]
    simp only
    rw [checkL_fo ks (os ++ [x - 1]) n.f3 _ (by simpa using h5) (by omega) h3, h2, Int.sub_self, checkL_zero, checkL_fo rest os (x - 1) r h6 (by omega) (by omega)]
    simp only [Fo.count]
    congr 3
    omega
theorem checkL_back : ∀ (m : Nat) (l : List Node) (os : List Int) (x : Nat), l.length ≤ m → x ≤ 8 → checkL l (os ++ [(x : Int)]) = 0 →
    ∃ (f : Fo) (r : List Node), f.count = x ∧ f.ok (os.length + 1) ∧ l = f.flat ++ r ∧ checkL r os = 0 := by
  intro m
  induction m with
  | zero =>
    intro l os x hl h8 h
    obtain rfl := List.eq_nil_of_length_eq_zero (by omega : l.length = 0)
    cases x with
    | zero => exact ⟨.nil, [], rfl, trivial, rfl, by rw [← checkL_zero]; exact h⟩
    | succ x => rw [checkL, if_pos (by first | (simp; done) | (simp; omega))] at h; exact absurd h (by decide)
  | succ m ih =>
    intro l os x
    induction x with
    | zero => intro hl h8 h; exact ⟨.nil, l, rfl, trivial, rfl, by rw [← checkL_zero]; exact h⟩
    | succ x _ =>
      intro hl h8 h
      cases l with
      | nil => rw [checkL, if_pos (by first | (simp; done) | (simp; omega))] at h; exact absurd h (by decide)
      | cons n t =>
        rw [checkL, takes_snoc os _ _ (by omega) (by omega)] at h
        simp only at h
        split at h
        · omega
        split at h
        · omega
        split at h
        · omega
        split at h
        · omega
        rename_i h1 h2 h3 h4
        have hm : mayB n = true := by simpa using h2
        have hk := mayB_kids hm
        have e1 : max 0 n.f3 = (n.f3.toNat : Int) := by omega
        rw [e1] at h
        simp only [List.length_cons] at hl
        obtain ⟨ks, r, hc, hok, hr, hrest⟩ := ih t (os ++ [((x + 1 : Nat) : Int) - 1]) n.f3.toNat (by omega) (by omega) h
        have hlr : r.length ≤ m := by
          have := congrArg List.length hr
          simp at this
          omega
        have e2 : ((x + 1 : Nat) : Int) - 1 = (x : Int) := by omega
        rw [e2] at hrest
        obtain ⟨f, r2, hc2, hok2, hr2, hrest2⟩ := ih r os x hlr (by omega) hrest
        refine ⟨.cons n ks f, r2, by simp [Fo.count, hc2], ⟨hm, by omega, by omega, by omega, by simpa using hok, hok2⟩, ?_, hrest2⟩
        simp only [Fo.flat, List.cons_append, List.append_assoc]
        rw [hr, hr2]
theorem checkL_empty (r : List Node) (h : checkL r [] = 0) : r = [] := by
  cases r with
  | nil => rfl
  | cons n t => rw [checkL, takes_nil, if_pos rfl] at h; omega
/-- A tree: a forest of one. -/
def isTree (f : Fo) : Prop := f.count = 1 ∧ f.ok 1
theorem check_iff (body : List Node) : checkB body = 0 ↔ body.length ≤ 128 ∧ ∃ f, isTree f ∧ body = f.flat := by
  constructor
  · intro h
    unfold checkB at h
    split at h
    · omega
    split at h
    · omega
    rename_i h1 h2
    obtain ⟨f, r, hc, hok, hr, hrest⟩ := checkL_back body.length body [] 1 (Nat.le_refl _) (by omega) h
    obtain rfl := checkL_empty r hrest
    exact ⟨by omega, f, ⟨hc, by simpa using hok⟩, by simpa using hr⟩
  · rintro ⟨hl, f, ⟨hc, hok⟩, rfl⟩
    have hp := Fo.flat_len_pos f (by omega)
    unfold checkB
    rw [if_neg (by omega), if_neg (by omega)]
    have h := checkL_fo f [] 1 [] (by simpa using hok) (by omega) (by omega)
    rw [List.append_nil, hc] at h
    rw [show ([1] : List Int) = [] ++ [1] from rfl, h]
    simp [checkL]

/-! ### Deep and End -/
/-- The greatest depth, from what is open on. -/
def deepL : List Node → List Int → Int → Int
  | [], _, d => d
  | n :: t, o, d => deepL t (takes o n.f3).2 (max d (takes o n.f3).1)
def deepB (body : List Node) : Int := if checkB body = 0 then deepL body [1] 0 else 0
/-- How many nodes are taken till nothing is open; none: there are too few. -/
def endL : List Node → List Int → Option Nat
  | l, o => if o.any (fun x => decide (x > 0)) then match l with
    | [] => none
    | n :: t => (endL t (takes o n.f3).2).map (· + 1) else some 0
def endB (body : List Node) (at_ : Int) : Int :=
  if at_ < 0 then 0 else if at_ ≥ body.length then 0 else if checkB body = 0 then at_ + ((endL (body.drop at_.toNat) [1]).getD 0 : Nat) else 0
theorem deepL_zero (l : List Node) (os : List Int) (d : Int) : deepL l (os ++ [0]) d = deepL l os d := by
  cases l with
  | nil => rfl
  | cons n t => rw [deepL, deepL, takes_zero']
theorem deepL_fo : ∀ (f : Fo) (os : List Int) (x d : Int) (r : List Node), f.ok (os.length + 1) → (f.count : Int) ≤ x → x ≤ 8 → deepL (f.flat ++ r) (os ++ [x]) d = deepL r (os ++ [x - f.count]) (if f.count = 0 then d else max d (os.length + f.height))
  | .nil, os, x, d, r, _, _, _ => by simp [Fo.flat, Fo.count]
  | .cons n ks rest, os, x, d, r, ⟨h1, h2, h3, h4, h5, h6⟩, hc, h8 => by
    simp only [Fo.count] at hc
    simp only [Fo.flat, List.cons_append, List.append_assoc]
    rw [deepL, takes_snoc os x n.f3 (by omega) h8]
    simp only
    rw [deepL_fo ks (os ++ [x - 1]) n.f3 _ _ (by simpa using h5) (by omega) h3, h2, Int.sub_self, deepL_zero, deepL_fo rest os (x - 1) _ r h6 (by omega) (by omega)]
    have e : x - 1 - (rest.count : Int) = x - ((Fo.cons n ks rest).count : Int) := by simp only [Fo.count]; omega
    rw [e]
    congr 1
    have q1 : (Fo.cons n ks rest).count ≠ 0 := by simp [Fo.count]
    rw [if_neg q1]
    simp only [Fo.height, List.length_append, List.length_singleton]
    have z1 : ks.count = 0 → ks.height = 0 := fun h => by rw [Fo.flat_nil_of_count ks h]; rfl
    have z2 : rest.count = 0 → rest.height = 0 := fun h => by rw [Fo.flat_nil_of_count rest h]; rfl
    split <;> split <;> (try have := z1 (by assumption)) <;> (try have := z2 (by assumption)) <;> omega
theorem deep_tree (f : Fo) (h : isTree f) (hl : f.flat.length ≤ 128) : deepB f.flat = f.height := by
  have hc : checkB f.flat = 0 := (check_iff _).2 ⟨hl, f, h, rfl⟩
  unfold deepB
  rw [if_pos hc]
  have e := deepL_fo f [] 1 0 [] (by simpa using h.2) (by rw [h.1]; omega) (by omega)
  rw [List.append_nil] at e
  rw [show ([1] : List Int) = [] ++ [1] from rfl, e, deepL, if_neg (by rw [h.1]; omega)]
  simp
theorem endL_zero (l : List Node) (os : List Int) : endL l (os ++ [0]) = endL l os := by
  cases l with
  | nil => simp [endL]
  | cons n t => rw [endL, endL, takes_zero']; simp
theorem endL_fo : ∀ (f : Fo) (os : List Int) (x : Int) (r : List Node), f.ok (os.length + 1) → (f.count : Int) ≤ x → x ≤ 8 → endL (f.flat ++ r) (os ++ [x]) = (endL r (os ++ [x - f.count])).map (· + f.flat.length)
  | .nil, os, x, r, _, _, _ => by simp [Fo.flat, Fo.count]
  | .cons n ks rest, os, x, r, ⟨h1, h2, h3, h4, h5, h6⟩, hc, h8 => by
    simp only [Fo.count] at hc
    simp only [Fo.flat, List.cons_append, List.append_assoc]
    rw [endL, if_pos (by simp; omega), takes_snoc os x n.f3 (by omega) h8]
    simp only
    rw [endL_fo ks (os ++ [x - 1]) n.f3 _ (by simpa using h5) (by omega) h3, h2, Int.sub_self, endL_zero, endL_fo rest os (x - 1) r h6 (by omega) (by omega)]
    have e : x - 1 - (rest.count : Int) = x - ((Fo.cons n ks rest).count : Int) := by simp only [Fo.count]; omega
    rw [e]
    simp only [Option.map_map]
    congr 1
    funext k
    simp
    omega
theorem endL_stop (l : List Node) (o : List Int) (h : o.any (fun x => decide (x > 0)) = false) : endL l o = some 0 := by
  cases l <;> rw [endL, if_neg (by rw [h]; simp)]
theorem endL_tree (f : Fo) (h : isTree f) (r : List Node) : endL (f.flat ++ r) [1] = some f.flat.length := by
  have e := endL_fo f [] 1 r (by simpa using h.2) (by rw [h.1]; omega) (by omega)
  rw [h.1] at e
  rw [show ([1] : List Int) = [] ++ [1] from rfl, e, endL_stop _ _ (by simp)]
  simp

/-! ### Where a node stands -/
/-- The tree that begins at a place of a forest. -/
def Fo.sub : Fo → Nat → Option (Fo × Nat)
  | .nil, _ => none
  | .cons n ks r, 0 => some (.cons n ks .nil, 0)
  | .cons n ks r, k + 1 => if k < ks.flat.length then (ks.sub k).map (fun p => (p.1, p.2 + 1)) else r.sub (k - ks.flat.length)
theorem Fo.sub_spec : ∀ (f : Fo) (d k : Nat), f.ok d → k < f.flat.length → ∃ s j pre post, f.sub k = some (s, j) ∧ s.count = 1 ∧ s.ok (d + j) ∧ f.flat = pre ++ (s.flat ++ post) ∧ pre.length = k ∧ j + s.height ≤ f.height ∧ (f.count = 1 → 0 < k → 0 < j)
  | .nil, _, _, _, h => by simp [Fo.flat] at h
  | .cons n ks r, d, 0, ⟨h1, h2, h3, h4, h5, h6⟩, _ =>
    ⟨.cons n ks .nil, 0, [], r.flat, rfl, rfl, ⟨h1, h2, h3, h4, h5, trivial⟩, by simp [Fo.flat], rfl, by simp only [Fo.height]; omega, fun _ h => by omega⟩
  | .cons n ks r, d, k + 1, ⟨h1, h2, h3, h4, h5, h6⟩, h => by
    by_cases hk : k < ks.flat.length
    · obtain ⟨s, j, pre, post, e1, e2, e3, e4, e5, e6, _⟩ := Fo.sub_spec ks (d + 1) k h5 hk
      refine ⟨s, j + 1, n :: pre, post ++ r.flat, by rw [Fo.sub, if_pos hk, e1]; rfl, e2, by rw [show d + (j + 1) = d + 1 + j by omega]; exact e3, by simp [Fo.flat, e4], by simp [e5], by simp only [Fo.height]; omega, fun _ _ => by omega⟩
    · simp only [Fo.flat, List.length_cons, List.length_append] at h
      obtain ⟨s, j, pre, post, e1, e2, e3, e4, e5, e6, e7⟩ := Fo.sub_spec r d (k - ks.flat.length) h6 (by omega)
      refine ⟨s, j, n :: (ks.flat ++ pre), post, by rw [Fo.sub, if_neg hk, e1], e2, e3, by simp [Fo.flat, e4], by simp [e5]; omega, by simp only [Fo.height]; omega, fun hc _ => ?_⟩
      simp only [Fo.count] at hc
      have := Fo.flat_nil_of_count r (by omega)
      subst this
      simp [Fo.flat] at e4
      have h9 := Fo.flat_len_pos s (by omega)
      have h10 := e4.2.1
      rw [h10] at h9
      simp at h9
/-- At each place of a body that may be a tree begins, whose nodes stand from there to its end. -/
theorem tree_at (body : List Node) (h : checkB body = 0) (k : Nat) (hk : k < body.length) :
    ∃ s, isTree s ∧ body.drop k = s.flat ++ body.drop (k + s.flat.length) ∧ k + s.flat.length ≤ body.length ∧ endB body k = ((k + s.flat.length : Nat) : Int) ∧ (s.height : Int) ≤ deepB body ∧ (0 < k → (s.height : Int) < deepB body) ∧ 0 < s.flat.length := by
  obtain ⟨hl, f, hf, rfl⟩ := (check_iff body).1 h
  obtain ⟨s, j, pre, post, e1, e2, e3, e4, e5, e6, e7⟩ := Fo.sub_spec f 1 k hf.2 hk
  have hs : isTree s := ⟨e2, Fo.ok_le s _ _ e3 (by omega)⟩
  have hd : f.flat.drop k = s.flat ++ post := by rw [e4, List.drop_append_of_le_length (by omega), List.drop_eq_nil_of_le (by omega), List.nil_append]
  have hd2 : f.flat.drop (k + s.flat.length) = post := by rw [← List.drop_drop, hd, List.drop_left]
  have hlen : k + s.flat.length ≤ f.flat.length := by
    have := congrArg List.length e4
    simp at this
    omega
  refine ⟨s, hs, by rw [hd2, hd], hlen, ?_, ?_, ?_, Fo.flat_len_pos s (by omega)⟩
  · unfold endB
    rw [if_neg (by omega), if_neg (by omega), if_pos h, Int.toNat_natCast, hd, endL_tree s hs]
    simp
  · rw [deep_tree f hf hl]; omega
  · intro h0
    have := e7 hf.1 h0
    rw [deep_tree f hf hl]; omega

theorem end_at (body : List Node) (h : checkB body = 0) (k : Nat) (hk : k < body.length) (t : Fo) (r : List Node) (ht : isTree t) (hd : body.drop k = t.flat ++ r) : endB body k = ((k + t.flat.length : Nat) : Int) := by
  unfold endB
  rw [if_neg (by omega), if_neg (by omega), if_pos h, Int.toNat_natCast, hd, endL_tree t ht]
  simp
theorem end_root (body : List Node) (h : checkB body = 0) : endB body 0 = body.length := by
  obtain ⟨hl, f, hf, rfl⟩ := (check_iff body).1 h
  have := Fo.flat_len_pos f (by rw [hf.1]; omega)
  have e := end_at f.flat h 0 this f [] hf (by simp)
  simpa using e
theorem check_tree (s : Fo) (h : isTree s) (hl : s.flat.length ≤ 128) : checkB s.flat = 0 := (check_iff _).2 ⟨hl, s, h, rfl⟩
end Go.Proofs.YtoohandacpalpaaDoor
