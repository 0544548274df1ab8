/- Bodies whose terms are others, and bodies with another node: what Check and Same tell of them. Plain Lean: no program stands in it. -/
import Derived.Test.YtoohandacpalpaaDoorTyP
namespace Go.Proofs.YtoohandacpalpaaDoor
open Go.RowKit Go.Proofs.YtoohandacpalpaaDoorW.PrintWords Go.Proofs.YtoohandacpalpaaDoorW.PrintLast Go.Proofs.YtoohandacpalpaaDoorW.PrintMore
set_option linter.unusedVariables false
set_option linter.unusedSimpArgs false
/-- Nodes that Check takes alike. -/
def likeN (x y : Node) : Prop := mayB x = mayB y ∧ x.f3 = y.f3
theorem checkL_like : ∀ (xs ys : List Node) (o : List Int), xs.length = ys.length → (∀ (i : Nat) (h1 : i < xs.length) (h2 : i < ys.length), likeN xs[i] ys[i]) → checkL xs o = checkL ys o
  | [], [], _, _, _ => rfl
  | [], _ :: _, _, h, _ => by simp at h
  | _ :: _, [], _, h, _ => by simp at h
  | x :: xs, y :: ys, o, h, hl => by
    obtain ⟨h1, h2⟩ := hl 0 (by simp) (by simp)
    simp only [List.getElem_cons_zero] at h1 h2
    rw [checkL, checkL, h1, h2, checkL_like xs ys _ (by simpa using h) (fun i a b => hl (i + 1) (by simpa using a) (by simpa using b))]
theorem checkB_like (xs ys : List Node) (h : xs.length = ys.length) (hl : ∀ (i : Nat) (h1 : i < xs.length) (h2 : i < ys.length), likeN xs[i] ys[i]) : checkB xs = checkB ys := by
  unfold checkB
  rw [h, checkL_like xs ys [1] h hl]
theorem sameL_get {xs ys : List Node} (h : sameL xs ys = true) (i : Nat) (h1 : i < xs.length) (h2 : i < ys.length) : sameN xs[i] ys[i] = true := ((sameL_iff xs ys).1 h).2 i h1 h2
theorem sameL_ne {xs ys : List Node} (i : Nat) (h1 : i < xs.length) (h2 : i < ys.length) (h : sameN xs[i] ys[i] = false) : sameL xs ys = false := by
  cases hs : sameL xs ys with
  | false => rfl
  | true => rw [sameL_get hs i h1 h2] at h; cases h

/-- A node with the terms that TypesSame gives the one at i. -/
def chgN (l : List Term) (i : Nat) (n : Node) : Node :=
  if n.f0 = 5 then { n with f4 := l.getD (i % l.length) ⟨false, 0⟩, f5 := l.getD ((i + 1) % l.length) ⟨false, 0⟩, f6 := l.getD ((i + 2) % l.length) ⟨false, 0⟩ }
  else { n with f4 := l.getD (i % l.length) ⟨false, 0⟩ }
theorem chgN_like (l : List Term) (i : Nat) (n : Node) : likeN n (chgN l i n) := by
  unfold likeN chgN
  split
  · rename_i h
    refine ⟨?_, rfl⟩
    simp [mayB, mayV, h]
  · exact ⟨rfl, rfl⟩
theorem chgN_same (l : List Term) (i : Nat) (n : Node) : sameN n (chgN l i n) = true := by
  unfold chgN
  split <;> simp [sameN]
theorem chgN_f (l : List Term) (i : Nat) (n : Node) : (chgN l i n).f0 = n.f0 ∧ (chgN l i n).f1 = n.f1 ∧ (chgN l i n).f2 = n.f2 ∧ (chgN l i n).f3 = n.f3 := by
  unfold chgN
  split <;> exact ⟨rfl, rfl, rfl, rfl⟩
/-- The first k nodes with their new terms. -/
def chgB (l : List Term) (body : List Node) (k : Nat) : List Node := body.mapIdx fun i n => if i < k then chgN l i n else n
theorem chgB_len (l : List Term) (body : List Node) (k : Nat) : (chgB l body k).length = body.length := by simp [chgB]
theorem chgB_zero (l : List Term) (body : List Node) : chgB l body 0 = body := by
  apply List.ext_getElem
  · simp [chgB]
  · intro i h1 h2
    simp [chgB]
theorem chgB_get (l : List Term) (body : List Node) (k i : Nat) (h : i < (chgB l body k).length) (h2 : i < body.length) : (chgB l body k)[i] = if i < k then chgN l i body[i] else body[i] := by
  simp [chgB]
theorem chgB_step (l : List Term) (body : List Node) (k : Nat) (h : k < body.length) : chgB l body (k + 1) = (chgB l body k).set k (chgN l k body[k]) := by
  apply List.ext_getElem
  · simp [chgB]
  · intro i h1 h2
    have hi : i < body.length := by simpa [chgB] using h1
    rw [List.getElem_set, chgB_get l body (k + 1) i h1 hi]
    by_cases hk : k = i
    · subst hk
      rw [if_pos rfl, if_pos (by omega)]
    · rw [if_neg hk, chgB_get l body k i (by rw [chgB_len]; exact hi) hi]
      by_cases hlt : i < k
      · rw [if_pos hlt, if_pos (by omega)]
      · rw [if_neg hlt, if_neg (by omega)]
theorem chgB_same (l : List Term) (body : List Node) (k : Nat) : sameL body (chgB l body k) = true := by
  rw [sameL_iff]
  refine ⟨(chgB_len l body k).symm, fun i h1 h2 => ?_⟩
  rw [chgB_get l body k i h2 h1]
  split
  · exact chgN_same _ _ _
  · simp [sameN]
theorem chgB_check (l : List Term) (body : List Node) (k : Nat) : checkB body = checkB (chgB l body k) := by
  refine checkB_like _ _ (chgB_len l body k).symm fun i h1 h2 => ?_
  rw [chgB_get l body k i h2 h1]
  split
  · exact chgN_like _ _ _
  · exact ⟨rfl, rfl⟩
/-- With one node another one in kind, name, module, or number of those below it. -/
theorem chgB_other (l : List Term) (body : List Node) (m k : Nat) (hk : k < body.length) (n : Node) (h : sameN body[k] n = false) : sameL body ((chgB l body m).set k n) = false := by
  refine sameL_ne k hk (by rw [List.length_set, chgB_len]; exact hk) ?_
  rw [List.getElem_set_self]
  exact h
theorem same_tail (body : List Node) (h : 0 < body.length) : sameL body (body.drop 1) = false := sameL_len _ _ (by rw [List.length_drop]; omega)
end Go.Proofs.YtoohandacpalpaaDoor
