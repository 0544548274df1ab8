/- TreesBehind and TreesHeld, in plain words. -/
import Derived.Test.YtdecijmncpbheaaDoorMTk
import Derived.Test.YtdecijmncpbheaaDoorL20S

namespace Go.Proofs.YtdecijmncpbheaaDoor
open Go.RowKit Go.Proofs.YtdecijmncpbheaaDoorW.PrintWords Go.Proofs.YtdecijmncpbheaaDoorW.PrintLast Go.Proofs.YtdecijmncpbheaaDoorW.PrintMore
set_option linter.unusedVariables false
set_option linter.unusedSimpArgs false
namespace Tr
open Wd (ofW wordV kt scanK wordN)
theorem behind_law (F : FI) (ws : List Wrd) (a : List Nd) (s : PS) (h : ofP F ws = .ok a s) : ∃ pre, ws = pre ++ s.ws ∧ 1 ≤ pre.length ∧ ∀ t, dash t = false → ∃ l c, ofP F (pre ++ t) = .ok a ⟨t, l, c, s.n⟩ := by
  obtain ⟨s1, -⟩ := PG_sim F 32
  obtain ⟨pre, h1, h2, h3⟩ := s1 _ _ _ h
  refine ⟨pre, h1, h2, fun t ht => ?_⟩
  rcases h3 pre t 1 1 (Al.refl _) (fun _ => ht) with ⟨l, c, e⟩ | ⟨e, _⟩
  · exact ⟨l, c, e⟩
  · cases e
/-- Braces around words. -/
def wrap {α : Type} (x y : α) : Nat → List α → List α
  | 0, p => p
  | k + 1, p => x :: (wrap x y k p ++ [y])
def kb (x : Wrd) : Int × ByteArray := (x.f0, x.f1)
theorem held_deep (F : FI) (pre : List Wrd) (a : List Nd) (n : Nat) (h : ∀ g, g ≤ 32 → ∀ pre' t l c, Al pre pre' → dash t = false → Out true ((PG F g).1 ⟨pre' ++ t, l, c, 0⟩) a t n) :
    ∀ k g, g ≤ 32 → ∀ ws' t l c, ws'.map kb = wrap (2, ⟨#[123]⟩) (2, ⟨#[125]⟩) k (pre.map kb) → dash t = false → Out true ((PG F g).1 ⟨ws' ++ t, l, c, 0⟩) a t n
  | 0, g, hg, ws', t, l, c, hw, ht => h g hg ws' t l c (by exact hw.symm) ht
  | k + 1, 0, _, ws', t, l, c, hw, ht => .inr ⟨rfl, _, _, rfl⟩
  | k + 1, g + 1, hg, ws', t, l, c, hw, ht => by
    have hw : ws'.map kb = (2, ⟨#[123]⟩) :: (wrap (2, ⟨#[123]⟩) (2, ⟨#[125]⟩) k (pre.map kb) ++ [(2, ⟨#[125]⟩)]) := hw
    obtain ⟨x, r, rfl, hx, hr⟩ := List.map_eq_cons_iff.1 hw
    obtain ⟨mid, y1, rfl, hm, hy⟩ := List.map_eq_append_iff.1 hr
    obtain ⟨y, r1, rfl, hy2, hr1⟩ := List.map_eq_cons_iff.1 hy
    obtain rfl : r1 = [] := List.map_eq_nil_iff.1 hr1
    have hx0 : x.f0 = 2 := congrArg Prod.fst hx
    have hx1 : x.f1 = ⟨#[123]⟩ := congrArg Prod.snd hx
    have hy0 : y.f0 = 2 := congrArg Prod.fst hy2
    have hy1 : y.f1 = ⟨#[125]⟩ := congrArg Prod.snd hy2
    have hdy : dash (y :: t) = false := by simp [dash, isM, hy0, hy1]
    have ih := held_deep F pre a n h k g (by omega) mid (y :: t) x.f2.f0 x.f2.f1 hm hdy
    have e1 : (x :: (mid ++ [y])) ++ t = x :: (mid ++ (y :: t)) := by simp
    rw [e1]
    have eA : atomF F (PG F g).1 (PG F g).2 ⟨x :: (mid ++ (y :: t)), l, c, 0⟩ = ((PG F g).1 ⟨mid ++ (y :: t), x.f2.f0, x.f2.f1, 0⟩).bind fun a s => (mustM [125] s).bind fun _ s => .ok a s := by
      unfold atomF heldP mustM
      simp only [isM, hx0, hx1]
      rfl
    have eW : (PG F (g + 1)).1 ⟨x :: (mid ++ (y :: t)), l, c, 0⟩ = (atomF F (PG F g).1 (PG F g).2 ⟨x :: (mid ++ (y :: t)), l, c, 0⟩).bind fun a s => if isM [45] s then funP F (PG F g).1 a s else .ok a s := rfl
    rw [eW, eA]
    rcases ih with ⟨l2, c2, e⟩ | ⟨-, l2, c2, e⟩
    · rw [e]
      left
      refine ⟨y.f2.f0, y.f2.f1, ?_⟩
      have e2 : mustM [125] ⟨y :: t, l2, c2, n⟩ = .ok () ⟨t, y.f2.f0, y.f2.f1, n⟩ := by
        unfold mustM
        simp only [isM, hy0, hy1]
        rfl
      have e3 : ∀ l c, isM [45] ⟨t, l, c, n⟩ = false := fun l c => by rw [← ht]; exact isM_ws _ _ _ rfl
      simp only [PR.bind, e2, e3]
      rfl
    · rw [e]
      exact .inr ⟨rfl, l2, c2, rfl⟩
/-- The text in braces. -/
def wrapT : Nat → List B → List B
  | 0, l => l
  | k + 1, l => 123 :: (wrapT k l ++ [10, 125])
theorem wrapT_length (k : Nat) (l : List B) : (wrapT k l).length = l.length + 3 * k := by
  induction k with
  | zero => rfl
  | succ k ih => simp only [wrapT, List.length_cons, List.length_append, ih, List.length_nil]; omega
theorem scan_open (r : List B) : scanK (123 :: r) = (scanK r).map ((2, [123]) :: ·) := by
  have h := Wd.wordN_mark (c := 123) (r := r) (by decide) (by decide) (by decide)
  rw [if_neg (by simp)] at h
  rw [scanK, if_neg (by decide), if_neg (by decide), h]
  simp
theorem scan_close : scanK [125] = some [(2, [125]), (3, [])] := by
  have h := Wd.wordN_mark (c := 125) (r := []) (by decide) (by decide) (by decide)
  rw [if_neg (by simp)] at h
  rw [scanK, if_neg (by decide), if_neg (by decide), h]
  simp [show scanK [] = some [(3, [])] by rw [scanK]]
theorem scan_wrap (l : List B) (w : List (Int × List B)) (h : scanK l = some (w ++ [(3, [])])) : ∀ k, scanK (wrapT k l) = some (wrap (2, [123]) (2, [125]) k w ++ [(3, [])])
  | 0 => h
  | k + 1 => by
    have ih := scan_wrap l w h k
    have e : wrapT (k + 1) l = 123 :: (wrapT k l ++ 10 :: [125]) := rfl
    rw [e, scan_open, Wd.scanK_both, ih, scan_close]
    simp [wrap]
theorem map_wrap {α β : Type} (f : α → β) (x y : α) (k : Nat) (l : List α) : (wrap x y k l).map f = wrap (f x) (f y) k (l.map f) := by
  induction k with
  | zero => rfl
  | succ k ih => simp only [wrap, List.map_cons, List.map_append, ih, List.map_nil]
def cv (p : Int × List B) : Int × ByteArray := (p.1, ⟨p.2.toArray⟩)
theorem kb_words (t : List Wd.Tok) : (t.map wordV).map kb = (t.map kt).map cv := by
  rw [List.map_map, List.map_map]
  rfl
/-- TreesHeld, in plain words. -/
theorem held_law (F : FI) (l : List B) (k : Nat) {toks : List Wd.Tok} {line col : Int} (h : ofW l = (toks, line, col, 0)) (hok : typeOk F (toks.map wordV) = true) (hl : l.length + 3 * k ≤ 1048576) :
    ∃ toks' line' col', ofW (wrapT k l) = (toks', line', col', 0) ∧ ((∃ s, ofP F (toks'.map wordV) = .ok (nodesOf F (toks.map wordV)) s) ∨ (0 < k ∧ ∃ l c, ofP F (toks'.map wordV) = .err 12 l c)) := by
  have hs := ofW_ok h
  obtain ⟨w, hw, -⟩ := Wd.scanK_words l _ hs
  rw [hw] at hs
  have hs2 := scan_wrap l w hs k
  rcases L20.ofW_K (wrapT k l) (by rw [wrapT_length]; exact hl) with ⟨e, -⟩ | ⟨w', e, e1, e2⟩
  · rw [hs2] at e; cases e
  rw [hs2] at e
  have e := (List.append_inj' (Option.some.inj e) rfl).1
  subst e
  obtain ⟨toks', line', col', er', hof⟩ : ∃ a b c d, ofW (wrapT k l) = (a, b, c, d) := ⟨_, _, _, _, rfl⟩
  rw [hof] at e1 e2
  simp only at e1 e2
  subst e1
  refine ⟨toks', line', col', hof, ?_⟩
  rcases Nat.eq_zero_or_pos k with rfl | hk
  · have h2 : ofW l = (toks', line', col', 0) := hof
    rw [h] at h2
    obtain rfl := congrArg Prod.fst h2
    left
    unfold typeOk at hok
    split at hok
    · rename_i a s hs
      exact ⟨s, by unfold nodesOf; simp only [hs]⟩
    · cases hok
  · unfold typeOk at hok
    split at hok
    · rename_i a s hs
      split at hok
      · rename_i e he
        have hn : nodesOf F (toks.map wordV) = a := by unfold nodesOf; simp only [hs]
        rw [hn]
        obtain ⟨pre, h1, h2, -⟩ := (PG_sim F 32).1 _ _ _ hs
        have h1 : toks.map wordV = pre ++ s.ws := h1
        rw [he] at h1
        have hpk : pre.map kb = w.map cv := by
          have h3 := congrArg (List.map kb) h1
          rw [kb_words, hw, List.map_append, List.map_append] at h3
          exact ((List.append_inj' h3 rfl).1).symm
        have hkw : (toks'.map wordV).map kb = wrap (2, ⟨#[123]⟩) (2, ⟨#[125]⟩) k (pre.map kb) ++ [(3, ⟨#[]⟩)] := by
          rw [kb_words, e2, List.map_append, map_wrap, hpk]
          rfl
        obtain ⟨ws', ee, hee, hws, hend⟩ := List.map_eq_append_iff.1 hkw
        have hd := held_deep F pre a s.n (fun g hg pre' t l c hal ht => by
          obtain ⟨p2, q1, q2, q3⟩ := (PG_deep F 32 g hg).1 _ _ _ hs
          have q1 : toks.map wordV = p2 ++ s.ws := q1
          have : p2 = pre := by
            rw [h1, he] at q1
            exact ((List.append_inj' q1 rfl).1).symm
          subst this
          exact q3 pre' t l c hal (fun _ => ht)) k 32 (Nat.le_refl _) ws' ee 1 1 hws (by
            obtain ⟨y, r1, rfl, hy, hr1⟩ := List.map_eq_cons_iff.1 hend
            have hy0 : y.f0 = 3 := congrArg Prod.fst hy
            simp [dash, isM, hy0])
        rw [hee]
        rcases hd with ⟨l2, c2, e⟩ | ⟨-, l2, c2, e⟩
        · exact .inl ⟨_, e⟩
        · exact .inr ⟨hk, l2, c2, e⟩
      · cases hok
    · cases hok
end Tr
end Go.Proofs.YtdecijmncpbheaaDoor
