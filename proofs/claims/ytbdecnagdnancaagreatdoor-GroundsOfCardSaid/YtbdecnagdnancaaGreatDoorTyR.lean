/- The document's own walk through a body, as plain Lean, and that it tells what Check, End and Deep tell. No program stands in it. -/
import Derived.Test.YtbdecnagdnancaaGreatDoorMA

namespace Go.Proofs.YtbdecnagdnancaaGreatDoor
open Go.RowKit Go.Proofs.YtbdecnagdnancaaGreatDoorW.PrintWords Go.Proofs.YtbdecnagdnancaaGreatDoorW.PrintLast Go.Proofs.YtbdecnagdnancaaGreatDoorW.PrintMore
set_option linter.unusedVariables false
set_option linter.unusedSimpArgs false
/-- So many trees one behind the other, g walking each: the place behind, the depth, the error. -/
def kidsR (g : Nat → Nat × Int × Int) : Nat → Nat → Int → Nat × Int × Int
  | 0, at_, deep => (at_, deep, 0)
  | m + 1, at_, deep => if (g at_).2.2 ≠ 0 then ((g at_).1, 0, (g at_).2.2) else kidsR g m (g at_).1 (max deep (g at_).2.1)
/-- A tree from a place on, at the depth 17 - f. -/
def walkR (body : List Node) : Nat → Nat → Nat × Int × Int
  | 0, at_ => if h : at_ < body.length then (if mayB body[at_] = false then (at_, 0, 4) else (at_, 0, 3)) else (at_, 0, 4)
  | f + 1, at_ => if h : at_ < body.length then (if mayB body[at_] = false then (at_, 0, 4) else if body[at_].f3 > 8 then (at_, 0, 3) else kidsR (walkR body f) body[at_].f3.toNat (at_ + 1) (16 - f)) else (at_, 0, 4)

/-- What the walk tells of some trees, against what Check makes of them. -/
def KidsSpec (body : List Node) (r : Nat × Int × Int) (x at_ : Nat) (deep : Int) (os : List Int) : Prop :=
  (r.2.2 ≠ 0 ∧ checkL (body.drop at_) (os ++ [(x : Int)]) = r.2.2) ∨
  (r.2.2 = 0 ∧ ∃ F : Fo, F.count = x ∧ F.ok (os.length + 1) ∧ body.drop at_ = F.flat ++ body.drop r.1 ∧ r.1 = at_ + F.flat.length ∧ r.2.1 = (if x = 0 then deep else max deep (os.length + F.height)))
theorem kids_spec (body : List Node) : ∀ (f x at_ : Nat) (deep : Int) (os : List Int), os.length + f = 16 → x ≤ 8 → KidsSpec body (kidsR (walkR body f) x at_ deep) x at_ deep os := by
  have nil_case : ∀ (g : Nat → Nat × Int × Int) (at_ : Nat) (deep : Int) (os : List Int), KidsSpec body (kidsR g 0 at_ deep) 0 at_ deep os := fun g at_ deep os =>
    .inr ⟨rfl, .nil, rfl, trivial, by simp [Fo.flat, kidsR], by simp [kidsR, Fo.flat], by simp [kidsR]⟩
  have short : ∀ (g : Nat → Nat × Int × Int) (x at_ : Nat) (deep : Int) (e : Int) (k : Nat) (os : List Int), g at_ = (k, 0, e) → e ≠ 0 → checkL (body.drop at_) (os ++ [((x + 1 : Nat) : Int)]) = e → KidsSpec body (kidsR g (x + 1) at_ deep) (x + 1) at_ deep os := fun g x at_ deep e k os hg he hc => by
    refine .inl ?_
    unfold kidsR
    rw [hg, if_pos he]
    exact ⟨he, hc⟩
  have over : ∀ (os : List Int) (x at_ : Nat), ¬ at_ < body.length → checkL (body.drop at_) (os ++ [((x + 1 : Nat) : Int)]) = 4 := fun os x at_ h => by
    rw [List.drop_eq_nil_of_le (by omega), checkL, if_pos (by first | (simp; done) | (simp; omega))]
  have nomay : ∀ (os : List Int) (x at_ : Nat) (h : at_ < body.length), x ≤ 7 → mayB body[at_] = false → checkL (body.drop at_) (os ++ [((x + 1 : Nat) : Int)]) = 4 := fun os x at_ h h7 hm => by
    rw [List.drop_eq_getElem_cons h, checkL, takes_snoc os _ _ (by omega) (by omega), if_neg (by simp only; omega), if_pos hm]
  have many : ∀ (os : List Int) (x at_ : Nat) (h : at_ < body.length), x ≤ 7 → mayB body[at_] = true → (body[at_].f3 > 8 ∨ 15 < os.length) → checkL (body.drop at_) (os ++ [((x + 1 : Nat) : Int)]) = 3 := fun os x at_ h h7 hm hk => by
    rw [List.drop_eq_getElem_cons h, checkL, takes_snoc os _ _ (by omega) (by omega), if_neg (by simp only; omega), if_neg (by rw [hm]; decide)]
    by_cases h8 : body[at_].f3 > 8
    · rw [if_pos h8]
    · rw [if_neg h8, if_pos (by simp only; omega)]
  intro f
  induction f with
  | zero =>
    intro x at_ deep os hf hx
    cases x with
    | zero => exact nil_case _ _ _ _
    | succ x =>
      by_cases h : at_ < body.length
      · cases hm : mayB body[at_] with
        | false => exact short _ x at_ deep 4 at_ os (by rw [walkR, dif_pos h, if_pos hm]) (by decide) (nomay os x at_ h (by omega) hm)
        | true => exact short _ x at_ deep 3 at_ os (by rw [walkR, dif_pos h, if_neg (by rw [hm]; decide)]) (by decide) (many os x at_ h (by omega) hm (.inr (by omega)))
      · exact short _ x at_ deep 4 at_ os (by rw [walkR, dif_neg h]) (by decide) (over os x at_ h)
  | succ f ihf =>
    intro x
    induction x with
    | zero => intro at_ deep os hf hx; exact nil_case _ _ _ _
    | succ x ihx =>
      intro at_ deep os hf hx
      by_cases h : at_ < body.length
      · cases hm : mayB body[at_] with
        | false => exact short _ x at_ deep 4 at_ os (by rw [walkR, dif_pos h, if_pos hm]) (by decide) (nomay os x at_ h (by omega) hm)
        | true =>
          by_cases h8 : body[at_].f3 > 8
          · exact short _ x at_ deep 3 at_ os (by rw [walkR, dif_pos h, if_neg (by rw [hm]; decide), if_pos h8]) (by decide) (many os x at_ h (by omega) hm (.inl h8))
          · have hk := mayB_kids hm
            have hg : walkR body (f + 1) at_ = kidsR (walkR body f) body[at_].f3.toNat (at_ + 1) (16 - f) := by
              rw [walkR, dif_pos h, if_neg (by rw [hm]; decide), if_neg h8]
            have hstep : checkL (body.drop at_) (os ++ [((x + 1 : Nat) : Int)]) = checkL (body.drop (at_ + 1)) ((os ++ [(x : Int)]) ++ [(body[at_].f3.toNat : Int)]) := by
              rw [List.drop_eq_getElem_cons h, checkL, show max 0 body[at_].f3 = (body[at_].f3.toNat : Int) by omega, takes_snoc os _ _ (by omega) (by omega), if_neg (by simp only; omega), if_neg (by rw [hm]; decide), if_neg h8, if_neg (by simp only; omega)]
              simp only
              rw [show ((x + 1 : Nat) : Int) - 1 = (x : Int) by omega]
            rcases ihf body[at_].f3.toNat (at_ + 1) (16 - f) (os ++ [(x : Int)]) (by simp; omega) (by omega) with ⟨he, hc⟩ | ⟨he, ks, hc, hok, hfl, hr1, hr2⟩
            · refine .inl ?_
              rw [← hg] at he hc
              unfold kidsR
              rw [if_pos he]
              exact ⟨he, by rw [hstep, hc]⟩
            · rw [← hg] at he hfl hr1 hr2
              have hun : kidsR (walkR body (f + 1)) (x + 1) at_ deep = kidsR (walkR body (f + 1)) x (walkR body (f + 1) at_).1 (max deep (walkR body (f + 1) at_).2.1) := by
                rw [kidsR, if_neg (by rw [he]; decide)]
              have hback : checkL (body.drop at_) (os ++ [((x + 1 : Nat) : Int)]) = checkL (body.drop (walkR body (f + 1) at_).1) (os ++ [(x : Int)]) := by
                rw [hstep, hfl, checkL_fo ks (os ++ [(x : Int)]) _ _ (by simpa using hok) (by omega) (by omega), hc, Int.sub_self, checkL_zero]
              rw [hun]
              have hdep : (walkR body (f + 1) at_).2.1 = (os.length : Int) + (ks.height + 1) := by
                rw [hr2]
                simp only [List.length_append, List.length_singleton] 
                split
                · rename_i h0
                  have : ks = .nil := Fo.flat_nil_of_count ks (by omega)
                  subst this
                  simp [Fo.height]
                  omega
                · have := Fo.height_pos ks (by omega)
                  omega
              have hnil : ∀ F : Fo, F.count = 0 → F.height = 0 ∧ F.flat.length = 0 := fun F h0 => by
                rw [Fo.flat_nil_of_count F h0]
                exact ⟨rfl, rfl⟩
              rcases ihx (walkR body (f + 1) at_).1 (max deep (walkR body (f + 1) at_).2.1) os hf (by omega) with ⟨he2, hc2⟩ | ⟨he2, F, hF, hok2, hfl2, hr12, hr22⟩
              · exact .inl ⟨he2, by rw [hback, hc2]⟩
              · refine .inr ⟨he2, .cons body[at_] ks F, by simp [Fo.count, hF], ⟨hm, by rw [hc]; omega, by omega, by omega, by simpa using hok, hok2⟩, ?_, ?_, ?_⟩
                · rw [List.drop_eq_getElem_cons h, hfl, hfl2]
                  simp [Fo.flat]
                · rw [hr12, hr1]
                  simp [Fo.flat]
                  omega
                · rw [hr22, if_neg (show ¬ x + 1 = 0 by omega), hdep]
                  simp only [Fo.height]
                  split
                  · have := (hnil F (by omega)).1
                    omega
                  · have := Fo.height_pos F (by omega)
                    omega
      · exact short _ x at_ deep 4 at_ os (by rw [walkR, dif_neg h]) (by decide) (over os x at_ h)
/-- The document's Check. -/
def refCheckB (body : List Node) : Int :=
  if body.length = 0 then 1 else if 128 < body.length then 3 else if (walkR body 16 0).2.2 = 0 ∧ (walkR body 16 0).1 < body.length then 4 else (walkR body 16 0).2.2
theorem ref_walk (body : List Node) (at_ : Nat) : ((walkR body 16 at_).2.2 ≠ 0 ∧ checkL (body.drop at_) [1] = (walkR body 16 at_).2.2) ∨
    ((walkR body 16 at_).2.2 = 0 ∧ ∃ F : Fo, isTree F ∧ body.drop at_ = F.flat ++ body.drop (walkR body 16 at_).1 ∧ (walkR body 16 at_).1 = at_ + F.flat.length ∧ max 0 (walkR body 16 at_).2.1 = F.height) := by
  have h := kids_spec body 16 1 at_ 0 [] rfl (by decide)
  by_cases he : (walkR body 16 at_).2.2 = 0
  · have e : kidsR (walkR body 16) 1 at_ 0 = ((walkR body 16 at_).1, max 0 (walkR body 16 at_).2.1, 0) := by
      rw [kidsR, if_neg (by rw [he]; decide), kidsR]
    rw [e] at h
    rcases h with ⟨h1, _⟩ | ⟨_, F, h1, h2, h3, h4, h5⟩
    · exact absurd rfl h1
    · have hp := Fo.height_pos F (by omega)
      refine .inr ⟨he, F, ⟨h1, by simpa using h2⟩, h3, h4, ?_⟩
      simp at h5
      omega
  · have e : kidsR (walkR body 16) 1 at_ 0 = ((walkR body 16 at_).1, 0, (walkR body 16 at_).2.2) := by
      rw [kidsR, if_pos he]
    rw [e] at h
    rcases h with ⟨h1, h2⟩ | ⟨h1, _⟩
    · exact .inl ⟨he, by simpa using h2⟩
    · exact absurd h1 he
theorem ref_check (body : List Node) : refCheckB body = checkB body := by
  unfold refCheckB checkB
  by_cases h0 : body.length = 0
  · rw [if_pos h0, if_pos h0]
  by_cases h1 : 128 < body.length
  · rw [if_neg h0, if_neg h0, if_pos h1, if_pos h1]
  rw [if_neg h0, if_neg h0, if_neg h1, if_neg h1]
  rcases ref_walk body 0 with ⟨he, hc⟩ | ⟨he, F, hF, hfl, hr, hd⟩
  · rw [if_neg (fun h => he h.1)]
    simpa using hc.symm
  · have hb : body = F.flat ++ body.drop (walkR body 16 0).1 := by simpa using hfl
    have hcl : checkL body [1] = checkL (body.drop (walkR body 16 0).1) [] := by
      have := checkL_fo F [] 1 (body.drop (walkR body 16 0).1) (by simpa using hF.2) (by have := hF.1; omega) (by omega)
      rw [← hb, hF.1] at this
      simpa [checkL_zero] using this.trans (by simpa using checkL_zero (body.drop (walkR body 16 0).1) [])
    rw [hcl, he]
    by_cases hlt : (walkR body 16 0).1 < body.length
    · rw [if_pos ⟨rfl, hlt⟩, List.drop_eq_getElem_cons hlt, checkL, takes_nil, if_pos rfl]
    · rw [if_neg (fun h => hlt h.2), List.drop_eq_nil_of_le (by omega)]
      rfl
theorem walk_fo (body : List Node) : ∀ (F : Fo) (f at_ : Nat) (deep : Int) (r : List Node), F.ok (17 - f) → f ≤ 16 → body.drop at_ = F.flat ++ r → (kidsR (walkR body f) F.count at_ deep).2.2 = 0 ∧ (kidsR (walkR body f) F.count at_ deep).1 = at_ + F.flat.length
  | .nil, f, at_, deep, r, _, _, _ => ⟨rfl, by simp [Fo.count, kidsR, Fo.flat]⟩
  | .cons n ks rest, f, at_, deep, r, ⟨h1, h2, h3, h4, h5, h6⟩, hf, hd => by
    obtain ⟨f, rfl⟩ : ∃ k, f = k + 1 := ⟨f - 1, by omega⟩
    have hlt : at_ < body.length := by
      rcases Nat.lt_or_ge at_ body.length with h | h
      · exact h
      · rw [List.drop_eq_nil_of_le h] at hd
        simp [Fo.flat] at hd
    have hc := List.drop_eq_getElem_cons hlt
    rw [hd] at hc
    simp only [Fo.flat, List.cons_append, List.cons.injEq, List.append_assoc] at hc
    obtain ⟨hn, hrest⟩ := hc
    have hg : walkR body (f + 1) at_ = kidsR (walkR body f) ks.count (at_ + 1) (16 - f) := by
      rw [walkR, dif_pos hlt, ← hn, if_neg (by rw [h1]; decide), if_neg (by omega), h2, Int.toNat_natCast]
    have i1 := walk_fo body ks f (at_ + 1) (16 - f) (rest.flat ++ r) (by rw [show 17 - f = 17 - (f + 1) + 1 by omega]; exact h5) (by omega) hrest.symm
    rw [← hg] at i1
    have hd2 : body.drop (walkR body (f + 1) at_).1 = rest.flat ++ r := by
      rw [i1.2, ← List.drop_drop, ← hrest, List.drop_left]
    have i2 := walk_fo body rest (f + 1) (walkR body (f + 1) at_).1 (max deep (walkR body (f + 1) at_).2.1) r h6 hf hd2
    simp only [Fo.count]
    rw [kidsR, if_neg (by rw [i1.1]; decide)]
    refine ⟨i2.1, ?_⟩
    rw [i2.2, i1.2]
    simp only [Fo.flat, List.length_cons, List.length_append]
    omega
/-- The document's Deep and End. -/
def refDeepB (body : List Node) : Int := if refCheckB body ≠ 0 then 0 else (walkR body 16 0).2.1
def refEndB (body : List Node) (at_ : Int) : Int := if refCheckB body ≠ 0 ∨ at_ < 0 ∨ (body.length : Int) ≤ at_ then 0 else (walkR body 16 at_.toNat).1
theorem walk_tree (body : List Node) (k : Nat) (t : Fo) (r : List Node) (ht : isTree t) (hd : body.drop k = t.flat ++ r) : (walkR body 16 k).2.2 = 0 ∧ (walkR body 16 k).1 = k + t.flat.length := by
  have h := walk_fo body t 16 k 0 r ht.2 (by decide) hd
  rw [ht.1] at h
  by_cases he : (walkR body 16 k).2.2 = 0
  · rw [kidsR, if_neg (by rw [he]; decide), kidsR] at h
    exact ⟨he, h.2⟩
  · rw [kidsR, if_pos he] at h
    exact absurd h.1 he
theorem ref_deep (body : List Node) : refDeepB body = deepB body := by
  unfold refDeepB
  rw [ref_check]
  by_cases h : checkB body = 0
  · rw [if_neg (by rw [h]; decide)]
    obtain ⟨f, hf, hc, hb, hd, hp, h16, hl⟩ := body_tree h
    rcases ref_walk body 0 with ⟨he, hcl⟩ | ⟨he, F, hF, hfl, hr, hdp⟩
    · have h2 : checkL body [1] = 0 := (checkB_L h).2.2
      rw [List.drop_zero, h2] at hcl
      exact absurd hcl.symm he
    · have hend : (walkR body 16 0).1 = body.length := by
        have ht : isTree f := ⟨hc, Fo.ok_of_fit f 1 hf (fun _ => by omega)⟩
        have := (walk_tree body 0 f [] ht (by simpa using hb)).2
        rw [this, hb]
        simp
      rw [hend, List.drop_length, List.append_nil, List.drop_zero] at hfl
      have h3 := deep_tree F hF (by rw [← hfl]; exact hl)
      rw [← hfl] at h3
      have := Fo.height_pos F (by have := hF.1; omega)
      rw [h3]
      omega
  · rw [if_pos h]
    unfold deepB
    rw [if_neg h]
theorem ref_end (body : List Node) (at_ : Int) : refEndB body at_ = endB body at_ := by
  unfold refEndB
  rw [ref_check]
  by_cases h : checkB body = 0
  · by_cases h0 : at_ < 0 ∨ (body.length : Int) ≤ at_
    · rw [if_pos (.inr h0)]
      unfold endB
      rcases h0 with h0 | h0
      · rw [if_pos h0]
      · rw [if_neg (by omega), if_pos (by omega)]
    · rw [if_neg (fun h1 => h1.elim (fun h2 => h2 h) h0)]
      obtain ⟨k, rfl⟩ : ∃ k : Nat, at_ = k := ⟨at_.toNat, by omega⟩
      rw [Int.toNat_natCast]
      obtain ⟨s, hs, hd, _⟩ := tree_at body h k (by omega)
      rw [(walk_tree body k s _ hs hd).2]
      exact (end_at body h k (by omega) s _ hs hd).symm
  · rw [if_pos (.inl h)]
    unfold endB
    split
    · rfl
    split
    · rfl
    first | rw [if_neg h] | rfl
end Go.Proofs.YtbdecnagdnancaaGreatDoor
