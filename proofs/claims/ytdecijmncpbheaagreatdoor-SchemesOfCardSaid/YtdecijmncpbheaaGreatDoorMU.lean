
/- Several texts as one: TyR, TyW, TyV, TyU, TyUa. -/
import Derived.Test.YtdecijmncpbheaaGreatDoorMA

namespace Go.Proofs.YtdecijmncpbheaaGreatDoor
open Go.RowKit Go.Proofs.YtdecijmncpbheaaGreatDoorW.PrintWords Go.Proofs.YtdecijmncpbheaaGreatDoorW.PrintLast Go.Proofs.YtdecijmncpbheaaGreatDoorW.PrintMore
set_option linter.unusedVariables false
set_option linter.unusedSimpArgs false
/-- So many trees one behind the other, g walking each: the place behind, the depth, the error. -/
def kidsR (g : Nat → Nat × Int × Int) : Nat → Nat → Int → Nat × Int × Int
  | 0, at_, deep => (at_, deep, 0)
  | m + 1, at_, deep => if (g at_).2.2 ≠ 0 then ((g at_).1, 0, (g at_).2.2) else kidsR g m (g at_).1 (max deep (g at_).2.1)
/-- A tree from a place on, at the depth 17 - f. -/
def walkR (body : List Node) : Nat → Nat → Nat × Int × Int
  | 0, at_ => if h : at_ < body.length then (if mayB body[at_] = false then (at_, 0, 4) else (at_, 0, 3)) else (at_, 0, 4)
  | f + 1, at_ => if h : at_ < body.length then (if mayB body[at_] = false then (at_, 0, 4) else if body[at_].f3 > 8 then (at_, 0, 3) else kidsR (walkR body f) body[at_].f3.toNat (at_ + 1) (16 - f)) else (at_, 0, 4)

/-- What the walk tells of some trees, against what Check makes of them. -/
def KidsSpec (body : List Node) (r : Nat × Int × Int) (x at_ : Nat) (deep : Int) (os : List Int) : Prop :=
  (r.2.2 ≠ 0 ∧ checkL (body.drop at_) (os ++ [(x : Int)]) = r.2.2) ∨
  (r.2.2 = 0 ∧ ∃ F : Fo, F.count = x ∧ F.ok (os.length + 1) ∧ body.drop at_ = F.flat ++ body.drop r.1 ∧ r.1 = at_ + F.flat.length ∧ r.2.1 = (if x = 0 then deep else max deep (os.length + F.height)))
theorem kids_spec (body : List Node) : ∀ (f x at_ : Nat) (deep : Int) (os : List Int), os.length + f = 16 → x ≤ 8 → KidsSpec body (kidsR (walkR body f) x at_ deep) x at_ deep os := by
  have nil_case : ∀ (g : Nat → Nat × Int × Int) (at_ : Nat) (deep : Int) (os : List Int), KidsSpec body (kidsR g 0 at_ deep) 0 at_ deep os := fun g at_ deep os =>
    .inr ⟨rfl, .nil, rfl, trivial, by simp [Fo.flat, kidsR], by simp [kidsR, Fo.flat], by simp [kidsR]⟩
  have short : ∀ (g : Nat → Nat × Int × Int) (x at_ : Nat) (deep : Int) (e : Int) (k : Nat) (os : List Int), g at_ = (k, 0, e) → e ≠ 0 → checkL (body.drop at_) (os ++ [((x + 1 : Nat) : Int)]) = e → KidsSpec body (kidsR g (x + 1) at_ deep) (x + 1) at_ deep os := fun g x at_ deep e k os hg he hc => by
    refine .inl ?_
    unfold kidsR
    rw [hg, if_pos he]
    exact ⟨he, hc⟩
  have over : ∀ (os : List Int) (x at_ : Nat), ¬ at_ < body.length → checkL (body.drop at_) (os ++ [((x + 1 : Nat) : Int)]) = 4 := fun os x at_ h => by
    rw [List.drop_eq_nil_of_le (by omega), checkL, if_pos (by first | (simp; done) | (simp; omega))]
  have nomay : ∀ (os : List Int) (x at_ : Nat) (h : at_ < body.length), x ≤ 7 → mayB body[at_] = false → checkL (body.drop at_) (os ++ [((x + 1 : Nat) : Int)]) = 4 := fun os x at_ h h7 hm => by
    rw [List.drop_eq_getElem_cons h, checkL, takes_snoc os _ _ (by omega) (by omega), if_neg (by simp only; omega), if_pos hm]
  have many : ∀ (os : List Int) (x at_ : Nat) (h : at_ < body.length), x ≤ 7 → mayB body[at_] = true → (body[at_].f3 > 8 ∨ 15 < os.length) → checkL (body.drop at_) (os ++ [((x + 1 : Nat) : Int)]) = 3 := fun os x at_ h h7 hm hk => by
    rw [List.drop_eq_getElem_cons h, checkL, takes_snoc os _ _ (by omega) (by omega), if_neg (by simp only; omega), if_neg (by rw [hm]; decide)]
    by_cases h8 : body[at_].f3 > 8
    · rw [if_pos h8]
    · rw [if_neg h8, if_pos (by simp only; omega)]
  intro f
  induction f with
  | zero =>
    intro x at_ deep os hf hx
    cases x with
    | zero => exact nil_case _ _ _ _
    | succ x =>
      by_cases h : at_ < body.length
      · cases hm : mayB body[at_] with
        | false => exact short _ x at_ deep 4 at_ os (by rw [walkR, dif_pos h, if_pos hm]) (by decide) (nomay os x at_ h (by omega) hm)
        | true => exact short _ x at_ deep 3 at_ os (by rw [walkR, dif_pos h, if_neg (by rw [hm]; decide)]) (by decide) (many os x at_ h (by omega) hm (.inr (by omega)))
      · exact short _ x at_ deep 4 at_ os (by rw [walkR, dif_neg h]) (by decide) (over os x at_ h)
  | succ f ihf =>
    intro x
    induction x with
    | zero => intro at_ deep os hf hx; exact nil_case _ _ _ _
    | succ x ihx =>
      intro at_ deep os hf hx
      by_cases h : at_ < body.length
      · cases hm : mayB body[at_] with
        | false => exact short _ x at_ deep 4 at_ os (by rw [walkR, dif_pos h, if_pos hm]) (by decide) (nomay os x at_ h (by omega) hm)
        | true =>
          by_cases h8 : body[at_].f3 > 8
          · exact short _ x at_ deep 3 at_ os (by rw [walkR, dif_pos h, if_neg (by rw [hm]; decide), if_pos h8]) (by decide) (many os x at_ h (by omega) hm (.inl h8))
          · have hk := mayB_kids hm
            have hg : walkR body (f + 1) at_ = kidsR (walkR body f) body[at_].f3.toNat (at_ + 1) (16 - f) := by
              rw [walkR, dif_pos h, if_neg (by rw [hm]; decide), if_neg h8]
            have hstep : checkL (body.drop at_) (os ++ [((x + 1 : Nat) : Int)]) = checkL (body.drop (at_ + 1)) ((os ++ [(x : Int)]) ++ [(body[at_].f3.toNat : Int)]) := by
              rw [List.drop_eq_getElem_cons h, checkL, show max 0 body[at_].f3 = (body[at_].f3.toNat : Int) by omega, takes_snoc os _ _ (by omega) (by omega), if_neg (by simp only; omega), if_neg (by rw [hm]; decide), if_neg h8, if_neg (by simp only; omega)]
              simp only
              rw [show ((x + 1 : Nat) : Int) - 1 = (x : Int) by omega]
            rcases ihf body[at_].f3.toNat (at_ + 1) (16 - f) (os ++ [(x : Int)]) (by simp; omega) (by omega) with ⟨he, hc⟩ | ⟨he, ks, hc, hok, hfl, hr1, hr2⟩
            · refine .inl ?_
              rw [← hg] at he hc
              unfold kidsR
              rw [if_pos he]
              exact ⟨he, by rw [hstep, hc]⟩
            · rw [← hg] at he hfl hr1 hr2
              have hun : kidsR (walkR body (f + 1)) (x + 1) at_ deep = kidsR (walkR body (f + 1)) x (walkR body (f + 1) at_).1 (max deep (walkR body (f + 1) at_).2.1) := by
                rw [kidsR, if_neg (by rw [he]; decide)]
              have hback : checkL (body.drop at_) (os ++ [((x + 1 : Nat) : Int)]) = checkL (body.drop (walkR body (f + 1) at_).1) (os ++ [(x : Int)]) := by
                rw [hstep, hfl, checkL_fo ks (os ++ [(x : Int)]) _ _ (by simpa using hok) (by omega) (by omega), hc, Int.sub_self, checkL_zero]
              rw [hun]
              have hdep : (walkR body (f + 1) at_).2.1 = (os.length : Int) + (ks.height + 1) := by
                rw [hr2]
                simp only [List.length_append, List.length_singleton] 
                split
                · rename_i h0
                  have : ks = .nil := Fo.flat_nil_of_count ks (by omega)
                  subst this
                  simp [Fo.height]
                  omega
                · have := Fo.height_pos ks (by omega)
                  omega
              have hnil : ∀ F : Fo, F.count = 0 → F.height = 0 ∧ F.flat.length = 0 := fun F h0 => by
                rw [Fo.flat_nil_of_count F h0]
                exact ⟨rfl, rfl⟩
              rcases ihx (walkR body (f + 1) at_).1 (max deep (walkR body (f + 1) at_).2.1) os hf (by omega) with ⟨he2, hc2⟩ | ⟨he2, F, hF, hok2, hfl2, hr12, hr22⟩
              · exact .inl ⟨he2, by rw [hback, hc2]⟩
              · refine .inr ⟨he2, .cons body[at_] ks F, by simp [Fo.count, hF], ⟨hm, by rw [hc]; omega, by omega, by omega, by simpa using hok, hok2⟩, ?_, ?_, ?_⟩
                · rw [List.drop_eq_getElem_cons h, hfl, hfl2]
                  simp [Fo.flat]
                · rw [hr12, hr1]
                  simp [Fo.flat]
                  omega
                · rw [hr22, if_neg (show ¬ x + 1 = 0 by omega), hdep]
                  simp only [Fo.height]
                  split
                  · have := (hnil F (by omega)).1
                    omega
                  · have := Fo.height_pos F (by omega)
                    omega
      · exact short _ x at_ deep 4 at_ os (by rw [walkR, dif_neg h]) (by decide) (over os x at_ h)
/-- The document's Check. -/
def refCheckB (body : List Node) : Int :=
  if body.length = 0 then 1 else if 128 < body.length then 3 else if (walkR body 16 0).2.2 = 0 ∧ (walkR body 16 0).1 < body.length then 4 else (walkR body 16 0).2.2
theorem ref_walk (body : List Node) (at_ : Nat) : ((walkR body 16 at_).2.2 ≠ 0 ∧ checkL (body.drop at_) [1] = (walkR body 16 at_).2.2) ∨
    ((walkR body 16 at_).2.2 = 0 ∧ ∃ F : Fo, isTree F ∧ body.drop at_ = F.flat ++ body.drop (walkR body 16 at_).1 ∧ (walkR body 16 at_).1 = at_ + F.flat.length ∧ max 0 (walkR body 16 at_).2.1 = F.height) := by
  have h := kids_spec body 16 1 at_ 0 [] rfl (by decide)
  by_cases he : (walkR body 16 at_).2.2 = 0
  · have e : kidsR (walkR body 16) 1 at_ 0 = ((walkR body 16 at_).1, max 0 (walkR body 16 at_).2.1, 0) := by
      rw [kidsR, if_neg (by rw [he]; decide), kidsR]
    rw [e] at h
    rcases h with ⟨h1, _⟩ | ⟨_, F, h1, h2, h3, h4, h5⟩
    · exact absurd rfl h1
    · have hp := Fo.height_pos F (by omega)
      refine .inr ⟨he, F, ⟨h1, by simpa using h2⟩, h3, h4, ?_⟩
      simp at h5
      omega
  · have e : kidsR (walkR body 16) 1 at_ 0 = ((walkR body 16 at_).1, 0, (walkR body 16 at_).2.2) := by
      rw [kidsR, if_pos he]
    rw [e] at h
    rcases h with ⟨h1, h2⟩ | ⟨h1, _⟩
    · exact .inl ⟨he, by simpa using h2⟩
    · exact absurd h1 he
theorem ref_check (body : List Node) : refCheckB body = checkB body := by
  unfold refCheckB checkB
  by_cases h0 : body.length = 0
  · rw [if_pos h0, if_pos h0]
  by_cases h1 : 128 < body.length
  · rw [if_neg h0, if_neg h0, if_pos h1, if_pos h1]
  rw [if_neg h0, if_neg h0, if_neg h1, if_neg h1]
  rcases ref_walk body 0 with ⟨he, hc⟩ | ⟨he, F, hF, hfl, hr, hd⟩
  · rw [if_neg (fun h => he h.1)]
    simpa using hc.symm
  · have hb : body = F.flat ++ body.drop (walkR body 16 0).1 := by simpa using hfl
    have hcl : checkL body [1] = checkL (body.drop (walkR body 16 0).1) [] := by
      have := checkL_fo F [] 1 (body.drop (walkR body 16 0).1) (by simpa using hF.2) (by have := hF.1; omega) (by omega)
      rw [← hb, hF.1] at this
      simpa [checkL_zero] using this.trans (by simpa using checkL_zero (body.drop (walkR body 16 0).1) [])
    rw [hcl, he]
    by_cases hlt : (walkR body 16 0).1 < body.length
    · rw [if_pos ⟨rfl, hlt⟩, List.drop_eq_getElem_cons hlt, checkL, takes_nil, if_pos rfl]
    · rw [if_neg (fun h => hlt h.2), List.drop_eq_nil_of_le (by omega)]
      rfl
end Go.Proofs.YtdecijmncpbheaaGreatDoor

namespace Go.Proofs.YtdecijmncpbheaaGreatDoor
open Go.RowKit Go.Shelf Go.Proofs.YtdecijmncpbheaaGreatDoorW.PrintWords Go.Proofs.YtdecijmncpbheaaGreatDoorW.PrintLast Go.Proofs.YtdecijmncpbheaaGreatDoorW.PrintMore
set_option linter.unusedVariables false
set_option linter.unusedSimpArgs false
namespace Ref07
def letC (c : Int) : Bool := (decide (97 ≤ c) && decide (c ≤ 122)) || (decide (65 ≤ c) && decide (c ≤ 90))
theorem letter_calls (c : Int) (w : World) : Calls Tryz.prog 238 #[.int .u8 c] w fun e w' => e = .returned (.bool (letC c)) ∧ w = w' := by
  by_cases h1 : 97 ≤ c
  all_goals
    by_cases h2 : c ≤ 122
    all_goals
      by_cases h3 : 65 ≤ c
      all_goals
        by_cases h4 : c ≤ 90
        all_goals
          go_enter Tryz.func238, Tryz.ntmps238
          go_wp2
          go_ret
          exact ⟨ret_bool (by simp [letC]; omega), rfl⟩
theorem letU_letter : ∀ c : UInt8, letC c.toNat = isLetter c := by
  have h : ∀ n : Fin 256, letC (UInt8.ofFin n).toNat = isLetter (UInt8.ofFin n) := by decide +kernel
  intro c
  have := h c.toFin
  simpa using this
theorem oth_other : ∀ c : UInt8, isOther c = (letC c.toNat || (c.toNat : Int) == 95 || (decide (48 ≤ (c.toNat : Int)) && decide ((c.toNat : Int) ≤ 57))) := by
  have h : ∀ n : Fin 256, isOther (UInt8.ofFin n) = (letC (UInt8.ofFin n).toNat || ((UInt8.ofFin n).toNat : Int) == 95 || (decide (48 ≤ ((UInt8.ofFin n).toNat : Int)) && decide (((UInt8.ofFin n).toNat : Int) ≤ 57))) := by decide +kernel
  intro c
  have := h c.toFin
  simpa using this
theorem letter_other : ∀ c : UInt8, isLetter c = true → isOther c = true := by
  have h : ∀ n : Fin 256, isLetter (UInt8.ofFin n) = true → isOther (UInt8.ofFin n) = true := by decide +kernel
  intro c
  have := h c.toFin
  simpa using this
/-- All bytes of a name behind the first one, ahead of the one at i, may stand there. -/
def pre (s : ByteArray) (i : Nat) : Bool := ((s.data.toList.take i).drop 1).all isOther
theorem pre_step (s : ByteArray) (i : Nat) (h1 : 1 ≤ i) (hi : i < s.size) : pre s (i + 1) = (pre s i && isOther s[i]) := by
  have hl : i < s.data.toList.length := by simpa using hi
  unfold pre
  rw [List.take_succ_eq_append_getElem hl, List.drop_append_of_le_length (by simp; omega), List.all_append]
  congr 1
  simp
  rfl
theorem named_parts (s : ByteArray) (h0 : 0 < s.size) : namedB s = (decide (s.size ≤ 32) && isLetter s[0] && pre s s.size) := by
  have hl : 0 < s.data.toList.length := by simpa using h0
  have e0 : s[0] = s.data.toList.headD 0 := by
    rw [List.headD_eq_head?_getD, List.head?_eq_getElem?, List.getElem?_eq_getElem hl]
    simp
    rfl
  have hs : s.size = s.data.toList.length := by simp
  unfold namedB namedL pre
  rw [show s.data.toList.take s.size = s.data.toList from List.take_of_length_le (by simp), e0, hs]
  clear e0 hs
  generalize s.data.toList = l at hl
  cases l with
  | nil => simp at hl
  | cons a t =>
    simp only [List.headD_cons, List.drop_succ_cons, List.drop_zero, allOther, List.all_cons]
    cases hle : isLetter a with
    | false => simp
    | true => rw [letter_other a hle]; simp
theorem pre_false (s : ByteArray) (i : Nat) (h1 : 1 ≤ i) (hi : i < s.size) (h : isOther s[i] = false) : pre s s.size = false := by
  have hl : i < s.data.toList.length := by simpa using hi
  cases hp : pre s s.size with
  | false => rfl
  | true =>
    unfold pre at hp
    rw [show s.data.toList.take s.size = s.data.toList from List.take_of_length_le (by simp), List.all_eq_true] at hp
    have := hp s[i] (by
      rw [List.mem_iff_getElem]
      refine ⟨i - 1, by simp; omega, ?_⟩
      rw [List.getElem_drop]
      have e : 1 + (i - 1) = i := by omega
      simp only [e]
      rfl)
    rw [h] at this
    cases this
set_option maxRecDepth 100000 in
set_option maxHeartbeats 1000000 in
theorem name_calls (w : World) (s : ByteArray) : Calls Tryz.prog 208 #[.string s] w fun e w' => e = .returned (.bool (namedB s)) ∧ w = w' := by
  obtain ⟨nb, hnb⟩ : ∃ nb, nb = namedB s := ⟨_, rfl⟩
  have HN := Aside0.mk hnb
  rw [← hnb]
  clear hnb
  rcases (by omega : s.size = 0 ∨ 32 < s.size ∨ (0 < s.size ∧ s.size ≤ 32)) with h | h | ⟨h0, h1⟩
  · obtain rfl : nb = false := by rw [HN.out]; simp [namedB, namedL]; omega
    have y1 : decide ((s.size : Int) < 1) = true := decide_eq_true (by omega)
    go_enter Tryz.func208, Tryz.ntmps208
    go_wp2
    go_ret
    exact ⟨rfl, rfl⟩
  · obtain rfl : nb = false := by rw [HN.out]; simp [namedB, namedL]; omega
    have y1 : decide ((s.size : Int) < 1) = false := decide_eq_false (by omega)
    have y2 : decide (32 < (s.size : Int)) = true := decide_eq_true (by omega)
    go_enter Tryz.func208, Tryz.ntmps208
    go_wp2
    go_ret
    exact ⟨rfl, rfl⟩
  · have y1 : decide ((s.size : Int) < 1) = false := decide_eq_false (by omega)
    have y2 : decide (32 < (s.size : Int)) = false := decide_eq_false (by omega)
    have hp := named_parts s h0
    rw [← HN.out, show decide (s.size ≤ 32) = true from decide_eq_true h1, Bool.true_and, ← letU_letter] at hp
    cases hl : letC (s[0].toNat : Int) with
    | false =>
      obtain rfl : nb = false := by rw [hp, hl]; rfl
      clear hp HN
      go_enter Tryz.func208, Tryz.ntmps208
      go_wp2_with (go_at_call 238; (with_reducible refine (letter_calls _ _).mono ?_); rintro e W' ⟨rfl, rfl⟩)
      all_goals
        go_ret
        exact ⟨rfl, rfl⟩
    | true =>
      have HP : Aside0 (nb = pre s s.size) := ⟨by rw [hp, hl]; rfl⟩
      clear hp HN
      go_enter Tryz.func208, Tryz.ntmps208
      go_wp2_with (go_at_call 238; (with_reducible refine (letter_calls _ _).mono ?_); rintro e W' ⟨rfl, rfl⟩)
      go_loop [3] (fun y => ∃ i : Nat, y = .int .i64 i ∧ 1 ≤ i ∧ i ≤ s.size ∧ Aside0 (pre s i = true)) (fun y => match y with | .int _ i => s.size - i.toNat | _ => 0)
      case atStart => exact ⟨1, rfl, by omega, by omega, ⟨by unfold pre; rw [show (s.data.toList.take 1).drop 1 = [] by simp]; rfl⟩⟩
      case round =>
        obtain ⟨i, rfl, hi1, hi2, HA⟩ := hrel
        rcases Nat.lt_or_ge i s.size with hi | hi
        · have hd : decide (i < s.size) = true := decide_eq_true hi
          have hs := pre_step s i hi1 hi
          rw [HA.out, Bool.true_and, oth_other] at hs
          have hf := pre_false s i hi1 hi
          rw [oth_other] at hf
          have HS := Aside0.mk (And.intro hs hf)
          clear hs hf
          go_wp2_with (go_at_call 238; (with_reducible refine (letter_calls _ _).mono ?_); rintro e W' ⟨rfl, rfl⟩)
          all_goals first
            | (refine ⟨⟨i + 1, by go_num, by omega, by omega, ⟨?_⟩⟩, ?_⟩
               · rw [HS.out.1]; clear HS HA HP; simp_all
               · show s.size - ((i : Int) + 1).toNat < s.size - ((i : Int)).toNat
                 omega)
            | (go_ret
               exact ⟨ret_bool (by rw [HP.out]; exact (HS.out.2 (by clear HS HA HP; simp_all; try omega)).symm), rfl⟩)
        · have hd : decide (i < s.size) = false := decide_eq_false (by omega)
          obtain rfl : i = s.size := by omega
          go_wp2
          go_ret
          exact ⟨ret_bool (by rw [HP.out, HA.out]), rfl⟩
set_option maxRecDepth 100000 in
set_option maxHeartbeats 4000000 in
theorem may_calls (k m d : Int) (s : ByteArray) (lv pv ev : Bool) (l p e : Int) (w : World) :
    Calls Tryz.prog 175 #[.agg #[.int .u8 k, .int .i64 m, .string s, .int .i64 d, .bool lv, .int .u64 l, .bool pv, .int .u64 p, .bool ev, .int .u64 e]] w fun e' w' => e' = .returned (.bool (mayV k m s d pv p ev e)) ∧ Below w.heap.size w w' := by
  have HB := Aside0.mk (below_alloc (Below.refl w.heap.size w) (.cells #[.int .u8 k, .int .i64 m, .string s, .int .i64 d, .bool lv, .int .u64 l, .bool pv, .int .u64 p, .bool ev, .int .u64 e] 119))
  obtain ⟨nb, hnb⟩ : ∃ nb, nb = namedB s := ⟨_, rfl⟩
  have HN := Aside0.mk hnb
  clear hnb
  go_enter Tryz.func175, Tryz.ntmps175
  go_wp2_with (go_at_call 208; (with_reducible refine (name_calls _ _).mono ?_); rw [← HN.out]; rintro e W' ⟨rfl, rfl⟩)
  all_goals
    go_ret
    refine ⟨ret_bool ?_, below_alloc (Below.refl _ _) _⟩
    have hn := HN.out
    clear HN HB
    first
      | (simp_all [mayV, baseB, Lib.toList_data]; done)
      | (simp_all [mayV, baseB, Lib.toList_data]; omega)
      | (simp_all [mayV, baseB, Lib.toList_data]; rfl)
      | (simp_all [mayV, baseB, Lib.toList_data, Int.beq_eq_decide_eq]; done)
      | skip
end Ref07
end Go.Proofs.YtdecijmncpbheaaGreatDoor

namespace Go.Proofs.YtdecijmncpbheaaGreatDoor
open Go.RowKit Go.Shelf Go.Proofs.YtdecijmncpbheaaGreatDoorW.PrintWords Go.Proofs.YtdecijmncpbheaaGreatDoorW.PrintLast Go.Proofs.YtdecijmncpbheaaGreatDoorW.PrintMore
set_option linter.unusedVariables false
set_option linter.unusedSimpArgs false
namespace Ref07
set_option maxRecDepth 100000 in
set_option maxHeartbeats 4000000 in
theorem walk_calls (A : Option Addr) (c : Nat) (body : List Node) (hlen : body.length ≤ 300) : ∀ (f : Nat) (hf : f ≤ 16) (at_ : Nat) (w : World) (hr : Kd.C kNode w A body.length body),
    Calls Tryz.prog 112 #[.slice A body.length c, .int .i64 (at_ : Int), .int .i64 (17 - (f : Int))] w fun e w' => e = .returned (.tuple #[.int .i64 ((walkR body f at_).1 : Int), .int .i64 (walkR body f at_).2.1, .int .i64 (walkR body f at_).2.2]) ∧ Below w.heap.size w w' := by
  intro f
  induction f with
  | zero =>
    intro hf at_ w hr
    have HR := Aside0.mk hr
    have HB := Aside0.mk (Below.refl w.heap.size w)
    rcases Nat.lt_or_ge at_ body.length with h | h
    · obtain ⟨ad, rfl, c0, c1, c2, c3, c4, c5, c6, c7, c8, c9⟩ := C_nodeN hr at_ h
      obtain ⟨n, hn⟩ : ∃ n, n = body[at_] := ⟨_, rfl⟩
      rw [← hn] at c0 c1 c2 c3 c4 c5 c6 c7 c8 c9
      have z1 : decide (body.length ≤ at_) = false := decide_eq_false (by omega)
      obtain ⟨mb, hmb⟩ : ∃ mb, mb = mayB n := ⟨_, rfl⟩
      have HM := Aside0.mk (show mayV n.f0 n.f1 n.f2 n.f3 n.f5.f0 n.f5.f1 n.f6.f0 n.f6.f1 = mb from hmb.symm)
      have HW : Aside0 (walkR body 0 at_ = (at_, 0, if mb = false then 4 else 3)) := ⟨by rw [walkR, dif_pos h, ← hn, ← hmb]; cases mb <;> rfl⟩
      have HNn := Aside0.mk hn
      clear hr hn hmb
      cases mb
      all_goals
        go_enter Tryz.func112, Tryz.ntmps112
        go_wp2_with (go_at_call 175; (with_reducible refine (may_calls _ _ _ _ _ _ _ _ _ _ _).mono ?_); rw [HM.out]; rintro e W' ⟨rfl, hb'⟩; have HB' := Aside0.mk (below_step HB.out hb'); clear HB hb'; have HB := HB'; clear HB'; clear c0 c1 c2 c3 c4 c5 c6 c7 c8 c9; obtain ⟨ad', e', c0, c1, c2, c3, c4, c5, c6, c7, c8, c9⟩ := C_nodeN (Kd.C_below HR.out HB.out) at_ h; cases e'; rw [← HNn.out] at c0 c1 c2 c3 c4 c5 c6 c7 c8 c9)
        all_goals
          rw [HW.out]
          go_ret3
          exact ⟨rfl, by first | exact HB.out | exact below_alloc HB.out _⟩
    · have HW : Aside0 (walkR body 0 at_ = (at_, 0, 4)) := ⟨by rw [walkR, dif_neg (by omega)]⟩
      have z1 : decide (body.length ≤ at_) = true := decide_eq_true h
      clear hr
      go_enter Tryz.func112, Tryz.ntmps112
      go_wp2
      rw [HW.out]
      go_ret3
      exact ⟨rfl, HB.out⟩
  | succ f ih =>
    intro hf at_ w hr
    have HR := Aside0.mk hr
    have HB := Aside0.mk (Below.refl w.heap.size w)
    obtain ⟨dp, hdp⟩ : ∃ dp : Int, dp = 17 - ((f + 1 : Nat) : Int) := ⟨_, rfl⟩
    rw [← hdp]
    have hd1 : 1 ≤ dp := by omega
    have hd2 : dp ≤ 16 := by omega
    have CI : Aside0 (∀ (a : Nat) (W : World), Below w.heap.size w W → Calls Tryz.prog 112 #[.slice A body.length c, .int .i64 (a : Int), .int .i64 (dp + 1)] W fun e w' => e = .returned (.tuple #[.int .i64 ((walkR body f a).1 : Int), .int .i64 (walkR body f a).2.1, .int .i64 (walkR body f a).2.2]) ∧ Below W.heap.size W w') := ⟨fun a W hb => by
      have := ih (by omega) a W (Kd.C_below hr hb)
      rwa [show (17 : Int) - (f : Int) = dp + 1 by omega] at this⟩
    have HDP := Aside0.mk hdp
    rcases Nat.lt_or_ge at_ body.length with h | h
    · obtain ⟨ad, rfl, c0, c1, c2, c3, c4, c5, c6, c7, c8, c9⟩ := C_nodeN hr at_ h
      obtain ⟨n, hn⟩ : ∃ n, n = body[at_] := ⟨_, rfl⟩
      rw [← hn] at c0 c1 c2 c3 c4 c5 c6 c7 c8 c9
      have z1 : decide (body.length ≤ at_) = false := decide_eq_false (by omega)
      have z5 : decide (16 < dp) = false := decide_eq_false (by omega)
      obtain ⟨mb, hmb⟩ : ∃ mb, mb = mayB n := ⟨_, rfl⟩
      have HM := Aside0.mk (show mayV n.f0 n.f1 n.f2 n.f3 n.f5.f0 n.f5.f1 n.f6.f0 n.f6.f1 = mb from hmb.symm)
      have HNn := Aside0.mk hn
      cases mb
      · have HW : Aside0 (walkR body (f + 1) at_ = (at_, 0, 4)) := ⟨by rw [walkR, dif_pos h, ← hn, ← hmb]; rfl⟩
        clear hr hn hmb hdp ih
        go_enter Tryz.func112, Tryz.ntmps112
        go_wp2_with (go_at_call 175; (with_reducible refine (may_calls _ _ _ _ _ _ _ _ _ _ _).mono ?_); rw [HM.out]; rintro e W' ⟨rfl, hb'⟩; have HB' := Aside0.mk (below_step HB.out hb'); clear HB hb'; have HB := HB'; clear HB')
        all_goals
          rw [HW.out]
          go_ret3
          exact ⟨rfl, by first | exact HB.out | exact below_alloc HB.out _⟩
      · have hk := mayB_kids hmb.symm
        by_cases h8 : 8 < n.f3
        · have HW : Aside0 (walkR body (f + 1) at_ = (at_, 0, 3)) := ⟨by rw [walkR, dif_pos h, ← hn, ← hmb, if_neg (by decide), if_pos h8]⟩
          clear hr hn hmb hdp ih
          go_enter Tryz.func112, Tryz.ntmps112
          go_wp2_with (go_at_call 175; (with_reducible refine (may_calls _ _ _ _ _ _ _ _ _ _ _).mono ?_); rw [HM.out]; rintro e W' ⟨rfl, hb'⟩; have HB' := Aside0.mk (below_step HB.out hb'); clear HB hb'; have HB := HB'; clear HB'; clear c0 c1 c2 c3 c4 c5 c6 c7 c8 c9; obtain ⟨ad', e', c0, c1, c2, c3, c4, c5, c6, c7, c8, c9⟩ := C_nodeN (Kd.C_below HR.out HB.out) at_ h; cases e'; rw [← HNn.out] at c0 c1 c2 c3 c4 c5 c6 c7 c8 c9)
          all_goals
            rw [HW.out]
            go_ret3
            exact ⟨rfl, by first | exact HB.out | exact below_alloc HB.out _⟩
        · obtain ⟨K, hK⟩ : ∃ K : Nat, n.f3 = K := ⟨n.f3.toNat, by omega⟩
          have hK8 : K ≤ 8 := by omega
          have HW : Aside0 (walkR body (f + 1) at_ = kidsR (walkR body f) K (at_ + 1) dp) := ⟨by
            rw [walkR, dif_pos h, ← hn, ← hmb, if_neg (by decide), if_neg h8, hK, Int.toNat_natCast]
            congr 1
            omega⟩
          have HM2 := HM.out
          rw [hK] at HM2 c3
          have HM3 := Aside0.mk HM2
          have HK := Aside0.mk hK
          have z8 : decide (8 < (K : Int)) = false := decide_eq_false (by omega)
          clear hr hn hmb hdp ih hk h8 hK HM HM2
          go_enter Tryz.func112, Tryz.ntmps112
          go_wp2_with (go_at_call 175; (with_reducible refine (may_calls _ _ _ _ _ _ _ _ _ _ _).mono ?_); rw [HM3.out]; rintro e W' ⟨rfl, hb'⟩; have HB' := Aside0.mk (below_step HB.out hb'); clear HB hb'; have HB := HB'; clear HB'; clear c0 c1 c2 c3 c4 c5 c6 c7 c8 c9; obtain ⟨ad', e', c0, c1, c2, c3, c4, c5, c6, c7, c8, c9⟩ := C_nodeN (Kd.C_below HR.out HB.out) at_ h; cases e'; rw [← HNn.out] at c0 c1 c2 c3 c4 c5 c6 c7 c8 c9; rw [HK.out] at c3)
          have hblk := blk_new W' (.cells #[.int .u8 n.f0, .int .i64 n.f1, .string n.f2, .int .i64 (K : Int), .bool n.f4.f0, .int .u64 n.f4.f1, .bool n.f5.f0, .int .u64 n.f5.f1, .bool n.f6.f0, .int .u64 n.f6.f1] 119)
          have hB2 := below_alloc HB.out (.cells #[.int .u8 n.f0, .int .i64 n.f1, .string n.f2, .int .i64 (K : Int), .bool n.f4.f0, .int .u64 n.f4.f1, .bool n.f5.f0, .int .u64 n.f5.f1, .bool n.f6.f0, .int .u64 n.f6.f1] 119)
          obtain ⟨b, hb⟩ : ∃ b, b = W'.heap.size := ⟨_, rfl⟩
          obtain ⟨Wa, hWa⟩ : ∃ Wa, Wa = W'.alloc (.cells #[.int .u8 n.f0, .int .i64 n.f1, .string n.f2, .int .i64 (K : Int), .bool n.f4.f0, .int .u64 n.f4.f1, .bool n.f5.f0, .int .u64 n.f5.f1, .bool n.f6.f0, .int .u64 n.f6.f1] 119) := ⟨_, rfl⟩
          rw [← hWa, ← hb] at hblk
          rw [← hWa] at hB2
          rw [← hWa, ← hb]
          have HI := Aside0.mk (And.intro hB2 hblk)
          clear hWa hb hblk hB2 HB c0 c1 c2 c3 c4 c5 c6 c7 c8 c9
          go_loopg [1, 10, 11] 10 (fun g x y z W => ∃ (a i : Nat) (de : Int), x = .int .i64 a ∧ y = .int .i64 de ∧ z = .int .i64 i ∧ i ≤ K ∧ K - i + 1 ≤ g ∧ Aside0 (walkR body (f + 1) at_ = kidsR (walkR body f) (K - i) a de) ∧ Aside0 (Below w.heap.size w W ∧ W.heap[b]? = some (.cells #[.int .u8 n.f0, .int .i64 n.f1, .string n.f2, .int .i64 (K : Int), .bool n.f4.f0, .int .u64 n.f4.f1, .bool n.f5.f0, .int .u64 n.f5.f1, .bool n.f6.f0, .int .u64 n.f6.f1] 119 (0, 0))))
          case atStart => exact ⟨at_ + 1, 0, dp, by go_num, rfl, rfl, by omega, by omega, HW, HI⟩
          case round =>
            clear HI
            obtain ⟨a, i, de, rfl, rfl, rfl, hiK, hig, HA, HI⟩ := hrel
            have hc : wr.cell? ⟨b, 3, none⟩ = some (.int .i64 (K : Int)) := blk_cell HI.out.2 3
            rcases Nat.lt_or_ge i K with hi | hi
            · have hd : decide (i < K) = true := decide_eq_true hi
              obtain ⟨j, hj⟩ : ∃ j, K - i = j + 1 := ⟨K - i - 1, by omega⟩
              obtain ⟨r, hr⟩ : ∃ r, r = walkR body f a := ⟨_, rfl⟩
              have hst := HA.out
              rw [hj, kidsR, ← hr] at hst
              have hci := CI.out a wr HI.out.1
              rw [← hr] at hci
              have HCI := Aside0.mk hci
              have HST := Aside0.mk hst
              obtain ⟨r1, r2, r3⟩ := r
              clear hst hci hr
              by_cases h3 : r3 = 0
              · have z3 : (r3 != 0) = false := by rw [h3]; rfl
                have HST2 : Aside0 (walkR body (f + 1) at_ = kidsR (walkR body f) (K - (i + 1)) r1 (max de r2)) := ⟨by
                  have := HST.out
                  simp only at this
                  rw [if_neg (by rw [h3]; decide)] at this
                  rw [this, show K - (i + 1) = j by omega]⟩
                have H3 := Aside0.mk h3
                clear HST h3
                go_wp2_with (go_at_call 112; (with_reducible refine (HCI.out).mono ?_); rintro e W' ⟨rfl, hb'⟩; have HI' := Aside0.mk (And.intro (below_step HI.out.1 hb') ((hb'.block _ (blk_lt HI.out.2)).trans HI.out.2)); clear hb')
                go_roundg (gk - 1)
                case measure => omega
                case rel => exact ⟨r1, i + 1, max de r2, rfl, rfl, by go_num, by omega, by omega, HST2, HI'⟩
              · have z3 : (r3 != 0) = true := bne_iff_ne.mpr h3
                have HST2 : Aside0 (walkR body (f + 1) at_ = (r1, 0, r3)) := ⟨by
                  have := HST.out
                  simp only at this
                  rw [if_pos h3] at this
                  exact this⟩
                clear HST h3
                go_wp2_with (go_at_call 112; (with_reducible refine (HCI.out).mono ?_); rintro e W' ⟨rfl, hb'⟩; have HI' := Aside0.mk (And.intro (below_step HI.out.1 hb') ((hb'.block _ (blk_lt HI.out.2)).trans HI.out.2)); clear hb')
                rw [HST2.out]
                go_ret3
                exact ⟨rfl, HI'.out.1⟩
            · have hd : decide (i < K) = false := decide_eq_false (by omega)
              obtain rfl : i = K := by omega
              go_wp2
              rw [HA.out, Nat.sub_self]
              go_ret3
              exact ⟨rfl, HI.out.1⟩
    · have HW : Aside0 (walkR body (f + 1) at_ = (at_, 0, 4)) := ⟨by rw [walkR, dif_neg (by omega)]⟩
      have z1 : decide (body.length ≤ at_) = true := decide_eq_true h
      clear hr ih hdp
      go_enter Tryz.func112, Tryz.ntmps112
      go_wp2
      rw [HW.out]
      go_ret3
      exact ⟨rfl, HB.out⟩
end Ref07
end Go.Proofs.YtdecijmncpbheaaGreatDoor

namespace Go.Proofs.YtdecijmncpbheaaGreatDoor
open Go.RowKit Go.Shelf Go.Proofs.YtdecijmncpbheaaGreatDoorW.PrintWords Go.Proofs.YtdecijmncpbheaaGreatDoorW.PrintLast Go.Proofs.YtdecijmncpbheaaGreatDoorW.PrintMore
set_option linter.unusedVariables false
set_option linter.unusedSimpArgs false
namespace Ref07
theorem walk1_calls (w : World) (A : Option Addr) (c : Nat) (body : List Node) (hlen : body.length ≤ 300) (hr : Kd.C kNode w A body.length body) (k : Nat) (n : Nat) (hn : n = body.length) (r : Nat × Int × Int) (h : walkR body 16 k = r) :
    Calls Tryz.prog 112 #[.slice A n c, .int .i64 (k : Int), .int .i64 1] w fun e w' => e = .returned (.tuple #[.int .i64 (r.1 : Int), .int .i64 r.2.1, .int .i64 r.2.2]) ∧ Below w.heap.size w w' := by
  have := walk_calls A c body hlen 16 (by decide) k w hr
  rw [h, ← hn] at this
  exact this
set_option maxRecDepth 100000 in
set_option maxHeartbeats 1000000 in
theorem check_calls (w : World) (A : Option Addr) (c : Nat) (body : List Node) (hlen : body.length ≤ 300) (hr : Kd.C kNode w A body.length body) :
    Calls Tryz.prog 40 #[.slice A body.length c] w fun e w' => e = .returned (.int .i64 (checkB body)) ∧ Below w.heap.size w w' := by
  rw [← ref_check]
  obtain ⟨n, hn⟩ : ∃ n, n = body.length := ⟨_, rfl⟩
  obtain ⟨r, hw⟩ : ∃ r, walkR body 16 0 = r := ⟨_, rfl⟩
  obtain ⟨q, hq⟩ : ∃ q, q = refCheckB body := ⟨_, rfl⟩
  rw [← hq]
  unfold refCheckB at hq
  rw [hw, ← hn] at hq
  obtain ⟨r1, r2, r3⟩ := r
  have C1 : Aside0 (Calls Tryz.prog 112 #[.slice A n c, .int .i64 0, .int .i64 1] w fun e w' => e = .returned (.tuple #[.int .i64 (r1 : Int), .int .i64 r2, .int .i64 r3]) ∧ Below w.heap.size w w') := ⟨walk1_calls w A c body hlen hr 0 n hn _ hw⟩
  have HQ := Aside0.mk hq
  rw [← hn]
  clear hq hw hr hn
  by_cases h0 : n = 0
  · subst h0
    go_enter Tryz.func40, Tryz.ntmps40
    go_wp2
    go_ret
    rw [HQ.out]
    exact ⟨rfl, Below.refl _ _⟩
  have z0 : ((n : Int) == 0) = false := beq_eq_false_iff_ne.mpr (by omega)
  by_cases h1 : 128 < n
  · have z1 : decide (128 < (n : Int)) = true := decide_eq_true (by omega)
    obtain rfl : q = 3 := by rw [HQ.out, if_neg h0, if_pos h1]
    clear HQ h0
    go_enter Tryz.func40, Tryz.ntmps40
    go_wp2
    go_ret
    exact ⟨rfl, Below.refl _ _⟩
  have z1 : decide (128 < (n : Int)) = false := decide_eq_false (by omega)
  have hq := HQ.out
  rw [if_neg h0, if_neg h1] at hq
  simp only at hq
  clear HQ h0
  by_cases h3 : r3 = 0
  · subst h3
    by_cases h4 : r1 < n
    · obtain rfl : q = 4 := by rw [hq, if_pos ⟨rfl, h4⟩]
      have z4 : decide (r1 < n) = true := decide_eq_true h4
      clear hq
      go_enter Tryz.func40, Tryz.ntmps40
      go_wp2_with (go_at_call 112; (with_reducible refine (C1.out).mono ?_); rintro e W' ⟨rfl, hb'⟩)
      go_ret
      exact ⟨rfl, hb'⟩
    · obtain rfl : q = 0 := by rw [hq, if_neg (fun h => h4 h.2)]
      have z4 : decide (r1 < n) = false := decide_eq_false h4
      clear hq
      go_enter Tryz.func40, Tryz.ntmps40
      go_wp2_with (go_at_call 112; (with_reducible refine (C1.out).mono ?_); rintro e W' ⟨rfl, hb'⟩)
      go_ret
      exact ⟨rfl, hb'⟩
  · obtain rfl : q = r3 := by rw [hq, if_neg (fun h => h3 h.1)]
    have z4 : (q == 0) = false := beq_eq_false_iff_ne.mpr h3
    clear hq h3
    go_enter Tryz.func40, Tryz.ntmps40
    go_wp2_with (go_at_call 112; (with_reducible refine (C1.out).mono ?_); rintro e W' ⟨rfl, hb'⟩)
    go_ret
    exact ⟨rfl, hb'⟩
end Ref07
end Go.Proofs.YtdecijmncpbheaaGreatDoor

namespace Go.Proofs.YtdecijmncpbheaaGreatDoor
open Go.RowKit Go.Shelf Go.Proofs.YtdecijmncpbheaaGreatDoorW.PrintWords Go.Proofs.YtdecijmncpbheaaGreatDoorW.PrintLast Go.Proofs.YtdecijmncpbheaaGreatDoorW.PrintMore
set_option linter.unusedVariables false
set_option linter.unusedSimpArgs false
namespace Ref07
end Ref07
end Go.Proofs.YtdecijmncpbheaaGreatDoor
