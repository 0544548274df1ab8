/- Several texts as one: WdT, WdN. -/
import Derived.Test.YtdecijmncpbheaaGreatDoorWMore
import Derived.Lib.ParseIntB
import Derived.Lib.ItoaNum

namespace Go.Proofs.YtdecijmncpbheaaGreatDoor
set_option linter.unusedVariables false
set_option linter.unusedSimpArgs false
namespace Wd
abbrev B := UInt8
def letter (c : B) : Bool := decide (97 ≤ c.toNat ∧ c.toNat ≤ 122 ∨ 65 ≤ c.toNat ∧ c.toNat ≤ 90)
def digit (c : B) : Bool := decide (48 ≤ c.toNat ∧ c.toNat ≤ 57)
def inName (c : B) : Bool := letter c || digit c || c == 95
def marksL : List B := [40, 41, 123, 125, 60, 62, 91, 93, 44, 59, 58, 46, 124, 64, 37, 45]
def isMark (c : B) : Bool := marksL.contains c
/-- The number that digits say. -/
def valOf (l : List B) : Nat := l.foldl (fun n c => 10 * n + (c.toNat - 48)) 0
def numOk (l : List B) : Bool := (decide (l.length ≤ 1) || l.head? != some 48) && decide (valOf l < 18446744073709551616)
/-- How many bytes the word has with which a text begins (0: it may not be), and its kind. -/
def wordN : List B → Nat × Int
  | [] => (0, 2)
  | c :: r =>
    if letter c then (if 32 < (r.takeWhile inName).length + 1 then 0 else (r.takeWhile inName).length + 1, 0)
    else if digit c then (if numOk (c :: r.takeWhile digit) then (r.takeWhile digit).length + 1 else 0, 1)
    else if isMark c then (if c = 60 ∧ r.head? = some 61 then 2 else 1, 2)
    else (0, 2)
structure Tok where
  kind : Int
  text : List B
  line : Int
  col : Int
def notNl (c : B) : Bool := c != 10
def scan (l : List B) (line col : Int) : List Tok × Int × Int × Bool :=
  match l with
  | [] => ([⟨3, [], line, col⟩], line, col, true)
  | c :: r =>
    if c = 10 then scan r (line + 1) 1
    else if c = 32 ∨ c = 9 then scan r line (col + 1)
    else if c = 35 then scan (r.dropWhile notNl) line (col + (r.takeWhile notNl).length + 1)
    else if (wordN (c :: r)).1 = 0 then ([], line, col, false)
    else
      let t := scan (r.drop ((wordN (c :: r)).1 - 1)) line (col + (wordN (c :: r)).1)
      if t.2.2.2 then (⟨(wordN (c :: r)).2, (c :: r).take (wordN (c :: r)).1, line, col⟩ :: t.1, t.2) else ([], t.2)
termination_by l.length
decreasing_by
  all_goals simp_wf
  · have := (List.dropWhile_sublist (l := r) notNl).length_le; omega
  · omega

/-- Kinds and texts alone; none: no words. -/
def scanK (l : List B) : Option (List (Int × List B)) :=
  match l with
  | [] => some [(3, [])]
  | c :: r =>
    if c = 10 ∨ c = 32 ∨ c = 9 then scanK r
    else if c = 35 then scanK (r.dropWhile notNl)
    else if (wordN (c :: r)).1 = 0 then none
    else (scanK (r.drop ((wordN (c :: r)).1 - 1))).map (((wordN (c :: r)).2, (c :: r).take (wordN (c :: r)).1) :: ·)
termination_by l.length
decreasing_by
  all_goals simp_wf
  · have := (List.dropWhile_sublist (l := r) notNl).length_le; omega
  · omega

def kt (t : Tok) : Int × List B := (t.kind, t.text)
def same (r : List Tok × Int × Int × Bool) (o : Option (List (Int × List B))) : Prop := (r.2.2.2 = false ∧ o = none ∧ r.1 = []) ∨ (r.2.2.2 = true ∧ o = some (r.1.map kt))
theorem scan_K (l : List B) (line col : Int) : same (scan l line col) (scanK l) := by
  induction hn : l.length using Nat.strongRecOn generalizing l line col with
  | ind n ih =>
    subst hn
    cases l with
    | nil => rw [scan, scanK]; right; exact ⟨rfl, rfl⟩
    | cons c r =>
      rw [scan, scanK]
      by_cases h1 : c = 10
      · rw [if_pos h1, if_pos (.inl h1)]
        exact ih _ (by simp) r _ _ rfl
      rw [if_neg h1]
      by_cases h2 : c = 32 ∨ c = 9
      · rw [if_pos h2, if_pos (.inr h2)]
        exact ih _ (by simp) r _ _ rfl
      rw [if_neg h2, if_neg (show ¬(c = 10 ∨ c = 32 ∨ c = 9) from fun h => h.elim h1 h2)]
      by_cases h3 : c = 35
      · rw [if_pos h3, if_pos h3]
        exact ih _ (by have := (List.dropWhile_sublist (l := r) notNl).length_le; simp; omega) _ _ _ rfl
      rw [if_neg h3, if_neg h3]
      by_cases h4 : (wordN (c :: r)).1 = 0
      · rw [if_pos h4, if_pos h4]; left; exact ⟨rfl, rfl, rfl⟩
      rw [if_neg h4, if_neg h4]
      have := ih _ (by simp; omega) (r.drop ((wordN (c :: r)).1 - 1)) line (col + (wordN (c :: r)).1) rfl
      rcases this with ⟨e1, e2, e3⟩ | ⟨e1, e2⟩
      · left; simp [e1, e2]
      · right; simp [e1, e2, kt]

/-! ### words -/
theorem take_tw (p : B → Bool) (l : List B) : l.take (l.takeWhile p).length = l.takeWhile p := by
  induction l with
  | nil => rfl
  | cons c r ih => rw [List.takeWhile_cons]; split <;> simp [ih]
theorem tw_all (p : B → Bool) (l : List B) : ∀ x ∈ l.takeWhile p, p x = true := by
  induction l with
  | nil => simp
  | cons c r ih =>
    rw [List.takeWhile_cons]
    split
    · rename_i h
      intro x hx
      rcases List.mem_cons.1 hx with rfl | hx
      · exact h
      · exact ih x hx
    · simp
theorem tw_append (p : B → Bool) (l s : List B) (hl : ∀ x ∈ l, p x = true) (hs : ∀ c, s.head? = some c → p c = false) : (l ++ s).takeWhile p = l := by
  induction l with
  | nil =>
    cases s with
    | nil => rfl
    | cons c r => simp [List.takeWhile_cons, hs c rfl]
  | cons c r ih => simp [List.takeWhile_cons, hl c (by simp), ih (fun x hx => hl x (by simp [hx]))]
theorem tw_nl (p : B → Bool) (hp : p 10 = false) (a b : List B) : (a ++ 10 :: b).takeWhile p = a.takeWhile p := by
  induction a with
  | nil => simp [List.takeWhile_cons, hp]
  | cons c r ih => simp only [List.cons_append, List.takeWhile_cons, ih]
theorem tw_le (p : B → Bool) (l : List B) : (l.takeWhile p).length ≤ l.length := (List.takeWhile_sublist (l := l) p).length_le

def delim (s : List B) : Prop := ∀ c, s.head? = some c → inName c = false ∧ c ≠ 61
theorem delim_digit {s : List B} (h : delim s) (c : B) (hc : s.head? = some c) : digit c = false := by
  have := (h c hc).1
  simp only [inName, Bool.or_eq_false_iff] at this
  exact this.1.2
theorem wordN_name {c : B} {r : List B} (h : letter c = true) : wordN (c :: r) = (if 32 < (r.takeWhile inName).length + 1 then 0 else (r.takeWhile inName).length + 1, 0) := by rw [wordN, if_pos h]
theorem wordN_num {c : B} {r : List B} (h : letter c = false) (h2 : digit c = true) : wordN (c :: r) = (if numOk (c :: r.takeWhile digit) then (r.takeWhile digit).length + 1 else 0, 1) := by rw [wordN, if_neg (by simp [h]), if_pos h2]
theorem wordN_mark {c : B} {r : List B} (h : letter c = false) (h2 : digit c = false) (h3 : isMark c = true) : wordN (c :: r) = (if c = 60 ∧ r.head? = some 61 then 2 else 1, 2) := by rw [wordN, if_neg (by simp [h]), if_neg (by simp [h2]), if_pos h3]
theorem wordN_none {c : B} {r : List B} (h : letter c = false) (h2 : digit c = false) (h3 : isMark c = false) : wordN (c :: r) = (0, 2) := by rw [wordN, if_neg (by simp [h]), if_neg (by simp [h2]), if_neg (by simp [h3])]

/-- What a word is: its kind and text. -/
def Word (k : Int) (t : List B) : Prop :=
  (k = 0 ∧ ∃ c r, t = c :: r ∧ letter c = true ∧ (∀ x ∈ r, inName x = true) ∧ t.length ≤ 32) ∨
  (k = 1 ∧ ∃ c r, t = c :: r ∧ letter c = false ∧ digit c = true ∧ (∀ x ∈ r, digit x = true) ∧ numOk t = true) ∨
  (k = 2 ∧ (t = [60, 61] ∨ ∃ c, t = [c] ∧ letter c = false ∧ digit c = false ∧ isMark c = true))
theorem word_is (c : B) (r : List B) (h : (wordN (c :: r)).1 ≠ 0) : Word (wordN (c :: r)).2 ((c :: r).take (wordN (c :: r)).1) ∧ (wordN (c :: r)).1 ≤ (c :: r).length := by
  cases h1 : letter c with
  | true =>
    rw [wordN_name h1] at h ⊢
    simp only at h ⊢
    have hl := tw_le inName r
    split at h
    · exact absurd rfl h
    · rename_i hh
      rw [if_neg hh, List.take_succ_cons, take_tw]
      refine ⟨.inl ⟨rfl, c, _, rfl, h1, tw_all _ _, ?_⟩, ?_⟩
      · simp; omega
      · simp; omega
  | false =>
    cases h2 : digit c with
    | true =>
      rw [wordN_num h1 h2] at h ⊢
      simp only at h ⊢
      have hl := tw_le digit r
      split at h
      · rename_i hh
        rw [if_pos hh, List.take_succ_cons, take_tw]
        refine ⟨.inr (.inl ⟨rfl, c, _, rfl, h1, h2, tw_all _ _, hh⟩), ?_⟩
        simp; omega
      · exact absurd rfl h
    | false =>
      cases h3 : isMark c with
      | true =>
        rw [wordN_mark h1 h2 h3] at h ⊢
        simp only at h ⊢
        split
        · rename_i hh
          obtain ⟨rfl, hh⟩ := hh
          cases r with
          | nil => cases hh
          | cons d r =>
            obtain rfl : d = 61 := by simpa using hh
            exact ⟨.inr (.inr ⟨rfl, .inl rfl⟩), by simp⟩
        · exact ⟨.inr (.inr ⟨rfl, .inr ⟨c, rfl, h1, h2, h3⟩⟩), by simp⟩
      | false =>
        rw [wordN_none h1 h2 h3] at h
        exact absurd rfl h
theorem word_again {k : Int} {t : List B} (h : Word k t) (s : List B) (hs : delim s) : wordN (t ++ s) = (t.length, k) := by
  rcases h with ⟨rfl, c, r, rfl, h1, h2, h3⟩ | ⟨rfl, c, r, rfl, h1, h2, h3, h4⟩ | ⟨rfl, rfl | ⟨c, rfl, h1, h2, h3⟩⟩
  · rw [List.cons_append, wordN_name h1, tw_append _ _ _ h2 (fun c hc => (hs c hc).1)]
    rw [List.length_cons] at h3 ⊢
    rw [if_neg (by omega)]
  · rw [List.cons_append, wordN_num h1 h2, tw_append _ _ _ h3 (fun c hc => delim_digit hs c hc), if_pos h4]
    rfl
  · rfl
  · rw [List.singleton_append, wordN_mark h1 h2 h3, if_neg (by rintro ⟨-, h⟩; exact (hs _ h).2 rfl)]
    rfl
theorem wordN_nl (c : B) (a b : List B) : wordN (c :: (a ++ 10 :: b)) = wordN (c :: a) := by
  have e : ((a ++ 10 :: b).head? = some 61) = (a.head? = some 61) := by
    cases a with
    | nil => simp
    | cons d a => simp
  simp only [wordN, tw_nl inName (by decide), tw_nl digit (by decide), e]

/-- The bytes that don't begin a word. -/
def blank (c : B) : Bool := c == 10 || c == 32 || c == 9
theorem word_head {k : Int} {t : List B} (h : Word k t) : ∃ c r, t = c :: r ∧ c ≠ 10 ∧ c ≠ 32 ∧ c ≠ 9 ∧ c ≠ 35 := by
  have key : ∀ c : B, (letter c = true ∨ digit c = true ∨ isMark c = true) → c ≠ 10 ∧ c ≠ 32 ∧ c ≠ 9 ∧ c ≠ 35 := by
    intro c hc
    refine ⟨?_, ?_, ?_, ?_⟩ <;> (rintro rfl; revert hc; decide)
  rcases h with ⟨rfl, c, r, rfl, h1, h2, h3⟩ | ⟨rfl, c, r, rfl, h1, h2, h3, h4⟩ | ⟨rfl, rfl | ⟨c, rfl, h1, h2, h3⟩⟩
  · exact ⟨_, _, rfl, key c (.inl h1)⟩
  · exact ⟨_, _, rfl, key c (.inr (.inl h2))⟩
  · exact ⟨_, _, rfl, by decide⟩
  · exact ⟨_, _, rfl, key c (.inr (.inr h3))⟩

theorem scanK_blank {c : B} (r : List B) (h : c = 10 ∨ c = 32 ∨ c = 9) : scanK (c :: r) = scanK r := by rw [scanK, if_pos h]
theorem scanK_rem (r : List B) : scanK (35 :: r) = scanK (r.dropWhile notNl) := by rw [scanK, if_neg (by decide), if_pos rfl]
theorem scanK_word {k : Int} {t : List B} (h : Word k t) (s : List B) (hs : delim s) : scanK (t ++ s) = (scanK s).map ((k, t) :: ·) := by
  obtain ⟨c, r, rfl, h1, h2, h3, h4⟩ := word_head h
  have hw := word_again h s hs
  rw [List.cons_append] at hw ⊢
  rw [scanK, if_neg (by rintro (h | h | h); exact h1 h; exact h2 h; exact h3 h), if_neg h4, hw]
  simp
/-- Any words: good ones, and the end. -/
theorem scanK_words (l : List B) (w : List (Int × List B)) (h : scanK l = some w) : ∃ w', w = w' ++ [(3, [])] ∧ ∀ x ∈ w', Word x.1 x.2 := by
  induction hn : l.length using Nat.strongRecOn generalizing l w with
  | ind n ih =>
    subst hn
    cases l with
    | nil => rw [scanK] at h; cases h; exact ⟨[], rfl, by simp⟩
    | cons c r =>
      rw [scanK] at h
      split at h
      · exact ih _ (by simp) r w h rfl
      split at h
      · exact ih _ (by have := (List.dropWhile_sublist (l := r) notNl).length_le; simp; omega) _ w h rfl
      split at h
      · cases h
      rename_i h3
      obtain ⟨w1, h1, rfl⟩ := Option.map_eq_some_iff.1 h
      obtain ⟨w2, rfl, h2⟩ := ih _ (by simp; omega) _ w1 h1 rfl
      refine ⟨_ :: w2, rfl, fun x hx => ?_⟩
      rcases List.mem_cons.1 hx with rfl | hx
      · exact (word_is c r h3).1
      · exact h2 x hx

/-! ### again -/
theorem scanK_again (note : List B) (hd : ∃ c r, note = c :: r ∧ (c = 10 ∨ c = 32 ∨ c = 9)) (hn : ∀ s, scanK (note ++ s) = scanK s) (w : List (Int × List B)) (h : ∀ x ∈ w, Word x.1 x.2) :
    scanK ((w ++ [(3, [])]).flatMap (fun x : Int × List B => x.2 ++ note)) = some (w ++ [(3, [])]) := by
  induction w with
  | nil =>
    simp only [List.nil_append, List.flatMap_cons, List.flatMap_nil, List.append_nil]
    have := hn []
    rw [List.append_nil] at this
    rw [this, scanK]
  | cons x w ih =>
    simp only [List.cons_append, List.flatMap_cons, List.append_assoc]
    have ih := ih (fun x hx => h x (by simp [hx]))
    simp only [List.flatMap_append] at ih ⊢
    rw [scanK_word (h x (by simp)) _ ?_, hn, ih]
    · rfl
    · intro c hc
      obtain ⟨d, r, rfl, hd⟩ := hd
      rw [List.cons_append, List.head?_cons] at hc
      cases hc
      rcases hd with rfl | rfl | rfl <;> decide
theorem dw_nl (m s : List B) (hm : ∀ x ∈ m, x ≠ 10) : (m ++ 10 :: s).dropWhile notNl = 10 :: s := by
  induction m with
  | nil => rfl
  | cons c m ih => rw [List.cons_append, List.dropWhile_cons, if_pos (by simpa [notNl] using hm c (by simp))]; exact ih (fun x hx => hm x (by simp [hx]))
theorem scanK_remark (m s : List B) (hm : ∀ x ∈ m, x ≠ 10) : scanK (35 :: (m ++ 10 :: s)) = scanK s := by
  rw [scanK_rem, dw_nl m s hm, scanK_blank _ (.inl rfl)]

/-! ### both -/
theorem scanK_ne {l : List B} {w : List (Int × List B)} (h : scanK l = some w) : w ≠ [] := by
  obtain ⟨w', rfl, -⟩ := scanK_words l w h
  simp
theorem dw_append_nl (a b : List B) : (a ++ 10 :: b).dropWhile notNl = a.dropWhile notNl ++ 10 :: b := by
  induction a with
  | nil => rfl
  | cons c a ih =>
    rw [List.cons_append, List.dropWhile_cons, List.dropWhile_cons]
    split
    · exact ih
    · rfl
theorem scanK_both (a b : List B) : scanK (a ++ 10 :: b) = (scanK a).bind fun wa => (scanK b).map (wa.dropLast ++ ·) := by
  induction hn : a.length using Nat.strongRecOn generalizing a with
  | ind n ih =>
    subst hn
    cases a with
    | nil =>
      rw [List.nil_append, scanK_blank _ (.inl rfl)]
      rw [show scanK [] = some [(3, [])] by rw [scanK]]
      cases scanK b <;> simp
    | cons c r =>
      rw [List.cons_append]
      conv => lhs; rw [scanK]
      conv => rhs; rw [scanK]
      split
      · exact ih _ (by simp) r rfl
      split
      · rw [dw_append_nl]
        exact ih _ (by have := (List.dropWhile_sublist (l := r) notNl).length_le; simp; omega) _ rfl
      rw [wordN_nl]
      split
      · rfl
      · rename_i h3
        have hle := (word_is c r h3).2
        rw [List.length_cons] at hle
        rw [List.drop_append_of_le_length (by omega), ih _ (by simp; omega) _ rfl, ← List.cons_append, List.take_append_of_le_length (by simp; omega)]
        cases hs : scanK (r.drop ((wordN (c :: r)).1 - 1)) with
        | none => rfl
        | some w =>
          cases scanK b with
          | none => rfl
          | some wb =>
            have := scanK_ne hs
            cases w with
            | nil => exact absurd rfl this
            | cons x w => simp

/-! ### places -/
def adv (p : Int × Int) (c : B) : Int × Int := if c = 10 then (p.1 + 1, 1) else (p.1, p.2 + 1)
def placeOf (l : List B) : Int × Int := l.foldl adv (1, 1)
def before (p q : Int × Int) : Prop := p.1 < q.1 ∨ (p.1 = q.1 ∧ p.2 < q.2)
theorem adv_before (p : Int × Int) (c : B) : before p (adv p c) := by
  unfold adv
  split
  · exact .inl (show p.1 < p.1 + 1 by omega)
  · exact .inr ⟨rfl, show p.2 < p.2 + 1 by omega⟩
theorem foldl_before (p : Int × Int) (l : List B) (h : l ≠ []) : before p (l.foldl adv p) := by
  induction l generalizing p with
  | nil => exact absurd rfl h
  | cons c r ih =>
    rw [List.foldl_cons]
    have h1 := adv_before p c
    cases r with
    | nil => exact h1
    | cons d r =>
      have h2 := ih (adv p c) (by simp)
      unfold before at *
      omega
theorem place_inj (l : List B) (i j : Nat) (hij : i < j) (hj : j ≤ l.length) : placeOf (l.take i) ≠ placeOf (l.take j) := by
  intro h
  have e : l.take j = l.take i ++ (l.take j).drop i := by
    have := (List.take_append_drop i (l.take j)).symm
    rwa [List.take_take, Nat.min_eq_left (by omega)] at this
  have := foldl_before (placeOf (l.take i)) ((l.take j).drop i) (by
    intro h0
    have := congrArg List.length h0
    simp at this
    omega)
  rw [placeOf, placeOf, e, List.foldl_append] at h
  rw [placeOf] at this
  rw [← h] at this
  unfold before at this
  omega
theorem adv_text (p : Int × Int) (t : List B) (h : ∀ x ∈ t, x ≠ 10) : t.foldl adv p = (p.1, p.2 + t.length) := by
  induction t generalizing p with
  | nil => simp
  | cons c r ih =>
    rw [List.foldl_cons, ih _ (fun x hx => h x (by simp [hx])), adv, if_neg (h c (by simp))]
    simp only [List.length_cons, Prod.mk.injEq, true_and]
    omega
def chain (full : List B) (last : Nat) : List Tok → Prop
  | [] => True
  | t :: ts => ∃ k, last ≤ k ∧ k + t.text.length ≤ full.length ∧ (t.line, t.col) = placeOf (full.take k) ∧ (full.drop k).take t.text.length = t.text ∧ (t.kind = 3 ↔ ts = []) ∧ (t.text = [] ↔ ts = []) ∧ chain full (k + t.text.length) ts
theorem word_no_nl {k : Int} {t : List B} (h : Word k t) : ∀ x ∈ t, x ≠ 10 := by
  have key : ∀ c : B, (letter c = true ∨ digit c = true ∨ isMark c = true ∨ inName c = true) → c ≠ 10 := by
    intro c hc
    rintro rfl
    revert hc
    decide
  rcases h with ⟨rfl, c, r, rfl, h1, h2, h3⟩ | ⟨rfl, c, r, rfl, h1, h2, h3, h4⟩ | ⟨rfl, rfl | ⟨c, rfl, h1, h2, h3⟩⟩
  · intro x hx
    rcases List.mem_cons.1 hx with rfl | hx
    · exact key x (.inl h1)
    · exact key x (.inr (.inr (.inr (h2 x hx))))
  · intro x hx
    rcases List.mem_cons.1 hx with rfl | hx
    · exact key x (.inr (.inl h2))
    · exact key x (.inr (.inl (h3 x hx)))
  · decide
  · intro x hx
    rw [List.mem_singleton.1 hx]
    exact key c (.inr (.inr (.inl h3)))
theorem word_kind {k : Int} {t : List B} (h : Word k t) : k ≠ 3 ∧ t ≠ [] := by
  rcases h with ⟨rfl, c, r, rfl, h1, h2, h3⟩ | ⟨rfl, c, r, rfl, h1, h2, h3, h4⟩ | ⟨rfl, rfl | ⟨c, rfl, h1, h2, h3⟩⟩ <;> exact ⟨by decide, by simp⟩
theorem chain_mono (full : List B) (a b : Nat) (h : a ≤ b) (ts : List Tok) (hc : chain full b ts) : chain full a ts := by
  cases ts with
  | nil => trivial
  | cons t ts =>
    obtain ⟨k, h1, h2⟩ := hc
    exact ⟨k, by omega, h2⟩
/-- Of a text that stands behind p: each word at its place; where it is none, a place in the text. -/
theorem scan_places (l p : List B) (line col : Int) (hp : (line, col) = placeOf p) : ((scan l line col).2.2.2 = true → chain (p ++ l) p.length (scan l line col).1 ∧ (scan l line col).1 ≠ [] ∧ (∀ t, (scan l line col).1.getLast? = some t → (t.line, t.col) = ((scan l line col).2.1, (scan l line col).2.2.1))) ∧
    ((scan l line col).2.2.2 = false → ∃ k, k < (p ++ l).length ∧ ((scan l line col).2.1, (scan l line col).2.2.1) = placeOf ((p ++ l).take k)) := by
  induction hn : l.length using Nat.strongRecOn generalizing l p line col with
  | ind n ih =>
    subst hn
    cases l with
    | nil =>
      rw [scan]
      refine ⟨fun _ => ⟨⟨p.length, Nat.le_refl _, by simp, ?_, by simp, by simp, by simp, trivial⟩, by simp, by simp⟩, by simp⟩
      simpa using hp
    | cons c r =>
      rw [scan]
      by_cases h1 : c = 10
      · rw [if_pos h1]
        have := ih _ (by simp) r (p ++ [c]) (line + 1) 1 (by rw [placeOf, List.foldl_append, ← placeOf, ← hp]; simp [adv, h1]) rfl
        rw [List.append_assoc, List.singleton_append] at this
        refine ⟨fun h => ?_, this.2⟩
        obtain ⟨a1, a2⟩ := this.1 h
        exact ⟨chain_mono _ _ _ (by simp) _ a1, a2⟩
      rw [if_neg h1]
      by_cases h2 : c = 32 ∨ c = 9
      · rw [if_pos h2]
        have := ih _ (by simp) r (p ++ [c]) line (col + 1) (by rw [placeOf, List.foldl_append, ← placeOf, ← hp]; simp [adv, h1]) rfl
        rw [List.append_assoc, List.singleton_append] at this
        refine ⟨fun h => ?_, this.2⟩
        obtain ⟨a1, a2⟩ := this.1 h
        exact ⟨chain_mono _ _ _ (by simp) _ a1, a2⟩
      rw [if_neg h2]
      by_cases h3 : c = 35
      · rw [if_pos h3]
        have e : p ++ c :: r = (p ++ c :: r.takeWhile notNl) ++ r.dropWhile notNl := by
          rw [List.append_assoc, List.cons_append, List.takeWhile_append_dropWhile]
        have := ih _ (by have := (List.dropWhile_sublist (l := r) notNl).length_le; simp; omega) (r.dropWhile notNl) (p ++ c :: r.takeWhile notNl) line (col + (r.takeWhile notNl).length + 1) (by
          rw [placeOf, List.foldl_append, ← placeOf, ← hp, adv_text]
          · simp only [List.length_cons, Prod.mk.injEq, true_and]; omega
          · intro x hx
            rcases List.mem_cons.1 hx with rfl | hx
            · exact h1
            · have := tw_all notNl r x hx
              simpa [notNl] using this) rfl
        rw [← e] at this
        refine ⟨fun h => ?_, this.2⟩
        obtain ⟨a1, a2⟩ := this.1 h
        exact ⟨chain_mono _ _ _ (by simp) _ a1, a2⟩
      rw [if_neg h3]
      by_cases h4 : (wordN (c :: r)).1 = 0
      · rw [if_pos h4]
        exact ⟨by simp, fun _ => ⟨p.length, by simp, by simpa using hp⟩⟩
      rw [if_neg h4]
      obtain ⟨hw, hle⟩ := word_is c r h4
      obtain ⟨n, hn⟩ : ∃ n, n = (wordN (c :: r)).1 := ⟨_, rfl⟩
      obtain ⟨k, hk⟩ : ∃ k, k = (wordN (c :: r)).2 := ⟨_, rfl⟩
      rw [← hn] at hw hle h4 ⊢
      rw [← hk] at hw ⊢
      have htl : ((c :: r).take n).length = n := by rw [List.length_take]; omega
      have ed : r.drop (n - 1) = (c :: r).drop n := by
        cases n with
        | zero => exact absurd rfl h4
        | succ n => rfl
      have e : p ++ c :: r = (p ++ (c :: r).take n) ++ r.drop (n - 1) := by
        rw [ed, List.append_assoc, List.take_append_drop]
      have := ih _ (by simp; omega) (r.drop (n - 1)) (p ++ (c :: r).take n) line (col + n) (by
        rw [placeOf, List.foldl_append, ← placeOf, ← hp, adv_text _ _ (word_no_nl hw), htl]) rfl
      rw [← e] at this
      simp only
      cases hok : (scan (r.drop (n - 1)) line (col + n)).2.2.2 with
      | false =>
        refine ⟨by simp [hok], fun _ => ?_⟩
        simpa [hok] using this.2 hok
      | true =>
        obtain ⟨a1, a2, a3⟩ := this.1 hok
        rw [if_pos rfl]
        refine ⟨fun _ => ⟨⟨p.length, Nat.le_refl _, ?_, by simpa using hp, ?_, ?_, ?_, ?_⟩, by simp, ?_⟩, by simp [hok]⟩
        · simp only [htl, List.length_append]; omega
        · simp only [htl, List.drop_left']
        · exact ⟨fun h => absurd h (word_kind hw).1, fun h => absurd h a2⟩
        · exact ⟨fun h => absurd h (word_kind hw).2, fun h => absurd h a2⟩
        · rw [List.length_append] at a1
          exact a1
        · intro t ht
          refine a3 t ?_
          rw [List.getLast?_cons] at ht
          cases hts : (scan (r.drop (n - 1)) line (col + n)).1 with
          | nil => exact absurd hts a2
          | cons x xs =>
            rw [hts] at ht
            simpa [List.getLast?_cons] using ht

/-! ### numbers -/
theorem val_from (l : List B) (a : Nat) : l.foldl (fun n c => 10 * n + (c.toNat - 48)) a = a * 10 ^ l.length + valOf l := by
  unfold valOf
  induction l generalizing a with
  | nil => simp
  | cons c r ih =>
    rw [List.foldl_cons, List.foldl_cons, ih, ih (10 * 0 + _), List.length_cons, Nat.pow_succ]
    rw [Nat.add_mul, Nat.mul_zero, Nat.zero_add, Nat.add_assoc, Nat.mul_comm 10 a, Nat.mul_assoc, Nat.mul_comm 10]
theorem val_cons (c : B) (r : List B) : valOf (c :: r) = (c.toNat - 48) * 10 ^ r.length + valOf r := by
  show (r.foldl _ (10 * 0 + (c.toNat - 48))) = _
  rw [val_from, Nat.mul_zero, Nat.zero_add]
theorem num_length {c : B} {r : List B} (h1 : digit c = true) (h : numOk (c :: r) = true) : (c :: r).length ≤ 20 := by
  simp only [numOk, Bool.and_eq_true, Bool.or_eq_true, decide_eq_true_eq, List.head?_cons, bne_iff_ne, ne_eq, Option.some.injEq] at h
  rcases h with ⟨h2 | h2, h3⟩
  · omega
  · rw [val_cons] at h3
    have hc : 49 ≤ c.toNat := by
      simp only [digit, decide_eq_true_eq] at h1
      rcases Nat.lt_or_ge c.toNat 49 with h | h
      · exact absurd (UInt8.toNat_inj.1 (show c.toNat = (48 : UInt8).toNat from by show c.toNat = 48; omega)) h2
      · exact h
    rcases Nat.lt_or_ge 20 (c :: r).length with hl | hl
    · exfalso
      rw [List.length_cons] at hl
      have : 10 ^ 20 ≤ 10 ^ r.length := Nat.pow_le_pow_right (by decide) (by omega)
      have h4 : 1 * 10 ^ r.length ≤ (c.toNat - 48) * 10 ^ r.length := Nat.mul_le_mul_right _ (by omega)
      omega
    · exact hl
/-! ### the same, by fuel: for examples -/
def scanF : Nat → List B → Int → Int → List Tok × Int × Int × Bool
  | 0, _, line, col => ([], line, col, false)
  | f + 1, l, line, col =>
    match l with
    | [] => ([⟨3, [], line, col⟩], line, col, true)
    | c :: r =>
      if c = 10 then scanF f r (line + 1) 1
      else if c = 32 ∨ c = 9 then scanF f r line (col + 1)
      else if c = 35 then scanF f (r.dropWhile notNl) line (col + (r.takeWhile notNl).length + 1)
      else if (wordN (c :: r)).1 = 0 then ([], line, col, false)
      else
        let t := scanF f (r.drop ((wordN (c :: r)).1 - 1)) line (col + (wordN (c :: r)).1)
        if t.2.2.2 then (⟨(wordN (c :: r)).2, (c :: r).take (wordN (c :: r)).1, line, col⟩ :: t.1, t.2) else ([], t.2)
theorem scanF_eq (f : Nat) (l : List B) (line col : Int) (h : l.length < f) : scanF f l line col = scan l line col := by
  induction f generalizing l line col with
  | zero => omega
  | succ f ih =>
    cases l with
    | nil => rw [scan, scanF]
    | cons c r =>
      rw [List.length_cons] at h
      have hd : (r.dropWhile notNl).length ≤ r.length := (List.dropWhile_sublist (l := r) notNl).length_le
      rw [scan, scanF]
      simp only [ih r _ _ (by omega), ih (r.dropWhile notNl) _ _ (by omega), ih (r.drop ((wordN (c :: r)).1 - 1)) _ _ (by rw [List.length_drop]; omega)]
end Wd
end Go.Proofs.YtdecijmncpbheaaGreatDoor

namespace Go.Proofs.YtdecijmncpbheaaGreatDoor
set_option linter.unusedVariables false
set_option linter.unusedSimpArgs false
namespace Wd
open Go
theorem dig_val {c : B} (h : digit c = true) : 48 ≤ c.toNat ∧ c.toNat ≤ 57 := by simpa [digit] using h
theorem val_lt (l : List B) (h : ∀ x ∈ l, digit x = true) : valOf l < 10 ^ l.length := by
  induction l with
  | nil => decide
  | cons c r ih =>
    have ih := ih (fun x hx => h x (by simp [hx]))
    have hc := dig_val (h c (by simp))
    rw [val_cons, List.length_cons, Nat.pow_succ]
    have : (c.toNat - 48) * 10 ^ r.length ≤ 9 * 10 ^ r.length := Nat.mul_le_mul_right _ (by omega)
    omega
theorem parseM (l : List B) (acc : Nat) (h : ∀ x ∈ l, digit x = true) (ha : acc < 18446744073709551616) : Lib.parseUintM (2 ^ 64 - 1) acc l = if 18446744073709551616 ≤ acc * 10 ^ l.length + valOf l then .range else .ok (acc * 10 ^ l.length + valOf l) := by
  induction l generalizing acc with
  | nil =>
    rw [Lib.parseUintM]
    simp [valOf]
    omega
  | cons c r ih =>
    have hc := dig_val (h c (by simp))
    have hr := fun x hx => h x (List.mem_cons_of_mem c hx)
    have hp : 0 < 10 ^ r.length := Nat.pow_pos (by decide)
    have e : acc * 10 ^ (c :: r).length + valOf (c :: r) = (acc * 10 + (c.toNat - 48)) * 10 ^ r.length + valOf r := by
      rw [val_cons, List.length_cons, Nat.pow_succ, Nat.add_mul, Nat.mul_assoc, Nat.mul_comm 10, Nat.add_assoc]
    rw [e, Lib.parseUintM, if_pos hc]
    by_cases h1 : 1844674407370955162 ≤ acc
    · rw [if_pos h1, if_pos]
      have : (acc * 10 + (c.toNat - 48)) * 1 ≤ (acc * 10 + (c.toNat - 48)) * 10 ^ r.length := Nat.mul_le_mul_left _ hp
      omega
    rw [if_neg h1]
    by_cases h2 : 2 ^ 64 - 1 < acc * 10 + (c.toNat - 48)
    · rw [if_pos h2, if_pos]
      have : (acc * 10 + (c.toNat - 48)) * 1 ≤ (acc * 10 + (c.toNat - 48)) * 10 ^ r.length := Nat.mul_le_mul_left _ hp
      omega
    rw [if_neg h2]
    exact ih _ hr (by omega)
theorem parse_digits (l : List B) (h0 : l ≠ []) (h : ∀ x ∈ l, digit x = true) : Lib.parseUintB 64 l = if 18446744073709551616 ≤ valOf l then .range else .ok (valOf l) := by
  rw [Lib.parseUintB, if_neg h0, parseM l 0 h (by omega), Nat.zero_mul, Nat.zero_add]
theorem val_snoc (l : List B) (c : B) : valOf (l ++ [c]) = 10 * valOf l + (c.toNat - 48) := by
  unfold valOf
  rw [List.foldl_append]
  rfl
theorem val_pos (c : B) (r : List B) (hc : digit c = true) (h : c ≠ 48) : 0 < valOf (c :: r) := by
  rw [val_cons]
  have hv := dig_val hc
  have : c.toNat ≠ 48 := fun e => h (UInt8.toNat_inj.1 (show c.toNat = (48 : UInt8).toNat from e))
  have hp : 0 < 10 ^ r.length := Nat.pow_pos (by decide)
  have : 1 * 10 ^ r.length ≤ (c.toNat - 48) * 10 ^ r.length := Nat.mul_le_mul_right _ (by omega)
  omega
theorem dig_of {c : B} (h : digit c = true) : UInt8.ofNat (48 + (c.toNat - 48)) = c := by
  have hv := dig_val h
  rw [show 48 + (c.toNat - 48) = c.toNat by omega]
  exact UInt8.ofNat_toNat
/-- Digits without a needless nought are their number's decimal digits. -/
theorem dec_of (n : Nat) (l : List B) (hl : l.length = n + 1) (h : ∀ x ∈ l, digit x = true) (hz : l.length ≤ 1 ∨ l.head? ≠ some 48) : Lib.decDigits (valOf l) = l := by
  induction n generalizing l with
  | zero =>
    match l, hl with
    | [c], _ =>
      have hc := h c (by simp)
      have hv := dig_val hc
      rw [Lib.decDigits, dif_pos (by simp [valOf]; omega)]
      have : valOf [c] = c.toNat - 48 := by simp [valOf]
      rw [this, dig_of hc]
  | succ n ih =>
    obtain ⟨r, c, rfl⟩ : ∃ r c, l = r ++ [c] := ⟨l.dropLast, l.getLast (by intro h; subst h; cases hl), (List.dropLast_concat_getLast _).symm⟩
    have hr : r.length = n + 1 := by simpa using hl
    have hz2 : r.head? ≠ some 48 := by
      rcases hz with hz | hz
      · rw [hl] at hz; omega
      · cases r with
        | nil => cases hr
        | cons d r => simpa using hz
    have hdr : ∀ x ∈ r, digit x = true := fun x hx => h x (by simp [hx])
    have hc := h c (by simp)
    have hv := dig_val hc
    have hpos : 0 < valOf r := by
      cases r with
      | nil => cases hr
      | cons d r => exact val_pos d r (hdr d (by simp)) (fun e => hz2 (by rw [e]; rfl))
    rw [val_snoc, Lib.decDigits, dif_neg (by omega), show (10 * valOf r + (c.toNat - 48)) / 10 = valOf r by omega, show (10 * valOf r + (c.toNat - 48)) % 10 = c.toNat - 48 by omega, dig_of hc, ih r hr hdr (.inr hz2)]
theorem dec_head (u : Nat) (hu : 0 < u) : (Lib.decDigits u).head? ≠ some 48 := by
  induction u using Nat.strongRecOn with
  | ind u ih =>
    rw [Lib.decDigits]
    split
    · rename_i h
      intro e
      have : UInt8.ofNat (48 + u) = 48 := by simpa using e
      have := congrArg UInt8.toNat this
      rw [UInt8.toNat_ofNat'] at this
      have e2 : (48 : UInt8).toNat = 48 := rfl
      rw [e2, Nat.mod_eq_of_lt (by omega)] at this
      omega
    · rename_i h
      have hne : Lib.decDigits (u / 10) ≠ [] := by rw [Lib.decDigits]; split <;> simp
      have := ih (u / 10) (by omega) (by omega)
      cases hd : Lib.decDigits (u / 10) with
      | nil => exact absurd hd hne
      | cons x xs => rw [hd] at this; simpa using this
/-- What is formatted of the parsed number is the text just if it has no needless nought. -/
theorem dec_iff (l : List B) (h0 : l ≠ []) (h : ∀ x ∈ l, digit x = true) : Lib.decDigits (valOf l) = l ↔ (l.length ≤ 1 ∨ l.head? ≠ some 48) := by
  constructor
  · intro e
    by_cases hz : l.head? = some 48
    · left
      cases l with
      | nil => exact absurd rfl h0
      | cons c r =>
        obtain rfl : c = 48 := by simpa using hz
        rcases Nat.eq_zero_or_pos (valOf (48 :: r)) with hv | hv
        · rw [hv] at e
          have := congrArg List.length e
          rw [Lib.decDigits] at this
          simp at this
          subst this
          exact Nat.le_refl _
        · have := dec_head _ hv
          rw [e] at this
          exact absurd rfl this
    · exact .inr hz
  · intro hz
    obtain ⟨n, hn⟩ : ∃ n, l.length = n + 1 := ⟨l.length - 1, by have := List.length_pos_iff.2 h0; omega⟩
    exact dec_of n l hn h hz
theorem numOk_iff (l : List B) (h0 : l ≠ []) (h : ∀ x ∈ l, digit x = true) : numOk l = (decide (valOf l < 18446744073709551616) && decide (Lib.decDigits (valOf l) = l)) := by
  rw [Bool.eq_iff_iff]
  simp only [numOk, Bool.and_eq_true, Bool.or_eq_true, decide_eq_true_eq, bne_iff_ne, ne_eq]
  rw [dec_iff l h0 h]
  exact And.comm
end Wd
end Go.Proofs.YtdecijmncpbheaaGreatDoor
