/- Several texts as one: TrP, TrQ, TrE. -/
import Derived.Test.YtdecijmncpbheaaGreatDoorK
import Derived.Lib.ParseIntB
import Derived.Lib.ItoaNum

namespace Go.Proofs.YtdecijmncpbheaaGreatDoor
open Go.RowKit Go.Proofs.YtdecijmncpbheaaGreatDoorW.PrintWords Go.Proofs.YtdecijmncpbheaaGreatDoorW.PrintLast Go.Proofs.YtdecijmncpbheaaGreatDoorW.PrintMore
set_option linter.unusedVariables false
set_option linter.unusedSimpArgs false
namespace Tr
abbrev Wrd := S134
abbrev Nd := S119
abbrev Tm := S100
abbrev B := UInt8
/-- The reader: the words ahead, the place of the word that was taken last, how many nodes. -/
structure PS where
  ws : List Wrd
  l : Int
  c : Int
  n : Nat
/-- What a part answers; bad: not asked here. -/
inductive PR (α : Type) where
  | ok (a : α) (s : PS) : PR α
  | err (e l c : Int) : PR α
  | bad : PR α
def PR.bind {α β : Type} (r : PR α) (f : α → PS → PR β) : PR β := match r with
  | .ok a s => f a s
  | .err e l c => .err e l c
  | .bad => .bad
def place (s : PS) : Int × Int := match s.ws with
  | [] => (s.l, s.c)
  | x :: _ => (x.f2.f0, x.f2.f1)
def failsP {α : Type} (e : Int) (s : PS) : PR α := .err e (place s).1 (place s).2
def isK (k : Int) (s : PS) : Bool := match s.ws with
  | [] => false
  | x :: _ => x.f0 == k
def isM (t : List B) (s : PS) : Bool := match s.ws with
  | [] => false
  | x :: _ => x.f0 == 2 && x.f1.data.toList == t
def headT (s : PS) : ByteArray := match s.ws with
  | [] => ⟨#[]⟩
  | x :: _ => x.f1
def takeP (s : PS) : PS := match s.ws with
  | [] => s
  | x :: r => ⟨r, x.f2.f0, x.f2.f1, s.n⟩
def mustM (t : List B) (s : PS) : PR Unit := if isM t s then .ok () (takeP s) else failsP 11 s
def mustN (s : PS) : PR ByteArray := if isK 0 s then .ok (headT s) (takeP s) else failsP 11 s
def marksP : List (List B) → PS → PR Unit
  | [], s => .ok () s
  | t :: r, s => (mustM t s).bind fun _ s => marksP r s
def idx (l : List ByteArray) (t : ByteArray) : Option Nat := l.findIdx? (fun y => y.data.toList == t.data.toList)
def placeP (l : List ByteArray) (s : PS) : PR Nat :=
  if isK 0 s then match idx l (headT s) with
    | some i => .ok i (takeP s)
    | none => failsP 7 s
  else failsP 11 s
def numV (t : ByteArray) : Option Nat := match Lib.parseUintB 64 t.data.toList with
  | .ok u => if u < 18446744073709551616 ∧ Lib.decDigits u = t.data.toList then some u else none
  | _ => none
def t0 : Tm := ⟨false, 0⟩
def variableP (s : PS) : PR Tm := (mustM [37] s).bind fun _ s => if isK 1 s then match numV (headT s) with
    | some u => .ok ⟨true, u⟩ (takeP s)
    | none => .bad
  else failsP 11 s
/-- What an interface has of names. -/
structure FI where
  labels : List ByteArray
  effects : List ByteArray
  imports : List ByteArray
def labelP (F : FI) (s : PS) : PR Tm := if isM [37] s then variableP s else (placeP F.labels s).bind fun i s => .ok ⟨false, i⟩ s
def bitP (i : Nat) : Nat := if i < 64 then 2 ^ i else 0
/-- The names of effects, up to the mark behind them. -/
def effW (F : List ByteArray) : List Wrd → Int → Nat → Int → Int → Nat → PR Nat
  | [], _, _, l, c, _ => .err 11 l c
  | x :: r, last, N, _, _, n => if x.f0 == 2 && x.f1.data.toList == [62] then .ok N ⟨r, x.f2.f0, x.f2.f1, n⟩ else
    if x.f0 == 0 then match idx F x.f1 with
      | none => .err 7 x.f2.f0 x.f2.f1
      | some i => if (i : Int) ≤ last then .err 4 x.f2.f0 x.f2.f1 else effW F r i (N ||| bitP i) x.f2.f0 x.f2.f1 n
    else .err 11 x.f2.f0 x.f2.f1
def effL (F : List ByteArray) (last : Int) (N : Nat) (s : PS) : PR Nat := effW F s.ws last N s.l s.c s.n
def effB (F : FI) (s : PS) : PR Tm := (mustM [60] s).bind fun _ s => (effL F.effects (-1) 0 s).bind fun N s => .ok ⟨false, N⟩ s
def effectP (F : FI) (s : PS) : PR Tm := if isM [37] s then variableP s else effB F s
def nodeP (s : PS) : PR Unit := if 128 ≤ s.n then failsP 3 s else .ok () ⟨s.ws, s.l, s.c, s.n + 1⟩
def isBase (t : List B) : Bool := t == [98, 111, 111, 108] || t == [105, 110, 116] || t == [116, 101, 120, 116] || t == [117, 110, 105, 116]
def isRef (t : List B) : Bool := t == [114, 101, 102]
/-- A name, behind its module: its label, and what is below it. -/
def nameP (F : FI) (A : PS → PR (List Nd)) (m : Nat) (nm : ByteArray) (s : PS) : PR (List Nd) :=
  (mustM [64] s).bind fun _ s => (labelP F s).bind fun l s =>
    if 0 < m then .ok [⟨2, m, nm, 0, l, t0, t0⟩] s else
    if isBase nm.data.toList then .ok [⟨1, 0, nm, 0, l, t0, t0⟩] s else
    if isRef nm.data.toList then (A s).bind fun b s => .ok (⟨4, 0, ⟨#[]⟩, 1, l, t0, t0⟩ :: b) s else .ok [⟨2, 0, nm, 0, l, t0, t0⟩] s
def namedP (F : FI) (A : PS → PR (List Nd)) (s : PS) : PR (List Nd) :=
  if isK 0 s then (nodeP s).bind fun _ s =>
    if isM [46] (takeP s) then (placeP F.imports s).bind fun i s => (mustM [46] s).bind fun _ s => (mustN s).bind fun nm s => nameP F A (1 + i) nm s
    else nameP F A 0 (headT s) (takeP s)
  else failsP 11 s
def tupL (W : PS → PR (List Nd)) : Nat → Nat → List Nd → PS → PR (Nat × List Nd)
  | 0, kids, all, s => if isM [41] s then (mustM [41] s).bind fun _ s => .ok (kids, all) s else
    (if 0 < kids then mustM [44] s else .ok () s).bind fun _ s => failsP 3 s
  | g + 1, kids, all, s => if isM [41] s then (mustM [41] s).bind fun _ s => .ok (kids, all) s else
    (if 0 < kids then mustM [44] s else .ok () s).bind fun _ s => (W s).bind fun b s => tupL W g (kids + 1) (all ++ b) s
def tupleP (F : FI) (W : PS → PR (List Nd)) (s : PS) : PR (List Nd) :=
  (nodeP s).bind fun _ s => (mustM [40] s).bind fun _ s => (tupL W 8 0 [] s).bind fun r s => (mustM [64] s).bind fun _ s => (labelP F s).bind fun l s => .ok (⟨3, 0, ⟨#[]⟩, r.1, l, t0, t0⟩ :: r.2) s
def heldP (W : PS → PR (List Nd)) (s : PS) : PR (List Nd) := (mustM [123] s).bind fun _ s => (W s).bind fun a s => (mustM [125] s).bind fun _ s => .ok a s
def atomF (F : FI) (W A : PS → PR (List Nd)) (s : PS) : PR (List Nd) := if isM [123] s then heldP W s else if isM [40] s then tupleP F W s else namedP F A s
def funP (F : FI) (W : PS → PR (List Nd)) (a : List Nd) (s : PS) : PR (List Nd) :=
  (nodeP s).bind fun _ s => (marksP [[45], [91]] s).bind fun _ s => (labelP F s).bind fun l s => (mustM [44] s).bind fun _ s => (labelP F s).bind fun p s => (mustM [44] s).bind fun _ s =>
    (effectP F s).bind fun e s => (marksP [[93], [62]] s).bind fun _ s => (W s).bind fun b s => .ok (⟨5, 0, ⟨#[]⟩, 2, l, p, e⟩ :: (a ++ b)) s
def wholeF (F : FI) (W A : PS → PR (List Nd)) (s : PS) : PR (List Nd) := (atomF F W A s).bind fun a s => if isM [45] s then funP F W a s else .ok a s
/-- Types and atoms, at so many nestings at most. -/
def PG (F : FI) : Nat → (PS → PR (List Nd)) × (PS → PR (List Nd))
  | 0 => (failsP 12, failsP 12)
  | g + 1 => (wholeF F (PG F g).1 (PG F g).2, atomF F (PG F g).1 (PG F g).2)
/-- trees.Of. -/
def ofP (F : FI) (ws : List Wrd) : PR (List Nd) := (PG F 32).1 ⟨ws, 1, 1, 0⟩

/-! ### The same words with something else behind them. -/
def Al (a b : List Wrd) : Prop := a.map (fun x => (x.f0, x.f1)) = b.map (fun x => (x.f0, x.f1))
theorem Al.refl (a : List Wrd) : Al a a := rfl
theorem Al.nil {b : List Wrd} (h : Al [] b) : b = [] := by cases b with
  | nil => rfl
  | cons => cases h
theorem Al.cons {x : Wrd} {a b : List Wrd} (h : Al (x :: a) b) : ∃ y r, b = y :: r ∧ y.f0 = x.f0 ∧ y.f1 = x.f1 ∧ Al a r := by
  cases b with
  | nil => cases h
  | cons y r =>
    simp only [Al, List.map_cons, List.cons.injEq, Prod.mk.injEq] at h
    exact ⟨y, r, rfl, h.1.1.symm, h.1.2.symm, h.2⟩
theorem Al.append {a1 a2 b : List Wrd} (h : Al (a1 ++ a2) b) : ∃ b1 b2, b = b1 ++ b2 ∧ Al a1 b1 ∧ Al a2 b2 := by
  induction a1 generalizing b with
  | nil => exact ⟨[], b, rfl, rfl, h⟩
  | cons x a1 ih =>
    obtain ⟨y, r, rfl, h0, h1, h2⟩ := Al.cons (show Al (x :: (a1 ++ a2)) b from h)
    obtain ⟨b1, b2, rfl, h3, h4⟩ := ih h2
    refine ⟨y :: b1, b2, rfl, ?_, h4⟩
    simp only [Al, List.map_cons, h0, h1, List.cons.injEq, true_and]
    exact h3
def dash (l : List Wrd) : Bool := isM [45] ⟨l, 0, 0, 0⟩
def RR (r t : List Wrd) : Prop := dash r = false → dash t = false
theorem isM_ws (m : List B) (s u : PS) (h : s.ws = u.ws) : isM m s = isM m u := by rw [isM, isM, h]
theorem isM_al (m : List B) {x y : Wrd} (r r2 : List Wrd) (l c l2 c2 : Int) (n n2 : Nat) (h0 : y.f0 = x.f0) (h1 : y.f1 = x.f1) : isM m ⟨y :: r2, l2, c2, n2⟩ = isM m ⟨x :: r, l, c, n⟩ := by
  simp only [isM, h0, h1]
theorem RR_app {p p' r t : List Wrd} (h : Al p p') (hr : RR r t) : RR (p ++ r) (p' ++ t) := by
  cases p with
  | nil => rw [h.nil]; exact hr
  | cons x p =>
    obtain ⟨y, q, rfl, h0, h1, _⟩ := h.cons
    intro hd
    rw [← hd]
    exact isM_al [45] _ _ _ _ _ _ _ _ h0 h1
/-- It ended well, or it was nested too deep. -/
def Out {α : Type} (D : Bool) (r : PR α) (a : α) (t : List Wrd) (n : Nat) : Prop := (∃ l c, r = .ok a ⟨t, l, c, n⟩) ∨ (D = true ∧ ∃ l c, r = .err 12 l c)
/-- What p reads, q reads with anything else behind it; e words at least. -/
def Sim {α : Type} (D : Bool) (e : Nat) (p q : PS → PR α) : Prop :=
  ∀ s a s', p s = .ok a s' → ∃ pre, s.ws = pre ++ s'.ws ∧ e ≤ pre.length ∧ ∀ pre' t l c, Al pre pre' → RR s'.ws t → Out D (q ⟨pre' ++ t, l, c, s.n⟩) a t s'.n
theorem Sim.weak {α : Type} {D : Bool} {e e2 : Nat} {p q : PS → PR α} (h : Sim D e p q) (he : e2 ≤ e) : Sim D e2 p q := fun s a s' hs => by
  obtain ⟨pre, h1, h2, h3⟩ := h s a s' hs
  exact ⟨pre, h1, Nat.le_trans he h2, h3⟩
theorem Sim.of {α : Type} {D : Bool} {e : Nat} {p q p2 q2 : PS → PR α} (h : Sim D e p q) (hp : ∀ s a s', p2 s = .ok a s' → p s = .ok a s') (hq : ∀ s, q s = q2 s ∨ q s = .bad) : Sim D e p2 q2 := fun s a s' hs => by
  obtain ⟨pre, h1, h2, h3⟩ := h s a s' (hp s a s' hs)
  refine ⟨pre, h1, h2, fun pre' t l c hal hr => ?_⟩
  have := h3 pre' t l c hal hr
  rcases hq ⟨pre' ++ t, l, c, s.n⟩ with e | e
  · rwa [e] at this
  · rw [e] at this
    rcases this with ⟨_, _, h⟩ | ⟨_, _, _, h⟩ <;> cases h
theorem sim_pure {α : Type} (D : Bool) (a : α) : Sim D 0 (fun s => .ok a s) (fun s => .ok a s) := fun s b s' h => by
  injection h with h1 h2
  subst h1 h2
  exact ⟨[], rfl, Nat.zero_le _, fun pre' t l c hal _ => by rw [hal.nil]; exact .inl ⟨l, c, rfl⟩⟩
theorem sim_bind {α β : Type} {D : Bool} {e1 e2 : Nat} {p q : PS → PR α} {f g : α → PS → PR β} (h : Sim D e1 p q) (hf : ∀ a, Sim D e2 (f a) (g a)) : Sim D (e1 + e2) (fun s => (p s).bind f) (fun s => (q s).bind g) := fun s b s' hs => by
  cases hp : p s with
  | err e l c => simp only [hp] at hs; cases hs
  | bad => simp only [hp] at hs; cases hs
  | ok a s1 =>
    simp only [hp] at hs
    obtain ⟨p1, e1', ne1, k1⟩ := h s a s1 hp
    obtain ⟨p2, e2', ne2, k2⟩ := hf a s1 b s' hs
    refine ⟨p1 ++ p2, by rw [e1', e2', List.append_assoc], by rw [List.length_append]; omega, ?_⟩
    intro pre' t l c hal hr
    obtain ⟨b1, b2, rfl, ha1, ha2⟩ := hal.append
    rcases k1 b1 (b2 ++ t) l c ha1 (by rw [e2']; exact RR_app ha2 hr) with ⟨l1, c1, h1⟩ | ⟨hD, l1, c1, h1⟩
    · rw [List.append_assoc]
      show Out D ((q ⟨b1 ++ (b2 ++ t), l, c, s.n⟩).bind g) _ _ _
      rw [h1]
      exact k2 b2 t l1 c1 ha2 hr
    · rw [List.append_assoc]
      show Out D ((q ⟨b1 ++ (b2 ++ t), l, c, s.n⟩).bind g) _ _ _
      rw [h1]
      exact .inr ⟨hD, l1, c1, rfl⟩
theorem isM_pre (m : List B) {pre pre' : List Wrd} (r t : List Wrd) (l c l2 c2 : Int) (n n2 : Nat) (h : Al pre pre') (hp : 1 ≤ pre.length) : isM m ⟨pre' ++ t, l2, c2, n2⟩ = isM m ⟨pre ++ r, l, c, n⟩ := by
  cases pre with
  | nil => simp at hp
  | cons x q =>
    obtain ⟨y, q', rfl, e0, e1, _⟩ := h.cons
    exact isM_al m _ _ _ _ _ _ _ _ e0 e1
/-- A look at a mark, where both ways read a word. -/
theorem sim_ite {α : Type} {D : Bool} {e : Nat} (m : List B) {p q p2 q2 : PS → PR α} (h : Sim D (e + 1) p q) (h2 : Sim D (e + 1) p2 q2) : Sim D (e + 1) (fun s => if isM m s then p s else p2 s) (fun s => if isM m s then q s else q2 s) := fun s a s' hs => by
  have key : ∀ (p q : PS → PR α), Sim D (e + 1) p q → p s = .ok a s' → ∃ pre, s.ws = pre ++ s'.ws ∧ e + 1 ≤ pre.length ∧ ∀ pre' t l c, Al pre pre' → RR s'.ws t → (isM m ⟨pre' ++ t, l, c, s.n⟩ = isM m s ∧ Out D (q ⟨pre' ++ t, l, c, s.n⟩) a t s'.n) := by
    intro p q h hp
    obtain ⟨pre, h1, h2, h3⟩ := h s a s' hp
    refine ⟨pre, h1, h2, fun pre' t l c hal hr => ⟨?_, h3 pre' t l c hal hr⟩⟩
    obtain ⟨ws, l0, c0, n0⟩ := s
    simp only at h1
    subst h1
    exact isM_pre m _ _ _ _ _ _ _ _ hal (by omega)
  cases hm : isM m s with
  | true =>
    obtain ⟨pre, h1, h2, h3⟩ := key p q h (by simpa [hm] using hs)
    exact ⟨pre, h1, h2, fun pre' t l c hal hr => by have := h3 pre' t l c hal hr; simp only [this.1, hm, if_true]; exact this.2⟩
  | false =>
    obtain ⟨pre, h1, h2, h3⟩ := key p2 q2 h2 (by simpa [hm] using hs)
    exact ⟨pre, h1, h2, fun pre' t l c hal hr => by have := h3 pre' t l c hal hr; simp only [this.1, hm, Bool.false_eq_true, if_false]; exact this.2⟩
/-- A look at the dash, behind which nothing may be read. -/
theorem sim_dash {α : Type} {D : Bool} {e : Nat} (a : α) {p q : PS → PR α} (h : Sim D (e + 1) p q) : Sim D 0 (fun s => if isM [45] s then p s else .ok a s) (fun s => if isM [45] s then q s else .ok a s) := fun s b s' hs => by
  cases hm : isM [45] s with
  | true =>
    obtain ⟨pre, h1, h2, h3⟩ := h s b s' (by simpa [hm] using hs)
    refine ⟨pre, h1, Nat.zero_le _, fun pre' t l c hal hr => ?_⟩
    have : isM [45] ⟨pre' ++ t, l, c, s.n⟩ = true := by
      rw [← hm]
      obtain ⟨ws, l0, c0, n0⟩ := s
      simp only at h1
      subst h1
      exact isM_pre _ _ _ _ _ _ _ _ _ hal (by omega)
    simp only [this, if_true]
    exact h3 pre' t l c hal hr
  | false =>
    simp only [hm, Bool.false_eq_true, if_false] at hs
    injection hs with h1 h2
    subst h1 h2
    refine ⟨[], rfl, Nat.le_refl _, fun pre' t l c hal hr => ?_⟩
    rw [hal.nil]
    have : isM [45] ⟨[] ++ t, l, c, s.n⟩ = false := hr hm
    simp only [this, Bool.false_eq_true, if_false]
    exact .inl ⟨l, c, rfl⟩
/-- Cut short: the last word that p reads is not there, but an end. -/
def Cut {α : Type} (p : PS → PR α) : Prop :=
  ∀ s a s', p s = .ok a s' → ∀ pre, s.ws = pre ++ s'.ws → pre ≠ [] → ∀ x l c, x.f0 = 3 → p ⟨pre.dropLast ++ [x], l, c, s.n⟩ = .err 11 x.f2.f0 x.f2.f1
theorem cut_pure {α : Type} (a : α) : Cut (fun s => .ok a s) := fun s b s' h pre hp hn => by
  injection h with h1 h2
  subst h2
  exact absurd (List.self_eq_append_left.1 hp) hn
theorem isM_end (m : List B) (x : Wrd) (r : List Wrd) (l c : Int) (n : Nat) (h : x.f0 = 3) : isM m ⟨x :: r, l, c, n⟩ = false := by simp [isM, h]
theorem RR_end {pre : List Wrd} (r : List Wrd) {x : Wrd} (h : x.f0 = 3) : RR (pre ++ r) (pre.dropLast ++ [x]) := by
  intro hd
  cases pre with
  | nil => exact isM_end _ _ _ _ _ _ h
  | cons y q => cases q with
    | nil => exact isM_end _ _ _ _ _ _ h
    | cons z q =>
      rw [← hd]
      exact isM_al [45] _ _ _ _ _ _ _ _ rfl rfl
theorem cut_bind {α β : Type} {e1 e2 : Nat} {p : PS → PR α} {f : α → PS → PR β} (h : Sim false e1 p p) (hf : ∀ a, Sim false e2 (f a) (f a)) (hc : e2 = 0 → Cut p) (hcf : ∀ a, Cut (f a)) : Cut (fun s => (p s).bind f) := fun s b s' hs pre hp hn x l c hx => by
  cases hps : p s with
  | err e l c => simp only [hps] at hs; cases hs
  | bad => simp only [hps] at hs; cases hs
  | ok a s1 =>
    simp only [hps] at hs
    obtain ⟨p1, e1', ne1, k1⟩ := h s a s1 hps
    obtain ⟨p2, e2', ne2, k2⟩ := hf a s1 b s' hs
    have hpp : pre = p1 ++ p2 := List.append_cancel_right (hp.symm.trans (by rw [e1', e2', List.append_assoc]))
    subst hpp
    cases hp2 : p2 with
    | nil =>
      subst hp2
      have h1 := hc (by simpa using ne2) s a s1 hps p1 e1' (by simpa using hn) x l c hx
      simp only [List.append_nil, h1]
      rfl
    | cons y q =>
      rw [← hp2]
      have hne : p2 ≠ [] := by rw [hp2]; simp
      rcases k1 p1 (p2.dropLast ++ [x]) l c (Al.refl _) (by rw [e2']; exact RR_end _ hx) with ⟨l1, c1, h1⟩ | ⟨hD, _⟩
      · rw [List.dropLast_append_of_ne_nil hne, List.append_assoc]
        simp only [h1]
        exact hcf a s1 b s' hs p2 e2' hne x l1 c1 hx
      · cases hD
theorem cut_ite {α : Type} (m : List B) {p p2 : PS → PR α} (h : Sim false 2 p p) (hc : Cut p) (hc2 : Cut p2) : Cut (fun s => if isM m s then p s else p2 s) := fun s a s' hs pre hp hn x l c hx => by
  cases hm : isM m s with
  | true =>
    have hs' : p s = .ok a s' := by simpa [hm] using hs
    obtain ⟨p1, e1, e2, _⟩ := h s a s' hs'
    obtain rfl : pre = p1 := List.append_cancel_right (hp.symm.trans e1)
    have : isM m ⟨pre.dropLast ++ [x], l, c, s.n⟩ = true := by
      rw [← hm]
      obtain ⟨ws, l0, c0, n0⟩ := s
      simp only at hp
      subst hp
      cases pre with
      | nil => exact absurd rfl hn
      | cons y q => cases q with
        | nil => simp at e2
        | cons z q => rfl
    simp only [this, if_true]
    exact hc s a s' hs' pre hp hn x l c hx
  | false =>
    have hs' : p2 s = .ok a s' := by simpa [hm] using hs
    have : isM m ⟨pre.dropLast ++ [x], l, c, s.n⟩ = false := by
      obtain ⟨ws, l0, c0, n0⟩ := s
      simp only at hp
      subst hp
      cases pre with
      | nil => exact absurd rfl hn
      | cons y q => cases q with
        | nil => exact isM_end m x [] l c n0 hx
        | cons z q => rw [← hm]; rfl
    simp only [this, Bool.false_eq_true, if_false]
    exact hc2 s a s' hs' pre hp hn x l c hx
theorem cut_dash {α : Type} (a : α) {p : PS → PR α} (h : Sim false 2 p p) (hc : Cut p) : Cut (fun s => if isM [45] s then p s else .ok a s) := cut_ite [45] h hc (cut_pure a)
/-- A part that looks at the first word alone, and takes it. -/
structure Head {α : Type} (p : PS → PR α) (f : Int → ByteArray → Option α) : Prop where
  back : ∀ s a s', p s = .ok a s' → ∃ x r, s.ws = x :: r ∧ f x.f0 x.f1 = some a ∧ s' = takeP s
  go : ∀ x r l c n a, f x.f0 x.f1 = some a → p ⟨x :: r, l, c, n⟩ = .ok a (takeP ⟨x :: r, l, c, n⟩)
  stop : ∀ x r l c n, x.f0 = 3 → p ⟨x :: r, l, c, n⟩ = .err 11 x.f2.f0 x.f2.f1
theorem sim_head {α : Type} (D : Bool) {p : PS → PR α} {f : Int → ByteArray → Option α} (h : Head p f) : Sim D 1 p p := fun s a s' hs => by
  obtain ⟨x, r, h1, h2, rfl⟩ := h.back s a s' hs
  have e : (takeP s).ws = r := by rw [takeP, h1]
  have en : (takeP s).n = s.n := by rw [takeP, h1]
  refine ⟨[x], by rw [h1, e]; rfl, Nat.le_refl _, fun pre' t l c hal _ => ?_⟩
  obtain ⟨y, q, rfl, e0, e1, hq2⟩ := hal.cons
  rw [hq2.nil, en]
  exact .inl ⟨_, _, h.go y t l c s.n a (by rw [e0, e1]; exact h2)⟩
theorem cut_head {α : Type} {p : PS → PR α} {f : Int → ByteArray → Option α} (h : Head p f) : Cut p := fun s a s' hs pre hp hn x l c hx => by
  obtain ⟨y, r, h1, h2, rfl⟩ := h.back s a s' hs
  have e : (takeP s).ws = r := by rw [takeP, h1]
  rw [e, h1] at hp
  obtain rfl : pre = [y] := List.append_cancel_right (hp.symm.trans (List.singleton_append).symm)
  exact h.stop x [] l c s.n hx
theorem head_mustM (m : List B) : Head (mustM m) (fun k t => if k == 2 && t.data.toList == m then some () else none) where
  back s a s' h := by
    obtain ⟨ws, l, c, n⟩ := s
    cases ws with
    | nil => simp [mustM, isM, failsP] at h
    | cons x r =>
      refine ⟨x, r, rfl, ?_⟩
      unfold mustM at h
      split at h
      · rename_i hm
        injection h with h1 h2
        exact ⟨by rw [if_pos (show (x.f0 == 2 && x.f1.data.toList == m) = true from hm)], h2.symm⟩
      · cases h
  go x r l c n a h := by
    unfold mustM
    rw [if_pos]
    show (x.f0 == 2 && x.f1.data.toList == m) = true
    split at h
    · assumption
    · cases h
  stop x r l c n h := by
    unfold mustM
    rw [isM_end m x r l c n h]
    rfl
theorem head_mustN : Head mustN (fun k t => if k == 0 then some t else none) where
  back s a s' h := by
    obtain ⟨ws, l, c, n⟩ := s
    cases ws with
    | nil => simp [mustN, isK, failsP] at h
    | cons x r =>
      refine ⟨x, r, rfl, ?_⟩
      unfold mustN at h
      split at h
      · rename_i hm
        injection h with h1 h2
        exact ⟨by rw [if_pos (show (x.f0 == 0) = true from hm), ← h1]; rfl, h2.symm⟩
      · cases h
  go x r l c n a h := by
    unfold mustN
    split at h
    · rename_i hk
      rw [if_pos (show isK 0 ⟨x :: r, l, c, n⟩ = true from hk)]
      injection h with h
      rw [← h]
      rfl
    · cases h
  stop x r l c n h := by simp [mustN, isK, h, failsP, place]
theorem head_placeP (L : List ByteArray) : Head (placeP L) (fun k t => if k == 0 then idx L t else none) where
  back s a s' h := by
    obtain ⟨ws, l, c, n⟩ := s
    cases ws with
    | nil => simp [placeP, isK, failsP] at h
    | cons x r =>
      refine ⟨x, r, rfl, ?_⟩
      unfold placeP at h
      split at h
      · rename_i hm
        split at h
        · rename_i i hi
          injection h with h1 h2
          exact ⟨by rw [if_pos (show (x.f0 == 0) = true from hm), ← h1]; exact hi, h2.symm⟩
        · cases h
      · cases h
  go x r l c n a h := by
    unfold placeP
    split at h
    · rename_i hk
      rw [if_pos (show isK 0 ⟨x :: r, l, c, n⟩ = true from hk)]
      rw [show headT ⟨x :: r, l, c, n⟩ = x.f1 from rfl, h]
    · cases h
  stop x r l c n h := by simp [placeP, isK, h, failsP, place]
def numP (s : PS) : PR Tm := if isK 1 s then match numV (headT s) with
    | some u => .ok ⟨true, u⟩ (takeP s)
    | none => .bad
  else failsP 11 s
theorem head_numP : Head numP (fun k t => if k == 1 then (numV t).map (fun (u : Nat) => (⟨true, (u : Int)⟩ : Tm)) else none) where
  back s a s' h := by
    obtain ⟨ws, l, c, n⟩ := s
    cases ws with
    | nil => simp [numP, isK, failsP] at h
    | cons x r =>
      refine ⟨x, r, rfl, ?_⟩
      unfold numP at h
      split at h
      · rename_i hm
        split at h
        · rename_i i hi
          injection h with h1 h2
          exact ⟨by rw [if_pos (show (x.f0 == 1) = true from hm), ← h1, show numV x.f1 = some i from hi]; rfl, h2.symm⟩
        · cases h
      · cases h
  go x r l c n a h := by
    unfold numP
    split at h
    · rename_i hk
      rw [if_pos (show isK 1 ⟨x :: r, l, c, n⟩ = true from hk)]
      rw [show headT ⟨x :: r, l, c, n⟩ = x.f1 from rfl]
      cases hv : numV x.f1 with
      | none => rw [hv] at h; cases h
      | some u => rw [hv] at h; injection h with h; rw [← h]
    · cases h
  stop x r l c n h := by simp [numP, isK, h, failsP, place]
/-! ### All parts. -/
theorem s_mustM (D : Bool) (m : List B) : Sim D 1 (mustM m) (mustM m) := sim_head D (head_mustM m)
theorem s_mustN (D : Bool) : Sim D 1 mustN mustN := sim_head D head_mustN
theorem s_placeP (D : Bool) (L : List ByteArray) : Sim D 1 (placeP L) (placeP L) := sim_head D (head_placeP L)
theorem s_variable (D : Bool) : Sim D 2 variableP variableP := sim_bind (e1 := 1) (e2 := 1) (s_mustM D [37]) (fun _ => sim_head D head_numP)
theorem c_variable : Cut variableP := cut_bind (e1 := 1) (e2 := 1) (s_mustM _ [37]) (fun _ => sim_head _ head_numP) (fun h => by cases h) (fun _ => cut_head head_numP)
def labB (F : FI) (s : PS) : PR Tm := (placeP F.labels s).bind fun i s => .ok ⟨false, i⟩ s
theorem s_labB (D : Bool) (F : FI) : Sim D 1 (labB F) (labB F) := sim_bind (e1 := 1) (e2 := 0) (s_placeP D F.labels) (fun i => sim_pure D _)
theorem c_labB (F : FI) : Cut (labB F) := cut_bind (e1 := 1) (e2 := 0) (s_placeP _ F.labels) (fun i => sim_pure _ _) (fun _ => cut_head (head_placeP _)) (fun _ => cut_pure _)
theorem s_label (D : Bool) (F : FI) : Sim D 1 (labelP F) (labelP F) := sim_ite (e := 0) [37] ((s_variable D).weak (by omega)) (s_labB D F)
theorem c_label (F : FI) : Cut (labelP F) := cut_ite [37] (s_variable _) c_variable (c_labB F)
theorem effW_sim (F : List ByteArray) : ∀ (ws : List Wrd) (last : Int) (N : Nat) (l c : Int) (n a : Nat) (s' : PS), effW F ws last N l c n = .ok a s' →
    ∃ pre, ws = pre ++ s'.ws ∧ 1 ≤ pre.length ∧ s'.n = n ∧ (∀ pre' t l2 c2, Al pre pre' → ∃ l3 c3, effW F (pre' ++ t) last N l2 c2 n = .ok a ⟨t, l3, c3, n⟩) ∧ (∀ x l2 c2, x.f0 = 3 → effW F (pre.dropLast ++ [x]) last N l2 c2 n = .err 11 x.f2.f0 x.f2.f1)
  | [], last, N, l, c, n, a, s', h => by simp [effW] at h
  | x :: r, last, N, l, c, n, a, s', h => by
    rw [effW] at h
    split at h
    · rename_i hm
      injection h with h1 h2
      subst h1 h2
      refine ⟨[x], rfl, Nat.le_refl _, rfl, fun pre' t l2 c2 hal => ?_, fun x2 l2 c2 hx => ?_⟩
      · obtain ⟨y, q, rfl, e0, e1, hq⟩ := hal.cons
        rw [hq.nil]
        refine ⟨y.f2.f0, y.f2.f1, ?_⟩
        show effW F (y :: ([] ++ t)) _ _ _ _ _ = _
        rw [effW, e0, e1, if_pos hm]
        rfl
      · show effW F [x2] _ _ _ _ _ = _
        rw [effW, if_neg (by simp [hx]), if_neg (by simp [hx])]
    · rename_i hm
      split at h
      · rename_i hk
        split at h
        · cases h
        · rename_i i hi
          split at h
          · cases h
          · rename_i hl
            obtain ⟨pre, h1, h2, h3, h4, h5⟩ := effW_sim F r i _ _ _ n a s' h
            refine ⟨x :: pre, by rw [h1]; rfl, by simp, h3, fun pre' t l2 c2 hal => ?_, fun x2 l2 c2 hx => ?_⟩
            · obtain ⟨y, q, rfl, e0, e1, hq⟩ := hal.cons
              obtain ⟨l3, c3, h6⟩ := h4 q t y.f2.f0 y.f2.f1 hq
              refine ⟨l3, c3, ?_⟩
              show effW F (y :: (q ++ t)) _ _ _ _ _ = _
              rw [effW, e0, e1, if_neg hm, if_pos hk, hi]
              simp only [hl, if_false]
              exact h6
            · cases pre with
              | nil => simp at h2
              | cons z q =>
                show effW F (x :: ((z :: q).dropLast ++ [x2])) _ _ _ _ _ = _
                rw [effW, if_neg hm, if_pos hk, hi]
                simp only [hl, if_false]
                exact h5 x2 _ _ hx
      · cases h
theorem s_effL (D : Bool) (F : List ByteArray) (last : Int) (N : Nat) : Sim D 1 (effL F last N) (effL F last N) := fun s a s' h => by
  obtain ⟨pre, h1, h2, h3, h4, _⟩ := effW_sim F s.ws last N s.l s.c s.n a s' h
  exact ⟨pre, h1, h2, fun pre' t l c hal _ => by obtain ⟨l3, c3, h5⟩ := h4 pre' t l c hal; rw [h3]; exact .inl ⟨l3, c3, h5⟩⟩
theorem c_effL (F : List ByteArray) (last : Int) (N : Nat) : Cut (effL F last N) := fun s a s' h pre hp hn x l c hx => by
  obtain ⟨p1, h1, h2, h3, _, h5⟩ := effW_sim F s.ws last N s.l s.c s.n a s' h
  obtain rfl : pre = p1 := List.append_cancel_right (hp.symm.trans h1)
  exact h5 x l c hx
theorem s_effB (D : Bool) (F : FI) : Sim D 2 (effB F) (effB F) := sim_bind (e1 := 1) (e2 := 1) (s_mustM D [60]) (fun _ => sim_bind (e1 := 1) (e2 := 0) (s_effL D _ _ _) (fun _ => sim_pure D _))
theorem c_effB (F : FI) : Cut (effB F) := cut_bind (e1 := 1) (e2 := 1) (s_mustM _ [60]) (fun _ => sim_bind (e1 := 1) (e2 := 0) (s_effL _ _ _ _) (fun _ => sim_pure _ _)) (fun h => by cases h) (fun _ => cut_bind (e1 := 1) (e2 := 0) (s_effL _ _ _ _) (fun _ => sim_pure _ _) (fun _ => c_effL _ _ _) (fun _ => cut_pure _))
theorem s_effect (D : Bool) (F : FI) : Sim D 1 (effectP F) (effectP F) := sim_ite (e := 0) [37] ((s_variable D).weak (by omega)) ((s_effB D F).weak (by omega))
theorem s_nodeP (D : Bool) : Sim D 0 nodeP nodeP := fun s a s' h => by
  unfold nodeP at h
  split at h
  · cases h
  · rename_i hn
    injection h with h1 h2
    subst h2
    refine ⟨[], rfl, Nat.le_refl _, fun pre' t l c hal _ => ?_⟩
    rw [hal.nil]
    refine .inl ⟨l, c, ?_⟩
    simp [nodeP, hn]
theorem c_nodeP : Cut nodeP := fun s a s' h pre hp hn => by
  unfold nodeP at h
  split at h
  · cases h
  · injection h with h1 h2
    subst h2
    exact absurd (List.self_eq_append_left.1 hp) hn
theorem s_marks2 (D : Bool) (a b : List B) : Sim D 2 (marksP [a, b]) (marksP [a, b]) := sim_bind (e1 := 1) (e2 := 1) (s_mustM D a) (fun _ => sim_bind (e1 := 1) (e2 := 0) (s_mustM D b) (fun _ => sim_pure D ()))
theorem c_marks2 (a b : List B) : Cut (marksP [a, b]) := cut_bind (e1 := 1) (e2 := 1) (s_mustM _ a) (fun _ => sim_bind (e1 := 1) (e2 := 0) (s_mustM _ b) (fun _ => sim_pure _ ())) (fun h => by cases h) (fun _ => cut_bind (e1 := 1) (e2 := 0) (s_mustM _ b) (fun _ => sim_pure _ ()) (fun _ => cut_head (head_mustM b)) (fun _ => cut_pure ()))
theorem c_effect (F : FI) : Cut (effectP F) := cut_ite [37] (s_variable _) c_variable (c_effB F)
theorem sim_fail {α : Type} (D : Bool) (e : Nat) (k : Int) (q : PS → PR α) : Sim D e (failsP k) q := fun s a s' h => by cases h
theorem cut_fail {α : Type} (k : Int) : Cut (failsP (α := α) k) := fun s a s' h => by cases h
def nameE (A : PS → PR (List Nd)) (m : Nat) (nm : ByteArray) (l : Tm) (s : PS) : PR (List Nd) :=
    if 0 < m then .ok [⟨2, m, nm, 0, l, t0, t0⟩] s else
    if isBase nm.data.toList then .ok [⟨1, 0, nm, 0, l, t0, t0⟩] s else
    if isRef nm.data.toList then (A s).bind fun b s => .ok (⟨4, 0, ⟨#[]⟩, 1, l, t0, t0⟩ :: b) s else .ok [⟨2, 0, nm, 0, l, t0, t0⟩] s
theorem s_nameE {D : Bool} {A A' : PS → PR (List Nd)} (hA : Sim D 1 A A') (m : Nat) (nm : ByteArray) (l : Tm) : Sim D 0 (nameE A m nm l) (nameE A' m nm l) := by
  unfold nameE
  by_cases h1 : 0 < m
  · simp only [if_pos h1]; exact sim_pure D _
  · simp only [if_neg h1]
    cases h2 : isBase nm.data.toList with
    | true => simp only [if_true]; exact sim_pure D _
    | false =>
      simp only [Bool.false_eq_true, if_false]
      cases h3 : isRef nm.data.toList with
      | true => simp only [if_true]; exact (sim_bind (e1 := 1) (e2 := 0) hA (fun _ => sim_pure D _)).weak (by omega)
      | false => simp only [Bool.false_eq_true, if_false]; exact sim_pure D _
theorem c_nameE {A : PS → PR (List Nd)} (hA : Sim false 1 A A) (cA : Cut A) (m : Nat) (nm : ByteArray) (l : Tm) : Cut (nameE A m nm l) := by
  unfold nameE
  by_cases h1 : 0 < m
  · simp only [if_pos h1]; exact cut_pure _
  · simp only [if_neg h1]
    cases h2 : isBase nm.data.toList with
    | true => simp only [if_true]; exact cut_pure _
    | false =>
      simp only [Bool.false_eq_true, if_false]
      cases h3 : isRef nm.data.toList with
      | true => simp only [if_true]; exact cut_bind (e1 := 1) (e2 := 0) hA (fun _ => sim_pure _ _) (fun _ => cA) (fun _ => cut_pure _)
      | false => simp only [Bool.false_eq_true, if_false]; exact cut_pure _
theorem s_name {D : Bool} {A A' : PS → PR (List Nd)} (F : FI) (hA : Sim D 1 A A') (m : Nat) (nm : ByteArray) : Sim D 2 (nameP F A m nm) (nameP F A' m nm) :=
  sim_bind (e1 := 1) (e2 := 1) (s_mustM D [64]) (fun _ => sim_bind (e1 := 1) (e2 := 0) (s_label D F) (fun l => s_nameE hA m nm l))
theorem c_name {A : PS → PR (List Nd)} (F : FI) (hA : Sim false 1 A A) (cA : Cut A) (m : Nat) (nm : ByteArray) : Cut (nameP F A m nm) :=
  cut_bind (e1 := 1) (e2 := 1) (s_mustM _ [64]) (fun _ => sim_bind (e1 := 1) (e2 := 0) (s_label _ F) (fun l => s_nameE hA m nm l)) (fun h => by cases h) (fun _ => cut_bind (e1 := 1) (e2 := 0) (s_label _ F) (fun l => s_nameE hA m nm l) (fun _ => c_label F) (fun l => c_nameE hA cA m nm l))
/-- The module's name is taken first. -/
def dotP (F : FI) (A : PS → PR (List Nd)) (nm : ByteArray) (s : PS) : PR (List Nd) := match idx F.imports nm with
  | some i => (mustM [46] s).bind fun _ s => (mustN s).bind fun nm s => nameP F A (1 + i) nm s
  | none => .bad
def named2 (F : FI) (A : PS → PR (List Nd)) (s : PS) : PR (List Nd) := (nodeP s).bind fun _ s => (mustN s).bind fun nm s => if isM [46] s then dotP F A nm s else nameP F A 0 nm s
theorem s_dot {D : Bool} {A A' : PS → PR (List Nd)} (F : FI) (hA : Sim D 1 A A') (nm : ByteArray) : Sim D 2 (dotP F A nm) (dotP F A' nm) := by
  unfold dotP
  cases idx F.imports nm with
  | none => exact fun s a s' h => by cases h
  | some i => exact (sim_bind (e1 := 1) (e2 := 3) (s_mustM D [46]) (fun _ => sim_bind (e1 := 1) (e2 := 2) (s_mustN D) (fun nm => s_name F hA (1 + i) nm))).weak (by omega)
theorem c_dot {A : PS → PR (List Nd)} (F : FI) (hA : Sim false 1 A A) (cA : Cut A) (nm : ByteArray) : Cut (dotP F A nm) := by
  unfold dotP
  cases idx F.imports nm with
  | none => exact fun s a s' h => by cases h
  | some i => exact cut_bind (e1 := 1) (e2 := 3) (s_mustM _ [46]) (fun _ => sim_bind (e1 := 1) (e2 := 2) (s_mustN _) (fun nm => s_name F hA (1 + i) nm)) (fun h => by cases h) (fun _ => cut_bind (e1 := 1) (e2 := 2) (s_mustN _) (fun nm => s_name F hA (1 + i) nm) (fun h => by cases h) (fun nm => c_name F hA cA (1 + i) nm))
theorem s_named2 {D : Bool} {A A' : PS → PR (List Nd)} (F : FI) (hA : Sim D 1 A A') : Sim D 3 (named2 F A) (named2 F A') :=
  sim_bind (e1 := 0) (e2 := 3) (s_nodeP D) (fun _ => sim_bind (e1 := 1) (e2 := 2) (s_mustN D) (fun nm => sim_ite (e := 1) [46] (s_dot F hA nm) (s_name F hA 0 nm)))
theorem c_named2 {A : PS → PR (List Nd)} (F : FI) (hA : Sim false 1 A A) (cA : Cut A) : Cut (named2 F A) :=
  cut_bind (e1 := 0) (e2 := 3) (s_nodeP _) (fun _ => sim_bind (e1 := 1) (e2 := 2) (s_mustN _) (fun nm => sim_ite (e := 1) [46] (s_dot F hA nm) (s_name F hA 0 nm))) (fun h => by cases h)
    (fun _ => cut_bind (e1 := 1) (e2 := 2) (s_mustN _) (fun nm => sim_ite (e := 1) [46] (s_dot F hA nm) (s_name F hA 0 nm)) (fun h => by cases h) (fun nm => cut_ite [46] (s_dot F hA nm) (c_dot F hA cA nm) (c_name F hA cA 0 nm)))
/-- Both ways of it say the same, where the second one answers. -/
theorem named_two (F : FI) (A : PS → PR (List Nd)) (s : PS) : (∃ a s', namedP F A s = .ok a s') ∨ isK 0 s = true → named2 F A s = namedP F A s ∨ (named2 F A s = .bad ∧ ∃ l c, namedP F A s = .err 7 l c) := fun h => by
  cases hk : isK 0 s with
  | false => rcases h with ⟨a, s', h⟩ | h
             · rw [namedP, hk, if_neg (by decide)] at h; cases h
             · rw [hk] at h; cases h
  | true =>
    obtain ⟨ws, l, c, n⟩ := s
    cases ws with
    | nil => cases hk
    | cons x r =>
      rw [namedP, if_pos hk, named2]
      unfold nodeP
      by_cases hn : 128 ≤ n
      · rw [if_pos hn]; exact .inl rfl
      · rw [if_neg hn]
        have hk2 : isK 0 ⟨x :: r, l, c, n + 1⟩ = true := hk
        show (((mustN ⟨x :: r, l, c, n + 1⟩).bind fun nm s => if isM [46] s then dotP F A nm s else nameP F A 0 nm s) = (if isM [46] (takeP ⟨x :: r, l, c, n + 1⟩) then (placeP F.imports ⟨x :: r, l, c, n + 1⟩).bind fun i s => (mustM [46] s).bind fun _ s => (mustN s).bind fun nm s => nameP F A (1 + i) nm s else nameP F A 0 (headT ⟨x :: r, l, c, n + 1⟩) (takeP ⟨x :: r, l, c, n + 1⟩))) ∨ _
        rw [mustN, if_pos hk2]
        show ((if isM [46] (takeP ⟨x :: r, l, c, n + 1⟩) then dotP F A (headT ⟨x :: r, l, c, n + 1⟩) (takeP ⟨x :: r, l, c, n + 1⟩) else nameP F A 0 (headT ⟨x :: r, l, c, n + 1⟩) (takeP ⟨x :: r, l, c, n + 1⟩)) = _) ∨ _
        cases hd : isM [46] (takeP ⟨x :: r, l, c, n + 1⟩) with
        | false => exact .inl rfl
        | true =>
          simp only [if_true]
          rw [dotP, placeP, if_pos hk2]
          cases hi : idx F.imports (headT ⟨x :: r, l, c, n + 1⟩) with
          | none =>
            refine .inr ⟨?_, (place ⟨x :: r, l, c, n + 1⟩).1, (place ⟨x :: r, l, c, n + 1⟩).2, ?_⟩
            · show ((mustN ⟨x :: r, l, c, n + 1⟩).bind fun nm s => if isM [46] s then dotP F A nm s else nameP F A 0 nm s) = PR.bad
              rw [mustN, if_pos hk2]
              show (if isM [46] (takeP ⟨x :: r, l, c, n + 1⟩) then dotP F A (headT ⟨x :: r, l, c, n + 1⟩) (takeP ⟨x :: r, l, c, n + 1⟩) else _) = _
              rw [hd, if_pos rfl, dotP, hi]
            · show (if isM [46] (takeP ⟨x :: r, l, c, n + 1⟩) = true then (placeP F.imports ⟨x :: r, l, c, n + 1⟩).bind _ else _) = _
              rw [if_pos hd, placeP, if_pos hk2, hi]
              rfl
          | some i => exact .inl rfl
theorem named_ok (F : FI) (A : PS → PR (List Nd)) (s : PS) (a : List Nd) (s' : PS) (h : namedP F A s = .ok a s') : named2 F A s = .ok a s' := by
  rcases named_two F A s (.inl ⟨a, s', h⟩) with e | ⟨_, _, _, e⟩
  · rw [e, h]
  · rw [e] at h; cases h
theorem named_back (F : FI) (A : PS → PR (List Nd)) (s : PS) : named2 F A s = namedP F A s ∨ named2 F A s = .bad ∨ ∃ l c, named2 F A s = .err 11 l c ∨ named2 F A s = .err 3 l c := by
  cases hk : isK 0 s with
  | true => rcases named_two F A s (.inr hk) with e | e
            · exact .inl e
            · exact .inr (.inl e.1)
  | false =>
    refine .inr (.inr ⟨(place s).1, (place s).2, ?_⟩)
    obtain ⟨ws, l, c, n⟩ := s
    rw [named2, nodeP]
    split
    · exact .inr rfl
    · refine .inl ?_
      show ((mustN ⟨ws, l, c, n + 1⟩).bind _) = _
      rw [mustN, if_neg (by rw [show isK 0 ⟨ws, l, c, n + 1⟩ = isK 0 ⟨ws, l, c, n⟩ from rfl, hk]; decide)]
      rfl
theorem s_named {D : Bool} {A A' : PS → PR (List Nd)} (F : FI) (hA : Sim D 1 A A') : Sim D 3 (namedP F A) (namedP F A') := fun s a s' hs => by
  obtain ⟨pre, h1, h2, h3⟩ := s_named2 F hA s a s' (named_ok F A s a s' hs)
  refine ⟨pre, h1, h2, fun pre' t l c hal hr => ?_⟩
  have h := h3 pre' t l c hal hr
  rcases named_back F A' ⟨pre' ++ t, l, c, s.n⟩ with e | e | ⟨l1, c1, e | e⟩
  · rwa [e] at h
  · rw [e] at h; rcases h with ⟨_, _, h⟩ | ⟨_, _, _, h⟩ <;> cases h
  · rw [e] at h; rcases h with ⟨_, _, h⟩ | ⟨_, _, _, h⟩ <;> cases h
  · rw [e] at h; rcases h with ⟨_, _, h⟩ | ⟨_, _, _, h⟩ <;> cases h
theorem c_named {A : PS → PR (List Nd)} (F : FI) (hA : Sim false 1 A A) (cA : Cut A) : Cut (namedP F A) := fun s a s' hs pre hp hn x l c hx => by
  have h := c_named2 F hA cA s a s' (named_ok F A s a s' hs) pre hp hn x l c hx
  obtain ⟨p1, e1, e2, _⟩ := s_named F hA s a s' hs
  obtain rfl : pre = p1 := List.append_cancel_right (hp.symm.trans e1)
  have hk : isK 0 s = true := by
    cases hk : isK 0 s with
    | true => rfl
    | false => rw [namedP, hk, if_neg (by decide)] at hs; cases hs
  have hk2 : isK 0 ⟨pre.dropLast ++ [x], l, c, s.n⟩ = true := by
    rw [← hk]
    obtain ⟨ws, l0, c0, n0⟩ := s
    simp only at hp
    subst hp
    cases pre with
    | nil => simp at e2
    | cons y q => cases q with
      | nil => simp at e2
      | cons z q => rfl
  rcases named_two F A _ (.inr hk2) with e | ⟨e, _⟩
  · rw [← e]; exact h
  · rw [e] at h; cases h
theorem s_comma (D : Bool) (kids : Nat) : Sim D 0 (fun s => if 0 < kids then mustM [44] s else .ok () s) (fun s => if 0 < kids then mustM [44] s else .ok () s) := by
  by_cases h : 0 < kids
  · simp only [if_pos h]; exact (s_mustM D [44]).weak (by omega)
  · simp only [if_neg h]; exact sim_pure D ()
theorem s_close (D : Bool) (kids : Nat) (all : List Nd) : Sim D 1 (fun s => (mustM [41] s).bind fun _ s => .ok (kids, all) s) (fun s => (mustM [41] s).bind fun _ s => .ok (kids, all) s) := sim_bind (e1 := 1) (e2 := 0) (s_mustM D [41]) (fun _ => sim_pure D _)
theorem s_tupL {D : Bool} {W W' : PS → PR (List Nd)} (hW : Sim D 1 W W') : ∀ (g kids : Nat) (all : List Nd), Sim D 1 (tupL W g kids all) (tupL W' g kids all)
  | 0, kids, all => sim_ite (e := 0) [41] (s_close D kids all) (sim_bind (e1 := 0) (e2 := 1) (s_comma D kids) (fun _ => sim_fail D 1 3 _))
  | g + 1, kids, all => sim_ite (e := 0) [41] (s_close D kids all) ((sim_bind (e1 := 0) (e2 := 2) (s_comma D kids) (fun _ => sim_bind (e1 := 1) (e2 := 1) hW (fun b => s_tupL hW g (kids + 1) (all ++ b)))).weak (by omega))
theorem s_tuple {D : Bool} {W W' : PS → PR (List Nd)} (F : FI) (hW : Sim D 1 W W') : Sim D 4 (tupleP F W) (tupleP F W') :=
  sim_bind (e1 := 0) (e2 := 4) (s_nodeP D) (fun _ => sim_bind (e1 := 1) (e2 := 3) (s_mustM D [40]) (fun _ => sim_bind (e1 := 1) (e2 := 2) (s_tupL hW 8 0 []) (fun r => sim_bind (e1 := 1) (e2 := 1) (s_mustM D [64]) (fun _ => sim_bind (e1 := 1) (e2 := 0) (s_label D F) (fun l => sim_pure D _)))))
theorem c_tuple {W : PS → PR (List Nd)} (F : FI) (hW : Sim false 1 W W) : Cut (tupleP F W) := by
  have s5 : ∀ (r : Nat × List Nd), Sim false 1 (fun s => (labelP F s).bind fun l s => PR.ok ((⟨3, 0, ⟨#[]⟩, r.1, l, t0, t0⟩ : Nd) :: r.2) s) _ := fun r => sim_bind (e1 := 1) (e2 := 0) (s_label false F) (fun l => sim_pure false _)
  have s4 : ∀ (r : Nat × List Nd), Sim false 2 (fun s => (mustM [64] s).bind fun _ s => (labelP F s).bind fun l s => PR.ok ((⟨3, 0, ⟨#[]⟩, r.1, l, t0, t0⟩ : Nd) :: r.2) s) _ := fun r => sim_bind (e1 := 1) (e2 := 1) (s_mustM false [64]) (fun _ => s5 r)
  have s3 := sim_bind (e1 := 1) (e2 := 2) (s_tupL hW 8 0 []) s4
  have s2 := sim_bind (e1 := 1) (e2 := 3) (s_mustM false [40]) (fun _ => s3)
  refine cut_bind (e1 := 0) (e2 := 4) (s_nodeP false) (fun _ => s2) (fun h => by cases h) (fun _ => ?_)
  refine cut_bind (e1 := 1) (e2 := 3) (s_mustM false [40]) (fun _ => s3) (fun h => by cases h) (fun _ => ?_)
  refine cut_bind (e1 := 1) (e2 := 2) (s_tupL hW 8 0 []) s4 (fun h => by cases h) (fun r => ?_)
  refine cut_bind (e1 := 1) (e2 := 1) (s_mustM false [64]) (fun _ => s5 r) (fun h => by cases h) (fun _ => ?_)
  exact cut_bind (e1 := 1) (e2 := 0) (s_label false F) (fun l => sim_pure false _) (fun _ => c_label F) (fun _ => cut_pure _)
theorem s_held {D : Bool} {W W' : PS → PR (List Nd)} (hW : Sim D 1 W W') : Sim D 3 (heldP W) (heldP W') :=
  sim_bind (e1 := 1) (e2 := 2) (s_mustM D [123]) (fun _ => sim_bind (e1 := 1) (e2 := 1) hW (fun a => sim_bind (e1 := 1) (e2 := 0) (s_mustM D [125]) (fun _ => sim_pure D _)))
theorem c_held {W : PS → PR (List Nd)} (hW : Sim false 1 W W) : Cut (heldP W) := by
  have s3 : ∀ a : List Nd, Sim false 1 (fun s => (mustM [125] s).bind fun _ s => PR.ok a s) _ := fun a => sim_bind (e1 := 1) (e2 := 0) (s_mustM false [125]) (fun _ => sim_pure false _)
  refine cut_bind (e1 := 1) (e2 := 2) (s_mustM false [123]) (fun _ => sim_bind (e1 := 1) (e2 := 1) hW s3) (fun h => by cases h) (fun _ => ?_)
  refine cut_bind (e1 := 1) (e2 := 1) hW s3 (fun h => by cases h) (fun a => ?_)
  exact cut_bind (e1 := 1) (e2 := 0) (s_mustM false [125]) (fun _ => sim_pure false _) (fun _ => cut_head (head_mustM _)) (fun _ => cut_pure _)
theorem s_atom {D : Bool} {W W' A A' : PS → PR (List Nd)} (F : FI) (hW : Sim D 1 W W') (hA : Sim D 1 A A') : Sim D 3 (atomF F W A) (atomF F W' A') :=
  sim_ite (e := 2) [123] (s_held hW) (sim_ite (e := 2) [40] ((s_tuple F hW).weak (by omega)) (s_named F hA))
theorem c_atom {W A : PS → PR (List Nd)} (F : FI) (hW : Sim false 1 W W) (hA : Sim false 1 A A) (cA : Cut A) : Cut (atomF F W A) :=
  cut_ite [123] ((s_held hW).weak (by omega)) (c_held hW) (cut_ite [40] ((s_tuple F hW).weak (by omega)) (c_tuple F hW) (c_named F hA cA))
theorem s_fun {D : Bool} {W W' : PS → PR (List Nd)} (F : FI) (hW : Sim D 1 W W') (a : List Nd) : Sim D 2 (funP F W a) (funP F W' a) :=
  (sim_bind (e1 := 0) (e2 := 10) (s_nodeP D) (fun _ => sim_bind (e1 := 2) (e2 := 8) (s_marks2 D [45] [91]) (fun _ => sim_bind (e1 := 1) (e2 := 7) (s_label D F) (fun l => sim_bind (e1 := 1) (e2 := 6) (s_mustM D [44]) (fun _ => sim_bind (e1 := 1) (e2 := 5) (s_label D F) (fun p =>
    sim_bind (e1 := 1) (e2 := 4) (s_mustM D [44]) (fun _ => sim_bind (e1 := 1) (e2 := 3) (s_effect D F) (fun e => sim_bind (e1 := 2) (e2 := 1) (s_marks2 D [93] [62]) (fun _ => sim_bind (e1 := 1) (e2 := 0) hW (fun b => sim_pure D _)))))))))).weak (by omega)
theorem c_fun {W : PS → PR (List Nd)} (F : FI) (hW : Sim false 1 W W) (cW : Cut W) (a : List Nd) : Cut (funP F W a) := by
  have t9 : ∀ l p e, Sim false 1 (fun s => (W s).bind fun b s => PR.ok ((⟨5, 0, ⟨#[]⟩, 2, l, p, e⟩ : Nd) :: (a ++ b)) s) _ := fun l p e => sim_bind (e1 := 1) (e2 := 0) hW (fun b => sim_pure false _)
  have t8 := fun l p e => sim_bind (e1 := 2) (e2 := 1) (s_marks2 false [93] [62]) (fun _ => t9 l p e)
  have t7 := fun l p => sim_bind (e1 := 1) (e2 := 3) (s_effect false F) (fun e => t8 l p e)
  have t6 := fun l p => sim_bind (e1 := 1) (e2 := 4) (s_mustM false [44]) (fun _ => t7 l p)
  have t5 := fun l => sim_bind (e1 := 1) (e2 := 5) (s_label false F) (fun p => t6 l p)
  have t4 := fun l => sim_bind (e1 := 1) (e2 := 6) (s_mustM false [44]) (fun _ => t5 l)
  have t3 := sim_bind (e1 := 1) (e2 := 7) (s_label false F) (fun l => t4 l)
  have t2 := sim_bind (e1 := 2) (e2 := 8) (s_marks2 false [45] [91]) (fun _ => t3)
  refine cut_bind (e1 := 0) (e2 := 10) (s_nodeP false) (fun _ => t2) (fun h => by cases h) (fun _ => ?_)
  refine cut_bind (e1 := 2) (e2 := 8) (s_marks2 false [45] [91]) (fun _ => t3) (fun h => by cases h) (fun _ => ?_)
  refine cut_bind (e1 := 1) (e2 := 7) (s_label false F) t4 (fun h => by cases h) (fun l => ?_)
  refine cut_bind (e1 := 1) (e2 := 6) (s_mustM false [44]) (fun _ => t5 l) (fun h => by cases h) (fun _ => ?_)
  refine cut_bind (e1 := 1) (e2 := 5) (s_label false F) (t6 l) (fun h => by cases h) (fun p => ?_)
  refine cut_bind (e1 := 1) (e2 := 4) (s_mustM false [44]) (fun _ => t7 l p) (fun h => by cases h) (fun _ => ?_)
  refine cut_bind (e1 := 1) (e2 := 3) (s_effect false F) (t8 l p) (fun h => by cases h) (fun e => ?_)
  refine cut_bind (e1 := 2) (e2 := 1) (s_marks2 false [93] [62]) (fun _ => t9 l p e) (fun h => by cases h) (fun _ => ?_)
  exact cut_bind (e1 := 1) (e2 := 0) hW (fun b => sim_pure false _) (fun _ => cW) (fun _ => cut_pure _)
theorem s_whole {D : Bool} {W W' A A' : PS → PR (List Nd)} (F : FI) (hW : Sim D 1 W W') (hA : Sim D 1 A A') : Sim D 3 (wholeF F W A) (wholeF F W' A') :=
  sim_bind (e1 := 3) (e2 := 0) (s_atom F hW hA) (fun a => sim_dash (e := 1) a (s_fun F hW a))
theorem c_whole {W A : PS → PR (List Nd)} (F : FI) (hW : Sim false 1 W W) (cW : Cut W) (hA : Sim false 1 A A) (cA : Cut A) : Cut (wholeF F W A) :=
  cut_bind (e1 := 3) (e2 := 0) (s_atom F hW hA) (fun a => sim_dash (e := 1) a (s_fun F hW a)) (fun _ => c_atom F hW hA cA) (fun a => cut_dash a (s_fun F hW a) (c_fun F hW cW a))
theorem PG_sim (F : FI) : ∀ g, Sim false 1 (PG F g).1 (PG F g).1 ∧ Sim false 1 (PG F g).2 (PG F g).2 ∧ Cut (PG F g).1 ∧ Cut (PG F g).2
  | 0 => ⟨sim_fail _ _ _ _, sim_fail _ _ _ _, cut_fail _, cut_fail _⟩
  | g + 1 => by
    obtain ⟨h1, h2, h3, h4⟩ := PG_sim F g
    exact ⟨(s_whole F h1 h2).weak (by omega), (s_atom F h1 h2).weak (by omega), c_whole F h1 h3 h2 h4, c_atom F h1 h2 h4⟩
/-- Nested deeper it is the same, or too deep. -/
theorem PG_deep (F : FI) : ∀ g g', g' ≤ g → Sim true 1 (PG F g).1 (PG F g').1 ∧ Sim true 1 (PG F g).2 (PG F g').2
  | g, 0, _ => by
    have key : ∀ p : PS → PR (List Nd), Sim false 1 p p → Sim true 1 p (failsP 12) := fun p h s a s' hs => by
      obtain ⟨pre, h1, h2, _⟩ := h s a s' hs
      exact ⟨pre, h1, h2, fun pre' t l c _ _ => .inr ⟨rfl, _, _, rfl⟩⟩
    exact ⟨key _ (PG_sim F g).1, key _ (PG_sim F g).2.1⟩
  | 0, g' + 1, h => by omega
  | g + 1, g' + 1, h => by
    obtain ⟨h1, h2⟩ := PG_deep F g g' (by omega)
    exact ⟨(s_whole F h1 h2).weak (by omega), (s_atom F h1 h2).weak (by omega)⟩
/-! ### Numbers. -/
def NG (l : List Wrd) : Prop := ∀ x ∈ l, x.f0 = 1 → numV x.f1 ≠ none
def NB {α : Type} (p : PS → PR α) : Prop := ∀ s, NG s.ws → p s ≠ .bad
theorem nb_bind {α β : Type} {e : Nat} {p : PS → PR α} {f : α → PS → PR β} (h : Sim false e p p) (hp : NB p) (hf : ∀ a, NB (f a)) : NB (fun s => (p s).bind f) := fun s hs hb => by
  cases hq : p s with
  | bad => exact hp s hs hq
  | err e l c => simp only [hq] at hb; cases hb
  | ok a s1 =>
    simp only [hq] at hb
    obtain ⟨pre, h1, _, _⟩ := h s a s1 hq
    exact hf a s1 (fun x hx => hs x (by rw [h1]; exact List.mem_append_right _ hx)) hb
theorem nb_ite {α : Type} (m : List B) {p p2 : PS → PR α} (h : NB p) (h2 : NB p2) : NB (fun s => if isM m s then p s else p2 s) := fun s hs => by
  simp only
  split
  · exact h s hs
  · exact h2 s hs
theorem nb_pure {α : Type} (a : α) : NB (fun s => .ok a s) := fun s _ h => by cases h
theorem nb_fail {α : Type} (k : Int) : NB (failsP (α := α) k) := fun s _ h => by cases h
theorem nb_mustM (m : List B) : NB (mustM m) := fun s _ h => by unfold mustM at h; split at h <;> cases h
theorem nb_mustN : NB mustN := fun s _ h => by unfold mustN at h; split at h <;> cases h
theorem nb_placeP (L : List ByteArray) : NB (placeP L) := fun s _ h => by
  unfold placeP at h
  split at h
  · split at h <;> cases h
  · cases h
theorem nb_numP : NB numP := fun s hs h => by
  obtain ⟨ws, l, c, n⟩ := s
  unfold numP at h
  cases ws with
  | nil => cases h
  | cons x r =>
    split at h
    · rename_i hk
      split at h
      · cases h
      · rename_i hv
        exact hs x List.mem_cons_self (by simpa [isK] using hk) hv
    · cases h
theorem nb_variable : NB variableP := nb_bind (s_mustM _ [37]) (nb_mustM _) (fun _ => nb_numP)
theorem nb_label (F : FI) : NB (labelP F) := nb_ite [37] nb_variable (nb_bind (s_placeP _ _) (nb_placeP _) (fun _ => nb_pure _))
theorem effW_nb (F : List ByteArray) : ∀ (ws : List Wrd) (last : Int) (N : Nat) (l c : Int) (n : Nat), effW F ws last N l c n ≠ .bad
  | [], _, _, _, _, _ => by simp [effW]
  | x :: r, last, N, l, c, n => by
    rw [effW]
    split
    · simp
    · split
      · split
        · simp
        · split
          · simp
          · exact effW_nb F r _ _ _ _ _
      · simp
theorem nb_effect (F : FI) : NB (effectP F) := nb_ite [37] nb_variable (nb_bind (s_mustM _ _) (nb_mustM _) (fun _ => nb_bind (s_effL _ _ _ _) (fun s _ => effW_nb _ _ _ _ _ _ _) (fun _ => nb_pure _)))
theorem nb_nodeP : NB nodeP := fun s _ h => by unfold nodeP at h; split at h <;> cases h
theorem nb_marks2 (a b : List B) : NB (marksP [a, b]) := nb_bind (s_mustM _ a) (nb_mustM a) (fun _ => nb_bind (s_mustM _ b) (nb_mustM b) (fun _ => nb_pure ()))
theorem nb_nameE {A : PS → PR (List Nd)} (hA : Sim false 1 A A) (nA : NB A) (m : Nat) (nm : ByteArray) (l : Tm) : NB (nameE A m nm l) := fun s hs => by
  unfold nameE
  split
  · simp
  · split
    · simp
    · split
      · exact nb_bind hA nA (fun _ => nb_pure _) s hs
      · simp
theorem nb_name {A : PS → PR (List Nd)} (F : FI) (hA : Sim false 1 A A) (nA : NB A) (m : Nat) (nm : ByteArray) : NB (nameP F A m nm) := nb_bind (s_mustM _ _) (nb_mustM _) (fun _ => nb_bind (s_label _ F) (nb_label F) (fun l => nb_nameE hA nA m nm l))
theorem NG_take {s : PS} (h : NG s.ws) : NG (takeP s).ws := by
  obtain ⟨ws, l, c, n⟩ := s
  cases ws with
  | nil => exact h
  | cons x r => exact fun y hy => h y (List.mem_cons_of_mem _ hy)
theorem nb_named {A : PS → PR (List Nd)} (F : FI) (hA : Sim false 1 A A) (nA : NB A) : NB (namedP F A) := fun s hs => by
  unfold namedP
  split
  · refine nb_bind (s_nodeP _) nb_nodeP (fun _ => ?_) s hs
    intro s hs
    simp only
    split
    · exact nb_bind (s_placeP _ _) (nb_placeP _) (fun i => nb_bind (s_mustM _ _) (nb_mustM _) (fun _ => nb_bind (s_mustN _) nb_mustN (fun nm => nb_name F hA nA (1 + i) nm))) s hs
    · exact nb_name F hA nA 0 (headT s) (takeP s) (NG_take hs)
  · simp [failsP]
theorem nb_comma (kids : Nat) : NB (fun s => if 0 < kids then mustM [44] s else .ok () s) := fun s hs => by
  simp only
  split
  · exact nb_mustM _ s hs
  · simp
theorem nb_close (kids : Nat) (all : List Nd) : NB (fun s => (mustM [41] s).bind fun _ s => .ok (kids, all) s) := nb_bind (s_mustM _ [41]) (nb_mustM _) (fun _ => nb_pure _)
theorem nb_tupL {W : PS → PR (List Nd)} (hW : Sim false 1 W W) (nW : NB W) : ∀ (g kids : Nat) (all : List Nd), NB (tupL W g kids all)
  | 0, kids, all => nb_ite [41] (nb_close kids all) (nb_bind (s_comma _ kids) (nb_comma kids) (fun _ => nb_fail 3))
  | g + 1, kids, all => nb_ite [41] (nb_close kids all) (nb_bind (s_comma _ kids) (nb_comma kids) (fun _ => nb_bind hW nW (fun b => nb_tupL hW nW g (kids + 1) (all ++ b))))
theorem nb_tuple {W : PS → PR (List Nd)} (F : FI) (hW : Sim false 1 W W) (nW : NB W) : NB (tupleP F W) :=
  nb_bind (s_nodeP _) nb_nodeP (fun _ => nb_bind (s_mustM _ _) (nb_mustM _) (fun _ => nb_bind (s_tupL hW 8 0 []) (nb_tupL hW nW 8 0 []) (fun r => nb_bind (s_mustM _ _) (nb_mustM _) (fun _ => nb_bind (s_label _ F) (nb_label F) (fun l => nb_pure _)))))
theorem nb_held {W : PS → PR (List Nd)} (hW : Sim false 1 W W) (nW : NB W) : NB (heldP W) := nb_bind (s_mustM _ _) (nb_mustM _) (fun _ => nb_bind hW nW (fun a => nb_bind (s_mustM _ _) (nb_mustM _) (fun _ => nb_pure _)))
theorem nb_atom {W A : PS → PR (List Nd)} (F : FI) (hW : Sim false 1 W W) (nW : NB W) (hA : Sim false 1 A A) (nA : NB A) : NB (atomF F W A) := nb_ite [123] (nb_held hW nW) (nb_ite [40] (nb_tuple F hW nW) (nb_named F hA nA))
theorem nb_fun {W : PS → PR (List Nd)} (F : FI) (hW : Sim false 1 W W) (nW : NB W) (a : List Nd) : NB (funP F W a) :=
  nb_bind (s_nodeP _) nb_nodeP (fun _ => nb_bind (s_marks2 _ _ _) (nb_marks2 _ _) (fun _ => nb_bind (s_label _ F) (nb_label F) (fun l => nb_bind (s_mustM _ _) (nb_mustM _) (fun _ => nb_bind (s_label _ F) (nb_label F) (fun p =>
    nb_bind (s_mustM _ _) (nb_mustM _) (fun _ => nb_bind (s_effect _ F) (nb_effect F) (fun e => nb_bind (s_marks2 _ _ _) (nb_marks2 _ _) (fun _ => nb_bind hW nW (fun b => nb_pure _)))))))))
theorem nb_whole {W A : PS → PR (List Nd)} (F : FI) (hW : Sim false 1 W W) (nW : NB W) (hA : Sim false 1 A A) (nA : NB A) : NB (wholeF F W A) := nb_bind (s_atom F hW hA) (nb_atom F hW nW hA nA) (fun a => nb_ite [45] (nb_fun F hW nW a) (nb_pure a))
theorem PG_nb (F : FI) : ∀ g, NB (PG F g).1 ∧ NB (PG F g).2
  | 0 => ⟨nb_fail _, nb_fail _⟩
  | g + 1 => by
    obtain ⟨h1, h2⟩ := PG_nb F g
    obtain ⟨s1, s2, _, _⟩ := PG_sim F g
    exact ⟨nb_whole F s1 h1 s2 h2, nb_atom F s1 h1 s2 h2⟩
end Tr
end Go.Proofs.YtdecijmncpbheaaGreatDoor

namespace Go.Proofs.YtdecijmncpbheaaGreatDoor
open Go.RowKit Go.Proofs.YtdecijmncpbheaaGreatDoorW.PrintWords Go.Proofs.YtdecijmncpbheaaGreatDoorW.PrintLast Go.Proofs.YtdecijmncpbheaaGreatDoorW.PrintMore
set_option linter.unusedVariables false
set_option linter.unusedSimpArgs false
namespace Tr
def Okay (s : PS) : Prop := (∀ x ∈ s.ws, x.f1.size ≤ 281474976710656) ∧ s.n ≤ 128
/-- A part leaves things in bounds; R: of its answer and of how many nodes it has counted. -/
def KR {α : Type} (R : α → Nat → Prop) (p : PS → PR α) : Prop := ∀ s a s', p s = .ok a s' → Okay s → Okay s' ∧ ∃ m, s'.n = s.n + m ∧ R a m
def Z {α : Type} (_ : α) (m : Nat) : Prop := m = 0
def LN (l : List Nd) (m : Nat) : Prop := m = l.length ∧ 1 ≤ l.length
theorem Okay.take {s : PS} (h : Okay s) : Okay (takeP s) ∧ (takeP s).n = s.n := by
  obtain ⟨ws, l, c, n⟩ := s
  cases ws with
  | nil => exact ⟨h, rfl⟩
  | cons x r => exact ⟨⟨fun y hy => h.1 y (List.mem_cons_of_mem _ hy), h.2⟩, rfl⟩
theorem kr_bind {α β : Type} {R : α → Nat → Prop} {R' : β → Nat → Prop} {p : PS → PR α} {f : α → PS → PR β} (hp : KR R p) (hk : ∀ a m, R a m → KR (fun b m' => R' b (m + m')) (f a)) : KR R' (fun s => (p s).bind f) := fun s b s' hs ho => by
  cases hq : p s with
  | bad => simp only [hq] at hs; cases hs
  | err e l c => simp only [hq] at hs; cases hs
  | ok a s1 =>
    simp only [hq] at hs
    obtain ⟨o1, m, e1, r1⟩ := hp s a s1 hq ho
    obtain ⟨o2, m', e2, r2⟩ := hk a m r1 s1 b s' hs o1
    exact ⟨o2, m + m', by omega, r2⟩
theorem kr_bind0 {α β : Type} {R' : β → Nat → Prop} {p : PS → PR α} {f : α → PS → PR β} (hp : KR Z p) (hk : ∀ a, KR R' (f a)) : KR R' (fun s => (p s).bind f) := kr_bind hp (fun a m hm => by
  obtain rfl : m = 0 := hm
  intro s b s' hs ho
  obtain ⟨h1, m, h2, h3⟩ := hk a s b s' hs ho
  exact ⟨h1, m, h2, by show R' b (0 + m); rw [Nat.zero_add]; exact h3⟩)
theorem kr_ite {α : Type} {R : α → Nat → Prop} (m : List B) {p q : PS → PR α} (hp : KR R p) (hq : KR R q) : KR R (fun s => if isM m s then p s else q s) := fun s a s' hs ho => by
  simp only at hs
  split at hs
  · exact hp s a s' hs ho
  · exact hq s a s' hs ho
theorem kr_pure {α : Type} {R : α → Nat → Prop} (a : α) (h : R a 0) : KR R (fun s => .ok a s) := fun s b s' hs ho => by
  injection hs with h1 h2
  subst h1 h2
  exact ⟨ho, 0, rfl, h⟩
theorem kr_fail {α : Type} {R : α → Nat → Prop} (k : Int) : KR R (failsP (α := α) k) := fun s a s' hs => by cases hs
theorem kr_head {α : Type} {p : PS → PR α} {f : Int → ByteArray → Option α} (h : Head p f) : KR Z p := fun s a s' hs ho => by
  obtain ⟨x, r, _, _, rfl⟩ := h.back s a s' hs
  exact ⟨ho.take.1, 0, ho.take.2, rfl⟩
theorem kr_mustM (m : List B) : KR Z (mustM m) := kr_head (head_mustM m)
theorem kr_mustN : KR Z mustN := kr_head head_mustN
theorem kr_placeP (L : List ByteArray) : KR Z (placeP L) := kr_head (head_placeP L)
theorem kr_variable : KR Z variableP := kr_bind0 (kr_mustM _) (fun _ => kr_head head_numP)
theorem kr_label (F : FI) : KR Z (labelP F) := kr_ite [37] kr_variable (kr_bind0 (kr_placeP _) (fun _ => kr_pure _ rfl))
theorem effW_keep (F : List ByteArray) : ∀ (ws : List Wrd) (last : Int) (N : Nat) (l c : Int) (n a : Nat) (s' : PS), effW F ws last N l c n = .ok a s' → (∀ x ∈ s'.ws, x ∈ ws) ∧ s'.n = n
  | [], last, N, l, c, n, a, s', h => by simp [effW] at h
  | x :: r, last, N, l, c, n, a, s', h => by
    rw [effW] at h
    split at h
    · injection h with h1 h2
      subst h2
      exact ⟨fun y hy => List.mem_cons_of_mem _ hy, rfl⟩
    · split at h
      · split at h
        · cases h
        · split at h
          · cases h
          · obtain ⟨h1, h2⟩ := effW_keep F r _ _ _ _ n a s' h
            exact ⟨fun y hy => List.mem_cons_of_mem _ (h1 y hy), h2⟩
      · cases h
theorem kr_effL (F : List ByteArray) (last : Int) (N : Nat) : KR Z (effL F last N) := fun s a s' hs ho => by
  obtain ⟨h1, h2⟩ := effW_keep F _ _ _ _ _ _ _ _ hs
  exact ⟨⟨fun x hx => ho.1 x (h1 x hx), by rw [h2]; exact ho.2⟩, 0, h2, rfl⟩
theorem kr_effect (F : FI) : KR Z (effectP F) := kr_ite [37] kr_variable (kr_bind0 (kr_mustM _) (fun _ => kr_bind0 (kr_effL _ _ _) (fun _ => kr_pure _ rfl)))
theorem kr_marks2 (a b : List B) : KR Z (marksP [a, b]) := kr_bind0 (kr_mustM a) (fun _ => kr_bind0 (kr_mustM b) (fun _ => kr_pure () rfl))
theorem kr_nodeP : KR (fun _ m => m = 1) nodeP := fun s a s' hs ho => by
  unfold nodeP at hs
  split at hs
  · cases hs
  · injection hs with h1 h2
    subst h2
    exact ⟨⟨ho.1, by show s.n + 1 ≤ 128; omega⟩, 1, rfl, rfl⟩
theorem kr_node {β : Type} {R' : β → Nat → Prop} {f : Unit → PS → PR β} (hk : ∀ a, KR (fun b m' => R' b (1 + m')) (f a)) : KR R' (fun s => (nodeP s).bind f) := kr_bind kr_nodeP (fun a m hm => by obtain rfl : m = 1 := hm; exact hk a)
theorem kr_nameE {A : PS → PR (List Nd)} (hA : KR LN A) (m : Nat) (nm : ByteArray) (l : Tm) : KR (fun b m' => LN b (1 + m')) (nameE A m nm l) := by
  unfold nameE
  by_cases h1 : 0 < m
  · simp only [if_pos h1]; exact kr_pure _ ⟨rfl, Nat.le_refl _⟩
  · simp only [if_neg h1]
    cases h2 : isBase nm.data.toList with
    | true => simp only [if_true]; exact kr_pure _ ⟨rfl, Nat.le_refl _⟩
    | false =>
      simp only [Bool.false_eq_true, if_false]
      cases h3 : isRef nm.data.toList with
      | true =>
        simp only [if_true]
        exact kr_bind hA (fun a m hm => kr_pure _ ⟨by have := hm.1; simp only [List.length_cons]; omega, by simp⟩)
      | false => simp only [Bool.false_eq_true, if_false]; exact kr_pure _ ⟨rfl, Nat.le_refl _⟩
theorem kr_name {A : PS → PR (List Nd)} (F : FI) (hA : KR LN A) (m : Nat) (nm : ByteArray) : KR (fun b m' => LN b (1 + m')) (nameP F A m nm) := kr_bind0 (kr_mustM _) (fun _ => kr_bind0 (kr_label F) (fun l => kr_nameE hA m nm l))
theorem kr_named {A : PS → PR (List Nd)} (F : FI) (hA : KR LN A) : KR LN (namedP F A) := fun s a s' hs ho => by
  unfold namedP at hs
  split at hs
  · refine kr_node (f := fun _ s => if isM [46] (takeP s) then (placeP F.imports s).bind fun i s => (mustM [46] s).bind fun _ s => (mustN s).bind fun nm s => nameP F A (1 + i) nm s else nameP F A 0 (headT s) (takeP s)) (fun _ => ?_) s a s' hs ho
    intro s a s' hs ho
    simp only at hs
    split at hs
    · exact kr_bind0 (kr_placeP _) (fun i => kr_bind0 (kr_mustM _) (fun _ => kr_bind0 kr_mustN (fun nm => kr_name F hA (1 + i) nm))) s a s' hs ho
    · obtain ⟨h1, m, h2, h3⟩ := kr_name F hA 0 (headT s) (takeP s) a s' hs ho.take.1
      exact ⟨h1, m, by rw [h2, ho.take.2], h3⟩
  · cases hs
theorem kr_comma (kids : Nat) : KR Z (fun s => if 0 < kids then mustM [44] s else .ok () s) := by
  by_cases h : 0 < kids
  · simp only [if_pos h]; exact kr_mustM _
  · simp only [if_neg h]; exact kr_pure () rfl
theorem kr_close (kids : Nat) (all : List Nd) : KR (fun (r : Nat × List Nd) m => r.2.length = all.length + m) (fun s => (mustM [41] s).bind fun _ s => .ok (kids, all) s) := kr_bind0 (kr_mustM _) (fun _ => kr_pure _ rfl)
theorem kr_tupL {W : PS → PR (List Nd)} (hW : KR LN W) : ∀ (g kids : Nat) (all : List Nd), KR (fun (r : Nat × List Nd) m => r.2.length = all.length + m) (tupL W g kids all)
  | 0, kids, all => kr_ite [41] (kr_close kids all) (kr_bind0 (kr_comma kids) (fun _ => kr_fail 3))
  | g + 1, kids, all => kr_ite [41] (kr_close kids all) (kr_bind0 (kr_comma kids) (fun _ => kr_bind hW (fun b m hm s a s' hs ho => by
      obtain ⟨h1, m', h2, h3⟩ := kr_tupL hW g (kids + 1) (all ++ b) s a s' hs ho
      exact ⟨h1, m', h2, by show a.2.length = all.length + (m + m'); rw [h3, List.length_append, hm.1]; omega⟩)))
theorem kr_tuple {W : PS → PR (List Nd)} (F : FI) (hW : KR LN W) : KR LN (tupleP F W) :=
  kr_node (fun _ => kr_bind0 (kr_mustM _) (fun _ => kr_bind (kr_tupL hW 8 0 []) (fun r m hm => kr_bind0 (kr_mustM _) (fun _ => kr_bind0 (kr_label F) (fun l => kr_pure _ ⟨by simp only [List.length_cons]; rw [hm, List.length_nil]; omega, by simp⟩)))))
theorem kr_held {W : PS → PR (List Nd)} (hW : KR LN W) : KR LN (heldP W) := kr_bind0 (kr_mustM _) (fun _ => kr_bind hW (fun a m hm => kr_bind0 (kr_mustM _) (fun _ => kr_pure _ hm)))
theorem kr_atom {W A : PS → PR (List Nd)} (F : FI) (hW : KR LN W) (hA : KR LN A) : KR LN (atomF F W A) := kr_ite [123] (kr_held hW) (kr_ite [40] (kr_tuple F hW) (kr_named F hA))
theorem kr_fun {W : PS → PR (List Nd)} (F : FI) (hW : KR LN W) (a : List Nd) (ha : 1 ≤ a.length) : KR (fun b m => LN b (a.length + m)) (funP F W a) :=
  kr_node (fun _ => kr_bind0 (kr_marks2 _ _) (fun _ => kr_bind0 (kr_label F) (fun l => kr_bind0 (kr_mustM _) (fun _ => kr_bind0 (kr_label F) (fun p => kr_bind0 (kr_mustM _) (fun _ => kr_bind0 (kr_effect F) (fun e => kr_bind0 (kr_marks2 _ _) (fun _ =>
    kr_bind hW (fun b m hm => kr_pure _ ⟨by have := hm.1; simp only [List.length_cons, List.length_append]; omega, by simp⟩)))))))))
theorem kr_whole {W A : PS → PR (List Nd)} (F : FI) (hW : KR LN W) (hA : KR LN A) : KR LN (wholeF F W A) := kr_bind (kr_atom F hW hA) (fun a m hm => kr_ite [45] (by rw [hm.1]; exact kr_fun F hW a hm.2) (kr_pure a hm))
theorem PG_keep (F : FI) : ∀ g, KR LN (PG F g).1 ∧ KR LN (PG F g).2
  | 0 => ⟨kr_fail _, kr_fail _⟩
  | g + 1 => by
    obtain ⟨h1, h2⟩ := PG_keep F g
    exact ⟨kr_whole F h1 h2, kr_atom F h1 h2⟩
end Tr
end Go.Proofs.YtdecijmncpbheaaGreatDoor

namespace Go.Proofs.YtdecijmncpbheaaGreatDoor
open Go.RowKit Go.Proofs.YtdecijmncpbheaaGreatDoorW.PrintWords Go.Proofs.YtdecijmncpbheaaGreatDoorW.PrintLast Go.Proofs.YtdecijmncpbheaaGreatDoorW.PrintMore
set_option linter.unusedVariables false
set_option linter.unusedSimpArgs false
namespace Tr
def NE {α : Type} (p : PS → PR α) : Prop := ∀ s k l c, p s = .err k l c → k ≠ 0
theorem ne_bind {α β : Type} {p : PS → PR α} {f : α → PS → PR β} (hp : NE p) (hf : ∀ a, NE (f a)) : NE (fun s => (p s).bind f) := fun s k l c h => by
  cases hq : p s with
  | bad => simp only [hq] at h; cases h
  | err e l1 c1 =>
    simp only [hq] at h
    injection h with h1 h2 h3
    rw [← h1]
    exact hp s _ _ _ hq
  | ok a s1 =>
    simp only [hq] at h
    exact hf a s1 _ _ _ h
theorem ne_ite {α : Type} (m : List B) {p q : PS → PR α} (hp : NE p) (hq : NE q) : NE (fun s => if isM m s then p s else q s) := fun s k l c h => by
  simp only at h
  split at h
  · exact hp s _ _ _ h
  · exact hq s _ _ _ h
theorem ne_pure {α : Type} (a : α) : NE (fun s => .ok a s) := fun s k l c h => by cases h
theorem ne_fail {α : Type} (k : Int) (hk : k ≠ 0) : NE (failsP (α := α) k) := fun s k2 l c h => by
  injection h with h1
  rw [← h1]
  exact hk
theorem ne_mustM (m : List B) : NE (mustM m) := fun s k l c h => by
  unfold mustM at h
  split at h
  · cases h
  · exact ne_fail 11 (by decide) s _ _ _ h
theorem ne_mustN : NE mustN := fun s k l c h => by
  unfold mustN at h
  split at h
  · cases h
  · exact ne_fail 11 (by decide) s _ _ _ h
theorem ne_placeP (L : List ByteArray) : NE (placeP L) := fun s k l c h => by
  unfold placeP at h
  split at h
  · split at h
    · cases h
    · exact ne_fail 7 (by decide) s _ _ _ h
  · exact ne_fail 11 (by decide) s _ _ _ h
theorem ne_numP : NE numP := fun s k l c h => by
  unfold numP at h
  split at h
  · split at h <;> cases h
  · exact ne_fail 11 (by decide) s _ _ _ h
theorem ne_variable : NE variableP := ne_bind (ne_mustM _) (fun _ => ne_numP)
theorem ne_label (F : FI) : NE (labelP F) := ne_ite [37] ne_variable (ne_bind (ne_placeP _) (fun _ => ne_pure _))
theorem effW_ne (F : List ByteArray) : ∀ (ws : List Wrd) (last : Int) (N : Nat) (l c : Int) (n : Nat) (k l2 c2 : Int), effW F ws last N l c n = .err k l2 c2 → k ≠ 0
  | [], _, _, _, _, _, k, _, _, h => by
    rw [effW] at h
    injection h with h1
    rw [← h1]
    decide
  | x :: r, last, N, l, c, n, k, l2, c2, h => by
    rw [effW] at h
    split at h
    · cases h
    · split at h
      · split at h
        · injection h with h1; rw [← h1]; decide
        · split at h
          · injection h with h1; rw [← h1]; decide
          · exact effW_ne F r _ _ _ _ _ _ _ _ h
      · injection h with h1; rw [← h1]; decide
theorem ne_effect (F : FI) : NE (effectP F) := ne_ite [37] ne_variable (ne_bind (ne_mustM _) (fun _ => ne_bind (fun s k l c h => effW_ne _ _ _ _ _ _ _ _ _ _ h) (fun _ => ne_pure _)))
theorem ne_nodeP : NE nodeP := fun s k l c h => by
  unfold nodeP at h
  split at h
  · exact ne_fail 3 (by decide) s _ _ _ h
  · cases h
theorem ne_marks2 (a b : List B) : NE (marksP [a, b]) := ne_bind (ne_mustM a) (fun _ => ne_bind (ne_mustM b) (fun _ => ne_pure ()))
theorem ne_nameE {A : PS → PR (List Nd)} (nA : NE A) (m : Nat) (nm : ByteArray) (l : Tm) : NE (nameE A m nm l) := fun s k l2 c h => by
  unfold nameE at h
  split at h
  · cases h
  · split at h
    · cases h
    · split at h
      · exact ne_bind nA (fun _ => ne_pure _) s _ _ _ h
      · cases h
theorem ne_name {A : PS → PR (List Nd)} (F : FI) (nA : NE A) (m : Nat) (nm : ByteArray) : NE (nameP F A m nm) := ne_bind (ne_mustM _) (fun _ => ne_bind (ne_label F) (fun l => ne_nameE nA m nm l))
theorem ne_named {A : PS → PR (List Nd)} (F : FI) (nA : NE A) : NE (namedP F A) := fun s k l c h => by
  unfold namedP at h
  split at h
  · refine ne_bind (f := fun _ s => if isM [46] (takeP s) then (placeP F.imports s).bind fun i s => (mustM [46] s).bind fun _ s => (mustN s).bind fun nm s => nameP F A (1 + i) nm s else nameP F A 0 (headT s) (takeP s)) ne_nodeP (fun _ => ?_) s _ _ _ h
    intro s k l c h
    simp only at h
    split at h
    · exact ne_bind (ne_placeP _) (fun i => ne_bind (ne_mustM _) (fun _ => ne_bind ne_mustN (fun nm => ne_name F nA (1 + i) nm))) s _ _ _ h
    · exact ne_name F nA 0 (headT s) (takeP s) _ _ _ h
  · exact ne_fail 11 (by decide) s _ _ _ h
theorem ne_comma (kids : Nat) : NE (fun s => if 0 < kids then mustM [44] s else .ok () s) := fun s k l c h => by
  simp only at h
  split at h
  · exact ne_mustM _ s _ _ _ h
  · cases h
theorem ne_close (kids : Nat) (all : List Nd) : NE (fun s => (mustM [41] s).bind fun _ s => .ok (kids, all) s) := ne_bind (ne_mustM _) (fun _ => ne_pure _)
theorem ne_tupL {W : PS → PR (List Nd)} (nW : NE W) : ∀ (g kids : Nat) (all : List Nd), NE (tupL W g kids all)
  | 0, kids, all => ne_ite [41] (ne_close kids all) (ne_bind (ne_comma kids) (fun _ => ne_fail 3 (by decide)))
  | g + 1, kids, all => ne_ite [41] (ne_close kids all) (ne_bind (ne_comma kids) (fun _ => ne_bind nW (fun b => ne_tupL nW g (kids + 1) (all ++ b))))
theorem ne_tuple {W : PS → PR (List Nd)} (F : FI) (nW : NE W) : NE (tupleP F W) := ne_bind ne_nodeP (fun _ => ne_bind (ne_mustM _) (fun _ => ne_bind (ne_tupL nW 8 0 []) (fun r => ne_bind (ne_mustM _) (fun _ => ne_bind (ne_label F) (fun l => ne_pure _)))))
theorem ne_held {W : PS → PR (List Nd)} (nW : NE W) : NE (heldP W) := ne_bind (ne_mustM _) (fun _ => ne_bind nW (fun a => ne_bind (ne_mustM _) (fun _ => ne_pure _)))
theorem ne_atom {W A : PS → PR (List Nd)} (F : FI) (nW : NE W) (nA : NE A) : NE (atomF F W A) := ne_ite [123] (ne_held nW) (ne_ite [40] (ne_tuple F nW) (ne_named F nA))
theorem ne_fun {W : PS → PR (List Nd)} (F : FI) (nW : NE W) (a : List Nd) : NE (funP F W a) :=
  ne_bind ne_nodeP (fun _ => ne_bind (ne_marks2 _ _) (fun _ => ne_bind (ne_label F) (fun l => ne_bind (ne_mustM _) (fun _ => ne_bind (ne_label F) (fun p => ne_bind (ne_mustM _) (fun _ => ne_bind (ne_effect F) (fun e => ne_bind (ne_marks2 _ _) (fun _ => ne_bind nW (fun b => ne_pure _)))))))))
theorem ne_whole {W A : PS → PR (List Nd)} (F : FI) (nW : NE W) (nA : NE A) : NE (wholeF F W A) := ne_bind (ne_atom F nW nA) (fun a => ne_ite [45] (ne_fun F nW a) (ne_pure a))
theorem PG_ne (F : FI) : ∀ g, NE (PG F g).1 ∧ NE (PG F g).2
  | 0 => ⟨ne_fail 12 (by decide), ne_fail 12 (by decide)⟩
  | g + 1 => by
    obtain ⟨h1, h2⟩ := PG_ne F g
    exact ⟨ne_whole F h1 h2, ne_atom F h1 h2⟩
end Tr
end Go.Proofs.YtdecijmncpbheaaGreatDoor
