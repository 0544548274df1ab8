/- A type that is read is a tree of nodes that may be: TreesMay in plain words. -/
import Derived.Test.YtdecijmncpbheaaGreatDoorMTp
import Derived.Test.YtdecijmncpbheaaGreatDoorMTk
import Derived.Test.YtdecijmncpbheaaGreatDoorMA

namespace Go.Proofs.YtdecijmncpbheaaGreatDoor
open Go.RowKit Go.Proofs.YtdecijmncpbheaaGreatDoorW.PrintWords Go.Proofs.YtdecijmncpbheaaGreatDoorW.PrintLast Go.Proofs.YtdecijmncpbheaaGreatDoorW.PrintMore
set_option linter.unusedVariables false
set_option linter.unusedSimpArgs false
namespace Tr
open Wd (ofW wordV kt)
/-- Its names are such as may stand. -/
def NW (l : List Wrd) : Prop := ∀ x ∈ l, x.f0 = 0 → namedB x.f1 = true
/-- What a part answers. -/
def FT {α : Type} (R : α → Prop) (p : PS → PR α) : Prop := ∀ s a s', p s = .ok a s' → NW s.ws → NW s'.ws ∧ R a
def T1 {α : Type} (_ : α) : Prop := True
theorem NW.take {s : PS} (h : NW s.ws) : NW (takeP s).ws := by
  obtain ⟨ws, l, c, n⟩ := s
  cases ws with
  | nil => exact h
  | cons x r => exact fun y hy => h y (List.mem_cons_of_mem _ hy)
theorem ft_bind {α β : Type} {R : α → Prop} {R' : β → Prop} {p : PS → PR α} {f : α → PS → PR β} (hp : FT R p) (hk : ∀ a, R a → FT R' (f a)) : FT R' (fun s => (p s).bind f) := fun s b s' hs ho => by
  cases hq : p s with
  | bad => simp only [hq] at hs; cases hs
  | err e l c => simp only [hq] at hs; cases hs
  | ok a s1 =>
    simp only [hq] at hs
    obtain ⟨h1, h2⟩ := hp s a s1 hq ho
    exact hk a h2 s1 b s' hs h1
theorem ft_ite {α : Type} {R : α → Prop} (m : List B) {p q : PS → PR α} (hp : FT R p) (hq : FT R q) : FT R (fun s => if isM m s then p s else q s) := fun s a s' hs ho => by
  simp only at hs
  split at hs
  · exact hp s a s' hs ho
  · exact hq s a s' hs ho
theorem ft_pure {α : Type} {R : α → Prop} (a : α) (h : R a) : FT R (fun s => .ok a s) := fun s b s' hs ho => by
  injection hs with h1 h2
  subst h1 h2
  exact ⟨ho, h⟩
theorem ft_fail {α : Type} {R : α → Prop} (k : Int) : FT R (failsP (α := α) k) := fun s a s' hs => by cases hs
theorem ft_head {α : Type} {R : α → Prop} {p : PS → PR α} {f : Int → ByteArray → Option α} (h : Head p f) (hR : ∀ k t a, f k t = some a → (k = 0 → namedB t = true) → R a) : FT R p := fun s a s' hs ho => by
  obtain ⟨x, r, e, hf, rfl⟩ := h.back s a s' hs
  exact ⟨ho.take, hR _ _ _ hf (fun h0 => ho x (by rw [e]; exact List.mem_cons_self) h0)⟩
theorem ft_mustM (m : List B) : FT T1 (mustM m) := ft_head (head_mustM m) (fun _ _ _ _ _ => trivial)
theorem ft_mustN : FT (fun t => namedB t = true) mustN := ft_head head_mustN (fun k t a h hn => by
  split at h
  · rename_i hk
    injection h with h
    subst h
    exact hn (by simpa using hk)
  · cases h)
theorem idx_in {l : List ByteArray} {t : ByteArray} {i : Nat} (h : idx l t = some i) : i < l.length := by
  unfold idx at h
  exact (List.findIdx?_eq_some_iff_getElem.1 h).1
theorem ft_placeP (L : List ByteArray) : FT (fun i => i < L.length) (placeP L) := ft_head (head_placeP L) (fun k t a h _ => by
  split at h
  · exact idx_in h
  · cases h)
theorem ft_variable : FT T1 variableP := ft_bind (ft_mustM _) (fun _ _ => ft_head head_numP (fun _ _ _ _ _ => trivial))
theorem ft_label (F : FI) : FT T1 (labelP F) := ft_ite [37] ft_variable (ft_bind (ft_placeP _) (fun _ _ => ft_pure _ trivial))
theorem ft_effect (F : FI) : FT T1 (effectP F) := ft_ite [37] ft_variable (ft_bind (ft_mustM _) (fun _ _ => ft_bind (R := T1) (fun s a s' hs ho => ⟨fun x hx => ho x ((effW_keep _ _ _ _ _ _ _ _ _ hs).1 x hx), trivial⟩) (fun _ _ => ft_pure _ trivial)))
theorem ft_marks2 (a b : List B) : FT T1 (marksP [a, b]) := ft_bind (ft_mustM a) (fun _ _ => ft_bind (ft_mustM b) (fun _ _ => ft_pure () trivial))
theorem ft_nodeP : FT T1 nodeP := fun s a s' hs ho => by
  unfold nodeP at hs
  split at hs
  · cases hs
  · injection hs with h1 h2
    subst h2
    exact ⟨ho, trivial⟩
/-! ### Forests. -/
def app : Fo → Fo → Fo
  | .nil, g => g
  | .cons n ks r, g => .cons n ks (app r g)
theorem app_flat : ∀ (f g : Fo), (app f g).flat = f.flat ++ g.flat
  | .nil, g => rfl
  | .cons n ks r, g => by simp only [app, Fo.flat, app_flat r g, List.cons_append, List.append_assoc]
theorem app_count : ∀ (f g : Fo), (app f g).count = f.count + g.count
  | .nil, g => by simp [app, Fo.count]
  | .cons n ks r, g => by simp only [app, Fo.count, app_count r g]; omega
theorem app_fit : ∀ (f g : Fo), f.fit → g.fit → (app f g).fit
  | .nil, g, _, h => h
  | .cons n ks r, g, ⟨h1, h2, h3, h4, h5⟩, h => ⟨h1, h2, h3, h4, app_fit r g h5 h⟩
theorem height_le : ∀ (f : Fo), f.height ≤ f.flat.length
  | .nil => by simp [Fo.height]
  | .cons n ks r => by
    have h1 := height_le ks
    have h2 := height_le r
    simp only [Fo.height, Fo.flat, List.length_cons, List.length_append]
    omega
/-- A row of nodes is one tree. -/
def TL (l : List Nd) : Prop := ∃ f : Fo, f.fit ∧ f.count = 1 ∧ l = f.flat
theorem tl_node {n : Nd} {ks : Fo} {l : List Nd} (hk : ks.fit) (hm : mayB n = true) (hc : n.f3 = (ks.count : Int)) (h8 : n.f3 ≤ 8) (hl : l = ks.flat) : TL (n :: l) :=
  ⟨.cons n ks .nil, ⟨hm, hc, h8, hk, trivial⟩, rfl, by simp [Fo.flat, hl]⟩
theorem tl_leaf {n : Nd} (hm : mayB n = true) (hc : n.f3 = 0) : TL [n] := tl_node (ks := .nil) trivial hm (by rw [hc]; rfl) (by omega) rfl
theorem may_named (m : Nat) (nm : ByteArray) (l : Tm) (hm : m ≤ 16) (hn : namedB nm = true) : mayB ⟨2, (m : Int), nm, 0, l, t0, t0⟩ = true := by
  simp [mayB, mayV, hn, t0]
  omega
theorem may_base (nm : ByteArray) (l : Tm) (hn : isBase nm.data.toList = true) : mayB ⟨1, 0, nm, 0, l, t0, t0⟩ = true := by
  have : baseB nm = true := hn
  simp [mayB, mayV, this, t0]
theorem ft_nameE {A : PS → PR (List Nd)} (hA : FT TL A) (m : Nat) (hm : m ≤ 16) (nm : ByteArray) (hn : namedB nm = true) (l : Tm) : FT TL (nameE A m nm l) := by
  unfold nameE
  by_cases h1 : 0 < m
  · simp only [if_pos h1]
    exact ft_pure _ (tl_leaf (may_named m nm l hm hn) rfl)
  · simp only [if_neg h1]
    cases h2 : isBase nm.data.toList with
    | true => simp only [if_true]; exact ft_pure _ (tl_leaf (may_base nm l h2) rfl)
    | false =>
      simp only [Bool.false_eq_true, if_false]
      cases h3 : isRef nm.data.toList with
      | true =>
        simp only [if_true]
        refine ft_bind hA (fun a hm => ft_pure _ ?_)
        obtain ⟨f, h4, h5, h6⟩ := hm
        exact tl_node h4 (by simp [mayB, mayV, t0]) (by rw [h5]; rfl) (show (1 : Int) ≤ 8 by decide) h6
      | false =>
        simp only [Bool.false_eq_true, if_false]
        exact ft_pure _ (tl_leaf (may_named 0 nm l (by omega) hn) rfl)
theorem ft_name {A : PS → PR (List Nd)} (F : FI) (hA : FT TL A) (m : Nat) (hm : m ≤ 16) (nm : ByteArray) (hn : namedB nm = true) : FT TL (nameP F A m nm) := ft_bind (ft_mustM _) (fun _ _ => ft_bind (ft_label F) (fun l _ => ft_nameE hA m hm nm hn l))
theorem ft_named {A : PS → PR (List Nd)} (F : FI) (hF : F.imports.length ≤ 16) (hA : FT TL A) : FT TL (namedP F A) := fun s a s' hs ho => by
  unfold namedP at hs
  split at hs
  · rename_i hk
    unfold nodeP at hs
    split at hs
    · cases hs
    · simp only [PR.bind] at hs
      split at hs
      · exact ft_bind (ft_placeP _) (fun i hi => ft_bind (ft_mustM _) (fun _ _ => ft_bind ft_mustN (fun nm hn => ft_name F hA (1 + i) (by omega) nm hn))) ⟨s.ws, s.l, s.c, s.n + 1⟩ a s' hs ho
      · refine ft_name F hA 0 (by omega) (headT ⟨s.ws, s.l, s.c, s.n + 1⟩) ?_ (takeP ⟨s.ws, s.l, s.c, s.n + 1⟩) a s' hs (NW.take (s := ⟨s.ws, s.l, s.c, s.n + 1⟩) ho)
        obtain ⟨ws, l, c, n⟩ := s
        cases ws with
        | nil => cases hk
        | cons x r =>
          have hk : (x.f0 == 0) = true := hk
          exact ho x List.mem_cons_self (by simpa using hk)
  · cases hs
theorem ft_comma (kids : Nat) : FT T1 (fun s => if 0 < kids then mustM [44] s else .ok () s) := by
  by_cases h : 0 < kids
  · simp only [if_pos h]; exact ft_mustM _
  · simp only [if_neg h]; exact ft_pure () trivial
/-- So many trees. -/
def TR (r : Nat × List Nd) : Prop := ∃ f : Fo, f.fit ∧ f.count = r.1 ∧ r.1 ≤ 8 ∧ r.2 = f.flat
theorem ft_close (kids : Nat) (all : List Nd) (h : TR (kids, all)) : FT TR (fun s => (mustM [41] s).bind fun _ s => .ok (kids, all) s) := ft_bind (ft_mustM _) (fun _ _ => ft_pure _ h)
theorem ft_tupL {W : PS → PR (List Nd)} (hW : FT TL W) : ∀ (g kids : Nat) (all : List Nd), g + kids ≤ 8 → TR (kids, all) → FT TR (tupL W g kids all)
  | 0, kids, all, _, h => ft_ite [41] (ft_close kids all h) (ft_bind (ft_comma kids) (fun _ _ => ft_fail 3))
  | g + 1, kids, all, hg, h => ft_ite [41] (ft_close kids all h) (ft_bind (ft_comma kids) (fun _ _ => ft_bind hW (fun b hb => ft_tupL hW g (kids + 1) (all ++ b) (by omega) (by
      obtain ⟨f, h1, h2, h3, h4⟩ := h
      obtain ⟨f2, k1, k2, k3⟩ := hb
      refine ⟨app f f2, app_fit _ _ h1 k1, by rw [app_count, h2, k2], by show kids + 1 ≤ 8; omega, by rw [app_flat, ← k3]; show all ++ b = _; rw [show all = f.flat from h4]⟩))))
theorem ft_tuple {W : PS → PR (List Nd)} (F : FI) (hW : FT TL W) : FT TL (tupleP F W) :=
  ft_bind ft_nodeP (fun _ _ => ft_bind (ft_mustM _) (fun _ _ => ft_bind (ft_tupL hW 8 0 [] (by omega) ⟨.nil, trivial, rfl, by decide, rfl⟩) (fun r hr => ft_bind (ft_mustM _) (fun _ _ => ft_bind (ft_label F) (fun l _ => ft_pure _ (by
    obtain ⟨f, h1, h2, h3, h4⟩ := hr
    exact tl_node h1 (by simp [mayB, mayV, t0]) (by rw [h2]) (show (r.1 : Int) ≤ 8 by omega) h4))))))
theorem ft_held {W : PS → PR (List Nd)} (hW : FT TL W) : FT TL (heldP W) := ft_bind (ft_mustM _) (fun _ _ => ft_bind hW (fun a hm => ft_bind (ft_mustM _) (fun _ _ => ft_pure _ hm)))
theorem ft_atom {W A : PS → PR (List Nd)} (F : FI) (hF : F.imports.length ≤ 16) (hW : FT TL W) (hA : FT TL A) : FT TL (atomF F W A) := ft_ite [123] (ft_held hW) (ft_ite [40] (ft_tuple F hW) (ft_named F hF hA))
theorem ft_fun {W : PS → PR (List Nd)} (F : FI) (hW : FT TL W) (a : List Nd) (ha : TL a) : FT TL (funP F W a) :=
  ft_bind ft_nodeP (fun _ _ => ft_bind (ft_marks2 _ _) (fun _ _ => ft_bind (ft_label F) (fun l _ => ft_bind (ft_mustM _) (fun _ _ => ft_bind (ft_label F) (fun p _ => ft_bind (ft_mustM _) (fun _ _ => ft_bind (ft_effect F) (fun e _ => ft_bind (ft_marks2 _ _) (fun _ _ =>
    ft_bind hW (fun b hb => ft_pure _ (by
      obtain ⟨f, h1, h2, h3⟩ := ha
      obtain ⟨g, k1, k2, k3⟩ := hb
      exact tl_node (app_fit f g h1 k1) (by simp [mayB, mayV, t0]) (by rw [app_count, h2, k2]; rfl) (show (2 : Int) ≤ 8 by decide) (by rw [app_flat, h3, k3]))))))))))) 
theorem ft_whole {W A : PS → PR (List Nd)} (F : FI) (hF : F.imports.length ≤ 16) (hW : FT TL W) (hA : FT TL A) : FT TL (wholeF F W A) := ft_bind (ft_atom F hF hW hA) (fun a hm => ft_ite [45] (ft_fun F hW a hm) (ft_pure a hm))
theorem PG_tree (F : FI) (hF : F.imports.length ≤ 16) : ∀ g, FT TL (PG F g).1 ∧ FT TL (PG F g).2
  | 0 => ⟨ft_fail _, ft_fail _⟩
  | g + 1 => by
    obtain ⟨h1, h2⟩ := PG_tree F hF g
    exact ⟨ft_whole F hF h1 h2, ft_atom F hF h1 h2⟩
/-! ### Names of words. -/
theorem u8_all (p : UInt8 → Bool) (h : ((List.range 256).all fun n => p (UInt8.ofNat n)) = true) (c : UInt8) : p c = true := by
  have := List.all_eq_true.1 h c.toNat (List.mem_range.2 c.toNat_lt)
  simpa using this
theorem letter_is : ∀ c : UInt8, Wd.letter c = true → isLetter c = true ∧ isOther c = true := fun c h => by
  have := u8_all (fun c => !Wd.letter c || (isLetter c && isOther c)) (by decide +kernel) c
  simpa [h] using this
theorem other_is : ∀ c : UInt8, Wd.inName c = true → isOther c = true := fun c h => by
  have := u8_all (fun c => !Wd.inName c || isOther c) (by decide +kernel) c
  simpa [h] using this
theorem word_named {t : List B} (h : Wd.Word 0 t) : namedL t = true := by
  rcases h with ⟨_, c, r, rfl, h1, h2, h3⟩ | ⟨h, _⟩ | ⟨h, _⟩
  · unfold namedL
    have e1 : decide (1 ≤ (c :: r).length) = true := by simp
    have e2 : decide ((c :: r).length ≤ 32) = true := decide_eq_true h3
    have e3 : isLetter ((c :: r).headD 0) = true := (letter_is c h1).1
    have e4 : allOther (c :: r) = true := by
      rw [allOther, List.all_cons, (letter_is c h1).2, List.all_eq_true.2 fun x hx => other_is x (h2 x hx)]
      rfl
    rw [e1, e2, e3, e4]
    rfl
  · cases h
  · cases h
theorem nw_of {l : List B} {toks : List Wd.Tok} {line col : Int} (h : ofW l = (toks, line, col, 0)) : NW (toks.map wordV) := by
  have hk := ofW_ok h
  obtain ⟨w', e, hw⟩ := Wd.scanK_words l _ hk
  intro x hx h0
  obtain ⟨t, ht, rfl⟩ := List.mem_map.1 hx
  have h0 : t.kind = 0 := h0
  have : kt t ∈ w' ++ [(3, [])] := by rw [← e]; exact List.mem_map_of_mem ht
  rcases List.mem_append.1 this with h | h
  · have hw := hw _ h
    rw [show (kt t).1 = 0 from h0] at hw
    exact word_named hw
  · have := congrArg Prod.fst (List.mem_singleton.1 h)
    rw [show (kt t).1 = 0 from h0] at this
    cases this
/-- TreesMay, in plain words. -/
theorem may_law (F : FI) (hF : F.imports.length ≤ 16) (ws : List Wrd) (hn : NW ws) (hsm : ∀ x ∈ ws, x.f1.size ≤ 281474976710656) (a : List Nd) (s : PS) (h : ofP F ws = .ok a s) :
    1 ≤ a.length ∧ a.length ≤ 128 ∧ ((checkB a = 0 ∧ endB a 0 = a.length) ∨ (checkB a = 3 ∧ 16 < a.length)) := by
  obtain ⟨-, f, h1, h2, h3⟩ := (PG_tree F hF 32).1 _ _ _ h hn
  obtain ⟨h4, m, h5, h6, h7⟩ := (PG_keep F 32).1 _ _ _ h ⟨hsm, by show 0 ≤ 128; omega⟩
  have hl : a.length ≤ 128 := by have := h4.2; have h5 : s.n = 0 + m := h5; omega
  refine ⟨h7, hl, ?_⟩
  have hc := check_fit f h1 h2
  rw [← h3, if_neg (by omega)] at hc
  have hh := height_le f
  rw [← h3] at hh
  split at hc
  · exact .inr ⟨hc, by omega⟩
  · exact .inl ⟨hc, end_root a hc⟩
end Tr
end Go.Proofs.YtdecijmncpbheaaGreatDoor
