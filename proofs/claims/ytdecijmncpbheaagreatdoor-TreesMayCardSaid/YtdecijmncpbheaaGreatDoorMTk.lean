/- Several texts as one: TrK, TrM. -/
import Derived.Test.YtdecijmncpbheaaGreatDoorMTp
import Derived.Test.YtdecijmncpbheaaGreatDoorML

namespace Go.Proofs.YtdecijmncpbheaaGreatDoor
open Go.RowKit Go.Proofs.YtdecijmncpbheaaGreatDoorW.PrintWords Go.Proofs.YtdecijmncpbheaaGreatDoorW.PrintLast Go.Proofs.YtdecijmncpbheaaGreatDoorW.PrintMore
set_option linter.unusedVariables false
set_option linter.unusedSimpArgs false
namespace Tr
open Wd (ofW wordV kt scanK scan scan_K word_is notNl wordN)
theorem scanK_len (l : List B) (w : List (Int × List B)) (h : scanK l = some w) : w.length ≤ l.length + 1 := by
  induction hn : l.length using Nat.strongRecOn generalizing l w with
  | ind n ih =>
    subst hn
    cases l with
    | nil => rw [scanK] at h; cases h; simp
    | cons c r =>
      rw [scanK] at h
      split at h
      · have := ih _ (by simp) r w h rfl
        simp only [List.length_cons]
        omega
      split at h
      · have h2 := (List.dropWhile_sublist (l := r) notNl).length_le
        have := ih _ (by simp; omega) _ w h rfl
        simp only [List.length_cons]
        omega
      split at h
      · cases h
      rename_i h3
      obtain ⟨w1, h1, rfl⟩ := Option.map_eq_some_iff.1 h
      have := ih _ (by simp; omega) _ w1 h1 rfl
      rw [List.length_drop] at this
      simp only [List.length_cons]
      omega
structure Toks (l : List B) (ws : List Wrd) : Prop where
  len : ws.length ≤ l.length + 1
  small : ∀ x ∈ ws, x.f1.size ≤ 281474976710656
  num : NG ws
  last : ∃ pre e, ws = pre ++ [e] ∧ e.f0 = 3 ∧ ∀ x ∈ pre, x.f0 ≠ 3
theorem word_len {k : Int} {t : List B} (h : Wd.Word k t) : t.length ≤ 32 := by
  rcases h with ⟨_, c, r, rfl, _, _, h⟩ | ⟨_, c, r, rfl, _, h1, _, h⟩ | ⟨_, h | ⟨c, h, _⟩⟩
  · exact h
  · have := Wd.num_length h1 h; omega
  · rw [h]; simp
  · rw [h]; simp
theorem word_num {t : List B} (h : Wd.Word 1 t) : numV ⟨t.toArray⟩ ≠ none := by
  rcases h with ⟨h, _⟩ | ⟨_, c, r, rfl, _, h1, h2, h3⟩ | ⟨h, _⟩
  · cases h
  · have hd : ∀ x ∈ c :: r, Wd.digit x = true := fun x hx => by
      rcases List.mem_cons.1 hx with rfl | hx
      · exact h1
      · exact h2 x hx
    have hn := Wd.numOk_iff (c :: r) (by simp) hd
    rw [h3] at hn
    have hn := hn.symm
    simp only [Bool.and_eq_true, decide_eq_true_eq] at hn
    have hp := Wd.parse_digits (c :: r) (by simp) hd
    rw [if_neg (by omega)] at hp
    unfold numV
    rw [show (⟨(c :: r).toArray⟩ : ByteArray).data.toList = c :: r from rfl, hp]
    simp only
    rw [if_pos hn]
    simp
  · cases h
theorem ofW_ok {l : List B} {toks : List Wd.Tok} {line col : Int} (h : ofW l = (toks, line, col, 0)) : scanK l = some (toks.map kt) := by
  unfold ofW at h
  split at h
  · cases h
  · split at h
    · rename_i hs
      rcases scan_K l 1 1 with ⟨h1, _, _⟩ | ⟨_, h2⟩
      · rw [h1] at hs; cases hs
      · rw [h2]
        have := congrArg Prod.fst h
        simp only at this
        rw [this]
    · cases h
theorem toks_of {l : List B} {toks : List Wd.Tok} {line col : Int} (h : ofW l = (toks, line, col, 0)) : Toks l (toks.map wordV) := by
  have hk := ofW_ok h
  obtain ⟨w', e, hw⟩ := Wd.scanK_words l _ hk
  have hl := scanK_len l _ hk
  rw [List.length_map] at hl
  have hall : ∀ t ∈ toks, Wd.Word t.kind t.text ∨ (t.kind = 3 ∧ t.text = []) := fun t ht => by
    have : kt t ∈ w' ++ [(3, [])] := by rw [← e]; exact List.mem_map_of_mem ht
    rcases List.mem_append.1 this with h | h
    · exact .inl (hw _ h)
    · have := List.mem_singleton.1 h
      exact .inr ⟨congrArg Prod.fst this, congrArg Prod.snd this⟩
  have hlast : ∃ pre t, toks = pre ++ [t] ∧ pre.map kt = w' ∧ kt t = (3, []) := by
    obtain ⟨l1, l2, e1, e2, e3⟩ := List.map_eq_append_iff.1 e
    obtain ⟨t, r, e4, e5, e6⟩ := List.map_eq_cons_iff.1 e3
    have : r = [] := List.map_eq_nil_iff.1 e6
    subst this
    exact ⟨l1, t, by rw [e1, e4], e2, e5⟩
  refine ⟨by rw [List.length_map]; exact hl, ?_, ?_, ?_⟩
  · intro x hx
    obtain ⟨t, ht, rfl⟩ := List.mem_map.1 hx
    have hs : (wordV t).f1.size = t.text.length := by simp [wordV, ByteArray.size]
    rw [hs]
    rcases hall t ht with h | h
    · have := word_len h; omega
    · rw [h.2]; simp
  · intro x hx h1
    obtain ⟨t, ht, rfl⟩ := List.mem_map.1 hx
    have h1 : t.kind = 1 := h1
    rcases hall t ht with h | h
    · rw [h1] at h
      exact word_num h
    · rw [h1] at h; cases h.1
  · obtain ⟨pre, t, e1, e2, e3⟩ := hlast
    refine ⟨pre.map wordV, wordV t, by rw [e1, List.map_append]; rfl, congrArg Prod.fst e3, fun x hx => ?_⟩
    obtain ⟨u, hu, rfl⟩ := List.mem_map.1 hx
    have : kt u ∈ w' := by rw [← e2]; exact List.mem_map_of_mem hu
    exact (Wd.word_kind (hw _ this)).1
/-- The type of a text, by an interface. -/
def typeOk (F : FI) (ws : List Wrd) : Bool := match ofP F ws with
  | .ok _ s => match s.ws with
    | [e] => e.f0 == 3
    | _ => false
  | _ => false
theorem ofP_nb (F : FI) {ws : List Wrd} (h : NG ws) : ofP F ws ≠ .bad := (PG_nb F 32).1 ⟨ws, 1, 1, 0⟩ h
/-- TreesCut, in plain words. -/
theorem cut_law (F : FI) (ws : List Wrd) (h : typeOk F ws = true) : ∃ pre e, ws = pre ++ [e] ∧ 1 ≤ pre.length ∧ ofP F (pre.dropLast ++ [e]) = .err 11 e.f2.f0 e.f2.f1 := by
  unfold typeOk at h
  split at h
  · rename_i a s hs
    obtain ⟨s1, s2, s3, s4⟩ := PG_sim F 32
    obtain ⟨pre, h1, h2, _⟩ := s1 _ _ _ hs
    split at h
    · rename_i e he
      have h1 : ws = pre ++ s.ws := h1
      rw [he] at h1
      exact ⟨pre, e, h1, h2, s3 ⟨ws, 1, 1, 0⟩ a s hs pre (by rw [he]; exact h1) (fun e => by rw [e] at h2; simp at h2) e 1 1 (by simpa using h)⟩
    · cases h
  · cases h
end Tr
end Go.Proofs.YtdecijmncpbheaaGreatDoor

namespace Go.Proofs.YtdecijmncpbheaaGreatDoor
open Go.RowKit Go.Proofs.YtdecijmncpbheaaGreatDoorW.PrintWords Go.Proofs.YtdecijmncpbheaaGreatDoorW.PrintLast Go.Proofs.YtdecijmncpbheaaGreatDoorW.PrintMore
set_option linter.unusedVariables false
set_option linter.unusedSimpArgs false
namespace Tr
open Wd (ofW wordV)
def oneF : FI := ⟨[⟨#[97]⟩, ⟨#[98]⟩], [⟨#[105, 111]⟩], []⟩
def nodesOf (F : FI) (ws : List Wrd) : List Nd := match ofP F ws with
  | .ok a _ => a
  | _ => []
def tx1 : List B := [105, 110, 116, 64, 37, 48, 32, 45, 91, 97, 44, 32, 98, 44, 32, 60, 105, 111, 62, 93, 62, 32, 40, 105, 110, 116, 64, 97, 44, 32, 114, 101, 102, 64, 98, 32, 117, 110, 105, 116, 64, 97, 41, 64, 98]
def tx2 : List B := [105, 110, 116, 64, 99]
def toks1 : List Wd.Tok := (Wd.scanF 60 tx1 1 1).1
def toks2 : List Wd.Tok := (Wd.scanF 60 tx2 1 1).1
theorem of_tx1 : ofW tx1 = (toks1, 1, 46, 0) := by
  rw [ofW, ← Wd.scanF_eq 60 _ _ _ (by decide)]
  decide +kernel
theorem of_tx2 : ofW tx2 = (toks2, 1, 6, 0) := by
  rw [ofW, ← Wd.scanF_eq 60 _ _ _ (by decide)]
  decide +kernel
def see (l : List Nd) : Nat × Int × Int × Int × Int := (l.length, (l.getD 0 ⟨0, 0, ⟨#[]⟩, 0, t0, t0, t0⟩).f0, (l.getD 0 ⟨0, 0, ⟨#[]⟩, 0, t0, t0, t0⟩).f6.f1, (l.getD 2 ⟨0, 0, ⟨#[]⟩, 0, t0, t0, t0⟩).f3, (l.getD 4 ⟨0, 0, ⟨#[]⟩, 0, t0, t0, t0⟩).f0)
theorem ok1 : typeOk oneF (toks1.map wordV) = true := by kernel_rfl
theorem see1 : see (nodesOf oneF (toks1.map wordV)) = (6, 5, 1, 2, 4) := by kernel_rfl
theorem ok2 : typeOk oneF (toks2.map wordV) = false := by kernel_rfl
end Tr
end Go.Proofs.YtdecijmncpbheaaGreatDoor
