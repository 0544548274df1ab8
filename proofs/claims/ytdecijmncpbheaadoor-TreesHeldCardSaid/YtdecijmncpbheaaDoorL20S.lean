/- same: two lists of words; what words.Of answers, in kinds and texts. -/
import Derived.Test.YtdecijmncpbheaaDoorML
import Derived.Deep.RegionWith

namespace Go.Proofs.YtdecijmncpbheaaDoor
open Go.RowKit Go.Proofs.YtdecijmncpbheaaDoorW.PrintWords Go.Proofs.YtdecijmncpbheaaDoorW.PrintLast Go.Proofs.YtdecijmncpbheaaDoorW.PrintMore
set_option linter.unusedVariables false
set_option linter.unusedSimpArgs false
namespace L20
open Wd
theorem ofW_K (l : List B) (h : l.length ≤ 1048576) : (scanK l = none ∧ (ofW l).2.2.2 = 11 ∧ (ofW l).1 = []) ∨ (∃ w', scanK l = some (w' ++ [(3, [])]) ∧ (ofW l).2.2.2 = 0 ∧ (ofW l).1.map kt = w' ++ [(3, [])]) := by
  rw [ofW, if_neg (by omega)]
  rcases scan_K l 1 1 with ⟨e1, e2, e3⟩ | ⟨e1, e2⟩
  · left
    rw [if_neg (by rw [e1]; decide)]
    exact ⟨e2, rfl, rfl⟩
  · right
    rw [if_pos e1]
    obtain ⟨w', hw, -⟩ := scanK_words l _ e2
    exact ⟨w', by rw [e2, hw], rfl, hw⟩
theorem scan_count (l : List B) (line col : Int) : (scan l line col).1.length ≤ l.length + 1 := by
  induction hn : l.length using Nat.strongRecOn generalizing l line col with
  | ind n ih =>
    subst hn
    cases l with
    | nil => rw [scan]; simp
    | cons c r =>
      have hd : (r.dropWhile notNl).length ≤ r.length := (List.dropWhile_sublist (l := r) notNl).length_le
      rw [scan]
      split
      · have := ih _ (by simp) r (line + 1) 1 rfl
        simp; omega
      split
      · have := ih _ (by simp) r line (col + 1) rfl
        simp; omega
      split
      · have := ih _ (by simp; omega) (r.dropWhile notNl) line (col + (r.takeWhile notNl).length + 1) rfl
        simp; omega
      split
      · simp
      · rename_i h4
        have := ih _ (by simp; omega) (r.drop ((wordN (c :: r)).1 - 1)) line (col + (wordN (c :: r)).1) rfl
        rw [List.length_drop] at this
        simp only
        split
        · simp; omega
        · simp
theorem ofW_count (l : List B) : (ofW l).1.length ≤ l.length + 1 := by
  have := scan_count l 1 1
  rw [ofW]
  split
  · simp
  split
  · exact this
  · simp
theorem kt_wordV (a b : List Wd.Tok) (h : a.map kt = b.map kt) : ∀ i (h1 : i < (a.map wordV).length) (h2 : i < (b.map wordV).length), (a.map wordV)[i].f0 = (b.map wordV)[i].f0 ∧ (a.map wordV)[i].f1 = (b.map wordV)[i].f1 := by
  intro i h1 h2
  rw [List.getElem_map, List.getElem_map]
  rw [List.length_map] at h1 h2
  have e : (a.map kt)[i]? = (b.map kt)[i]? := by rw [h]
  rw [List.getElem?_map, List.getElem?_map, List.getElem?_eq_getElem h1, List.getElem?_eq_getElem h2] at e
  have e := Option.some.inj e
  have e0 : a[i].kind = b[i].kind := congrArg Prod.fst e
  have e1 : a[i].text = b[i].text := congrArg Prod.snd e
  exact ⟨e0, by show (⟨a[i].text.toArray⟩ : ByteArray) = ⟨b[i].text.toArray⟩; rw [e1]⟩
end L20
end Go.Proofs.YtdecijmncpbheaaDoor
