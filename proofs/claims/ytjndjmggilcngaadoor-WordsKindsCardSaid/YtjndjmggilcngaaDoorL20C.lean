/- WordsKinds: a name, a number, a mark, and nothing else. -/
import Derived.Test.YtjndjmggilcngaaDoorL20B

namespace Go.Proofs.YtjndjmggilcngaaDoor
open Go.RowKit Go.Proofs.YtjndjmggilcngaaDoorW.PrintWords Go.Proofs.YtjndjmggilcngaaDoorW.PrintLast Go.Proofs.YtjndjmggilcngaaDoorW.PrintMore
set_option linter.unusedVariables false
set_option linter.unusedSimpArgs false
namespace L20
open Wd
theorem ofW_words (l : List B) : ∀ t ∈ (ofW l).1, Wd.Word t.kind t.text ∨ (t.kind = 3 ∧ t.text = []) := by
  intro t ht
  rw [ofW] at ht
  split at ht
  · cases ht
  split at ht
  · rename_i hok
    rcases scan_K l 1 1 with ⟨e, -⟩ | ⟨-, e⟩
    · rw [hok] at e; cases e
    · obtain ⟨w', hw, hh⟩ := scanK_words l _ e
      have hm : kt t ∈ w' ++ [(3, [])] := by rw [← hw]; exact List.mem_map_of_mem ht
      rcases List.mem_append.1 hm with hm | hm
      · exact .inl (hh _ hm)
      · have := List.mem_singleton.1 hm
        exact .inr ⟨congrArg Prod.fst this, congrArg Prod.snd this⟩
  · cases ht
theorem letter_calls (w : World) (c : B) : Calls Tryd.prog 12 #[.int .u8 (c.toNat : Int)] w fun e w' => e = .returned (.bool (letter c)) ∧ w' = w := by
  obtain ⟨n, hn⟩ : ∃ n, n = c.toNat := ⟨_, rfl⟩
  have HL : Aside0 (letter c = decide (97 ≤ n ∧ n ≤ 122 ∨ 65 ≤ n ∧ n ≤ 90)) := ⟨by rw [hn]; rfl⟩
  rw [← hn]
  clear hn
  by_cases h1 : 97 ≤ n
  · have d1 : decide ((97 : Int) ≤ (n : Int)) = true := decide_eq_true (by omega)
    by_cases h2 : n ≤ 122
    · have d2 : decide ((n : Int) ≤ 122) = true := decide_eq_true (by omega)
      have HE : Aside0 (letter c = true) := ⟨by rw [HL.out]; exact decide_eq_true (by omega)⟩
      clear h1 h2
      go_enter Tryd.func12, Tryd.ntmps12
      go_wp2
      go_ret
      rw [HE.out]
      exact ⟨rfl, rfl⟩
    · have d2 : decide ((n : Int) ≤ 122) = false := decide_eq_false (by omega)
      have d3 : decide ((65 : Int) ≤ (n : Int)) = true := decide_eq_true (by omega)
      have d4 : decide ((n : Int) ≤ 90) = false := decide_eq_false (by omega)
      have HE : Aside0 (letter c = false) := ⟨by rw [HL.out]; exact decide_eq_false (by omega)⟩
      clear h1 h2
      go_enter Tryd.func12, Tryd.ntmps12
      go_wp2
      go_ret
      rw [HE.out]
      exact ⟨rfl, rfl⟩
  · have d1 : decide ((97 : Int) ≤ (n : Int)) = false := decide_eq_false (by omega)
    by_cases h3 : 65 ≤ n
    · have d3 : decide ((65 : Int) ≤ (n : Int)) = true := decide_eq_true (by omega)
      obtain ⟨z, hz⟩ : ∃ z, z = decide ((n : Int) ≤ 90) := ⟨_, rfl⟩
      have HE : Aside0 (letter c = z) := ⟨by rw [HL.out, hz]; exact decide_eq_decide.2 (by omega)⟩
      have hz2 := hz.symm
      clear h1 h3 hz
      go_enter Tryd.func12, Tryd.ntmps12
      go_wp2
      go_ret
      rw [HE.out]
      exact ⟨rfl, rfl⟩
    · have d3 : decide ((65 : Int) ≤ (n : Int)) = false := decide_eq_false (by omega)
      have HE : Aside0 (letter c = false) := ⟨by rw [HL.out]; exact decide_eq_false (by omega)⟩
      clear h1 h3
      go_enter Tryd.func12, Tryd.ntmps12
      go_wp2
      go_ret
      rw [HE.out]
      exact ⟨rfl, rfl⟩
theorem digit_calls (w : World) (c : B) : Calls Tryd.prog 13 #[.int .u8 (c.toNat : Int)] w fun e w' => e = .returned (.bool (digit c)) ∧ w' = w := by
  obtain ⟨n, hn⟩ : ∃ n, n = c.toNat := ⟨_, rfl⟩
  have HL : Aside0 (digit c = decide (48 ≤ n ∧ n ≤ 57)) := ⟨by rw [hn]; rfl⟩
  rw [← hn]
  clear hn
  by_cases h1 : 48 ≤ n
  · have d1 : decide ((48 : Int) ≤ (n : Int)) = true := decide_eq_true (by omega)
    obtain ⟨z, hz⟩ : ∃ z, z = decide ((n : Int) ≤ 57) := ⟨_, rfl⟩
    have HE : Aside0 (digit c = z) := ⟨by rw [HL.out, hz]; exact decide_eq_decide.2 (by omega)⟩
    have hz2 := hz.symm
    clear h1 hz
    go_enter Tryd.func13, Tryd.ntmps13
    go_wp2
    go_ret
    rw [HE.out]
    exact ⟨rfl, rfl⟩
  · have d1 : decide ((48 : Int) ≤ (n : Int)) = false := decide_eq_false (by omega)
    have HE : Aside0 (digit c = false) := ⟨by rw [HL.out]; exact decide_eq_false (by omega)⟩
    clear h1
    go_enter Tryd.func13, Tryd.ntmps13
    go_wp2
    go_ret
    rw [HE.out]
    exact ⟨rfl, rfl⟩
end L20
end Go.Proofs.YtjndjmggilcngaaDoor
