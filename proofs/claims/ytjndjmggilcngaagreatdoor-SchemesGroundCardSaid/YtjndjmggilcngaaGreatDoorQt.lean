/- A region that draws its order: a head that only reads, walked by the cheap step; then its tail. -/
import Derived.StillTailTactics
import Derived.BigQuiet
import Derived.Deep.Quiet
import Derived.Test.YtjndjmggilcngaaGreatDoorSc

namespace Go.Proofs.YtjndjmggilcngaaGreatDoor
open Go.RowKit Go.Proofs.YtjndjmggilcngaaGreatDoorW.PrintWords Go.Proofs.YtjndjmggilcngaaGreatDoorW.PrintLast Go.Proofs.YtjndjmggilcngaaGreatDoorW.PrintMore
set_option linter.unusedVariables false
set_option linter.unusedSimpArgs false
section
variable {P : Program}
theorem still_of_quiet {ops : Array Oper} {w : World} {Q : Act → Prop} : ∀ (l : List Oper) (a : Act), wpQuiet P ops (fun x => x = w) Q l a → wpStill P ops w Q l a
  | [], _, h => h
  | o :: rest, a, h => by
    unfold wpQuiet at h
    unfold wpStill
    by_cases hw : Region.wanted o (yielded ops a.tmps) = true
    · rw [if_pos hw] at h ⊢
      obtain ⟨v, hv, hn⟩ := h
      have hq := hv w rfl
      unfold Oper.quietAt at hq
      unfold Oper.still
      have hn' := still_of_quiet rest _ hn
      match (execOp a.eval o).run P w, hq with
      | .ok (.value u) w', ⟨h1, h2⟩ => exact ⟨h1, by rw [h2]; exact hn'⟩
      | .ok .skip w', ⟨h1, h2⟩ => exact ⟨h1, by rw [← h2]; exact hn'⟩
      | .ok (.enter f args) w', ⟨h1, h2⟩ => exact ⟨h1, v, h2, hn'⟩
    · rw [if_neg hw] at h ⊢
      exact still_of_quiet rest _ h
theorem region_quiet_tail {id : Nat} {Q : Exit → Act → World → Prop} {a : Act} {w : World} {l : List Oper} (n : Nat) (hm : P.follows .mixedOrders = true) (hB : Region.lexTailB .any l.toArray n = true)
    (h : wpQuiet P l.toArray (fun x => x = w.drew) (fun a' => wpList P l.toArray Q (l.drop n) a' w.drew) (l.take n) a) : (Code.region id l.toArray true).wp P Q a w :=
  wp_region_still_tail n hm hB (still_of_quiet _ _ h)
end
end Go.Proofs.YtjndjmggilcngaaGreatDoor
