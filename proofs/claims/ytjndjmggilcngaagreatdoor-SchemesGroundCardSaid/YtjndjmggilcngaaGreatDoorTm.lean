/- Rows of terms: one more term, one term another one. -/
import Derived.Test.YtjndjmggilcngaaGreatDoorME

namespace Go.Proofs.YtjndjmggilcngaaGreatDoor
open Go.RowKit Go.Shelf Go.Proofs.YtjndjmggilcngaaGreatDoorW.PrintWords Go.Proofs.YtjndjmggilcngaaGreatDoorW.PrintLast Go.Proofs.YtjndjmggilcngaaGreatDoorW.PrintMore
set_option linter.unusedVariables false
set_option linter.unusedSimpArgs false
namespace Tm
theorem one_C (w : World) (t : Term) : kTerm.C (w.alloc (.cells #[.bool t.f0, .int .u64 t.f1] 121)) (some ⟨w.heap.size, 0, none⟩) 1 [t] := by
  have h := reps_cons (R := kTerm.K (w.alloc (.cells ([Value.bool t.f0, .int .u64 t.f1] ++ []).toArray 121))) (k121_mk _ t) rfl (Reps.none _ kTerm.sz)
  exact C_block (blk_new w _) h (show 1 ≤ 9223372036854775807 by decide)
theorem info : (Tryz.prog.info? 121).map (fun i => (i.zero, i.size, i.bytes)) = some (some (.agg #[.bool false, .int .u64 0]), 2, 16) := by kernel_rfl
theorem lift {w w1 : World} {base : Nat} {ok : Nat → Prop} {x : Term} {c : List Value} (h : kTerm.K w x c) : kTerm.M w1 base ok x c := by
  rw [k121_open h]
  exact k121_mkM w1 base ok x
def termC (t : Term) : List Value := [.bool t.f0, .int .u64 t.f1]
theorem flat : Flat kTerm termC := fun w base ok x c => ⟨k121_openM, fun h => by subst h; exact k121_mkM w base ok x⟩
section
variable {e base n cap g : Nat} {W : World} {ok : Nat → Prop} {xs : List Term}
theorem put (h : kTerm.R e W base ok (.slice (some ⟨g, 0, none⟩) n cap) xs) (i : Nat) (hi : i < xs.length) (t : Term) :
    kTerm.R e ((W.setCell ⟨g, i * 2, none⟩ (.bool t.f0)).setCell ⟨g, i * 2 + 1, none⟩ (.int .u64 t.f1)) base ok (.slice (some ⟨g, 0, none⟩) n cap) (xs.set i t) := by
  have h3 := R_edit flat h i 0 hi (by decide) ⟨t.f0, xs[i].f1⟩ (.bool t.f0) (by simp [termC])
  have h4 := R_edit flat h3 i 1 (by simpa using hi) (by decide) t (.int .u64 t.f1) (by simp [termC])
  simp only [List.set_set] at h4
  exact h4
theorem cells (h : kTerm.R e W base ok (.slice (some ⟨g, 0, none⟩) n cap) xs) (i : Nat) (hi : i < xs.length) :
    W.cell? ⟨g, i * 2, none⟩ = some (.bool xs[i].f0) ∧ W.cell? ⟨g, i * 2 + 1, none⟩ = some (.int .u64 xs[i].f1) ∧ ∀ o, W.frozen? ⟨g, o, none⟩ = false := by
  obtain ⟨_, _, ev, _, _, cells, hgc⟩ := Kd.R_form h (by omega)
  cases ev
  obtain ⟨ad, e2, c0, c1⟩ := C_termN (Kd.R_reads' h).2.2 i hi
  cases e2
  rw [add_plain] at c0 c1
  simp only [Nat.zero_add] at c0 c1
  exact ⟨c0, c1, fun o => blk_frozen hgc o⟩
end
end Tm
end Go.Proofs.YtjndjmggilcngaaGreatDoor
