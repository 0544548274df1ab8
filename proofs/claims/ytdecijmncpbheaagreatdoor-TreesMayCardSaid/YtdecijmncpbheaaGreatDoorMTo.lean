/- Several texts as one: TrO, TrOf. -/
import Derived.Test.YtdecijmncpbheaaGreatDoorTrZn
import Derived.Recover
import Derived.Defers
import Derived.Deep.Cut
import Derived.Deep.RegionLaw

namespace Go.Proofs.YtdecijmncpbheaaGreatDoor
open Go.RowKit Go.Proofs.YtdecijmncpbheaaGreatDoorW.PrintWords Go.Proofs.YtdecijmncpbheaaGreatDoorW.PrintLast Go.Proofs.YtdecijmncpbheaaGreatDoorW.PrintMore
set_option linter.unusedVariables false
set_option linter.unusedSimpArgs false
open Go.Shelf
namespace Tr
open Wd (gB_refl gB_trans gB_below gB_set)
theorem parts (w0 : World) (fv : FV) (F : FI) (b : Nat) (HF : Aside0 (FaceOk w0 fv F)) (HNA : Aside0 (Wd.NumsAt w0)) : ∀ g, Deep w0 fv b 159 g (PG F g).1 ∧ Deep w0 fv b 193 g (PG F g).2 ∧ Part w0 fv b 159 (g + 1) (PG F (g + 1)).1
  | 0 => by
    have h1 : Deep w0 fv b 159 0 (PG F 0).1 := deep_zero w0 fv b _
    have h2 : Deep w0 fv b 193 0 (PG F 0).2 := deep_zero w0 fv b _
    obtain ⟨k1, k2⟩ := PG_keep F 0
    have ha := atom_part w0 fv F b 0 _ _ ⟨held_part w0 fv b 0 _ k1 ⟨h1⟩⟩ ⟨tuple_part w0 fv F b 0 _ HF HNA k1 ⟨h1⟩⟩ ⟨named_part w0 fv F b 0 _ HF HNA k2 ⟨h2⟩⟩
    exact ⟨h1, h2, whole_part w0 fv F b 0 _ _ HF HNA k1 (kr_atom F k1 k2) ⟨deep_atom w0 fv b 0 _ ha⟩ ⟨h1⟩⟩
  | g + 1 => by
    obtain ⟨i1, i2, i3⟩ := parts w0 fv F b HF HNA g
    obtain ⟨j1, j2⟩ := PG_keep F g
    have h1 : Deep w0 fv b 159 (g + 1) (PG F (g + 1)).1 := deep_whole w0 fv b g _ i3
    have h2 : Deep w0 fv b 193 (g + 1) (PG F (g + 1)).2 := deep_atom w0 fv b g _ (atom_part w0 fv F b g _ _ ⟨held_part w0 fv b g _ j1 ⟨i1⟩⟩ ⟨tuple_part w0 fv F b g _ HF HNA j1 ⟨i1⟩⟩ ⟨named_part w0 fv F b g _ HF HNA j2 ⟨i2⟩⟩)
    obtain ⟨k1, k2⟩ := PG_keep F (g + 1)
    have ha := atom_part w0 fv F b (g + 1) _ _ ⟨held_part w0 fv b (g + 1) _ k1 ⟨h1⟩⟩ ⟨tuple_part w0 fv F b (g + 1) _ HF HNA k1 ⟨h1⟩⟩ ⟨named_part w0 fv F b (g + 1) _ HF HNA k2 ⟨h2⟩⟩
    exact ⟨h1, h2, whole_part w0 fv F b (g + 1) _ _ HF HNA k1 (kr_atom F k1 k2) ⟨deep_atom w0 fv b (g + 1) _ ha⟩ ⟨h1⟩⟩
set_option maxRecDepth 100000 in
set_option maxHeartbeats 4000000 in
theorem catch_idle (p1 p2 p3 p4 : Nat) (w : World) :
    CallsD Tryz.prog 158 #[.pointer (some ⟨p1, 0, none⟩), .pointer (some ⟨p2, 0, none⟩), .pointer (some ⟨p3, 0, none⟩), .pointer (some ⟨p4, 0, none⟩)] .returning w fun e u' w' => e = .returned (.tuple #[]) ∧ u' = .returning ∧ w' = w := by
  have hne : ∀ w : World, (binOp .eql 20 .nilIface .nilIface).run Tryz.prog w = .ok (.bool true) w := fun _ => by kernel_rfl
  refine callsD_of_wpS Tryz.func158 rfl fun c₀ cs hu => ?_
  apply wpS_seq
  apply wpS_region
  simp [wpOpsS, go_sem, recoverD, hu, Tryz.ntmps158, Exit.thenS]
  refine wpS_of_wp ?_
  go_wp2
  cases c₀
  simp_all [bodyPostS, results, Tryz.f158, go_sem]
theorem blk_far {w : World} {g p : Nat} {o : Obj} (h : w.heap[g]? = some o) (hne : g ≠ p) (j : Nat) (u : Value) : (w.setCell ⟨p, j, none⟩ u).heap[g]? = some o := (Below.heap_setCell w ⟨p, j, none⟩ u g hne).trans h
set_option maxRecDepth 100000 in
set_option maxHeartbeats 4000000 in
theorem catch_panicking (p1 p2 p3 p4 : Nat) (k l c : Int) (w : World) (g1 : w.heap[p1]? = some (.cells #[.slice none 0 0] 22 (0, 0))) (g2 : w.heap[p2]? = some (.cells #[.slice none 0 0] 125 (0, 0))) (g3 : w.heap[p3]? = some (.cells #[.int .i64 0, .int .i64 0] 127 (0, 0))) (g4 : w.heap[p4]? = some (.cells #[.int .i64 0] 38 (0, 0))) (h12 : p1 ≠ p2) (h13 : p1 ≠ p3) (h14 : p1 ≠ p4) (h23 : p2 ≠ p3) (h24 : p2 ≠ p4) (h34 : p3 ≠ p4) (N : Nat) (w0 : World) (hN : N ≤ p1 ∧ N ≤ p2 ∧ N ≤ p3 ∧ N ≤ p4) (hB : Below N w0 w) (hNw : N ≤ w.heap.size) :
    CallsD Tryz.prog 158 #[.pointer (some ⟨p1, 0, none⟩), .pointer (some ⟨p2, 0, none⟩), .pointer (some ⟨p3, 0, none⟩), .pointer (some ⟨p4, 0, none⟩)] (.panicking [{ v := .iface 250 (.agg #[.int .i64 k, .int .i64 l, .int .i64 c]), recovered := false }]) w fun e u' w' => e = .returned (.tuple #[]) ∧ u' = .panicking [{ v := .iface 250 (.agg #[.int .i64 k, .int .i64 l, .int .i64 c]), recovered := true }] ∧
      (w'.cell? ⟨p1, 0, none⟩ = some (.slice none 0 0) ∧ w'.cell? ⟨p2, 0, none⟩ = some (.slice none 0 0) ∧ w'.cell? ⟨p3, 0, none⟩ = some (.int .i64 l) ∧ w'.cell? ⟨p3, 1, none⟩ = some (.int .i64 c) ∧ w'.cell? ⟨p4, 0, none⟩ = some (.int .i64 k)) ∧ Below N w0 w' := by
  have hne : ∀ (w : World) (v : Value), (binOp .eql 20 (.iface 250 v) .nilIface).run Tryz.prog w = .ok (.bool false) w := fun _ _ => by kernel_rfl
  have hta : ∀ (w : World) (a b c : Int), (Instr.typeAssert (.iface 250 (.agg #[.int .i64 a, .int .i64 b, .int .i64 c])) 20 250 true).run Tryz.prog w = .ok (.tuple #[.agg #[.int .i64 a, .int .i64 b, .int .i64 c], .bool true]) w := fun _ _ _ _ => by kernel_rfl
  have c1 := blk_cell (blk_alloc g1 (.cells #[.int .i64 k, .int .i64 l, .int .i64 c] 250)) 0
  have c2 := blk_cell (blk_alloc g2 (.cells #[.int .i64 k, .int .i64 l, .int .i64 c] 250)) 0
  have c3 := blk_cell (blk_alloc g3 (.cells #[.int .i64 k, .int .i64 l, .int .i64 c] 250)) 0
  have c3' := blk_cell (blk_alloc g3 (.cells #[.int .i64 k, .int .i64 l, .int .i64 c] 250)) 1
  have c4 := blk_cell (blk_alloc g4 (.cells #[.int .i64 k, .int .i64 l, .int .i64 c] 250)) 0
  have f1 := blk_frozen (blk_alloc g1 (.cells #[.int .i64 k, .int .i64 l, .int .i64 c] 250)) 0
  have f2 := blk_frozen (blk_alloc g2 (.cells #[.int .i64 k, .int .i64 l, .int .i64 c] 250)) 0
  have f3 := blk_frozen (blk_alloc g3 (.cells #[.int .i64 k, .int .i64 l, .int .i64 c] 250)) 0
  have f3' := blk_frozen (blk_alloc g3 (.cells #[.int .i64 k, .int .i64 l, .int .i64 c] 250)) 1
  have f4 := blk_frozen (blk_alloc g4 (.cells #[.int .i64 k, .int .i64 l, .int .i64 c] 250)) 0
  simp at c1 c2 c3 c3' c4
  obtain ⟨O, hO⟩ : ∃ O : Obj, O = .cells #[.int .i64 k, .int .i64 l, .int .i64 c] 250 := ⟨_, rfl⟩
  have b1 : ((((((w.alloc O).setCell ⟨p1, 0, none⟩ (.slice none 0 0)).setCell ⟨p2, 0, none⟩ (.slice none 0 0)).setCell ⟨p3, 0, none⟩ (.int .i64 l)).setCell ⟨p3, 1, none⟩ (.int .i64 c)).setCell ⟨p4, 0, none⟩ (.int .i64 k)).drew.heap[p1]? = some (.cells #[.slice none 0 0] 22 (0, 0)) :=
    blk_drew (blk_far (blk_far (blk_far (blk_far (blk_put (blk_alloc g1 O) 0 _ rfl) h12 0 _) h13 0 _) h13 1 _) h14 0 _)
  have b2 : ((((((w.alloc O).setCell ⟨p1, 0, none⟩ (.slice none 0 0)).setCell ⟨p2, 0, none⟩ (.slice none 0 0)).setCell ⟨p3, 0, none⟩ (.int .i64 l)).setCell ⟨p3, 1, none⟩ (.int .i64 c)).setCell ⟨p4, 0, none⟩ (.int .i64 k)).drew.heap[p2]? = some (.cells #[.slice none 0 0] 125 (0, 0)) :=
    blk_drew (blk_far (blk_far (blk_far (blk_put (blk_far (blk_alloc g2 O) h12.symm 0 _) 0 _ rfl) h23 0 _) h23 1 _) h24 0 _)
  have b3 : ((((((w.alloc O).setCell ⟨p1, 0, none⟩ (.slice none 0 0)).setCell ⟨p2, 0, none⟩ (.slice none 0 0)).setCell ⟨p3, 0, none⟩ (.int .i64 l)).setCell ⟨p3, 1, none⟩ (.int .i64 c)).setCell ⟨p4, 0, none⟩ (.int .i64 k)).drew.heap[p3]? = some (.cells #[.int .i64 l, .int .i64 c] 127 (0, 0)) :=
    blk_drew (blk_far (blk_put (blk_put (blk_far (blk_far (blk_alloc g3 O) h13.symm 0 _) h23.symm 0 _) 0 _ rfl) 1 _ rfl) h34 0 _)
  have b4 : ((((((w.alloc O).setCell ⟨p1, 0, none⟩ (.slice none 0 0)).setCell ⟨p2, 0, none⟩ (.slice none 0 0)).setCell ⟨p3, 0, none⟩ (.int .i64 l)).setCell ⟨p3, 1, none⟩ (.int .i64 c)).setCell ⟨p4, 0, none⟩ (.int .i64 k)).drew.heap[p4]? = some (.cells #[.int .i64 k] 38 (0, 0)) :=
    blk_drew (blk_put (blk_far (blk_far (blk_far (blk_far (blk_alloc g4 O) h14.symm 0 _) h24.symm 0 _) h34.symm 0 _) h34.symm 1 _) 0 _ rfl)
  have bb : Below N w0 ((((((w.alloc O).setCell ⟨p1, 0, none⟩ (.slice none 0 0)).setCell ⟨p2, 0, none⟩ (.slice none 0 0)).setCell ⟨p3, 0, none⟩ (.int .i64 l)).setCell ⟨p3, 1, none⟩ (.int .i64 c)).setCell ⟨p4, 0, none⟩ (.int .i64 k)).drew :=
    ((((((hB.alloc hNw O).setCell (p := ⟨p1, 0, none⟩) hN.1 _).setCell (p := ⟨p2, 0, none⟩) hN.2.1 _).setCell (p := ⟨p3, 0, none⟩) hN.2.2.1 _).setCell (p := ⟨p3, 1, none⟩) hN.2.2.1 _).setCell (p := ⟨p4, 0, none⟩) hN.2.2.2 _).drew
  have hcs := And.intro (blk_cell b1 0) (And.intro (blk_cell b2 0) (And.intro (blk_cell b3 0) (And.intro (blk_cell b3 1) (blk_cell b4 0))))
  rw [hO] at hcs bb
  have HCS := Aside0.mk hcs
  have HBB := Aside0.mk bb
  have HX := Aside0.mk (And.intro g1 (And.intro g2 (And.intro g3 (And.intro g4 trivial))))
  clear b1 b2 b3 b4 bb hcs hO
  clear g1 g2 g3 g4 hN hB hNw
  have hz1 : p1 ≠ w.heap.size := by have := blk_lt HX.out.1; omega
  have hz2 : p2 ≠ w.heap.size := by have := blk_lt HX.out.2.1; omega
  have hz3 : p3 ≠ w.heap.size := by have := blk_lt HX.out.2.2.1; omega
  have hz4 : p4 ≠ w.heap.size := by have := blk_lt HX.out.2.2.2.1; omega
  have hy1 := hz1.symm
  have hy2 := hz2.symm
  have hy3 := hz3.symm
  have hy4 := hz4.symm
  have h21 := h12.symm
  have h31 := h13.symm
  have h41 := h14.symm
  have h32 := h23.symm
  have h42 := h24.symm
  have h43 := h34.symm
  refine callsD_of_wpS Tryz.func158 rfl fun c₀ cs hu => ?_
  apply wpS_seq
  apply wpS_region
  simp [wpOpsS, go_sem, recoverD, hu, Tryz.ntmps158, Exit.thenS]
  refine wpS_of_wp ?_
  go_wp2
  go_region_law (fail)
  all_goals (
    go_wp2
    refine ⟨rfl, _, ?_, .tuple #[], ?_, rfl, rfl, HCS.out, HBB.out⟩
    · cases c₀; simp_all
    · simp [results, Tryz.f158, go_sem])
end Tr
end Go.Proofs.YtdecijmncpbheaaGreatDoor

namespace Go.Proofs.YtdecijmncpbheaaGreatDoor
open Go.RowKit Go.Proofs.YtdecijmncpbheaaGreatDoorW.PrintWords Go.Proofs.YtdecijmncpbheaaGreatDoorW.PrintLast Go.Proofs.YtdecijmncpbheaaGreatDoorW.PrintMore
set_option linter.unusedVariables false
set_option linter.unusedSimpArgs false
open Go.Shelf
namespace Tr
open Wd (gB_refl gB_trans gB_below gB_set)
/-- What trees.Of ends with. -/
def OfRes (w : World) (r : PR (List Nd)) (e : Ending) (w' : World) : Prop := match r with
  | .ok a s => (∃ A1 A2, e = .returned (.tuple #[.slice A1 a.length a.length, .slice A2 s.ws.length s.ws.length, .agg #[.int .i64 0, .int .i64 0], .int .i64 0]) ∧ kNode.C w' A1 a.length a ∧ kWord.C w' A2 s.ws.length s.ws) ∧ Below w.heap.size w w'
  | .err k l c => e = .returned (.tuple #[.slice none 0 0, .slice none 0 0, .agg #[.int .i64 l, .int .i64 c], .int .i64 k]) ∧ Below w.heap.size w w'
  | .bad => False
theorem fin_cells {W : World} {p1 p2 p3 p4 : Nat} {u1 u2 u3 u3' u4 v1 v2 v3 v3' v4 : Value} {T1 T2 T3 T4 : Nat} (g1 : W.heap[p1]? = some (.cells #[u1] T1 (0, 0))) (g2 : W.heap[p2]? = some (.cells #[u2] T2 (0, 0))) (g3 : W.heap[p3]? = some (.cells #[u3, u3'] T3 (0, 0))) (g4 : W.heap[p4]? = some (.cells #[u4] T4 (0, 0))) (h12 : p1 ≠ p2) (h13 : p1 ≠ p3) (h14 : p1 ≠ p4) (h23 : p2 ≠ p3) (h24 : p2 ≠ p4) (h34 : p3 ≠ p4) :
    (((((W.setCell ⟨p1, 0, none⟩ v1).setCell ⟨p2, 0, none⟩ v2).setCell ⟨p3, 0, none⟩ v3).setCell ⟨p3, 1, none⟩ v3').setCell ⟨p4, 0, none⟩ v4).cell? ⟨p1, 0, none⟩ = some v1 ∧ (((((W.setCell ⟨p1, 0, none⟩ v1).setCell ⟨p2, 0, none⟩ v2).setCell ⟨p3, 0, none⟩ v3).setCell ⟨p3, 1, none⟩ v3').setCell ⟨p4, 0, none⟩ v4).cell? ⟨p2, 0, none⟩ = some v2 ∧
    (((((W.setCell ⟨p1, 0, none⟩ v1).setCell ⟨p2, 0, none⟩ v2).setCell ⟨p3, 0, none⟩ v3).setCell ⟨p3, 1, none⟩ v3').setCell ⟨p4, 0, none⟩ v4).cell? ⟨p3, 0, none⟩ = some v3 ∧ (((((W.setCell ⟨p1, 0, none⟩ v1).setCell ⟨p2, 0, none⟩ v2).setCell ⟨p3, 0, none⟩ v3).setCell ⟨p3, 1, none⟩ v3').setCell ⟨p4, 0, none⟩ v4).cell? ⟨p3, 1, none⟩ = some v3' ∧
    (((((W.setCell ⟨p1, 0, none⟩ v1).setCell ⟨p2, 0, none⟩ v2).setCell ⟨p3, 0, none⟩ v3).setCell ⟨p3, 1, none⟩ v3').setCell ⟨p4, 0, none⟩ v4).cell? ⟨p4, 0, none⟩ = some v4 := by
  have b1 : (((((W.setCell ⟨p1, 0, none⟩ v1).setCell ⟨p2, 0, none⟩ v2).setCell ⟨p3, 0, none⟩ v3).setCell ⟨p3, 1, none⟩ v3').setCell ⟨p4, 0, none⟩ v4).heap[p1]? = some (.cells #[v1] T1 (0, 0)) := blk_far (blk_far (blk_far (blk_far (blk_put g1 0 _ rfl) h12 0 _) h13 0 _) h13 1 _) h14 0 _
  have b2 : (((((W.setCell ⟨p1, 0, none⟩ v1).setCell ⟨p2, 0, none⟩ v2).setCell ⟨p3, 0, none⟩ v3).setCell ⟨p3, 1, none⟩ v3').setCell ⟨p4, 0, none⟩ v4).heap[p2]? = some (.cells #[v2] T2 (0, 0)) := blk_far (blk_far (blk_far (blk_put (blk_far g2 h12.symm 0 _) 0 _ rfl) h23 0 _) h23 1 _) h24 0 _
  have b3 : (((((W.setCell ⟨p1, 0, none⟩ v1).setCell ⟨p2, 0, none⟩ v2).setCell ⟨p3, 0, none⟩ v3).setCell ⟨p3, 1, none⟩ v3').setCell ⟨p4, 0, none⟩ v4).heap[p3]? = some (.cells #[v3, v3'] T3 (0, 0)) := blk_far (blk_put (blk_put (blk_far (blk_far g3 h13.symm 0 _) h23.symm 0 _) 0 _ rfl) 1 _ rfl) h34 0 _
  have b4 : (((((W.setCell ⟨p1, 0, none⟩ v1).setCell ⟨p2, 0, none⟩ v2).setCell ⟨p3, 0, none⟩ v3).setCell ⟨p3, 1, none⟩ v3').setCell ⟨p4, 0, none⟩ v4).heap[p4]? = some (.cells #[v4] T4 (0, 0)) := blk_put (blk_far (blk_far (blk_far (blk_far g4 h14.symm 0 _) h24.symm 0 _) h34.symm 0 _) h34.symm 1 _) 0 _ rfl
  exact ⟨blk_cell b1 0, blk_cell b2 0, blk_cell b3 0, blk_cell b3 1, blk_cell b4 0⟩
theorem R_fine {α : Type} {d : Kd α} {e : Nat} {w : World} {base : Nat} {ok : Nat → Prop} {A : Option Addr} {n c : Nat} {xs : List α} (h : d.R e w base ok (.slice A n c) xs) : n ≤ c ∧ c ≤ 9223372036854775807 ∧ (A = none → n = 0 ∧ c = 0) := by
  obtain ⟨inner, ho⟩ := Kd.R_own h
  rcases ho.2 with ⟨e1, h0⟩ | ⟨g, cap, cur, e1, _, _, h1, h2, _⟩
  · injection e1 with e1 e2 e3
    subst e2 e3
    exact ⟨Nat.le_refl _, by decide, fun _ => ⟨rfl, rfl⟩⟩
  · injection e1 with e1 e2 e3
    subst e2 e3
    exact ⟨h1, by unfold maxLen at h2; exact h2, fun h => by rw [h] at e1; cases e1⟩
theorem Row.far {w : World} {base : Nat} {v : Value} {l : List Nd} (h : Row w base v l) {p : Nat} (hp : p < base) (j : Nat) (u : Value) : Row (w.setCell ⟨p, j, none⟩ u) base v l :=
  Kd.R_mono (Kd.R_far (Kd.R_bound h) (p := ⟨p, j, none⟩) (fun k hk e => by have := hk.2.1; have : k = p := e; omega) u) (fun _ _ => trivial)
theorem rowW_far {w : World} {base : Nat} {v : Value} {l : List Wrd} (h : kWord.R 134 w base (fun _ => True) v l) {p : Nat} (hp : p < base) (j : Nat) (u : Value) : kWord.R 134 (w.setCell ⟨p, j, none⟩ u) base (fun _ => True) v l :=
  Kd.R_mono (Kd.R_far (Kd.R_bound h) (p := ⟨p, j, none⟩) (fun k hk e => by have := hk.2.1; have : k = p := e; omega) u) (fun _ _ => trivial)
/-- Behind the last statement, ahead of the deferred function. -/
def OfMid (w : World) (A1 : Option Addr) (m1 m2 : Nat) (a : List Nd) (ws : List Wrd) : Exit → Act → World → Prop
  | .normal, a', W' => a'.defers = [{ target := .fn (.func 158) #[.pointer (some ⟨w.heap.size + 1, 0, none⟩), .pointer (some ⟨w.heap.size + 1 + 1, 0, none⟩), .pointer (some ⟨w.heap.size + 1 + 1 + 1, 0, none⟩), .pointer (some ⟨w.heap.size + 1 + 1 + 1 + 1, 0, none⟩)], args := #[] }] ∧
      (a'.tmps.getD 4 undef = .pointer (some ⟨w.heap.size + 1, 0, none⟩) ∧ a'.tmps.getD 5 undef = .pointer (some ⟨w.heap.size + 1 + 1, 0, none⟩) ∧ a'.tmps.getD 6 undef = .pointer (some ⟨w.heap.size + 1 + 1 + 1, 0, none⟩) ∧ a'.tmps.getD 7 undef = .pointer (some ⟨w.heap.size + 1 + 1 + 1 + 1, 0, none⟩)) ∧
      (∃ A', W'.cell? ⟨w.heap.size + 1, 0, none⟩ = some (.slice A1 m1 m1) ∧ W'.cell? ⟨w.heap.size + 1 + 1, 0, none⟩ = some (.slice A' m2 m2) ∧ W'.cell? ⟨w.heap.size + 1 + 1 + 1, 0, none⟩ = some (.int .i64 0) ∧ W'.cell? ⟨w.heap.size + 1 + 1 + 1, 1, none⟩ = some (.int .i64 0) ∧ W'.cell? ⟨w.heap.size + 1 + 1 + 1 + 1, 0, none⟩ = some (.int .i64 0) ∧ kNode.C W' A1 m1 a ∧ kWord.C W' A' m2 ws) ∧ Below w.heap.size w W'
  | _, _, _ => False
set_option maxRecDepth 100000 in
set_option maxHeartbeats 4000000 in
theorem of_calls (w : World) (A : Option Addr) (c : Nat) (ws : List Wrd) (fv : FV) (F : FI) (hW : kWord.C w A ws.length ws) (hc : ws.length ≤ c) (HF : Aside0 (FaceOk w fv F)) (HNA : Aside0 (Wd.NumsAt w)) (hsz : ∀ x ∈ ws, x.f1.size ≤ 281474976710656) (hwl : ws.length * 40 ≤ 140737488355328) (hnb : ofP F ws ≠ .bad) :
    Calls Tryz.prog 100 #[.slice A ws.length c, .agg #[.string fv.m, .slice fv.la.A fv.la.n fv.la.c, .slice fv.ro.A fv.ro.n fv.ro.c, .slice fv.ef.A fv.ef.n fv.ef.c, .slice fv.ty.A fv.ty.n fv.ty.c, .slice fv.im.A fv.im.n fv.im.c, .slice fv.en.A fv.en.n fv.en.c]] w (OfRes w (ofP F ws)) := by
  have hmf : ∀ (fn : Fn) (first cap : Array Value) (w : World), (Instr.makeFunc fn first cap).run Tryz.prog w = .ok (.func fn first cap) w := fun _ _ _ _ => rfl
  obtain ⟨O0, hO0⟩ : ∃ O : Obj, O = .cells #[.string fv.m, .slice fv.la.A fv.la.n fv.la.c, .slice fv.ro.A fv.ro.n fv.ro.c, .slice fv.ef.A fv.ef.n fv.ef.c, .slice fv.ty.A fv.ty.n fv.ty.c, .slice fv.im.A fv.im.n fv.im.c, .slice fv.en.A fv.en.n fv.en.c] 76 := ⟨_, rfl⟩
  obtain ⟨O1, hO1⟩ : ∃ O : Obj, O = .cells #[.slice none 0 0] 22 := ⟨_, rfl⟩
  obtain ⟨O2, hO2⟩ : ∃ O : Obj, O = .cells #[.slice none 0 0] 125 := ⟨_, rfl⟩
  obtain ⟨O3, hO3⟩ : ∃ O : Obj, O = .cells #[.int .i64 0, .int .i64 0] 127 := ⟨_, rfl⟩
  obtain ⟨O4, hO4⟩ : ∃ O : Obj, O = .cells #[.int .i64 0] 38 := ⟨_, rfl⟩
  obtain ⟨O5, hO5⟩ : ∃ O : Obj, O = .cells #[.slice A ws.length c, .string fv.m, .slice fv.la.A fv.la.n fv.la.c, .slice fv.ro.A fv.ro.n fv.ro.c, .slice fv.ef.A fv.ef.n fv.ef.c, .slice fv.ty.A fv.ty.n fv.ty.c, .slice fv.im.A fv.im.n fv.im.c, .slice fv.en.A fv.en.n fv.en.c, .int .i64 1, .int .i64 1, .int .i64 0] 248 := ⟨_, rfl⟩
  obtain ⟨W0, hW0⟩ : ∃ W, W = (((((w.alloc O0).alloc O1).alloc O2).alloc O3).alloc O4).alloc O5 := ⟨_, rfl⟩
  have hB0 : Below w.heap.size w W0 := by rw [hW0]; exact below_alloc (below_alloc (below_alloc (below_alloc (below_alloc (below_alloc (Below.refl _ _) _) _) _) _) _) _
  have k1 : W0.heap[w.heap.size + 1]? = some (.cells #[.slice none 0 0] 22 (0, 0)) := by
    have := blk_new (w.alloc O0) O1
    rw [World.size_alloc] at this
    rw [hW0, blk_alloc (blk_alloc (blk_alloc (blk_alloc this _) _) _) _, hO1]
  have k2 : W0.heap[w.heap.size + 1 + 1]? = some (.cells #[.slice none 0 0] 125 (0, 0)) := by
    have := blk_new ((w.alloc O0).alloc O1) O2
    rw [World.size_alloc, World.size_alloc] at this
    rw [hW0, blk_alloc (blk_alloc (blk_alloc this _) _) _, hO2]
  have k3 : W0.heap[w.heap.size + 1 + 1 + 1]? = some (.cells #[.int .i64 0, .int .i64 0] 127 (0, 0)) := by
    have := blk_new (((w.alloc O0).alloc O1).alloc O2) O3
    rw [World.size_alloc, World.size_alloc, World.size_alloc] at this
    rw [hW0, blk_alloc (blk_alloc this _) _, hO3]
  have k4 : W0.heap[w.heap.size + 1 + 1 + 1 + 1]? = some (.cells #[.int .i64 0] 38 (0, 0)) := by
    have := blk_new ((((w.alloc O0).alloc O1).alloc O2).alloc O3) O4
    rw [World.size_alloc, World.size_alloc, World.size_alloc, World.size_alloc] at this
    rw [hW0, blk_alloc this _, hO4]
  have k5 : RD W0 (w.heap.size + 1 + 1 + 1 + 1 + 1) (.slice A ws.length c) fv 1 1 0 := by
    have := blk_new (((((w.alloc O0).alloc O1).alloc O2).alloc O3).alloc O4) O5
    rw [World.size_alloc, World.size_alloc, World.size_alloc, World.size_alloc, World.size_alloc] at this
    rw [RD, hW0, this, hO5]
    rfl
  have hst : ST w fv (w.heap.size + 1 + 1 + 1 + 1 + 1) W0 ⟨ws, 1, 1, 0⟩ := ⟨⟨A, c, k5, hc, hW⟩, by omega, hB0⟩
  have HWH := Aside0.mk ((parts w fv F (w.heap.size + 1 + 1 + 1 + 1 + 1) HF HNA 31).2.2 1 W0 ⟨ws, 1, 1, 0⟩ (by decide) (by decide) hst ⟨hsz, by show 0 ≤ 128; decide⟩ hnb)
  have HX := Aside0.mk (And.intro k1 (And.intro k2 (And.intro k3 (And.intro k4 hB0))))
  have HWL := Aside0.mk hwl
  obtain ⟨n, hn⟩ : ∃ n, n = ws.length := ⟨_, rfl⟩
  have HN := Aside0.mk hn
  rw [← hn] at hO5 ⊢
  obtain ⟨R, hR⟩ : ∃ R, R = ofP F ws := ⟨_, rfl⟩
  have HR := Aside0.mk hR
  rw [← hR]
  rw [hO0, hO1, hO2, hO3, hO4, hO5] at hW0
  have HW0 := Aside0.mk hW0
  clear hn hR hst k1 k2 k3 k4 k5 hB0 hnb hwl hsz hc hW hO0 hO1 hO2 hO3 hO4 hO5 hW0
  go_enter_defers Tryz.func100, Tryz.ntmps100
  go_wp2_with fail
  rw [← HW0.out]
  refine HWH.out.mono ?_
  intro e W1 hres
  rcases Res.ways hres with ⟨a, s', v, hr, rfl, hv, hst, hg⟩ | ⟨k, l, co, hr, rfl, hg⟩
  · have HRR := Aside0.mk (HR.out.trans hr)
    obtain ⟨A1, c1, hv1, hle1, hC1⟩ := Kd.R_reads hv
    subst hv1
    obtain ⟨⟨A2, c2, hrd, hle2, hC2⟩, hbase, hbel⟩ := hst
    obtain ⟨pre, hpre, _, _⟩ := (PG_sim F 32).1 _ _ _ hr
    have hl2 : s'.ws.length ≤ ws.length := by
      have : ws = pre ++ s'.ws := hpre
      rw [this, List.length_append]
      omega
    have j1 := blk_grown HX.out.1 hg (by simp)
    have j2 := blk_grown HX.out.2.1 hg (by simp)
    have j3 := blk_grown HX.out.2.2.1 hg (by simp)
    have j4 := blk_grown HX.out.2.2.2.1 hg (by simp)
    obtain ⟨m1, hm1⟩ : ∃ m, m = a.length := ⟨_, rfl⟩
    obtain ⟨m2, hm2⟩ : ∃ m, m = s'.ws.length := ⟨_, rfl⟩
    have hfin := R_fine hv
    rw [← hm1] at hfin
    have HCN : Aside0 (∀ W, Calls Tryz.prog 110 #[.slice A1 m1 c1] W fun e w' => e = .returned (.slice A1 m1 m1) ∧ w' = W) := ⟨fun W => clipN_calls W A1 m1 c1 hfin.1 hfin.2.1 hfin.2.2⟩
    have HCL : Aside0 (∀ W, Below w.heap.size w W → Calls Tryz.prog 161 #[.slice A2 m2 c2] W fun e w' => ∃ A' c', e = .returned (.slice A' m2 c') ∧ kWord.R 134 w' W.heap.size (fun _ => True) (.slice A' m2 c') s'.ws ∧ Below W.heap.size W w') := ⟨fun W hb => by
      have := cloneW_calls W A2 c2 s'.ws (by have := HWL.out; omega) (Kd.C_below hC2 hb)
      rw [← hm2] at this
      exact this⟩
    have HCW : Aside0 (∀ W A' c', (m2 ≤ c' ∧ c' ≤ 9223372036854775807 ∧ (A' = none → m2 = 0 ∧ c' = 0)) → Calls Tryz.prog 160 #[.slice A' m2 c'] W fun e w' => e = .returned (.slice A' m2 m2) ∧ w' = W) := ⟨fun W A' c' h => clipW_calls W A' m2 c' h.1 h.2.1 h.2.2⟩
    have t1 : (W1.setCell ⟨w.heap.size + 1, 0, none⟩ (.slice A1 m1 c1)).heap[w.heap.size + 1]? = some (.cells #[.slice A1 m1 c1] 22 (0, 0)) := blk_put j1 0 _ rfl
    have t2 : (W1.setCell ⟨w.heap.size + 1, 0, none⟩ (.slice A1 m1 c1)).heap[w.heap.size + 1 + 1]? = some (.cells #[.slice none 0 0] 125 (0, 0)) := blk_far j2 (by omega) 0 _
    have t3 : (W1.setCell ⟨w.heap.size + 1, 0, none⟩ (.slice A1 m1 c1)).heap[w.heap.size + 1 + 1 + 1]? = some (.cells #[.int .i64 0, .int .i64 0] 127 (0, 0)) := blk_far j3 (by omega) 0 _
    have t4 : (W1.setCell ⟨w.heap.size + 1, 0, none⟩ (.slice A1 m1 c1)).heap[w.heap.size + 1 + 1 + 1 + 1]? = some (.cells #[.int .i64 0] 38 (0, 0)) := blk_far j4 (by omega) 0 _
    have t5 : RD (W1.setCell ⟨w.heap.size + 1, 0, none⟩ (.slice A1 m1 c1)) (w.heap.size + 1 + 1 + 1 + 1 + 1) (.slice A2 m2 c2) fv s'.l s'.c s'.n := by rw [hm2]; exact blk_far hrd (by omega) 0 _
    have hb2 : Below w.heap.size w (W1.setCell ⟨w.heap.size + 1, 0, none⟩ (.slice A1 m1 c1)) := hbel.setCell (show w.heap.size ≤ w.heap.size + 1 by omega) _
    have i1 := blk_cell j1 0
    have i1f := blk_frozen j1 0
    rw [← hm1]
    have HJ := Aside0.mk (And.intro t1 (And.intro t2 (And.intro t3 (And.intro t4 (And.intro t5 hb2)))))
    have hgs := hg.size
    have hrw : Row W1 W0.heap.size (.slice A1 m1 c1) a := by rw [hm1]; exact hv
    have HC1 := Aside0.mk (And.intro hm1 hm2)
    simp at i1
    clear hres hr hv hg hpre hl2 j1 j2 j3 j4 hle1 hC1 hrd hle2 hC2 hbase hbel hm1 hm2 hfin t1 t2 t3 t4 t5 hb2
    have HGS : Aside0 (W0.heap.size ≤ W1.heap.size) := ⟨hgs⟩
    have HRW := Aside0.mk (Row.far hrw (show w.heap.size + 1 < W0.heap.size by have := blk_lt HX.out.1; omega) 0 (.slice A1 m1 c1))
    clear hrw hgs
    go_upto_region 4 with fail
    generalize hW2 : W1.setCell ⟨w.heap.size + 1, 0, none⟩ (.slice A1 m1 c1) = W2 at *
    have hWW : Aside0 (W2 = W1.setCell ⟨w.heap.size + 1, 0, none⟩ (.slice A1 m1 c1)) := ⟨hW2.symm⟩
    clear hW2 i1 i1f
    have e1 := blk_cell HJ.out.1 0
    have e5 := blk_cell HJ.out.2.2.2.2.1 0
    simp at e1 e5
    refine wp_mono (Q := OfMid w A1 m1 m2 a s'.ws) ?_ ?_
    · go_region_law (first | (go_simp; go_at_call 110; (with_reducible refine (HCN.out _).mono ?_); rintro e W ⟨rfl, hW⟩; obtain rfl := hW.symm) | (go_simp; go_at_call 161; (with_reducible refine (HCL.out _ HJ.out.2.2.2.2.2.drew).mono ?_); rintro e W3 ⟨A', c', rfl, hr3, hb3⟩; have HB3 := Aside0.mk hb3; have HY := Aside0.mk (And.intro (blk_below (w := W2.drew) (blk_drew HJ.out.1) hb3) (And.intro (blk_below (w := W2.drew) (blk_drew HJ.out.2.1) hb3) (And.intro (blk_below (w := W2.drew) (blk_drew HJ.out.2.2.1) hb3) (blk_below (w := W2.drew) (blk_drew HJ.out.2.2.2.1) hb3)))); have HR3 := Aside0.mk hr3; have hc3 := R_fine hr3; have q1 := blk_cell (blk_below (w := W2.drew) (blk_drew HJ.out.1) hb3) 0; have q2 := blk_cell (blk_below (w := W2.drew) (blk_drew HJ.out.2.1) hb3) 0; have q3 := blk_cell (blk_below (w := W2.drew) (blk_drew HJ.out.2.2.1) hb3) 0; have q3' := blk_cell (blk_below (w := W2.drew) (blk_drew HJ.out.2.2.1) hb3) 1; have q4 := blk_cell (blk_below (w := W2.drew) (blk_drew HJ.out.2.2.2.1) hb3) 0; have f1 := blk_frozen (blk_below (w := W2.drew) (blk_drew HJ.out.1) hb3) 0; have f2 := blk_frozen (blk_below (w := W2.drew) (blk_drew HJ.out.2.1) hb3) 0; have f3 := blk_frozen (blk_below (w := W2.drew) (blk_drew HJ.out.2.2.1) hb3) 0; have f3' := blk_frozen (blk_below (w := W2.drew) (blk_drew HJ.out.2.2.1) hb3) 1; have f4 := blk_frozen (blk_below (w := W2.drew) (blk_drew HJ.out.2.2.2.1) hb3) 0; simp at q1 q2 q3 q3' q4; clear hr3 hb3) | (go_simp; go_at_call 160; (with_reducible refine (HCW.out _ _ _ hc3).mono ?_); rintro e W ⟨rfl, hW⟩; obtain rfl := hW.symm))
      all_goals (
        have hp4 := blk_lt HX.out.2.2.2.1
        have hs2 : W0.heap.size ≤ W2.heap.size := by rw [hWW.out, World.size_setCell]; exact HGS.out
        have hp5 : w.heap.size + 1 + 1 + 1 + 1 < W2.drew.heap.size := Nat.lt_of_lt_of_le hp4 hs2
        have hN3 : Row W3 W0.heap.size (.slice A1 m1 c1) a := (Row.below HRW.out (Below.refl _ _).drew).below HB3.out
        have hNF := ((((hN3.far (by omega) 0 (.slice A1 m1 m1) (p := w.heap.size + 1)).far (by omega) 0 (.slice A' m2 m2) (p := w.heap.size + 1 + 1)).far (by omega) 0 (.int .i64 0) (p := w.heap.size + 1 + 1 + 1)).far (by omega) 1 (.int .i64 0) (p := w.heap.size + 1 + 1 + 1)).far (by omega) 0 (.int .i64 0) (p := w.heap.size + 1 + 1 + 1 + 1)
        have hWF := ((((rowW_far HR3.out (by omega) 0 (.slice A1 m1 m1) (p := w.heap.size + 1)) |> fun h => rowW_far h (by omega) 0 (.slice A' m2 m2) (p := w.heap.size + 1 + 1)) |> fun h => rowW_far h (by omega) 0 (.int .i64 0) (p := w.heap.size + 1 + 1 + 1)) |> fun h => rowW_far h (by omega) 1 (.int .i64 0) (p := w.heap.size + 1 + 1 + 1)) |> fun h => rowW_far h (by omega) 0 (.int .i64 0) (p := w.heap.size + 1 + 1 + 1 + 1)
        obtain ⟨A4, c4, e4, _, hC4⟩ := Kd.R_reads hNF
        injection e4 with e41 e42 e43
        subst e41
        rw [← e42] at hC4
        obtain ⟨A5, c5, e5', _, hC5⟩ := Kd.R_reads hWF
        injection e5' with e51 e52 e53
        subst e51
        rw [← e52] at hC5
        obtain ⟨z1, z2, z3, z4, z5⟩ := fin_cells (v1 := .slice A1 m1 m1) (v2 := .slice A' m2 m2) (v3 := .int .i64 0) (v3' := .int .i64 0) (v4 := .int .i64 0) HY.out.1 HY.out.2.1 HY.out.2.2.1 HY.out.2.2.2 (by omega) (by omega) (by omega) (by omega) (by omega) (by omega)
        have hbz : Below w.heap.size w W3 := HJ.out.2.2.2.2.2.drew.trans (HB3.out.mono HJ.out.2.2.2.2.2.drew.size)
        exact ⟨rfl, ⟨rfl, rfl, rfl, rfl⟩, ⟨A', z1, z2, z3, z4, z5, hC4, hC5⟩, ((((hbz.setCell (p := ⟨w.heap.size + 1, 0, none⟩) (by show w.heap.size ≤ w.heap.size + 1; omega) _).setCell (p := ⟨w.heap.size + 1 + 1, 0, none⟩) (by show w.heap.size ≤ w.heap.size + 1 + 1; omega) _).setCell (p := ⟨w.heap.size + 1 + 1 + 1, 0, none⟩) (by show w.heap.size ≤ w.heap.size + 1 + 1 + 1; omega) _).setCell (p := ⟨w.heap.size + 1 + 1 + 1, 1, none⟩) (by show w.heap.size ≤ w.heap.size + 1 + 1 + 1; omega) _).setCell (p := ⟨w.heap.size + 1 + 1 + 1 + 1, 0, none⟩) (by show w.heap.size ≤ w.heap.size + 1 + 1 + 1 + 1; omega) _⟩)
    · intro e a' W' hQ
      cases e with
      | normal =>
        obtain ⟨hd, ⟨t4, t5, t6, t7⟩, ⟨A', z1, z2, z3, z4, z5, hC4, hC5⟩, hB⟩ := hQ
        go_wp2
        show Leaves _ _ a'.tmps _ a'.defers .returning W'
        rw [hd]
        refine leaves_cons (f := 158) (args := #[.pointer (some ⟨w.heap.size + 1, 0, none⟩), .pointer (some ⟨w.heap.size + 1 + 1, 0, none⟩), .pointer (some ⟨w.heap.size + 1 + 1 + 1, 0, none⟩), .pointer (some ⟨w.heap.size + 1 + 1 + 1 + 1, 0, none⟩)]) (by simp) (by simp [go_sem]) ?_
        refine (catch_idle _ _ _ _ W').mono ?_
        rintro e u' w'' ⟨rfl, rfl, rfl⟩
        rw [HRR.out]
        refine ⟨.tuple #[.slice A1 m1 m1, .slice A' m2 m2, .agg #[.int .i64 0, .int .i64 0], .int .i64 0], ?_, ⟨A1, A', ?_, ?_, ?_⟩, hB⟩
        · simp only [Array.getD_eq_getD_getElem?] at t4 t5 t6 t7
          simp [results, Tryz.f100, go_sem, t4, t5, t6, t7, z1, z2, z3, z4, z5]
        · rw [HC1.out.1, HC1.out.2]
        · rw [← HC1.out.1]; exact hC4
        · rw [← HC1.out.2]; exact hC5
      | _ => exact hQ.elim
  · have HRR := Aside0.mk (HR.out.trans hr)
    have gne : ∀ i, w.heap.size + i ≠ w.heap.size + 1 + 1 + 1 + 1 + 1 → some (w.heap.size + i) ≠ some (w.heap.size + 1 + 1 + 1 + 1 + 1) := fun i h e => h (Option.some.inj e)
    have j1 := blk_grown HX.out.1 hg (by simp)
    have j2 := blk_grown HX.out.2.1 hg (by simp)
    have j3 := blk_grown HX.out.2.2.1 hg (by simp)
    have j4 := blk_grown HX.out.2.2.2.1 hg (by simp)
    have hB1 : Below w.heap.size w W1 := below_gB HX.out.2.2.2.2 hg (by omega)
    have HC := Aside0.mk (catch_panicking (w.heap.size + 1) (w.heap.size + 1 + 1) (w.heap.size + 1 + 1 + 1) (w.heap.size + 1 + 1 + 1 + 1) k l co W1 j1 j2 j3 j4 (by omega) (by omega) (by omega) (by omega) (by omega) (by omega) w.heap.size w ⟨by omega, by omega, by omega, by omega⟩ hB1 hB1.size)
    clear hres hr hg gne j1 j2 j3 j4 hB1
    go_wp2
    refine leaves_cons (f := 158) (args := #[.pointer (some ⟨w.heap.size + 1, 0, none⟩), .pointer (some ⟨w.heap.size + 1 + 1, 0, none⟩), .pointer (some ⟨w.heap.size + 1 + 1 + 1, 0, none⟩), .pointer (some ⟨w.heap.size + 1 + 1 + 1 + 1, 0, none⟩)]) (by simp) (by simp [go_sem]) ?_
    refine HC.out.mono ?_
    rintro e u' w'' ⟨rfl, rfl, ⟨q1, q2, q3, q3', q4⟩, hB⟩
    rw [HRR.out]
    refine ⟨.tuple #[.slice none 0 0, .slice none 0 0, .agg #[.int .i64 l, .int .i64 co], .int .i64 k], ?_, rfl, hB⟩
    simp [results, Tryz.f100, go_sem, q1, q2, q3, q3', q4]
end Tr
end Go.Proofs.YtdecijmncpbheaaGreatDoor
