/- The book of lists: the kind Node (printed by wip/tools/genbk.py). -/
import Derived.Test.YtbdecnagdnancaaGreatDoorBkF

namespace Go.Proofs.YtbdecnagdnancaaGreatDoor
open Go.RowKit Go.Proofs.YtbdecnagdnancaaGreatDoorW.PrintWords Go.Proofs.YtbdecnagdnancaaGreatDoorW.PrintLast Go.Proofs.YtbdecnagdnancaaGreatDoorW.PrintMore
set_option linter.unusedVariables false
set_option linter.unusedSimpArgs false
namespace Bk
theorem infoHNode : (Tryz.prog.info? 207).map (fun i => (i.zero, i.size, i.bytes)) = some (some (.agg #[.slice none 0 0, .slice none 0 0, .int .i64 0]), 3, 56) := by kernel_rfl
set_option maxRecDepth 100000 in
set_option maxHeartbeats 8000000 in
theorem keepNode_calls (w : World) (b0 b N c n : Nat) (A LA : Option Addr) (Ln Lc : Nat) (hs : List Hd) (cs : Array Value) (hN : N = hs.length) (hbk : w.heap[b]? = some (.cells cs 45 (0, 0))) (hc0 : cs[0]? = some (.int .i64 (n : Int))) (hc8 : cs[8]? = some (.slice A N c))
    (hH : kHeld.R 207 w b0 (fun _ => True) (.slice A N c) hs) (hb0 : b0 ≤ b) (hn : n ≤ 1000) (hN9 : N ≤ 1000) :
    Calls Tryz.prog 110 #[.pointer (some ⟨b, 0, none⟩), .slice LA Ln Lc] w fun e w' => e = .returned (.tuple #[]) ∧ ∃ A' c', w'.heap[b]? = some (.cells ((cs.setIfInBounds 0 (.int .i64 ((n : Int) + 1))).setIfInBounds 8 (.slice A' (N + 1) c')) 45 (0, 0)) ∧ kHeld.R 207 w' b0 (fun _ => True) (.slice A' (N + 1) c') (hs ++ [⟨LA, Ln, Lc, none, 0, 0, n + 1⟩]) ∧ Kept2 207 45 b0 w w' := by
  have hbw : b0 ≤ w.heap.size := Nat.le_trans hb0 (Nat.le_of_lt (blk_lt hbk))
  have HBK := Aside0.mk hbk
  have HN := Aside0.mk hN
  have HH := Aside0.mk hH
  have c0 := (blk_cell hbk 0).trans hc0
  have f0 := blk_frozen hbk 0
  have h1 := blk_put hbk 0 (.int .i64 ((n : Int) + 1)) rfl
  have hk1 := Kept2.cell (e := 207) (e2 := 45) (o := 0) hb0 (.inr rfl) hbk (.int .i64 ((n : Int) + 1))
  obtain ⟨W1, hW1⟩ : ∃ W, W = w.setCell ⟨b, 0, none⟩ (.int .i64 ((n : Int) + 1)) := ⟨_, rfl⟩
  rw [← hW1] at h1 hk1
  have d0 : W1.cell? ⟨b, 0, none⟩ = some (.int .i64 ((n : Int) + 1)) := (blk_cell h1 0).trans (by rw [Array.getElem?_setIfInBounds_self]; have := (Array.getElem?_eq_some_iff.1 hc0).1; simp [this])
  have d8 : W1.cell? ⟨b, 8, none⟩ = some (.slice A N c) := (blk_cell h1 8).trans (by rw [Array.getElem?_setIfInBounds_ne (by decide)]; exact hc8)
  have f8 := blk_frozen h1 8
  have hR1 := Kd.R_set hH hbk (fun t ht => by have ht : t = 207 := List.mem_singleton.1 (show t ∈ [207] from ht); rw [ht]; decide) 0 (.int .i64 ((n : Int) + 1))
  rw [← hW1] at hR1
  have HR1 := Aside0.mk hR1
  have H1 := Aside0.mk h1
  have HK1 := Aside0.mk hk1
  have HSZ : Aside0 (b0 ≤ W1.heap.size) := ⟨Nat.le_trans hbw hk1.below.size⟩
  have HW1 := Aside0.mk hW1
  clear hbk hN hH hc0 hc8 h1 hk1 hR1 hW1
  go_enter Tryz.func110, Tryz.ntmps110
  go_upto_region 1 with fail
  rw [← HW1.out]
  have HC : Aside0 (kHeld.C (W1.alloc (.cells #[.slice LA Ln Lc, .slice none 0 0, .int .i64 ((n : Int) + 1)] 207)).drew (some ⟨W1.heap.size, 0, none⟩) 1 [⟨LA, Ln, Lc, none, 0, 0, n + 1⟩]) := ⟨by
    have h := reps_cons (R := kHeld.K (W1.alloc (.cells #[.slice LA Ln Lc, .slice none 0 0, .int .i64 ((n : Int) + 1)] 207)).drew) (p := (⟨LA, Ln, Lc, none, 0, 0, n + 1⟩ : Hd)) (c := [.slice LA Ln Lc, .slice none 0 0, .int .i64 ((n : Int) + 1)]) (by show _ = heldC _; rfl) rfl (Reps.none _ kHeld.sz)
    exact C_block (blk_drew (blk_new W1 _)) h (show 1 ≤ 9223372036854775807 by decide)⟩
  have d0' : (W1.alloc (.cells #[.slice LA Ln Lc, .slice none 0 0, .int .i64 ((n : Int) + 1)] 207)).cell? ⟨b, 0, none⟩ = some (.int .i64 ((n : Int) + 1)) := pw_cell_below (below_alloc (Below.refl W1.heap.size W1) _) d0
  have d8' : (W1.alloc (.cells #[.slice LA Ln Lc, .slice none 0 0, .int .i64 ((n : Int) + 1)] 207)).cell? ⟨b, 8, none⟩ = some (.slice A N c) := pw_cell_below (below_alloc (Below.refl W1.heap.size W1) _) d8
  go_region_law (refine step_append_R rfl kHeld b0 (.tmp 15) (.tmp 22) 36 36 207 207 (.agg #[.slice none 0 0, .slice none 0 0, .int .i64 0]) 56 rfl (by kernel_rfl) (by kernel_rfl) infoHNode rfl (by decide) (by decide) (.slice A N c) hs [⟨LA, Ln, Lc, none, 0, 0, n + 1⟩] (some ⟨W1.heap.size, 0, none⟩) 1 1 (fun _ => True) (fun _ => False) rfl rfl (Kd.R_below HR1.out (below_alloc (Below.refl _ _) _).drew) HC.out (fun x cs h => h) (fun _ h => h.elim) (fun _ _ => trivial) (Nat.le_trans HSZ.out (below_alloc (Below.refl W1.heap.size W1) _).drew.size) (by rw [← HN.out]; omega) ?_; intro v1 w1 HO1 hg1 hat; obtain ⟨A2, c2, rfl⟩ := Kd.R_slice HO1; rw [List.length_append, List.length_singleton, ← HN.out] at HO1 ⊢; have HBA := Aside0.mk (below_alloc (Below.refl W1.heap.size W1) (.cells #[.slice LA Ln Lc, .slice none 0 0, .int .i64 ((n : Int) + 1)] 207)).drew; have hbx := blk_grown (blk_below H1.out HBA.out) hg1 (Kd.R_ne (Kd.R_below HR1.out HBA.out) (blk_below H1.out HBA.out) (by decide)); have f8' := blk_frozen hbx 8; obtain ⟨u8, hu8⟩ : ∃ u, w1.cell? ⟨b, 8, none⟩ = some u := ⟨_, (blk_cell hbx 8).trans ((blk_cell H1.out 8).symm.trans d8)⟩; have HBX := Aside0.mk hbx; have HO2 := Aside0.mk HO1; have HKA := Aside0.mk ((HK1.out.trans (Kept2.of_below HBA.out HSZ.out)).trans (Kept2.own (Kd.R_below HR1.out HBA.out) hg1 (Nat.le_trans HSZ.out HBA.out.size))); clear HO1 hg1 hat hbx)
  all_goals (
    go_wp2
    go_end0
    exact ⟨rfl, A2, c2, blk_put HBX.out 8 _ rfl, Kd.R_set HO2.out HBX.out (fun t ht => by have ht : t = 207 := List.mem_singleton.1 (show t ∈ [207] from ht); rw [ht]; decide) _ _, HKA.out.trans (Kept2.cell hb0 (.inr rfl) HBX.out _)⟩)
set_option maxRecDepth 100000 in
set_option maxHeartbeats 4000000 in
theorem Nodes_calls (w : World) (b0 b N c n : Nat) (A LA : Option Addr) (Ln Lc : Nat) (hs : List Hd) (cs : Array Value) (hN : N = hs.length) (hbk : w.heap[b]? = some (.cells cs 45 (0, 0))) (hc0 : cs[0]? = some (.int .i64 (n : Int))) (hc8 : cs[8]? = some (.slice A N c))
    (hH : kHeld.R 207 w b0 (fun _ => True) (.slice A N c) hs) (hb0 : b0 ≤ b) (hn : n ≤ 1000) (hN9 : N ≤ 1000) :
    Calls Tryz.prog 23 #[.pointer (some ⟨b, 0, none⟩), .slice LA Ln Lc] w fun e w' => e = .returned (.tuple #[]) ∧ ∃ A' c', w'.heap[b]? = some (.cells ((cs.setIfInBounds 0 (.int .i64 ((n : Int) + 1))).setIfInBounds 8 (.slice A' (N + 1) c')) 45 (0, 0)) ∧ kHeld.R 207 w' b0 (fun _ => True) (.slice A' (N + 1) c') (hs ++ [⟨LA, Ln, Lc, none, 0, 0, n + 1⟩]) ∧ Kept2 207 45 b0 w w' := by
  have HK := Aside0.mk (keepNode_calls w b0 b N c n A LA Ln Lc hs cs hN hbk hc0 hc8 hH hb0 hn hN9)
  clear hN hbk hc0 hc8 hH
  go_enter Tryz.func23, Tryz.ntmps23
  go_wp2_with (go_at_call 110; (with_reducible refine HK.out.mono ?_); rintro e W' ⟨rfl, hh⟩; have HH := Aside0.mk hh; clear hh)
  go_end0
  exact ⟨rfl, HH.out⟩
end Bk
end Go.Proofs.YtbdecnagdnancaaGreatDoor
