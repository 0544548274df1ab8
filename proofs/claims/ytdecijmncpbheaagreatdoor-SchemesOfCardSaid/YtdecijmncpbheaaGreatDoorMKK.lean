/- Several texts as one: BkKNode, BkKNum, BkKBound, BkApNBU. -/
import Derived.Test.YtdecijmncpbheaaGreatDoorMK
import Derived.Test.YtdecijmncpbheaaGreatDoorMC
import Derived.Test.YtdecijmncpbheaaGreatDoorMS

namespace Go.Proofs.YtdecijmncpbheaaGreatDoor
open Go.RowKit Go.Proofs.YtdecijmncpbheaaGreatDoorW.PrintWords Go.Proofs.YtdecijmncpbheaaGreatDoorW.PrintLast Go.Proofs.YtdecijmncpbheaaGreatDoorW.PrintMore
set_option linter.unusedVariables false
set_option linter.unusedSimpArgs false
namespace Bk
theorem infoHNode : (Tryz.prog.info? 167).map (fun i => (i.zero, i.size, i.bytes)) = some (some (.agg #[.slice none 0 0, .slice none 0 0, .int .i64 0]), 3, 56) := by kernel_rfl
set_option maxRecDepth 100000 in
set_option maxHeartbeats 8000000 in
theorem keepNode_calls (w : World) (b0 b N c n : Nat) (A LA : Option Addr) (Ln Lc : Nat) (hs : List Hd) (cs : Array Value) (hN : N = hs.length) (hbk : w.heap[b]? = some (.cells cs 66 (0, 0))) (hc0 : cs[0]? = some (.int .i64 (n : Int))) (hc8 : cs[8]? = some (.slice A N c))
    (hH : kHeld.R 167 w b0 (fun _ => True) (.slice A N c) hs) (hb0 : b0 ≤ b) (hn : n ≤ 1000) (hN9 : N ≤ 1000) :
    Calls Tryz.prog 51 #[.pointer (some ⟨b, 0, none⟩), .slice LA Ln Lc] w fun e w' => e = .returned (.tuple #[]) ∧ ∃ A' c', w'.heap[b]? = some (.cells ((cs.setIfInBounds 0 (.int .i64 ((n : Int) + 1))).setIfInBounds 8 (.slice A' (N + 1) c')) 66 (0, 0)) ∧ kHeld.R 167 w' b0 (fun _ => True) (.slice A' (N + 1) c') (hs ++ [⟨LA, Ln, Lc, none, 0, 0, n + 1⟩]) ∧ Kept2 167 66 b0 w w' := by
  have hbw : b0 ≤ w.heap.size := Nat.le_trans hb0 (Nat.le_of_lt (blk_lt hbk))
  have HBK := Aside0.mk hbk
  have HN := Aside0.mk hN
  have HH := Aside0.mk hH
  have c0 := (blk_cell hbk 0).trans hc0
  have f0 := blk_frozen hbk 0
  have h1 := blk_put hbk 0 (.int .i64 ((n : Int) + 1)) rfl
  have hk1 := Kept2.cell (e := 167) (e2 := 66) (o := 0) hb0 (.inr rfl) hbk (.int .i64 ((n : Int) + 1))
  obtain ⟨W1, hW1⟩ : ∃ W, W = w.setCell ⟨b, 0, none⟩ (.int .i64 ((n : Int) + 1)) := ⟨_, rfl⟩
  rw [← hW1] at h1 hk1
  have d0 : W1.cell? ⟨b, 0, none⟩ = some (.int .i64 ((n : Int) + 1)) := (blk_cell h1 0).trans (by rw [Array.getElem?_setIfInBounds_self]; have := (Array.getElem?_eq_some_iff.1 hc0).1; simp [this])
  have d8 : W1.cell? ⟨b, 8, none⟩ = some (.slice A N c) := (blk_cell h1 8).trans (by rw [Array.getElem?_setIfInBounds_ne (by decide)]; exact hc8)
  have f8 := blk_frozen h1 8
  have hR1 := Kd.R_set hH hbk (fun t ht => by have ht : t = 167 := List.mem_singleton.1 (show t ∈ [167] from ht); rw [ht]; decide) 0 (.int .i64 ((n : Int) + 1))
  rw [← hW1] at hR1
  have HR1 := Aside0.mk hR1
  have H1 := Aside0.mk h1
  have HK1 := Aside0.mk hk1
  have HSZ : Aside0 (b0 ≤ W1.heap.size) := ⟨Nat.le_trans hbw hk1.below.size⟩
  have HW1 := Aside0.mk hW1
  clear hbk hN hH hc0 hc8 h1 hk1 hR1 hW1
  go_enter Tryz.func51, Tryz.ntmps51
  go_upto_region 1 with fail
  rw [← HW1.out]
  have HC : Aside0 (kHeld.C (W1.alloc (.cells #[.slice LA Ln Lc, .slice none 0 0, .int .i64 ((n : Int) + 1)] 167)).drew (some ⟨W1.heap.size, 0, none⟩) 1 [⟨LA, Ln, Lc, none, 0, 0, n + 1⟩]) := ⟨by
    have h := reps_cons (R := kHeld.K (W1.alloc (.cells #[.slice LA Ln Lc, .slice none 0 0, .int .i64 ((n : Int) + 1)] 167)).drew) (p := (⟨LA, Ln, Lc, none, 0, 0, n + 1⟩ : Hd)) (c := [.slice LA Ln Lc, .slice none 0 0, .int .i64 ((n : Int) + 1)]) (by show _ = heldC _; rfl) rfl (Reps.none _ kHeld.sz)
    exact C_block (blk_drew (blk_new W1 _)) h (show 1 ≤ 9223372036854775807 by decide)⟩
  have d0' : (W1.alloc (.cells #[.slice LA Ln Lc, .slice none 0 0, .int .i64 ((n : Int) + 1)] 167)).cell? ⟨b, 0, none⟩ = some (.int .i64 ((n : Int) + 1)) := pw_cell_below (below_alloc (Below.refl W1.heap.size W1) _) d0
  have d8' : (W1.alloc (.cells #[.slice LA Ln Lc, .slice none 0 0, .int .i64 ((n : Int) + 1)] 167)).cell? ⟨b, 8, none⟩ = some (.slice A N c) := pw_cell_below (below_alloc (Below.refl W1.heap.size W1) _) d8
  go_region_law (refine step_append_R rfl kHeld b0 (.tmp 15) (.tmp 22) 57 57 167 167 (.agg #[.slice none 0 0, .slice none 0 0, .int .i64 0]) 56 rfl (by kernel_rfl) (by kernel_rfl) infoHNode rfl (by decide) (by decide) (.slice A N c) hs [⟨LA, Ln, Lc, none, 0, 0, n + 1⟩] (some ⟨W1.heap.size, 0, none⟩) 1 1 (fun _ => True) (fun _ => False) rfl rfl (Kd.R_below HR1.out (below_alloc (Below.refl _ _) _).drew) HC.out (fun x cs h => h) (fun _ h => h.elim) (fun _ _ => trivial) (Nat.le_trans HSZ.out (below_alloc (Below.refl W1.heap.size W1) _).drew.size) (by rw [← HN.out]; omega) ?_; intro v1 w1 HO1 hg1 hat; obtain ⟨A2, c2, rfl⟩ := Kd.R_slice HO1; rw [List.length_append, List.length_singleton, ← HN.out] at HO1 ⊢; have HBA := Aside0.mk (below_alloc (Below.refl W1.heap.size W1) (.cells #[.slice LA Ln Lc, .slice none 0 0, .int .i64 ((n : Int) + 1)] 167)).drew; have hbx := blk_grown (blk_below H1.out HBA.out) hg1 (Kd.R_ne (Kd.R_below HR1.out HBA.out) (blk_below H1.out HBA.out) (by decide)); have f8' := blk_frozen hbx 8; obtain ⟨u8, hu8⟩ : ∃ u, w1.cell? ⟨b, 8, none⟩ = some u := ⟨_, (blk_cell hbx 8).trans ((blk_cell H1.out 8).symm.trans d8)⟩; have HBX := Aside0.mk hbx; have HO2 := Aside0.mk HO1; have HKA := Aside0.mk ((HK1.out.trans (Kept2.of_below HBA.out HSZ.out)).trans (Kept2.own (Kd.R_below HR1.out HBA.out) hg1 (Nat.le_trans HSZ.out HBA.out.size))); clear HO1 hg1 hat hbx)
  all_goals (
    go_wp2
    go_end0
    exact ⟨rfl, A2, c2, blk_put HBX.out 8 _ rfl, Kd.R_set HO2.out HBX.out (fun t ht => by have ht : t = 167 := List.mem_singleton.1 (show t ∈ [167] from ht); rw [ht]; decide) _ _, HKA.out.trans (Kept2.cell hb0 (.inr rfl) HBX.out _)⟩)
set_option maxRecDepth 100000 in
set_option maxHeartbeats 4000000 in
theorem Nodes_calls (w : World) (b0 b N c n : Nat) (A LA : Option Addr) (Ln Lc : Nat) (hs : List Hd) (cs : Array Value) (hN : N = hs.length) (hbk : w.heap[b]? = some (.cells cs 66 (0, 0))) (hc0 : cs[0]? = some (.int .i64 (n : Int))) (hc8 : cs[8]? = some (.slice A N c))
    (hH : kHeld.R 167 w b0 (fun _ => True) (.slice A N c) hs) (hb0 : b0 ≤ b) (hn : n ≤ 1000) (hN9 : N ≤ 1000) :
    Calls Tryz.prog 20 #[.pointer (some ⟨b, 0, none⟩), .slice LA Ln Lc] w fun e w' => e = .returned (.tuple #[]) ∧ ∃ A' c', w'.heap[b]? = some (.cells ((cs.setIfInBounds 0 (.int .i64 ((n : Int) + 1))).setIfInBounds 8 (.slice A' (N + 1) c')) 66 (0, 0)) ∧ kHeld.R 167 w' b0 (fun _ => True) (.slice A' (N + 1) c') (hs ++ [⟨LA, Ln, Lc, none, 0, 0, n + 1⟩]) ∧ Kept2 167 66 b0 w w' := by
  have HK := Aside0.mk (keepNode_calls w b0 b N c n A LA Ln Lc hs cs hN hbk hc0 hc8 hH hb0 hn hN9)
  clear hN hbk hc0 hc8 hH
  go_enter Tryz.func20, Tryz.ntmps20
  go_wp2_with (go_at_call 51; (with_reducible refine HK.out.mono ?_); rintro e W' ⟨rfl, hh⟩; have HH := Aside0.mk hh; clear hh)
  go_end0
  exact ⟨rfl, HH.out⟩
end Bk
end Go.Proofs.YtdecijmncpbheaaGreatDoor

namespace Go.Proofs.YtdecijmncpbheaaGreatDoor
open Go.RowKit Go.Proofs.YtdecijmncpbheaaGreatDoorW.PrintWords Go.Proofs.YtdecijmncpbheaaGreatDoorW.PrintLast Go.Proofs.YtdecijmncpbheaaGreatDoorW.PrintMore
set_option linter.unusedVariables false
set_option linter.unusedSimpArgs false
namespace Bk
def markNum (k : Nat) : Int := (k : Int)
theorem infoNum : (Tryz.prog.info? 91).map (fun i => (i.zero, i.size, i.bytes)) = some (some (.int .u64 0), 1, 8) := by kernel_rfl
theorem markNum_calls (w : World) (k : Nat) (hk : k ≤ 99) : Calls Tryz.prog 124 #[.int .i64 (k : Int)] w fun e w' => e = .returned (.int .u64 (k : Int)) ∧ Below w.heap.size w w' := by
  go_enter Tryz.func124, Tryz.ntmps124
  go_wp2
  go_ret
  exact ⟨rfl, Below.refl _ _⟩
theorem isNum_calls (w : World) (k : Nat) (hk : k ≤ 99) : Calls Tryz.prog 139 #[(.int .u64 (k : Int)), .int .i64 (k : Int)] w fun e w' => e = .returned (.bool true) ∧ Below w.heap.size w w' := by
  go_enter Tryz.func139, Tryz.ntmps139
  go_wp2
  go_ret
  exact ⟨by simp, Below.refl _ _⟩
theorem oneNum (w : World) (k : Nat) : (Kd.int .u64).C (w.alloc (.cells #[.int .u64 (k : Int)] 91)) (some ⟨w.heap.size, 0, none⟩) 1 [markNum k] := by
  exact C_one_new _ w _ 91
theorem M_Num {w : World} {base : Nat} {x : Int} {cs : List Value} (h : (Kd.int .u64).K w x cs) : (Kd.int .u64).M w base (fun _ => False) x cs := by
  exact h
theorem hasNum {e base g n cap : Nat} {ok : Nat → Prop} {W : World} {xs : List Int} (h : (Kd.int .u64).R e W base ok (.slice (some ⟨g, 0, none⟩) n cap) xs) (k : Nat) (hk : k < n) : (∃ v0, W.cell? ⟨g, k, none⟩ = some v0) ∧ W.frozen? ⟨g, k, none⟩ = false := by
  have H := fun j (hj : j < 1) => R_has h (markNum 0) k hk j hj
  obtain ⟨v0, q0, r0⟩ := H 0 (by decide)
  have e0 : k * (Kd.int .u64).sz + 0 = k := Nat.mul_one k
  rw [e0] at q0 r0
  exact ⟨⟨v0, q0⟩, r0⟩
theorem atNum {w : World} {A : Option Addr} {n k : Nat} (h : (Kd.int .u64).C w A n (List.replicate n (markNum k))) (j : Nat) (hj : j < n) : ∃ ad, A = some ad ∧ w.cell? (ad.add j) = some (.int .u64 (k : Int)) := by
  obtain ⟨ad, e, x0⟩ := C_intN (xs := List.replicate n (markNum k)) (by rw [List.length_replicate]; exact h) j (by rw [List.length_replicate]; exact hj)
  rw [List.getElem_replicate] at x0
  exact ⟨ad, e, x0⟩
set_option maxRecDepth 100000 in
set_option maxHeartbeats 16000000 in
theorem fillNum_calls (w : World) (base b0 b N c : Nat) (A : Option Addr) (ok : Nat → Prop) (hs : List Hd) (xs : Nat → List Int) (cs : Array Value) (hN : N = hs.length) (hbk : w.heap[b]? = some (.cells cs 66 (0, 0))) (hc8 : cs[4]? = some (.slice A N c))
    (hH : kHeld.R 165 w b0 ok (.slice A N c) hs) (hL : Lists (Kd.int .u64) 91 base hs w xs) (hn : ∀ x ∈ hs, x.n ≤ 5000 ∧ x.k ≤ 99) (ha : Apart hs) (hbs : base ≤ w.heap.size) (hN9 : N ≤ 1000) :
    Calls Tryz.prog 55 #[.pointer (some ⟨b, 0, none⟩)] w fun e w' => e = .returned (.tuple #[]) ∧ KeptE 91 base w w' ∧ Lists (Kd.int .u64) 91 base hs w' (filled markNum hs) := by
  have HBK := Aside0.mk (And.intro hbk (And.intro hH (And.intro ha hn)))
  have HN := Aside0.mk hN
  have HL := Aside0.mk hL
  have HC := Aside0.mk hc8
  clear hbk hH hN ha hn hL hc8
  go_enter Tryz.func55, Tryz.ntmps55
  go_wp2
  go_loopg [2] (N + 1) (fun gk v W => ∃ i : Nat, v = .int .i64 (i : Int) ∧ i ≤ N ∧ N + 1 - i ≤ gk ∧ Aside0 (Lists (Kd.int .u64) 91 base hs W (fun j => if j < i then filled markNum hs j else xs j)) ∧ Aside0 (KeptE 91 base w W))
  case atStart => exact ⟨0, rfl, Nat.zero_le _, by omega, ⟨HL.out.congr (fun j _ => by simp)⟩, ⟨KeptE.refl _ _ _⟩⟩
  case round =>
    obtain ⟨i, rfl, hi, hkg, HLW, HKW⟩ := hrel
    have gx := HKW.out.same b _ HBK.out.1 (fun cells he => by injection he with _ h2; exact absurd h2 (by decide))
    have x8 := (blk_cell gx 4).trans HC.out
    clear gx
    rcases Nat.lt_or_ge i N with hlt | hge
    · have hd : decide (i < N) = true := decide_eq_true hlt
      have hil : i < hs.length := by rw [← HN.out]; exact hlt
      have hHW := R_keepE HBK.out.2.1 rfl (by decide) HKW.out
      obtain ⟨ad, rfl, y0, y1, y2⟩ := C_held (Kd.R_reads' hHW).2.2 rfl i hil
      obtain ⟨x, hx⟩ : ∃ x, hs[i] = x := ⟨_, rfl⟩
      rw [hx] at y0 y1 y2
      obtain ⟨xA, xn, xc, xB, xm, xq, xk⟩ := x
      dsimp only at y0 y1 y2
      have hxi : hs[i]? = some ⟨xA, xn, xc, xB, xm, xq, xk⟩ := by rw [List.getElem?_eq_getElem hil, hx]
      have hb := HBK.out.2.2.2 _ (hx ▸ List.getElem_mem hil)
      dsimp only at hb
      have HX := Aside0.mk hxi
      clear hHW hx hxi
      go_wp2
      have HG : Aside0 ((wr.alloc (.cells #[.slice xA xn xc, .slice xB xm xq, .int .i64 (xk : Int)] 165)).heap[wr.heap.size]? = some (.cells #[.slice xA xn xc, .slice xB xm xq, .int .i64 (xk : Int)] 165 (0, 0))) := ⟨blk_new _ _⟩
      have HLB := Aside0.mk (HLW.out.below (below_alloc (Below.refl wr.heap.size wr) (.cells #[.slice xA xn xc, .slice xB xm xq, .int .i64 (xk : Int)] 165)))
      have HKB := Aside0.mk (HKW.out.trans (KeptE.of_below (below_alloc (Below.refl wr.heap.size wr) (.cells #[.slice xA xn xc, .slice xB xm xq, .int .i64 (xk : Int)] 165)) (Nat.le_trans hbs HKW.out.below.size)))
      generalize World.alloc wr (.cells #[.slice xA xn xc, .slice xB xm xq, .int .i64 (xk : Int)] 165) = wb at *
      clear y0 y1 y2 HLW x8
      obtain ⟨g0, rfl⟩ : ∃ g0, gk = g0 + 1 := ⟨gk - 1, by omega⟩
      go_loopg [4] (xn + 1) (fun gk v W => ∃ k : Nat, v = .int .i64 (k : Int) ∧ k ≤ xn ∧ xn + 1 - k ≤ gk ∧ Aside0 (Lists (Kd.int .u64) 91 base hs W (fun j => if j = i then List.replicate k (markNum xk) ++ (xs i).drop k else if j < i then filled markNum hs j else xs j)) ∧ Aside0 (KeptE 91 base wb W))
      case atStart => exact ⟨0, rfl, Nat.zero_le _, by omega, ⟨HLB.out.congr (fun j _ => by by_cases hj : j = i <;> simp [hj])⟩, ⟨KeptE.refl _ _ _⟩⟩
      case round =>
        obtain ⟨k, rfl, hk, hkg2, HLW, HKW2⟩ := hrel
        have gx := HKW2.out.same _ _ HG.out (fun cells he => by injection he with _ h2; exact absurd h2 (by decide))
        have z0 := (blk_cell gx 0).trans (show _ = some (Value.slice xA xn xc) from rfl)
        have z2 := (blk_cell gx 2).trans (show _ = some (Value.int .i64 (xk : Int)) from rfl)
        clear gx
        rcases Nat.lt_or_ge k xn with hlt2 | hge2
        · have hd2 : decide (k < xn) = true := decide_eq_true hlt2
          obtain ⟨Q, hQ, hli⟩ := HLW.out i _ HX.out
          have HLI := Aside0.mk hli
          clear hli
          obtain ⟨g, rfl⟩ := R_pos HLI.out (show 0 < xn by omega)
          have hlx : (List.replicate k (markNum xk) ++ (xs i).drop k).length = xn := by
            have := (Kd.R_reads' HLI.out).1
            simp only [if_pos] at this
            exact this.symm
          have HLX := Aside0.mk hlx
          clear hlx
          go_wp2
          go_region_with (go_at_call 124; (with_reducible refine (markNum_calls _ xk hb.2).mono ?_); rintro e W4 ⟨rfl, hb4⟩; have HB4 := Aside0.mk ((Below.refl wr.heap.size wr).drew.trans hb4); clear hb4; have t0 := pw_cell_below HB4.out z0; have t2 := pw_cell_below HB4.out z2; obtain ⟨⟨v0, q0⟩, r0⟩ := hasNum (Kd.R_below HLI.out HB4.out) k hlt2)
          all_goals (
            go_wp2
            go_roundg (gk - 1)
            case measure => omega
            case rel =>
              have hp := R_puts (Kd.R_below HLI.out HB4.out) k hlt2 (markNum xk) [.int .u64 (xk : Int)] rfl rfl
              rw [show k * (Kd.int .u64).sz = k from Nat.mul_one k] at hp
              have hs5 := HLW.out.store rfl HBK.out.2.2.1 HX.out rfl HB4.out (Nat.le_trans hbs (HKB.out.trans HKW2.out).below.size) hp.2 ⟨Q, hQ, hp.1⟩
              refine ⟨k + 1, by go_num, by omega, by omega, ⟨hs5.1.congr (fun j _ => ?_)⟩, ⟨HKW2.out.trans hs5.2⟩⟩
              have hxl : k < (xs i).length := by have := HLX.out; simp only [List.length_append, List.length_replicate, List.length_drop] at this; omega
              by_cases hj : j = i
              · subst hj
                simp only [if_pos]
                exact marks_step (xs j) (markNum xk) k hxl
              · rw [if_neg hj, if_neg hj, if_neg hj])
        · have hd2 : decide (k < xn) = false := decide_eq_false (by omega)
          have HE : Aside0 (k = xn) := ⟨by omega⟩
          have hxl : (xs i).drop k = [] := by
            have := (HLW.out i _ HX.out).reads.1
            simp only [if_pos, List.length_append, List.length_replicate, List.length_drop] at this
            exact List.drop_eq_nil_of_le (by omega)
          have HXL := Aside0.mk hxl
          clear hge2 hkg2 hxl
          go_wp2
          go_roundg g0
          case measure => omega
          case rel =>
            refine ⟨i + 1, by go_num, by omega, by omega, ⟨HLW.out.congr (fun j _ => ?_)⟩, ⟨HKB.out.trans HKW2.out⟩⟩
            by_cases hj : j = i
            · rw [if_pos hj, if_pos (by omega), HXL.out, List.append_nil, hj, HE.out, filled, HX.out]
              rfl
            · by_cases hj2 : j < i
              · rw [if_neg hj, if_pos hj2, if_pos (by omega)]
              · rw [if_neg hj, if_neg hj2, if_neg (by omega)]
    · have hd : decide (i < N) = false := decide_eq_false (by omega)
      have HE : Aside0 (i = N) := ⟨by omega⟩
      clear hi hge hkg
      go_wp2
      go_end0
      exact ⟨rfl, HKW.out, HLW.out.congr (fun j hj => by rw [HE.out, HN.out, if_pos hj])⟩
set_option maxRecDepth 100000 in
set_option maxHeartbeats 16000000 in
theorem growNum_calls (w : World) (base b0 b N c : Nat) (A : Option Addr) (hs : List Hd) (cs : Array Value) (hN : N = hs.length) (hbk : w.heap[b]? = some (.cells cs 66 (0, 0))) (hc8 : cs[4]? = some (.slice A N c))
    (hH : kHeld.R 165 w b0 (fun _ => True) (.slice A N c) hs) (hL : Lists (Kd.int .u64) 91 base hs w (filled markNum hs)) (hn : ∀ x ∈ hs, x.n ≤ 5000 ∧ x.k ≤ 99) (ha : Apart hs) (hbs : base ≤ w.heap.size) (hN9 : N ≤ 1000) (hb0 : base ≤ b0) :
    Calls Tryz.prog 70 #[.pointer (some ⟨b, 0, none⟩)] w fun e w' => e = .returned (.tuple #[]) ∧ Kept2 91 165 base w w' ∧ ∃ hs2, Same hs hs2 ∧ kHeld.R 165 w' b0 (fun _ => True) (.slice A N c) hs2 ∧ Lists (Kd.int .u64) 91 base hs w' (filled markNum hs) ∧ Longs (Kd.int .u64) 91 base w.heap.size markNum hs2 N w' := by
  have hlt : ∀ (j : Nat) (y : Hd), hs[j]? = some y → ∀ a, y.A = some a → a.block < w.heap.size := fun j y hy a hya => ((hL j y hy).typed a hya).2.1
  have HLT := Aside0.mk hlt
  have HBK := Aside0.mk (And.intro hbk (And.intro ha hn))
  have HN := Aside0.mk hN
  have HL := Aside0.mk hL
  have HH := Aside0.mk hH
  have HC := Aside0.mk hc8
  clear hbk hH hN ha hn hL hc8 hlt
  go_enter Tryz.func70, Tryz.ntmps70
  go_wp2
  go_loopg [2] (N + 1) (fun gk v W => ∃ (i : Nat) (hs2 : List Hd), v = .int .i64 (i : Int) ∧ i ≤ N ∧ N + 1 - i ≤ gk ∧ Aside0 (Same hs hs2 ∧ kHeld.R 165 W b0 (fun _ => True) (.slice A N c) hs2 ∧ Lists (Kd.int .u64) 91 base hs W (filled markNum hs) ∧ Longs (Kd.int .u64) 91 base w.heap.size markNum hs2 i W) ∧ Aside0 (Kept2 91 165 base w W))
  case atStart => exact ⟨0, hs, rfl, Nat.zero_le _, by omega, ⟨⟨rfl, fun j x hx => ⟨x, hx, rfl, rfl, rfl, rfl⟩⟩, HH.out, HL.out, fun j x hj => by omega⟩, ⟨Kept2.refl _ _ _ _⟩⟩
  case round =>
    obtain ⟨i, hs2, rfl, hi, hkg, HS, HK⟩ := hrel
    have gx := HK.out.same b _ HBK.out.1 (fun cells he => by injection he with _ h2; exact absurd h2 (by decide)) (fun cells he => by injection he with _ h2; exact absurd h2 (by decide))
    have x8 := (blk_cell gx 4).trans HC.out
    clear gx
    rcases Nat.lt_or_ge i N with hlt | hge
    · have hd : decide (i < N) = true := decide_eq_true hlt
      have hil : i < hs2.length := by rw [HS.out.1.1, ← HN.out]; exact hlt
      obtain ⟨ad, rfl, y0, y1, y2⟩ := C_held (Kd.R_reads' HS.out.2.1).2.2 rfl i hil
      obtain ⟨x, hx⟩ : ∃ x, hs2[i] = x := ⟨_, rfl⟩
      rw [hx] at y0 y1 y2
      have hxi : hs2[i]? = some x := by rw [List.getElem?_eq_getElem hil, hx]
      obtain ⟨y, hy, hyA, hyn, hyc, hyk⟩ := HS.out.1.2 i x hxi
      have hb := HBK.out.2.2 _ (List.mem_of_getElem? hy)
      rw [← hyn, ← hyk] at hb
      obtain ⟨xA, xn, xc, xB, xm, xq, xk⟩ := x
      dsimp only at y0 y1 y2 hb
      have HX := Aside0.mk hxi
      have HG0 : Aside0 (G (Kd.int .u64) 91 165 base b0 markNum w hs hs2 (some ad) N c i ⟨xA, xn, xc, xB, xm, xq, xk⟩ wr.heap.size wr xA 0 xc) := ⟨by
        have h1 := HS.out.2.2.1 i y hy
        rw [filled, hy] at h1
        simp only [Option.map_some, Option.getD_some, ← hyA, ← hyn, ← hyc, ← hyk] at h1
        refine ⟨h1, .inl ⟨rfl, rfl⟩, HS.out.2.2.1, HS.out.2.2.2, fun j z hj hz b hb => ?_, HS.out.2.1, HK.out⟩
        exact ((HS.out.2.2.2 j z hj hz).2.1.typed b hb).2.1⟩
      clear hx hxi hy hyA hyn hyc hyk
      go_wp2
      have HBX : Aside0 ((wr.alloc (.cells #[.slice xA xn xc, .slice xB xm xq, .int .i64 (xk : Int)] 165)).heap[wr.heap.size]? = some (.cells #[.slice xA xn xc, .slice xB xm xq, .int .i64 (xk : Int)] 165 (0, 0))) := ⟨blk_new _ _⟩
      have HG1 := Aside0.mk (HG0.out.below hbs (below_alloc (Below.refl wr.heap.size wr) (.cells #[.slice xA xn xc, .slice xB xm xq, .int .i64 (xk : Int)] 165)))
      generalize World.alloc wr (.cells #[.slice xA xn xc, .slice xB xm xq, .int .i64 (xk : Int)] 165) = wb at *
      clear HG0 y0 y1 y2 x8
      have hS1 := HK.out.below.size
      generalize wr.heap.size = S1 at *
      have HS1 := Aside0.mk hS1
      clear hS1
      obtain ⟨g0, rfl⟩ : ∃ g0, gk = g0 + 1 := ⟨gk - 1, by omega⟩
      go_loopg [4, 5] 41 (fun gk b4 b5 W => ∃ (k q : Nat) (B : Option Addr), b5 = .int .i64 (k : Int) ∧ b4 = .slice B (xn + k) q ∧ k ≤ 40 ∧ 41 - k ≤ gk ∧ Aside0 (G (Kd.int .u64) 91 165 base b0 markNum w hs hs2 (some ad) N c i ⟨xA, xn, xc, xB, xm, xq, xk⟩ S1 W B k q) ∧ Aside0 (W.heap[S1]? = some (.cells #[.slice xA xn xc, .slice xB xm xq, .int .i64 (xk : Int)] 165 (0, 0))))
      case atStart => exact ⟨0, xc, xA, rfl, rfl, Nat.zero_le _, by omega, HG1, HBX⟩
      case round =>
        clear HG1 HBX
        obtain ⟨k, q, B, rfl, rfl, hk, hkg2, HG, HBX⟩ := hrel
        have z2 := (blk_cell HBX.out 2).trans (show _ = some (Value.int .i64 (xk : Int)) from rfl)
        rcases Nat.lt_or_ge k 40 with hlt2 | hge2
        · have hd2 : decide ((k : Int) < 40) = true := decide_eq_true (by omega)
          obtain ⟨Q, hQ, hrq⟩ := HG.out.row
          have HRQ := Aside0.mk hrq
          clear hrq
          go_wp2_with (first
            | (go_at_call 124; (with_reducible refine (markNum_calls _ xk hb.2).mono ?_); rintro e W4 ⟨rfl, hb4⟩; have HB4 := Aside0.mk hb4; have HB5 := Aside0.mk (below_alloc hb4 (.cells #[.int .u64 (xk : Int)] 91)); clear hb4)
            | (at_builtin; go_loud (refine wpList_append_RC rfl (Kd.int .u64) base (.tmp 28) (.tmp 32) 26 26 91 91 (.int .u64 0) 8 rfl (by kernel_rfl) (by kernel_rfl) infoNum rfl (by decide) (by decide) B (xn + k) Q q (List.replicate (xn + k) (markNum xk)) [markNum xk] ⟨W4.heap.size, 0, none⟩ 1 1 (fun _ => True) (fun _ => False) (by rw [List.length_replicate]) hQ rfl rfl (Kd.R_below HRQ.out HB5.out) (oneNum W4 xk) (fun x cs h => M_Num h) (fun _ h => h.elim) (fun _ _ => trivial) (Nat.le_trans hbs (HG.out.below hbs HB5.out).kept.below.size) (by decide) (by omega) ?_; intro v1 w1 hg1 hat1; have hbx := blk_below HBX.out HB5.out; have HBX7 := Aside0.mk (blk_grown hbx hg1 (Kd.R_ne (Kd.R_below HRQ.out HB5.out) hbx (by decide))); obtain ⟨B', q', rfl, hG⟩ := (HG.out.below hbs HB5.out).step rfl (by decide) HBK.out.2.1 HS.out.1 HX.out hbs HS1.out (Nat.le_of_lt (blk_lt hbx)) HLT.out hQ hg1 hat1; have HG7 := Aside0.mk hG; clear hg1 hat1 hG hbx)))
          go_roundg (gk - 1)
          case measure => omega
          case rel => exact ⟨k + 1, q', B', by go_num, rfl, by omega, by omega, HG7, HBX7⟩
        · have hd2 : decide ((k : Int) < 40) = false := decide_eq_false (by omega)
          have HE : Aside0 (k = 40) := ⟨by omega⟩
          clear hge2 hkg2 hk z2
          have gx := HG.out.kept.same b _ HBK.out.1 (fun cells he => by injection he with _ h2; exact absurd h2 (by decide)) (fun cells he => by injection he with _ h2; exact absurd h2 (by decide))
          have x8 := (blk_cell gx 4).trans HC.out
          clear gx
          obtain ⟨g2, cap2, hv2, hbg2, hgl2, c2, hgc2⟩ := Kd.R_form HG.out.held (Nat.lt_of_le_of_lt (Nat.zero_le _) hil)
          injection hv2 with hv2 _ _
          injection hv2 with hv2
          subst hv2
          obtain ⟨u1, u2, u3'⟩ := R_has HG.out.held ⟨none, 0, 0, none, 0, 0, 0⟩ i hlt 1 (by decide)
          replace u2 : _ = _ := u2
          have o1 : wr.cell? ⟨g2, i * 3 + 1, none⟩ = some u1 := u2
          have o2 : wr.frozen? ⟨g2, i * 3 + 1, none⟩ = false := u3'
          have HGC := Aside0.mk (And.intro hbg2 hgc2)
          clear u2 u3' hgl2 hbg2 hgc2
          go_wp2
          go_roundg g0
          case measure => omega
          case rel =>
            have hxe : hs2[i] = ⟨xA, xn, xc, xB, xm, xq, xk⟩ := by
              have := HX.out
              rw [List.getElem?_eq_getElem hil] at this
              injection this
            have hheld := R_edit held_flat HG.out.held i 1 hil (by decide) ⟨xA, xn, xc, B, xn + k, q, xk⟩ (.slice B (xn + k) q) (by rw [hxe]; rfl)
            refine ⟨i + 1, hs2.set i ⟨xA, xn, xc, B, xn + k, q, xk⟩, by go_num, by omega, by omega, ⟨HS.out.1.put HX.out ⟨rfl, rfl, rfl, rfl⟩, hheld, fun j z hz => (HG.out.lists j z hz).set HGC.out.2 (fun t ht => ?_) _ _, fun j z hj hz => ?_⟩, ⟨HG.out.kept.trans (Kept2.cell (Nat.le_trans hb0 HGC.out.1) (.inr rfl) HGC.out.2 _)⟩⟩
            · have ht : t = 91 := List.mem_singleton.1 (show t ∈ [91] from ht)
              rw [ht]; decide
            · by_cases hji : j = i
              · subst hji
                rw [List.getElem?_set_self hil] at hz
                injection hz with hz
                subst hz
                refine ⟨by rw [HE.out], HG.out.row.set HGC.out.2 (fun t ht => ?_) _ _, fun b' hb' => ?_⟩
                · have ht : t = 91 := List.mem_singleton.1 (show t ∈ [91] from ht)
                  rw [ht]; decide
                · rcases HG.out.place with ⟨h1, _⟩ | ⟨b'', h1, h2⟩
                  · exact .inl ⟨b', by rw [← hb', h1], rfl⟩
                  · rw [h1] at hb'
                    injection hb' with hb'
                    subst hb'
                    exact .inr (Nat.le_trans HS1.out h2)
              · rw [List.getElem?_set_ne (fun e => hji e.symm)] at hz
                obtain ⟨l1, l2, l3⟩ := HG.out.longs j z (by omega) hz
                refine ⟨l1, l2.set HGC.out.2 (fun t ht => ?_) _ _, l3⟩
                have ht : t = 91 := List.mem_singleton.1 (show t ∈ [91] from ht)
                rw [ht]; decide
    · have hd : decide (i < N) = false := decide_eq_false (by omega)
      have HE : Aside0 (i = N) := ⟨by omega⟩
      clear hi hge hkg
      go_wp2
      go_end0
      exact ⟨rfl, HK.out, hs2, HS.out.1, HS.out.2.1, HS.out.2.2.1, by rw [← HE.out]; exact HS.out.2.2.2⟩
set_option maxRecDepth 100000 in
set_option maxHeartbeats 16000000 in
theorem lookNum_calls (w : World) (b N c : Nat) (A : Option Addr) (hs : List Hd) (hN : N = hs.length) (hc8 : w.cell? ⟨b, 4, none⟩ = some (.slice A N c)) (hH : kHeld.C w A N hs) (hR : Reads (Kd.int .u64) markNum hs w) (hN9 : N ≤ 1000) :
    Calls Tryz.prog 85 #[.pointer (some ⟨b, 0, none⟩)] w fun e w' => e = .returned (.bool true) ∧ Below w.heap.size w w' := by
  have HN := Aside0.mk hN
  have HR := Aside0.mk hR
  have HH := Aside0.mk hH
  have HC := Aside0.mk hc8
  clear hN hR hH hc8
  go_enter Tryz.func85, Tryz.ntmps85
  go_wp2
  go_loopg [3] (N + 1) (fun gk v W => ∃ i : Nat, v = .int .i64 (i : Int) ∧ i ≤ N ∧ N + 1 - i ≤ gk ∧ Aside0 (Below w.heap.size w W))
  case atStart => exact ⟨0, rfl, Nat.zero_le _, by omega, ⟨Below.refl _ _⟩⟩
  case round =>
    obtain ⟨i, rfl, hi, hkg, HB⟩ := hrel
    have x8 := pw_cell_below HB.out HC.out
    rcases Nat.lt_or_ge i N with hlt | hge
    · have hd : decide (i < N) = true := decide_eq_true hlt
      have hil : i < hs.length := by rw [← HN.out]; exact hlt
      obtain ⟨ad, rfl, y0, y1, y2⟩ := C_held (Kd.C_below HH.out HB.out) HN.out i hil
      obtain ⟨x, hx⟩ : ∃ x, hs[i] = x := ⟨_, rfl⟩
      rw [hx] at y0 y1 y2
      have hxi : hs[i]? = some x := by rw [List.getElem?_eq_getElem hil, hx]
      obtain ⟨h1, h2, h3, h4, h5⟩ := HR.out.below HB.out i x hxi
      obtain ⟨xA, xn, xc, xB, xm, xq, xk⟩ := x
      dsimp only at y0 y1 y2 h1 h2 h3 h4 h5
      subst h1
      have H4 := Aside0.mk (And.intro h4 h5)
      clear h4 h5 hx hxi
      have e40 : (((xn + 40 : Nat) : Int) != (xn : Int) + 40) = false := by simp
      go_wp2
      have HBX : Aside0 ((wr.alloc (.cells #[.slice xA xn xc, .slice xB (xn + 40) xq, .int .i64 (xk : Int)] 165)).heap[wr.heap.size]? = some (.cells #[.slice xA xn xc, .slice xB (xn + 40) xq, .int .i64 (xk : Int)] 165 (0, 0))) := ⟨blk_new _ _⟩
      have HBW := Aside0.mk (HB.out.trans ((below_alloc (Below.refl wr.heap.size wr) (.cells #[.slice xA xn xc, .slice xB (xn + 40) xq, .int .i64 (xk : Int)] 165)).mono HB.out.size))
      have H5 := Aside0.mk (And.intro (Kd.C_below H4.out.1 (below_alloc (Below.refl wr.heap.size wr) (.cells #[.slice xA xn xc, .slice xB (xn + 40) xq, .int .i64 (xk : Int)] 165))) (Kd.C_below H4.out.2 (below_alloc (Below.refl wr.heap.size wr) (.cells #[.slice xA xn xc, .slice xB (xn + 40) xq, .int .i64 (xk : Int)] 165))))
      generalize World.alloc wr (.cells #[.slice xA xn xc, .slice xB (xn + 40) xq, .int .i64 (xk : Int)] 165) = wb at *
      clear y0 y1 y2 x8 H4
      generalize wr.heap.size = S1 at *
      obtain ⟨g0, rfl⟩ : ∃ g0, gk = g0 + 1 := ⟨gk - 1, by omega⟩
      go_loopg [5] (xn + 41) (fun gk v W => ∃ k : Nat, v = .int .i64 (k : Int) ∧ k ≤ xn + 40 ∧ xn + 41 - k ≤ gk ∧ Aside0 (Below wb.heap.size wb W))
      case atStart => exact ⟨0, rfl, Nat.zero_le _, by omega, ⟨Below.refl _ _⟩⟩
      case round =>
        obtain ⟨k, rfl, hk, hkg2, HB2⟩ := hrel
        have gx := blk_below HBX.out HB2.out
        have z0 := (blk_cell gx 0).trans (show _ = some (Value.slice xA xn xc) from rfl)
        have z1 := (blk_cell gx 1).trans (show _ = some (Value.slice xB (xn + 40) xq) from rfl)
        have z2 := (blk_cell gx 2).trans (show _ = some (Value.int .i64 (xk : Int)) from rfl)
        clear gx
        rcases Nat.lt_or_ge k (xn + 40) with hlt2 | hge2
        · have hd2 : decide (k < xn + 40) = true := decide_eq_true hlt2
          have hd2' : decide ((k : Int) < (xn : Int) + 40) = true := decide_eq_true (by omega)
          have hlt3 : (k : Int) < (xn : Int) + 40 := by omega
          obtain ⟨ad2, rfl, t0⟩ := atNum (Kd.C_below H5.out.2 HB2.out) k hlt2
          by_cases hkn : k < xn
          · have hd3 : decide (k < xn) = true := decide_eq_true hkn
            obtain ⟨ad3, rfl, s0⟩ := atNum (Kd.C_below H5.out.1 HB2.out) k hkn
            go_wp2
            have z0' := Ext.cell z0
            have z1' := Ext.cell z1
            have z2' := Ext.cell z2
            have t0' := Ext.cell t0
            have s0' := Ext.cell s0
            clear z0 z1 z2 t0 s0
            (refine region_ext (by kernel_rfl) (by kernel_rfl) ?_; (repeat (go_big_quiet_step ((go_at_call 139; exact ext_of (isNum_calls _ xk h3))))); with_reducible refine wpQuiet_end ?_; rintro e0)
            go_wp2
            go_roundg (gk - 1)
            case measure => omega
            case rel => exact ⟨k + 1, by go_num, by omega, by omega, ⟨below_step HB2.out e0.below⟩⟩
          · have hd3 : decide (k < xn) = false := decide_eq_false hkn
            go_wp2
            have z0' := Ext.cell z0
            have z1' := Ext.cell z1
            have z2' := Ext.cell z2
            have t0' := Ext.cell t0
            clear z0 z1 z2 t0
            (refine region_ext (by kernel_rfl) (by kernel_rfl) ?_; (repeat (go_big_quiet_step ((go_at_call 139; exact ext_of (isNum_calls _ xk h3))))); with_reducible refine wpQuiet_end ?_; rintro e0)
            go_wp2
            go_roundg (gk - 1)
            case measure => omega
            case rel => exact ⟨k + 1, by go_num, by omega, by omega, ⟨below_step HB2.out e0.below⟩⟩
        · have hd2 : decide (k < xn + 40) = false := decide_eq_false (by omega)
          have hd2' : decide ((k : Int) < (xn : Int) + 40) = false := decide_eq_false (by omega)
          go_wp2
          go_roundg g0
          case measure => omega
          case rel => exact ⟨i + 1, by go_num, by omega, by omega, ⟨HBW.out.trans (HB2.out.mono HBW.out.size)⟩⟩
    · have hd : decide (i < N) = false := decide_eq_false (by omega)
      go_wp2
      go_ret
      exact ⟨rfl, HB.out⟩
theorem infoHNum : (Tryz.prog.info? 165).map (fun i => (i.zero, i.size, i.bytes)) = some (some (.agg #[.slice none 0 0, .slice none 0 0, .int .i64 0]), 3, 56) := by kernel_rfl
set_option maxRecDepth 100000 in
set_option maxHeartbeats 8000000 in
theorem keepNum_calls (w : World) (b0 b N c n : Nat) (A LA : Option Addr) (Ln Lc : Nat) (hs : List Hd) (cs : Array Value) (hN : N = hs.length) (hbk : w.heap[b]? = some (.cells cs 66 (0, 0))) (hc0 : cs[0]? = some (.int .i64 (n : Int))) (hc8 : cs[4]? = some (.slice A N c))
    (hH : kHeld.R 165 w b0 (fun _ => True) (.slice A N c) hs) (hb0 : b0 ≤ b) (hn : n ≤ 1000) (hN9 : N ≤ 1000) :
    Calls Tryz.prog 50 #[.pointer (some ⟨b, 0, none⟩), .slice LA Ln Lc] w fun e w' => e = .returned (.tuple #[]) ∧ ∃ A' c', w'.heap[b]? = some (.cells ((cs.setIfInBounds 0 (.int .i64 ((n : Int) + 1))).setIfInBounds 4 (.slice A' (N + 1) c')) 66 (0, 0)) ∧ kHeld.R 165 w' b0 (fun _ => True) (.slice A' (N + 1) c') (hs ++ [⟨LA, Ln, Lc, none, 0, 0, n + 1⟩]) ∧ Kept2 165 66 b0 w w' := by
  have hbw : b0 ≤ w.heap.size := Nat.le_trans hb0 (Nat.le_of_lt (blk_lt hbk))
  have HBK := Aside0.mk hbk
  have HN := Aside0.mk hN
  have HH := Aside0.mk hH
  have c0 := (blk_cell hbk 0).trans hc0
  have f0 := blk_frozen hbk 0
  have h1 := blk_put hbk 0 (.int .i64 ((n : Int) + 1)) rfl
  have hk1 := Kept2.cell (e := 165) (e2 := 66) (o := 0) hb0 (.inr rfl) hbk (.int .i64 ((n : Int) + 1))
  obtain ⟨W1, hW1⟩ : ∃ W, W = w.setCell ⟨b, 0, none⟩ (.int .i64 ((n : Int) + 1)) := ⟨_, rfl⟩
  rw [← hW1] at h1 hk1
  have d0 : W1.cell? ⟨b, 0, none⟩ = some (.int .i64 ((n : Int) + 1)) := (blk_cell h1 0).trans (by rw [Array.getElem?_setIfInBounds_self]; have := (Array.getElem?_eq_some_iff.1 hc0).1; simp [this])
  have d8 : W1.cell? ⟨b, 4, none⟩ = some (.slice A N c) := (blk_cell h1 4).trans (by rw [Array.getElem?_setIfInBounds_ne (by decide)]; exact hc8)
  have f8 := blk_frozen h1 4
  have hR1 := Kd.R_set hH hbk (fun t ht => by have ht : t = 165 := List.mem_singleton.1 (show t ∈ [165] from ht); rw [ht]; decide) 0 (.int .i64 ((n : Int) + 1))
  rw [← hW1] at hR1
  have HR1 := Aside0.mk hR1
  have H1 := Aside0.mk h1
  have HK1 := Aside0.mk hk1
  have HSZ : Aside0 (b0 ≤ W1.heap.size) := ⟨Nat.le_trans hbw hk1.below.size⟩
  have HW1 := Aside0.mk hW1
  clear hbk hN hH hc0 hc8 h1 hk1 hR1 hW1
  go_enter Tryz.func50, Tryz.ntmps50
  go_upto_region 1 with fail
  rw [← HW1.out]
  have HC : Aside0 (kHeld.C (W1.alloc (.cells #[.slice LA Ln Lc, .slice none 0 0, .int .i64 ((n : Int) + 1)] 165)).drew (some ⟨W1.heap.size, 0, none⟩) 1 [⟨LA, Ln, Lc, none, 0, 0, n + 1⟩]) := ⟨by
    have h := reps_cons (R := kHeld.K (W1.alloc (.cells #[.slice LA Ln Lc, .slice none 0 0, .int .i64 ((n : Int) + 1)] 165)).drew) (p := (⟨LA, Ln, Lc, none, 0, 0, n + 1⟩ : Hd)) (c := [.slice LA Ln Lc, .slice none 0 0, .int .i64 ((n : Int) + 1)]) (by show _ = heldC _; rfl) rfl (Reps.none _ kHeld.sz)
    exact C_block (blk_drew (blk_new W1 _)) h (show 1 ≤ 9223372036854775807 by decide)⟩
  have d0' : (W1.alloc (.cells #[.slice LA Ln Lc, .slice none 0 0, .int .i64 ((n : Int) + 1)] 165)).cell? ⟨b, 0, none⟩ = some (.int .i64 ((n : Int) + 1)) := pw_cell_below (below_alloc (Below.refl W1.heap.size W1) _) d0
  have d8' : (W1.alloc (.cells #[.slice LA Ln Lc, .slice none 0 0, .int .i64 ((n : Int) + 1)] 165)).cell? ⟨b, 4, none⟩ = some (.slice A N c) := pw_cell_below (below_alloc (Below.refl W1.heap.size W1) _) d8
  go_region_law (refine step_append_R rfl kHeld b0 (.tmp 15) (.tmp 22) 53 53 165 165 (.agg #[.slice none 0 0, .slice none 0 0, .int .i64 0]) 56 rfl (by kernel_rfl) (by kernel_rfl) infoHNum rfl (by decide) (by decide) (.slice A N c) hs [⟨LA, Ln, Lc, none, 0, 0, n + 1⟩] (some ⟨W1.heap.size, 0, none⟩) 1 1 (fun _ => True) (fun _ => False) rfl rfl (Kd.R_below HR1.out (below_alloc (Below.refl _ _) _).drew) HC.out (fun x cs h => h) (fun _ h => h.elim) (fun _ _ => trivial) (Nat.le_trans HSZ.out (below_alloc (Below.refl W1.heap.size W1) _).drew.size) (by rw [← HN.out]; omega) ?_; intro v1 w1 HO1 hg1 hat; obtain ⟨A2, c2, rfl⟩ := Kd.R_slice HO1; rw [List.length_append, List.length_singleton, ← HN.out] at HO1 ⊢; have HBA := Aside0.mk (below_alloc (Below.refl W1.heap.size W1) (.cells #[.slice LA Ln Lc, .slice none 0 0, .int .i64 ((n : Int) + 1)] 165)).drew; have hbx := blk_grown (blk_below H1.out HBA.out) hg1 (Kd.R_ne (Kd.R_below HR1.out HBA.out) (blk_below H1.out HBA.out) (by decide)); have f8' := blk_frozen hbx 4; obtain ⟨u8, hu8⟩ : ∃ u, w1.cell? ⟨b, 4, none⟩ = some u := ⟨_, (blk_cell hbx 4).trans ((blk_cell H1.out 4).symm.trans d8)⟩; have HBX := Aside0.mk hbx; have HO2 := Aside0.mk HO1; have HKA := Aside0.mk ((HK1.out.trans (Kept2.of_below HBA.out HSZ.out)).trans (Kept2.own (Kd.R_below HR1.out HBA.out) hg1 (Nat.le_trans HSZ.out HBA.out.size))); clear HO1 hg1 hat hbx)
  all_goals (
    go_wp2
    go_end0
    exact ⟨rfl, A2, c2, blk_put HBX.out 4 _ rfl, Kd.R_set HO2.out HBX.out (fun t ht => by have ht : t = 165 := List.mem_singleton.1 (show t ∈ [165] from ht); rw [ht]; decide) _ _, HKA.out.trans (Kept2.cell hb0 (.inr rfl) HBX.out _)⟩)
set_option maxRecDepth 100000 in
set_option maxHeartbeats 4000000 in
theorem Nums_calls (w : World) (b0 b N c n : Nat) (A LA : Option Addr) (Ln Lc : Nat) (hs : List Hd) (cs : Array Value) (hN : N = hs.length) (hbk : w.heap[b]? = some (.cells cs 66 (0, 0))) (hc0 : cs[0]? = some (.int .i64 (n : Int))) (hc8 : cs[4]? = some (.slice A N c))
    (hH : kHeld.R 165 w b0 (fun _ => True) (.slice A N c) hs) (hb0 : b0 ≤ b) (hn : n ≤ 1000) (hN9 : N ≤ 1000) :
    Calls Tryz.prog 19 #[.pointer (some ⟨b, 0, none⟩), .slice LA Ln Lc] w fun e w' => e = .returned (.tuple #[]) ∧ ∃ A' c', w'.heap[b]? = some (.cells ((cs.setIfInBounds 0 (.int .i64 ((n : Int) + 1))).setIfInBounds 4 (.slice A' (N + 1) c')) 66 (0, 0)) ∧ kHeld.R 165 w' b0 (fun _ => True) (.slice A' (N + 1) c') (hs ++ [⟨LA, Ln, Lc, none, 0, 0, n + 1⟩]) ∧ Kept2 165 66 b0 w w' := by
  have HK := Aside0.mk (keepNum_calls w b0 b N c n A LA Ln Lc hs cs hN hbk hc0 hc8 hH hb0 hn hN9)
  clear hN hbk hc0 hc8 hH
  go_enter Tryz.func19, Tryz.ntmps19
  go_wp2_with (go_at_call 50; (with_reducible refine HK.out.mono ?_); rintro e W' ⟨rfl, hh⟩; have HH := Aside0.mk hh; clear hh)
  go_end0
  exact ⟨rfl, HH.out⟩
end Bk
end Go.Proofs.YtdecijmncpbheaaGreatDoor

namespace Go.Proofs.YtdecijmncpbheaaGreatDoor
open Go.RowKit Go.Proofs.YtdecijmncpbheaaGreatDoorW.PrintWords Go.Proofs.YtdecijmncpbheaaGreatDoorW.PrintLast Go.Proofs.YtdecijmncpbheaaGreatDoorW.PrintMore
set_option linter.unusedVariables false
set_option linter.unusedSimpArgs false
namespace Bk
def markBound (k : Nat) : Bound := ⟨⟨false, (k : Int)⟩, ⟨false, 0⟩⟩
theorem infoBound : (Tryz.prog.info? 104).map (fun i => (i.zero, i.size, i.bytes)) = some (some (.agg #[.bool false, .int .u64 0, .bool false, .int .u64 0]), 4, 32) := by kernel_rfl
theorem markBound_calls (w : World) (k : Nat) (hk : k ≤ 99) : Calls Tryz.prog 129 #[.int .i64 (k : Int)] w fun e w' => e = .returned (.agg #[.bool false, .int .u64 (k : Int), .bool false, .int .u64 0]) ∧ Below w.heap.size w w' := by
  go_enter Tryz.func129, Tryz.ntmps129
  go_wp2
  exact bodyPost_ret (v := (.agg #[.bool false, .int .u64 (k : Int), .bool false, .int .u64 0])) (by simp [results, Tryz.results129, go_sem]) rfl ⟨rfl, below_alloc (Below.refl _ _) _⟩
theorem isBound_calls (w : World) (k : Nat) (hk : k ≤ 99) : Calls Tryz.prog 144 #[(.agg #[.bool false, .int .u64 (k : Int), .bool false, .int .u64 0]), .int .i64 (k : Int)] w fun e w' => e = .returned (.bool true) ∧ Below w.heap.size w w' := by
  go_enter Tryz.func144, Tryz.ntmps144
  go_wp2
  go_ret
  exact ⟨by simp, below_alloc (Below.refl _ _) _⟩
theorem oneBound (w : World) (k : Nat) : kBound.C (w.alloc (.cells #[.bool false, .int .u64 (k : Int), .bool false, .int .u64 0] 104)) (some ⟨w.heap.size, 0, none⟩) 1 [markBound k] := by
  have h := reps_cons (R := kBound.K (w.alloc (.cells ([Value.bool false, Value.int .u64 (k : Int), .bool false, .int .u64 0] ++ []).toArray 104))) (k104_mk _ (markBound k)) rfl (Reps.none _ kBound.sz)
  exact C_block (blk_new w _) h (show 1 ≤ 9223372036854775807 by decide)
theorem M_Bound {w : World} {base : Nat} {x : Bound} {cs : List Value} (h : kBound.K w x cs) : kBound.M w base (fun _ => False) x cs := by
  rw [k104_open h]
  exact k104_mkM w base _ x
theorem hasBound {e base g n cap : Nat} {ok : Nat → Prop} {W : World} {xs : List Bound} (h : kBound.R e W base ok (.slice (some ⟨g, 0, none⟩) n cap) xs) (k : Nat) (hk : k < n) : (∃ v0 v1 v2 v3, W.cell? ⟨g, k * 4, none⟩ = some v0 ∧ W.cell? ⟨g, k * 4 + 1, none⟩ = some v1 ∧ W.cell? ⟨g, k * 4 + 2, none⟩ = some v2 ∧ W.cell? ⟨g, k * 4 + 3, none⟩ = some v3) ∧ W.frozen? ⟨g, k * 4, none⟩ = false ∧ W.frozen? ⟨g, k * 4 + 1, none⟩ = false ∧ W.frozen? ⟨g, k * 4 + 2, none⟩ = false ∧ W.frozen? ⟨g, k * 4 + 3, none⟩ = false := by
  have H := fun j (hj : j < 4) => R_has h (markBound 0) k hk j hj
  obtain ⟨v0, q0, r0⟩ := H 0 (by decide)
  obtain ⟨v1, q1, r1⟩ := H 1 (by decide)
  obtain ⟨v2, q2, r2⟩ := H 2 (by decide)
  obtain ⟨v3, q3, r3⟩ := H 3 (by decide)
  exact ⟨⟨v0, v1, v2, v3, q0, q1, q2, q3⟩, r0, r1, r2, r3⟩
theorem atBound {w : World} {A : Option Addr} {n k : Nat} (h : kBound.C w A n (List.replicate n (markBound k))) (j : Nat) (hj : j < n) : ∃ ad, A = some ad ∧ w.cell? (ad.add (j * 4)) = some (.bool false) ∧ w.cell? ⟨(ad.add (j * 4)).block, (ad.add (j * 4)).off + 1, none⟩ = some (.int .u64 (k : Int)) ∧ w.cell? ⟨(ad.add (j * 4)).block, (ad.add (j * 4)).off + 2, none⟩ = some (.bool false) ∧ w.cell? ⟨(ad.add (j * 4)).block, (ad.add (j * 4)).off + 3, none⟩ = some (.int .u64 0) := by
  obtain ⟨ad, e, x0, x1, x2, x3⟩ := C_boundN (xs := List.replicate n (markBound k)) (by rw [List.length_replicate]; exact h) j (by rw [List.length_replicate]; exact hj)
  rw [List.getElem_replicate] at x0 x1 x2 x3
  exact ⟨ad, e, x0, x1, x2, x3⟩
set_option maxRecDepth 100000 in
set_option maxHeartbeats 16000000 in
theorem fillBound_calls (w : World) (base b0 b N c : Nat) (A : Option Addr) (ok : Nat → Prop) (hs : List Hd) (xs : Nat → List Bound) (cs : Array Value) (hN : N = hs.length) (hbk : w.heap[b]? = some (.cells cs 66 (0, 0))) (hc8 : cs[9]? = some (.slice A N c))
    (hH : kHeld.R 193 w b0 ok (.slice A N c) hs) (hL : Lists kBound 104 base hs w xs) (hn : ∀ x ∈ hs, x.n ≤ 5000 ∧ x.k ≤ 99) (ha : Apart hs) (hbs : base ≤ w.heap.size) (hN9 : N ≤ 1000) :
    Calls Tryz.prog 60 #[.pointer (some ⟨b, 0, none⟩)] w fun e w' => e = .returned (.tuple #[]) ∧ KeptE 104 base w w' ∧ Lists kBound 104 base hs w' (filled markBound hs) := by
  have HBK := Aside0.mk (And.intro hbk (And.intro hH (And.intro ha hn)))
  have HN := Aside0.mk hN
  have HL := Aside0.mk hL
  have HC := Aside0.mk hc8
  clear hbk hH hN ha hn hL hc8
  go_enter Tryz.func60, Tryz.ntmps60
  go_wp2
  go_loopg [2] (N + 1) (fun gk v W => ∃ i : Nat, v = .int .i64 (i : Int) ∧ i ≤ N ∧ N + 1 - i ≤ gk ∧ Aside0 (Lists kBound 104 base hs W (fun j => if j < i then filled markBound hs j else xs j)) ∧ Aside0 (KeptE 104 base w W))
  case atStart => exact ⟨0, rfl, Nat.zero_le _, by omega, ⟨HL.out.congr (fun j _ => by simp)⟩, ⟨KeptE.refl _ _ _⟩⟩
  case round =>
    obtain ⟨i, rfl, hi, hkg, HLW, HKW⟩ := hrel
    have gx := HKW.out.same b _ HBK.out.1 (fun cells he => by injection he with _ h2; exact absurd h2 (by decide))
    have x8 := (blk_cell gx 9).trans HC.out
    clear gx
    rcases Nat.lt_or_ge i N with hlt | hge
    · have hd : decide (i < N) = true := decide_eq_true hlt
      have hil : i < hs.length := by rw [← HN.out]; exact hlt
      have hHW := R_keepE HBK.out.2.1 rfl (by decide) HKW.out
      obtain ⟨ad, rfl, y0, y1, y2⟩ := C_held (Kd.R_reads' hHW).2.2 rfl i hil
      obtain ⟨x, hx⟩ : ∃ x, hs[i] = x := ⟨_, rfl⟩
      rw [hx] at y0 y1 y2
      obtain ⟨xA, xn, xc, xB, xm, xq, xk⟩ := x
      dsimp only at y0 y1 y2
      have hxi : hs[i]? = some ⟨xA, xn, xc, xB, xm, xq, xk⟩ := by rw [List.getElem?_eq_getElem hil, hx]
      have hb := HBK.out.2.2.2 _ (hx ▸ List.getElem_mem hil)
      dsimp only at hb
      have HX := Aside0.mk hxi
      clear hHW hx hxi
      go_wp2
      have HG : Aside0 ((wr.alloc (.cells #[.slice xA xn xc, .slice xB xm xq, .int .i64 (xk : Int)] 193)).heap[wr.heap.size]? = some (.cells #[.slice xA xn xc, .slice xB xm xq, .int .i64 (xk : Int)] 193 (0, 0))) := ⟨blk_new _ _⟩
      have HLB := Aside0.mk (HLW.out.below (below_alloc (Below.refl wr.heap.size wr) (.cells #[.slice xA xn xc, .slice xB xm xq, .int .i64 (xk : Int)] 193)))
      have HKB := Aside0.mk (HKW.out.trans (KeptE.of_below (below_alloc (Below.refl wr.heap.size wr) (.cells #[.slice xA xn xc, .slice xB xm xq, .int .i64 (xk : Int)] 193)) (Nat.le_trans hbs HKW.out.below.size)))
      generalize World.alloc wr (.cells #[.slice xA xn xc, .slice xB xm xq, .int .i64 (xk : Int)] 193) = wb at *
      clear y0 y1 y2 HLW x8
      obtain ⟨g0, rfl⟩ : ∃ g0, gk = g0 + 1 := ⟨gk - 1, by omega⟩
      go_loopg [4] (xn + 1) (fun gk v W => ∃ k : Nat, v = .int .i64 (k : Int) ∧ k ≤ xn ∧ xn + 1 - k ≤ gk ∧ Aside0 (Lists kBound 104 base hs W (fun j => if j = i then List.replicate k (markBound xk) ++ (xs i).drop k else if j < i then filled markBound hs j else xs j)) ∧ Aside0 (KeptE 104 base wb W))
      case atStart => exact ⟨0, rfl, Nat.zero_le _, by omega, ⟨HLB.out.congr (fun j _ => by by_cases hj : j = i <;> simp [hj])⟩, ⟨KeptE.refl _ _ _⟩⟩
      case round =>
        obtain ⟨k, rfl, hk, hkg2, HLW, HKW2⟩ := hrel
        have gx := HKW2.out.same _ _ HG.out (fun cells he => by injection he with _ h2; exact absurd h2 (by decide))
        have z0 := (blk_cell gx 0).trans (show _ = some (Value.slice xA xn xc) from rfl)
        have z2 := (blk_cell gx 2).trans (show _ = some (Value.int .i64 (xk : Int)) from rfl)
        clear gx
        rcases Nat.lt_or_ge k xn with hlt2 | hge2
        · have hd2 : decide (k < xn) = true := decide_eq_true hlt2
          obtain ⟨Q, hQ, hli⟩ := HLW.out i _ HX.out
          have HLI := Aside0.mk hli
          clear hli
          obtain ⟨g, rfl⟩ := R_pos HLI.out (show 0 < xn by omega)
          have hlx : (List.replicate k (markBound xk) ++ (xs i).drop k).length = xn := by
            have := (Kd.R_reads' HLI.out).1
            simp only [if_pos] at this
            exact this.symm
          have HLX := Aside0.mk hlx
          clear hlx
          go_wp2
          go_region_with (go_at_call 129; (with_reducible refine (markBound_calls _ xk hb.2).mono ?_); rintro e W4 ⟨rfl, hb4⟩; have HB4 := Aside0.mk ((Below.refl wr.heap.size wr).drew.trans hb4); clear hb4; have t0 := pw_cell_below HB4.out z0; have t2 := pw_cell_below HB4.out z2; obtain ⟨⟨v0, v1, v2, v3, q0, q1, q2, q3⟩, r0, r1, r2, r3⟩ := hasBound (Kd.R_below HLI.out HB4.out) k hlt2)
          all_goals (
            go_wp2
            go_roundg (gk - 1)
            case measure => omega
            case rel =>
              have hp := R_puts (Kd.R_below HLI.out HB4.out) k hlt2 (markBound xk) [.bool false, .int .u64 (xk : Int), .bool false, .int .u64 0] rfl (k104_mkM W4 base (fun _ => False) (markBound xk))
              have hs5 := HLW.out.store rfl HBK.out.2.2.1 HX.out rfl HB4.out (Nat.le_trans hbs (HKB.out.trans HKW2.out).below.size) hp.2 ⟨Q, hQ, hp.1⟩
              refine ⟨k + 1, by go_num, by omega, by omega, ⟨hs5.1.congr (fun j _ => ?_)⟩, ⟨HKW2.out.trans hs5.2⟩⟩
              have hxl : k < (xs i).length := by have := HLX.out; simp only [List.length_append, List.length_replicate, List.length_drop] at this; omega
              by_cases hj : j = i
              · subst hj
                simp only [if_pos]
                exact marks_step (xs j) (markBound xk) k hxl
              · rw [if_neg hj, if_neg hj, if_neg hj])
        · have hd2 : decide (k < xn) = false := decide_eq_false (by omega)
          have HE : Aside0 (k = xn) := ⟨by omega⟩
          have hxl : (xs i).drop k = [] := by
            have := (HLW.out i _ HX.out).reads.1
            simp only [if_pos, List.length_append, List.length_replicate, List.length_drop] at this
            exact List.drop_eq_nil_of_le (by omega)
          have HXL := Aside0.mk hxl
          clear hge2 hkg2 hxl
          go_wp2
          go_roundg g0
          case measure => omega
          case rel =>
            refine ⟨i + 1, by go_num, by omega, by omega, ⟨HLW.out.congr (fun j _ => ?_)⟩, ⟨HKB.out.trans HKW2.out⟩⟩
            by_cases hj : j = i
            · rw [if_pos hj, if_pos (by omega), HXL.out, List.append_nil, hj, HE.out, filled, HX.out]
              rfl
            · by_cases hj2 : j < i
              · rw [if_neg hj, if_pos hj2, if_pos (by omega)]
              · rw [if_neg hj, if_neg hj2, if_neg (by omega)]
    · have hd : decide (i < N) = false := decide_eq_false (by omega)
      have HE : Aside0 (i = N) := ⟨by omega⟩
      clear hi hge hkg
      go_wp2
      go_end0
      exact ⟨rfl, HKW.out, HLW.out.congr (fun j hj => by rw [HE.out, HN.out, if_pos hj])⟩
set_option maxRecDepth 100000 in
set_option maxHeartbeats 16000000 in
theorem growBound_calls (w : World) (base b0 b N c : Nat) (A : Option Addr) (hs : List Hd) (cs : Array Value) (hN : N = hs.length) (hbk : w.heap[b]? = some (.cells cs 66 (0, 0))) (hc8 : cs[9]? = some (.slice A N c))
    (hH : kHeld.R 193 w b0 (fun _ => True) (.slice A N c) hs) (hL : Lists kBound 104 base hs w (filled markBound hs)) (hn : ∀ x ∈ hs, x.n ≤ 5000 ∧ x.k ≤ 99) (ha : Apart hs) (hbs : base ≤ w.heap.size) (hN9 : N ≤ 1000) (hb0 : base ≤ b0) :
    Calls Tryz.prog 75 #[.pointer (some ⟨b, 0, none⟩)] w fun e w' => e = .returned (.tuple #[]) ∧ Kept2 104 193 base w w' ∧ ∃ hs2, Same hs hs2 ∧ kHeld.R 193 w' b0 (fun _ => True) (.slice A N c) hs2 ∧ Lists kBound 104 base hs w' (filled markBound hs) ∧ Longs kBound 104 base w.heap.size markBound hs2 N w' := by
  have hlt : ∀ (j : Nat) (y : Hd), hs[j]? = some y → ∀ a, y.A = some a → a.block < w.heap.size := fun j y hy a hya => ((hL j y hy).typed a hya).2.1
  have HLT := Aside0.mk hlt
  have HBK := Aside0.mk (And.intro hbk (And.intro ha hn))
  have HN := Aside0.mk hN
  have HL := Aside0.mk hL
  have HH := Aside0.mk hH
  have HC := Aside0.mk hc8
  clear hbk hH hN ha hn hL hc8 hlt
  go_enter Tryz.func75, Tryz.ntmps75
  go_wp2
  go_loopg [2] (N + 1) (fun gk v W => ∃ (i : Nat) (hs2 : List Hd), v = .int .i64 (i : Int) ∧ i ≤ N ∧ N + 1 - i ≤ gk ∧ Aside0 (Same hs hs2 ∧ kHeld.R 193 W b0 (fun _ => True) (.slice A N c) hs2 ∧ Lists kBound 104 base hs W (filled markBound hs) ∧ Longs kBound 104 base w.heap.size markBound hs2 i W) ∧ Aside0 (Kept2 104 193 base w W))
  case atStart => exact ⟨0, hs, rfl, Nat.zero_le _, by omega, ⟨⟨rfl, fun j x hx => ⟨x, hx, rfl, rfl, rfl, rfl⟩⟩, HH.out, HL.out, fun j x hj => by omega⟩, ⟨Kept2.refl _ _ _ _⟩⟩
  case round =>
    obtain ⟨i, hs2, rfl, hi, hkg, HS, HK⟩ := hrel
    have gx := HK.out.same b _ HBK.out.1 (fun cells he => by injection he with _ h2; exact absurd h2 (by decide)) (fun cells he => by injection he with _ h2; exact absurd h2 (by decide))
    have x8 := (blk_cell gx 9).trans HC.out
    clear gx
    rcases Nat.lt_or_ge i N with hlt | hge
    · have hd : decide (i < N) = true := decide_eq_true hlt
      have hil : i < hs2.length := by rw [HS.out.1.1, ← HN.out]; exact hlt
      obtain ⟨ad, rfl, y0, y1, y2⟩ := C_held (Kd.R_reads' HS.out.2.1).2.2 rfl i hil
      obtain ⟨x, hx⟩ : ∃ x, hs2[i] = x := ⟨_, rfl⟩
      rw [hx] at y0 y1 y2
      have hxi : hs2[i]? = some x := by rw [List.getElem?_eq_getElem hil, hx]
      obtain ⟨y, hy, hyA, hyn, hyc, hyk⟩ := HS.out.1.2 i x hxi
      have hb := HBK.out.2.2 _ (List.mem_of_getElem? hy)
      rw [← hyn, ← hyk] at hb
      obtain ⟨xA, xn, xc, xB, xm, xq, xk⟩ := x
      dsimp only at y0 y1 y2 hb
      have HX := Aside0.mk hxi
      have HG0 : Aside0 (G kBound 104 193 base b0 markBound w hs hs2 (some ad) N c i ⟨xA, xn, xc, xB, xm, xq, xk⟩ wr.heap.size wr xA 0 xc) := ⟨by
        have h1 := HS.out.2.2.1 i y hy
        rw [filled, hy] at h1
        simp only [Option.map_some, Option.getD_some, ← hyA, ← hyn, ← hyc, ← hyk] at h1
        refine ⟨h1, .inl ⟨rfl, rfl⟩, HS.out.2.2.1, HS.out.2.2.2, fun j z hj hz b hb => ?_, HS.out.2.1, HK.out⟩
        exact ((HS.out.2.2.2 j z hj hz).2.1.typed b hb).2.1⟩
      clear hx hxi hy hyA hyn hyc hyk
      go_wp2
      have HBX : Aside0 ((wr.alloc (.cells #[.slice xA xn xc, .slice xB xm xq, .int .i64 (xk : Int)] 193)).heap[wr.heap.size]? = some (.cells #[.slice xA xn xc, .slice xB xm xq, .int .i64 (xk : Int)] 193 (0, 0))) := ⟨blk_new _ _⟩
      have HG1 := Aside0.mk (HG0.out.below hbs (below_alloc (Below.refl wr.heap.size wr) (.cells #[.slice xA xn xc, .slice xB xm xq, .int .i64 (xk : Int)] 193)))
      generalize World.alloc wr (.cells #[.slice xA xn xc, .slice xB xm xq, .int .i64 (xk : Int)] 193) = wb at *
      clear HG0 y0 y1 y2 x8
      have hS1 := HK.out.below.size
      generalize wr.heap.size = S1 at *
      have HS1 := Aside0.mk hS1
      clear hS1
      obtain ⟨g0, rfl⟩ : ∃ g0, gk = g0 + 1 := ⟨gk - 1, by omega⟩
      go_loopg [4, 5] 41 (fun gk b4 b5 W => ∃ (k q : Nat) (B : Option Addr), b5 = .int .i64 (k : Int) ∧ b4 = .slice B (xn + k) q ∧ k ≤ 40 ∧ 41 - k ≤ gk ∧ Aside0 (G kBound 104 193 base b0 markBound w hs hs2 (some ad) N c i ⟨xA, xn, xc, xB, xm, xq, xk⟩ S1 W B k q) ∧ Aside0 (W.heap[S1]? = some (.cells #[.slice xA xn xc, .slice xB xm xq, .int .i64 (xk : Int)] 193 (0, 0))))
      case atStart => exact ⟨0, xc, xA, rfl, rfl, Nat.zero_le _, by omega, HG1, HBX⟩
      case round =>
        clear HG1 HBX
        obtain ⟨k, q, B, rfl, rfl, hk, hkg2, HG, HBX⟩ := hrel
        have z2 := (blk_cell HBX.out 2).trans (show _ = some (Value.int .i64 (xk : Int)) from rfl)
        rcases Nat.lt_or_ge k 40 with hlt2 | hge2
        · have hd2 : decide ((k : Int) < 40) = true := decide_eq_true (by omega)
          obtain ⟨Q, hQ, hrq⟩ := HG.out.row
          have HRQ := Aside0.mk hrq
          clear hrq
          go_wp2_with (first
            | (go_at_call 129; (with_reducible refine (markBound_calls _ xk hb.2).mono ?_); rintro e W4 ⟨rfl, hb4⟩; have HB4 := Aside0.mk hb4; have HB5 := Aside0.mk (below_alloc hb4 (.cells #[.bool false, .int .u64 (xk : Int), .bool false, .int .u64 0] 104)); clear hb4)
            | (at_builtin; go_loud (refine wpList_append_RC rfl kBound base (.tmp 28) (.tmp 32) 23 23 104 104 (.agg #[.bool false, .int .u64 0, .bool false, .int .u64 0]) 32 rfl (by kernel_rfl) (by kernel_rfl) infoBound rfl (by decide) (by decide) B (xn + k) Q q (List.replicate (xn + k) (markBound xk)) [markBound xk] ⟨W4.heap.size, 0, none⟩ 1 1 (fun _ => True) (fun _ => False) (by rw [List.length_replicate]) hQ rfl rfl (Kd.R_below HRQ.out HB5.out) (oneBound W4 xk) (fun x cs h => M_Bound h) (fun _ h => h.elim) (fun _ _ => trivial) (Nat.le_trans hbs (HG.out.below hbs HB5.out).kept.below.size) (by decide) (by omega) ?_; intro v1 w1 hg1 hat1; have hbx := blk_below HBX.out HB5.out; have HBX7 := Aside0.mk (blk_grown hbx hg1 (Kd.R_ne (Kd.R_below HRQ.out HB5.out) hbx (by decide))); obtain ⟨B', q', rfl, hG⟩ := (HG.out.below hbs HB5.out).step rfl (by decide) HBK.out.2.1 HS.out.1 HX.out hbs HS1.out (Nat.le_of_lt (blk_lt hbx)) HLT.out hQ hg1 hat1; have HG7 := Aside0.mk hG; clear hg1 hat1 hG hbx)))
          go_roundg (gk - 1)
          case measure => omega
          case rel => exact ⟨k + 1, q', B', by go_num, rfl, by omega, by omega, HG7, HBX7⟩
        · have hd2 : decide ((k : Int) < 40) = false := decide_eq_false (by omega)
          have HE : Aside0 (k = 40) := ⟨by omega⟩
          clear hge2 hkg2 hk z2
          have gx := HG.out.kept.same b _ HBK.out.1 (fun cells he => by injection he with _ h2; exact absurd h2 (by decide)) (fun cells he => by injection he with _ h2; exact absurd h2 (by decide))
          have x8 := (blk_cell gx 9).trans HC.out
          clear gx
          obtain ⟨g2, cap2, hv2, hbg2, hgl2, c2, hgc2⟩ := Kd.R_form HG.out.held (Nat.lt_of_le_of_lt (Nat.zero_le _) hil)
          injection hv2 with hv2 _ _
          injection hv2 with hv2
          subst hv2
          obtain ⟨u1, u2, u3'⟩ := R_has HG.out.held ⟨none, 0, 0, none, 0, 0, 0⟩ i hlt 1 (by decide)
          replace u2 : _ = _ := u2
          have o1 : wr.cell? ⟨g2, i * 3 + 1, none⟩ = some u1 := u2
          have o2 : wr.frozen? ⟨g2, i * 3 + 1, none⟩ = false := u3'
          have HGC := Aside0.mk (And.intro hbg2 hgc2)
          clear u2 u3' hgl2 hbg2 hgc2
          go_wp2
          go_roundg g0
          case measure => omega
          case rel =>
            have hxe : hs2[i] = ⟨xA, xn, xc, xB, xm, xq, xk⟩ := by
              have := HX.out
              rw [List.getElem?_eq_getElem hil] at this
              injection this
            have hheld := R_edit held_flat HG.out.held i 1 hil (by decide) ⟨xA, xn, xc, B, xn + k, q, xk⟩ (.slice B (xn + k) q) (by rw [hxe]; rfl)
            refine ⟨i + 1, hs2.set i ⟨xA, xn, xc, B, xn + k, q, xk⟩, by go_num, by omega, by omega, ⟨HS.out.1.put HX.out ⟨rfl, rfl, rfl, rfl⟩, hheld, fun j z hz => (HG.out.lists j z hz).set HGC.out.2 (fun t ht => ?_) _ _, fun j z hj hz => ?_⟩, ⟨HG.out.kept.trans (Kept2.cell (Nat.le_trans hb0 HGC.out.1) (.inr rfl) HGC.out.2 _)⟩⟩
            · have ht : t = 104 := List.mem_singleton.1 (show t ∈ [104] from ht)
              rw [ht]; decide
            · by_cases hji : j = i
              · subst hji
                rw [List.getElem?_set_self hil] at hz
                injection hz with hz
                subst hz
                refine ⟨by rw [HE.out], HG.out.row.set HGC.out.2 (fun t ht => ?_) _ _, fun b' hb' => ?_⟩
                · have ht : t = 104 := List.mem_singleton.1 (show t ∈ [104] from ht)
                  rw [ht]; decide
                · rcases HG.out.place with ⟨h1, _⟩ | ⟨b'', h1, h2⟩
                  · exact .inl ⟨b', by rw [← hb', h1], rfl⟩
                  · rw [h1] at hb'
                    injection hb' with hb'
                    subst hb'
                    exact .inr (Nat.le_trans HS1.out h2)
              · rw [List.getElem?_set_ne (fun e => hji e.symm)] at hz
                obtain ⟨l1, l2, l3⟩ := HG.out.longs j z (by omega) hz
                refine ⟨l1, l2.set HGC.out.2 (fun t ht => ?_) _ _, l3⟩
                have ht : t = 104 := List.mem_singleton.1 (show t ∈ [104] from ht)
                rw [ht]; decide
    · have hd : decide (i < N) = false := decide_eq_false (by omega)
      have HE : Aside0 (i = N) := ⟨by omega⟩
      clear hi hge hkg
      go_wp2
      go_end0
      exact ⟨rfl, HK.out, hs2, HS.out.1, HS.out.2.1, HS.out.2.2.1, by rw [← HE.out]; exact HS.out.2.2.2⟩
set_option maxRecDepth 100000 in
set_option maxHeartbeats 16000000 in
theorem lookBound_calls (w : World) (b N c : Nat) (A : Option Addr) (hs : List Hd) (hN : N = hs.length) (hc8 : w.cell? ⟨b, 9, none⟩ = some (.slice A N c)) (hH : kHeld.C w A N hs) (hR : Reads kBound markBound hs w) (hN9 : N ≤ 1000) :
    Calls Tryz.prog 90 #[.pointer (some ⟨b, 0, none⟩)] w fun e w' => e = .returned (.bool true) ∧ Below w.heap.size w w' := by
  have HN := Aside0.mk hN
  have HR := Aside0.mk hR
  have HH := Aside0.mk hH
  have HC := Aside0.mk hc8
  clear hN hR hH hc8
  go_enter Tryz.func90, Tryz.ntmps90
  go_wp2
  go_loopg [3] (N + 1) (fun gk v W => ∃ i : Nat, v = .int .i64 (i : Int) ∧ i ≤ N ∧ N + 1 - i ≤ gk ∧ Aside0 (Below w.heap.size w W))
  case atStart => exact ⟨0, rfl, Nat.zero_le _, by omega, ⟨Below.refl _ _⟩⟩
  case round =>
    obtain ⟨i, rfl, hi, hkg, HB⟩ := hrel
    have x8 := pw_cell_below HB.out HC.out
    rcases Nat.lt_or_ge i N with hlt | hge
    · have hd : decide (i < N) = true := decide_eq_true hlt
      have hil : i < hs.length := by rw [← HN.out]; exact hlt
      obtain ⟨ad, rfl, y0, y1, y2⟩ := C_held (Kd.C_below HH.out HB.out) HN.out i hil
      obtain ⟨x, hx⟩ : ∃ x, hs[i] = x := ⟨_, rfl⟩
      rw [hx] at y0 y1 y2
      have hxi : hs[i]? = some x := by rw [List.getElem?_eq_getElem hil, hx]
      obtain ⟨h1, h2, h3, h4, h5⟩ := HR.out.below HB.out i x hxi
      obtain ⟨xA, xn, xc, xB, xm, xq, xk⟩ := x
      dsimp only at y0 y1 y2 h1 h2 h3 h4 h5
      subst h1
      have H4 := Aside0.mk (And.intro h4 h5)
      clear h4 h5 hx hxi
      have e40 : (((xn + 40 : Nat) : Int) != (xn : Int) + 40) = false := by simp
      go_wp2
      have HBX : Aside0 ((wr.alloc (.cells #[.slice xA xn xc, .slice xB (xn + 40) xq, .int .i64 (xk : Int)] 193)).heap[wr.heap.size]? = some (.cells #[.slice xA xn xc, .slice xB (xn + 40) xq, .int .i64 (xk : Int)] 193 (0, 0))) := ⟨blk_new _ _⟩
      have HBW := Aside0.mk (HB.out.trans ((below_alloc (Below.refl wr.heap.size wr) (.cells #[.slice xA xn xc, .slice xB (xn + 40) xq, .int .i64 (xk : Int)] 193)).mono HB.out.size))
      have H5 := Aside0.mk (And.intro (Kd.C_below H4.out.1 (below_alloc (Below.refl wr.heap.size wr) (.cells #[.slice xA xn xc, .slice xB (xn + 40) xq, .int .i64 (xk : Int)] 193))) (Kd.C_below H4.out.2 (below_alloc (Below.refl wr.heap.size wr) (.cells #[.slice xA xn xc, .slice xB (xn + 40) xq, .int .i64 (xk : Int)] 193))))
      generalize World.alloc wr (.cells #[.slice xA xn xc, .slice xB (xn + 40) xq, .int .i64 (xk : Int)] 193) = wb at *
      clear y0 y1 y2 x8 H4
      generalize wr.heap.size = S1 at *
      obtain ⟨g0, rfl⟩ : ∃ g0, gk = g0 + 1 := ⟨gk - 1, by omega⟩
      go_loopg [5] (xn + 41) (fun gk v W => ∃ k : Nat, v = .int .i64 (k : Int) ∧ k ≤ xn + 40 ∧ xn + 41 - k ≤ gk ∧ Aside0 (Below wb.heap.size wb W))
      case atStart => exact ⟨0, rfl, Nat.zero_le _, by omega, ⟨Below.refl _ _⟩⟩
      case round =>
        obtain ⟨k, rfl, hk, hkg2, HB2⟩ := hrel
        have gx := blk_below HBX.out HB2.out
        have z0 := (blk_cell gx 0).trans (show _ = some (Value.slice xA xn xc) from rfl)
        have z1 := (blk_cell gx 1).trans (show _ = some (Value.slice xB (xn + 40) xq) from rfl)
        have z2 := (blk_cell gx 2).trans (show _ = some (Value.int .i64 (xk : Int)) from rfl)
        clear gx
        rcases Nat.lt_or_ge k (xn + 40) with hlt2 | hge2
        · have hd2 : decide (k < xn + 40) = true := decide_eq_true hlt2
          have hd2' : decide ((k : Int) < (xn : Int) + 40) = true := decide_eq_true (by omega)
          have hlt3 : (k : Int) < (xn : Int) + 40 := by omega
          obtain ⟨ad2, rfl, t0, t1, t2, t3⟩ := atBound (Kd.C_below H5.out.2 HB2.out) k hlt2
          by_cases hkn : k < xn
          · have hd3 : decide (k < xn) = true := decide_eq_true hkn
            obtain ⟨ad3, rfl, s0, s1, s2, s3⟩ := atBound (Kd.C_below H5.out.1 HB2.out) k hkn
            go_wp2
            have z0' := Ext.cell z0
            have z1' := Ext.cell z1
            have z2' := Ext.cell z2
            have t0' := Ext.cell t0
            have t1' := Ext.cell t1
            have t2' := Ext.cell t2
            have t3' := Ext.cell t3
            have s0' := Ext.cell s0
            have s1' := Ext.cell s1
            have s2' := Ext.cell s2
            have s3' := Ext.cell s3
            clear z0 z1 z2 t0 t1 t2 t3 s0 s1 s2 s3
            (refine region_ext (by kernel_rfl) (by kernel_rfl) ?_; (repeat (go_big_quiet_step ((go_at_call 144; exact ext_of (isBound_calls _ xk h3))))); with_reducible refine wpQuiet_end ?_; rintro e0)
            go_wp2
            go_roundg (gk - 1)
            case measure => omega
            case rel => exact ⟨k + 1, by go_num, by omega, by omega, ⟨below_step HB2.out e0.below⟩⟩
          · have hd3 : decide (k < xn) = false := decide_eq_false hkn
            go_wp2
            have z0' := Ext.cell z0
            have z1' := Ext.cell z1
            have z2' := Ext.cell z2
            have t0' := Ext.cell t0
            have t1' := Ext.cell t1
            have t2' := Ext.cell t2
            have t3' := Ext.cell t3
            clear z0 z1 z2 t0 t1 t2 t3
            (refine region_ext (by kernel_rfl) (by kernel_rfl) ?_; (repeat (go_big_quiet_step ((go_at_call 144; exact ext_of (isBound_calls _ xk h3))))); with_reducible refine wpQuiet_end ?_; rintro e0)
            go_wp2
            go_roundg (gk - 1)
            case measure => omega
            case rel => exact ⟨k + 1, by go_num, by omega, by omega, ⟨below_step HB2.out e0.below⟩⟩
        · have hd2 : decide (k < xn + 40) = false := decide_eq_false (by omega)
          have hd2' : decide ((k : Int) < (xn : Int) + 40) = false := decide_eq_false (by omega)
          go_wp2
          go_roundg g0
          case measure => omega
          case rel => exact ⟨i + 1, by go_num, by omega, by omega, ⟨HBW.out.trans (HB2.out.mono HBW.out.size)⟩⟩
    · have hd : decide (i < N) = false := decide_eq_false (by omega)
      go_wp2
      go_ret
      exact ⟨rfl, HB.out⟩
theorem infoHBound : (Tryz.prog.info? 193).map (fun i => (i.zero, i.size, i.bytes)) = some (some (.agg #[.slice none 0 0, .slice none 0 0, .int .i64 0]), 3, 56) := by kernel_rfl
set_option maxRecDepth 100000 in
set_option maxHeartbeats 8000000 in
theorem keepBound_calls (w : World) (b0 b N c n : Nat) (A LA : Option Addr) (Ln Lc : Nat) (hs : List Hd) (cs : Array Value) (hN : N = hs.length) (hbk : w.heap[b]? = some (.cells cs 66 (0, 0))) (hc0 : cs[0]? = some (.int .i64 (n : Int))) (hc8 : cs[9]? = some (.slice A N c))
    (hH : kHeld.R 193 w b0 (fun _ => True) (.slice A N c) hs) (hb0 : b0 ≤ b) (hn : n ≤ 1000) (hN9 : N ≤ 1000) :
    Calls Tryz.prog 120 #[.pointer (some ⟨b, 0, none⟩), .slice LA Ln Lc] w fun e w' => e = .returned (.tuple #[]) ∧ ∃ A' c', w'.heap[b]? = some (.cells ((cs.setIfInBounds 0 (.int .i64 ((n : Int) + 1))).setIfInBounds 9 (.slice A' (N + 1) c')) 66 (0, 0)) ∧ kHeld.R 193 w' b0 (fun _ => True) (.slice A' (N + 1) c') (hs ++ [⟨LA, Ln, Lc, none, 0, 0, n + 1⟩]) ∧ Kept2 193 66 b0 w w' := by
  have hbw : b0 ≤ w.heap.size := Nat.le_trans hb0 (Nat.le_of_lt (blk_lt hbk))
  have HBK := Aside0.mk hbk
  have HN := Aside0.mk hN
  have HH := Aside0.mk hH
  have c0 := (blk_cell hbk 0).trans hc0
  have f0 := blk_frozen hbk 0
  have h1 := blk_put hbk 0 (.int .i64 ((n : Int) + 1)) rfl
  have hk1 := Kept2.cell (e := 193) (e2 := 66) (o := 0) hb0 (.inr rfl) hbk (.int .i64 ((n : Int) + 1))
  obtain ⟨W1, hW1⟩ : ∃ W, W = w.setCell ⟨b, 0, none⟩ (.int .i64 ((n : Int) + 1)) := ⟨_, rfl⟩
  rw [← hW1] at h1 hk1
  have d0 : W1.cell? ⟨b, 0, none⟩ = some (.int .i64 ((n : Int) + 1)) := (blk_cell h1 0).trans (by rw [Array.getElem?_setIfInBounds_self]; have := (Array.getElem?_eq_some_iff.1 hc0).1; simp [this])
  have d8 : W1.cell? ⟨b, 9, none⟩ = some (.slice A N c) := (blk_cell h1 9).trans (by rw [Array.getElem?_setIfInBounds_ne (by decide)]; exact hc8)
  have f8 := blk_frozen h1 9
  have hR1 := Kd.R_set hH hbk (fun t ht => by have ht : t = 193 := List.mem_singleton.1 (show t ∈ [193] from ht); rw [ht]; decide) 0 (.int .i64 ((n : Int) + 1))
  rw [← hW1] at hR1
  have HR1 := Aside0.mk hR1
  have H1 := Aside0.mk h1
  have HK1 := Aside0.mk hk1
  have HSZ : Aside0 (b0 ≤ W1.heap.size) := ⟨Nat.le_trans hbw hk1.below.size⟩
  have HW1 := Aside0.mk hW1
  clear hbk hN hH hc0 hc8 h1 hk1 hR1 hW1
  go_enter Tryz.func120, Tryz.ntmps120
  go_upto_region 1 with fail
  rw [← HW1.out]
  have HC : Aside0 (kHeld.C (W1.alloc (.cells #[.slice LA Ln Lc, .slice none 0 0, .int .i64 ((n : Int) + 1)] 193)).drew (some ⟨W1.heap.size, 0, none⟩) 1 [⟨LA, Ln, Lc, none, 0, 0, n + 1⟩]) := ⟨by
    have h := reps_cons (R := kHeld.K (W1.alloc (.cells #[.slice LA Ln Lc, .slice none 0 0, .int .i64 ((n : Int) + 1)] 193)).drew) (p := (⟨LA, Ln, Lc, none, 0, 0, n + 1⟩ : Hd)) (c := [.slice LA Ln Lc, .slice none 0 0, .int .i64 ((n : Int) + 1)]) (by show _ = heldC _; rfl) rfl (Reps.none _ kHeld.sz)
    exact C_block (blk_drew (blk_new W1 _)) h (show 1 ≤ 9223372036854775807 by decide)⟩
  have d0' : (W1.alloc (.cells #[.slice LA Ln Lc, .slice none 0 0, .int .i64 ((n : Int) + 1)] 193)).cell? ⟨b, 0, none⟩ = some (.int .i64 ((n : Int) + 1)) := pw_cell_below (below_alloc (Below.refl W1.heap.size W1) _) d0
  have d8' : (W1.alloc (.cells #[.slice LA Ln Lc, .slice none 0 0, .int .i64 ((n : Int) + 1)] 193)).cell? ⟨b, 9, none⟩ = some (.slice A N c) := pw_cell_below (below_alloc (Below.refl W1.heap.size W1) _) d8
  go_region_law (refine step_append_R rfl kHeld b0 (.tmp 15) (.tmp 22) 58 58 193 193 (.agg #[.slice none 0 0, .slice none 0 0, .int .i64 0]) 56 rfl (by kernel_rfl) (by kernel_rfl) infoHBound rfl (by decide) (by decide) (.slice A N c) hs [⟨LA, Ln, Lc, none, 0, 0, n + 1⟩] (some ⟨W1.heap.size, 0, none⟩) 1 1 (fun _ => True) (fun _ => False) rfl rfl (Kd.R_below HR1.out (below_alloc (Below.refl _ _) _).drew) HC.out (fun x cs h => h) (fun _ h => h.elim) (fun _ _ => trivial) (Nat.le_trans HSZ.out (below_alloc (Below.refl W1.heap.size W1) _).drew.size) (by rw [← HN.out]; omega) ?_; intro v1 w1 HO1 hg1 hat; obtain ⟨A2, c2, rfl⟩ := Kd.R_slice HO1; rw [List.length_append, List.length_singleton, ← HN.out] at HO1 ⊢; have HBA := Aside0.mk (below_alloc (Below.refl W1.heap.size W1) (.cells #[.slice LA Ln Lc, .slice none 0 0, .int .i64 ((n : Int) + 1)] 193)).drew; have hbx := blk_grown (blk_below H1.out HBA.out) hg1 (Kd.R_ne (Kd.R_below HR1.out HBA.out) (blk_below H1.out HBA.out) (by decide)); have f8' := blk_frozen hbx 9; obtain ⟨u8, hu8⟩ : ∃ u, w1.cell? ⟨b, 9, none⟩ = some u := ⟨_, (blk_cell hbx 9).trans ((blk_cell H1.out 9).symm.trans d8)⟩; have HBX := Aside0.mk hbx; have HO2 := Aside0.mk HO1; have HKA := Aside0.mk ((HK1.out.trans (Kept2.of_below HBA.out HSZ.out)).trans (Kept2.own (Kd.R_below HR1.out HBA.out) hg1 (Nat.le_trans HSZ.out HBA.out.size))); clear HO1 hg1 hat hbx)
  all_goals (
    go_wp2
    go_end0
    exact ⟨rfl, A2, c2, blk_put HBX.out 9 _ rfl, Kd.R_set HO2.out HBX.out (fun t ht => by have ht : t = 193 := List.mem_singleton.1 (show t ∈ [193] from ht); rw [ht]; decide) _ _, HKA.out.trans (Kept2.cell hb0 (.inr rfl) HBX.out _)⟩)
set_option maxRecDepth 100000 in
set_option maxHeartbeats 4000000 in
theorem Bounds_calls (w : World) (b0 b N c n : Nat) (A LA : Option Addr) (Ln Lc : Nat) (hs : List Hd) (cs : Array Value) (hN : N = hs.length) (hbk : w.heap[b]? = some (.cells cs 66 (0, 0))) (hc0 : cs[0]? = some (.int .i64 (n : Int))) (hc8 : cs[9]? = some (.slice A N c))
    (hH : kHeld.R 193 w b0 (fun _ => True) (.slice A N c) hs) (hb0 : b0 ≤ b) (hn : n ≤ 1000) (hN9 : N ≤ 1000) :
    Calls Tryz.prog 49 #[.pointer (some ⟨b, 0, none⟩), .slice LA Ln Lc] w fun e w' => e = .returned (.tuple #[]) ∧ ∃ A' c', w'.heap[b]? = some (.cells ((cs.setIfInBounds 0 (.int .i64 ((n : Int) + 1))).setIfInBounds 9 (.slice A' (N + 1) c')) 66 (0, 0)) ∧ kHeld.R 193 w' b0 (fun _ => True) (.slice A' (N + 1) c') (hs ++ [⟨LA, Ln, Lc, none, 0, 0, n + 1⟩]) ∧ Kept2 193 66 b0 w w' := by
  have HK := Aside0.mk (keepBound_calls w b0 b N c n A LA Ln Lc hs cs hN hbk hc0 hc8 hH hb0 hn hN9)
  clear hN hbk hc0 hc8 hH
  go_enter Tryz.func49, Tryz.ntmps49
  go_wp2_with (go_at_call 120; (with_reducible refine HK.out.mono ?_); rintro e W' ⟨rfl, hh⟩; have HH := Aside0.mk hh; clear hh)
  go_end0
  exact ⟨rfl, HH.out⟩
end Bk
end Go.Proofs.YtdecijmncpbheaaGreatDoor

namespace Go.Proofs.YtdecijmncpbheaaGreatDoor
open Go.RowKit Go.Proofs.YtdecijmncpbheaaGreatDoorW.PrintWords Go.Proofs.YtdecijmncpbheaaGreatDoorW.PrintLast Go.Proofs.YtdecijmncpbheaaGreatDoorW.PrintMore
set_option linter.unusedVariables false
set_option linter.unusedSimpArgs false
namespace Bk
set_option maxRecDepth 200000 in
set_option maxHeartbeats 16000000 in
theorem apartNBU (w : World) (b0 b : Nat) (cs : Array Value) (hbk : w.heap[b]? = some (.cells cs 66 (0, 0))) (hbs : b0 ≤ w.heap.size)
    (n1 : cs[1]? = some (.slice none 0 0))
    (n2 : cs[2]? = some (.slice none 0 0))
    (n3 : cs[3]? = some (.slice none 0 0))
    (n5 : cs[5]? = some (.slice none 0 0))
    (n6 : cs[6]? = some (.slice none 0 0))
    (n7 : cs[7]? = some (.slice none 0 0))
    (n10 : cs[10]? = some (.slice none 0 0))
    (n11 : cs[11]? = some (.slice none 0 0))
    (n12 : cs[12]? = some (.slice none 0 0))
    (n13 : cs[13]? = some (.slice none 0 0))
    (n14 : cs[14]? = some (.slice none 0 0))
    (n15 : cs[15]? = some (.slice none 0 0))
    (NNum cNum : Nat) (ANum : Option Addr) (hsNum : List Hd) (xsNum : Nat → List Int) (zNum : cs[4]? = some (.slice ANum NNum cNum)) (pNum : Pk (Kd.int .u64) 91 165 b0 ANum NNum cNum hsNum xsNum w) (eNum : NNum = hsNum.length) (mNum : ∀ x ∈ hsNum, x.n ≤ 5000 ∧ x.k ≤ 99) (aNum : Apart hsNum) (lNum : NNum ≤ 1000)
    (NNode cNode : Nat) (ANode : Option Addr) (hsNode : List Hd) (xsNode : Nat → List Node) (zNode : cs[8]? = some (.slice ANode NNode cNode)) (pNode : Pk kNode 119 167 b0 ANode NNode cNode hsNode xsNode w) (eNode : NNode = hsNode.length) (mNode : ∀ x ∈ hsNode, x.n ≤ 5000 ∧ x.k ≤ 99) (aNode : Apart hsNode) (lNode : NNode ≤ 1000)
    (NBound cBound : Nat) (ABound : Option Addr) (hsBound : List Hd) (xsBound : Nat → List Bound) (zBound : cs[9]? = some (.slice ABound NBound cBound)) (pBound : Pk kBound 104 193 b0 ABound NBound cBound hsBound xsBound w) (eBound : NBound = hsBound.length) (mBound : ∀ x ∈ hsBound, x.n ≤ 5000 ∧ x.k ≤ 99) (aBound : Apart hsBound) (lBound : NBound ≤ 1000)
    : Calls Tryz.prog 21 #[.pointer (some ⟨b, 0, none⟩)] w fun e w' => e = .returned (.bool true) ∧ Below b0 w w' := by
  have HBK := Aside0.mk hbk
  have HB := Aside0.mk (Below.refl b0 w)
  have HC1 := Aside0.mk n1
  have HC2 := Aside0.mk n2
  have HC3 := Aside0.mk n3
  have HC5 := Aside0.mk n5
  have HC6 := Aside0.mk n6
  have HC7 := Aside0.mk n7
  have HC10 := Aside0.mk n10
  have HC11 := Aside0.mk n11
  have HC12 := Aside0.mk n12
  have HC13 := Aside0.mk n13
  have HC14 := Aside0.mk n14
  have HC15 := Aside0.mk n15
  have HPNum := Aside0.mk pNum
  have HQNum := Aside0.mk (And.intro eNum (And.intro mNum (And.intro aNum (And.intro zNum lNum))))
  have HPNode := Aside0.mk pNode
  have HQNode := Aside0.mk (And.intro eNode (And.intro mNode (And.intro aNode (And.intro zNode lNode))))
  have HPBound := Aside0.mk pBound
  have HQBound := Aside0.mk (And.intro eBound (And.intro mBound (And.intro aBound (And.intro zBound lBound))))
  clear hbk n1 n2 n3 n5 n6 n7 n10 n11 n12 n13 n14 n15 pNum eNum mNum aNum zNum lNum pNode eNode mNode aNode zNode lNode pBound eBound mBound aBound zBound lBound
  go_enter Tryz.func21, Tryz.ntmps21
  go_wp2_with (first
    | (go_at_call 52; (with_reducible refine (fill0_Byte _ b ((blk_cell HBK.out 1).trans HC1.out)).mono ?_); rintro e W' ⟨rfl, rfl⟩)
    | (go_at_call 53; (with_reducible refine (fill0_Int _ b ((blk_cell HBK.out 2).trans HC2.out)).mono ?_); rintro e W' ⟨rfl, rfl⟩)
    | (go_at_call 54; (with_reducible refine (fill0_Text _ b ((blk_cell HBK.out 3).trans HC3.out)).mono ?_); rintro e W' ⟨rfl, rfl⟩)
    | (go_at_call 55; (with_reducible refine (fillNum_calls _ b0 b0 b NNum cNum ANum (fun _ => True) hsNum _ cs HQNum.out.1 HBK.out HQNum.out.2.2.2.1 HPNum.out.held HPNum.out.lists HQNum.out.2.1 HQNum.out.2.2.1 (Nat.le_trans hbs HB.out.size) HQNum.out.2.2.2.2).mono ?_); rintro e W' ⟨rfl, hk, hl⟩; have HK2 := Aside0.mk (KeptE.two (e2 := 91) hk); have HPNum' : Aside0 (Pk (Kd.int .u64) 91 165 b0 ANum NNum cNum hsNum (filled markNum hsNum) W') := ⟨⟨R_keep2 HPNum.out.held rfl (by decide) (by decide) HK2.out, hl⟩⟩; clear HPNum; have HPNum := HPNum'; clear HPNum'; have HPNode' := Aside0.mk (HPNode.out.keep rfl HK2.out (by decide) (by decide) (by decide) (by decide)); clear HPNode; have HPNode := HPNode'; clear HPNode'; have HPBound' := Aside0.mk (HPBound.out.keep rfl HK2.out (by decide) (by decide) (by decide) (by decide)); clear HPBound; have HPBound := HPBound'; clear HPBound'; have HBK' := Aside0.mk (HK2.out.box HBK.out (by decide) (by decide)); clear HBK; have HBK := HBK'; clear HBK'; have HB' := Aside0.mk (HB.out.trans HK2.out.below); clear HB; have HB := HB'; clear HB'; clear hk hl HK2)
    | (go_at_call 56; (with_reducible refine (fill0_Bool _ b ((blk_cell HBK.out 5).trans HC5.out)).mono ?_); rintro e W' ⟨rfl, rfl⟩)
    | (go_at_call 57; (with_reducible refine (fill0_BoolList _ b ((blk_cell HBK.out 6).trans HC6.out)).mono ?_); rintro e W' ⟨rfl, rfl⟩)
    | (go_at_call 58; (with_reducible refine (fill0_Pair _ b ((blk_cell HBK.out 7).trans HC7.out)).mono ?_); rintro e W' ⟨rfl, rfl⟩)
    | (go_at_call 59; (with_reducible refine (fillNode_calls _ b0 b0 b NNode cNode ANode (fun _ => True) hsNode _ cs HQNode.out.1 HBK.out HQNode.out.2.2.2.1 HPNode.out.held HPNode.out.lists HQNode.out.2.1 HQNode.out.2.2.1 (Nat.le_trans hbs HB.out.size) HQNode.out.2.2.2.2).mono ?_); rintro e W' ⟨rfl, hk, hl⟩; have HK2 := Aside0.mk (KeptE.two (e2 := 119) hk); have HPNode' : Aside0 (Pk kNode 119 167 b0 ANode NNode cNode hsNode (filled markN hsNode) W') := ⟨⟨R_keep2 HPNode.out.held rfl (by decide) (by decide) HK2.out, hl⟩⟩; clear HPNode; have HPNode := HPNode'; clear HPNode'; have HPNum' := Aside0.mk (HPNum.out.keep rfl HK2.out (by decide) (by decide) (by decide) (by decide)); clear HPNum; have HPNum := HPNum'; clear HPNum'; have HPBound' := Aside0.mk (HPBound.out.keep rfl HK2.out (by decide) (by decide) (by decide) (by decide)); clear HPBound; have HPBound := HPBound'; clear HPBound'; have HBK' := Aside0.mk (HK2.out.box HBK.out (by decide) (by decide)); clear HBK; have HBK := HBK'; clear HBK'; have HB' := Aside0.mk (HB.out.trans HK2.out.below); clear HB; have HB := HB'; clear HB'; clear hk hl HK2)
    | (go_at_call 60; (with_reducible refine (fillBound_calls _ b0 b0 b NBound cBound ABound (fun _ => True) hsBound _ cs HQBound.out.1 HBK.out HQBound.out.2.2.2.1 HPBound.out.held HPBound.out.lists HQBound.out.2.1 HQBound.out.2.2.1 (Nat.le_trans hbs HB.out.size) HQBound.out.2.2.2.2).mono ?_); rintro e W' ⟨rfl, hk, hl⟩; have HK2 := Aside0.mk (KeptE.two (e2 := 104) hk); have HPBound' : Aside0 (Pk kBound 104 193 b0 ABound NBound cBound hsBound (filled markBound hsBound) W') := ⟨⟨R_keep2 HPBound.out.held rfl (by decide) (by decide) HK2.out, hl⟩⟩; clear HPBound; have HPBound := HPBound'; clear HPBound'; have HPNum' := Aside0.mk (HPNum.out.keep rfl HK2.out (by decide) (by decide) (by decide) (by decide)); clear HPNum; have HPNum := HPNum'; clear HPNum'; have HPNode' := Aside0.mk (HPNode.out.keep rfl HK2.out (by decide) (by decide) (by decide) (by decide)); clear HPNode; have HPNode := HPNode'; clear HPNode'; have HBK' := Aside0.mk (HK2.out.box HBK.out (by decide) (by decide)); clear HBK; have HBK := HBK'; clear HBK'; have HB' := Aside0.mk (HB.out.trans HK2.out.below); clear HB; have HB := HB'; clear HB'; clear hk hl HK2)
    | (go_at_call 61; (with_reducible refine (fill0_Term _ b ((blk_cell HBK.out 10).trans HC10.out)).mono ?_); rintro e W' ⟨rfl, rfl⟩)
    | (go_at_call 62; (with_reducible refine (fill0_Spot _ b ((blk_cell HBK.out 11).trans HC11.out)).mono ?_); rintro e W' ⟨rfl, rfl⟩)
    | (go_at_call 63; (with_reducible refine (fill0_Import _ b ((blk_cell HBK.out 12).trans HC12.out)).mono ?_); rintro e W' ⟨rfl, rfl⟩)
    | (go_at_call 64; (with_reducible refine (fill0_Entry _ b ((blk_cell HBK.out 13).trans HC13.out)).mono ?_); rintro e W' ⟨rfl, rfl⟩)
    | (go_at_call 65; (with_reducible refine (fill0_Item _ b ((blk_cell HBK.out 14).trans HC14.out)).mono ?_); rintro e W' ⟨rfl, rfl⟩)
    | (go_at_call 66; (with_reducible refine (fill0_Word _ b ((blk_cell HBK.out 15).trans HC15.out)).mono ?_); rintro e W' ⟨rfl, rfl⟩)
    | (go_at_call 67; (with_reducible refine (grow0_Byte _ b ((blk_cell HBK.out 1).trans HC1.out)).mono ?_); rintro e W' ⟨rfl, rfl⟩)
    | (go_at_call 68; (with_reducible refine (grow0_Int _ b ((blk_cell HBK.out 2).trans HC2.out)).mono ?_); rintro e W' ⟨rfl, rfl⟩)
    | (go_at_call 69; (with_reducible refine (grow0_Text _ b ((blk_cell HBK.out 3).trans HC3.out)).mono ?_); rintro e W' ⟨rfl, rfl⟩)
    | (go_at_call 70; (with_reducible refine (growNum_calls _ b0 b0 b NNum cNum ANum hsNum cs HQNum.out.1 HBK.out HQNum.out.2.2.2.1 HPNum.out.held HPNum.out.lists HQNum.out.2.1 HQNum.out.2.2.1 (Nat.le_trans hbs HB.out.size) HQNum.out.2.2.2.2 (Nat.le_refl _)).mono ?_); rintro e W' ⟨rfl, hk, hs2Num, g1, g2, g3, g4⟩; have HK2 := Aside0.mk hk; have HGNum : Aside0 (GrE (Kd.int .u64) 91 165 b0 markNum ANum NNum cNum hsNum hs2Num W') := ⟨⟨_, g1, g2, g3, g4⟩⟩; clear HPNum; have HPNode' := Aside0.mk (HPNode.out.keep rfl HK2.out (by decide) (by decide) (by decide) (by decide)); clear HPNode; have HPNode := HPNode'; clear HPNode'; have HPBound' := Aside0.mk (HPBound.out.keep rfl HK2.out (by decide) (by decide) (by decide) (by decide)); clear HPBound; have HPBound := HPBound'; clear HPBound'; have HBK' := Aside0.mk (HK2.out.box HBK.out (by decide) (by decide)); clear HBK; have HBK := HBK'; clear HBK'; have HB' := Aside0.mk (HB.out.trans HK2.out.below); clear HB; have HB := HB'; clear HB'; clear hk g1 g2 g3 g4 HK2)
    | (go_at_call 71; (with_reducible refine (grow0_Bool _ b ((blk_cell HBK.out 5).trans HC5.out)).mono ?_); rintro e W' ⟨rfl, rfl⟩)
    | (go_at_call 72; (with_reducible refine (grow0_BoolList _ b ((blk_cell HBK.out 6).trans HC6.out)).mono ?_); rintro e W' ⟨rfl, rfl⟩)
    | (go_at_call 73; (with_reducible refine (grow0_Pair _ b ((blk_cell HBK.out 7).trans HC7.out)).mono ?_); rintro e W' ⟨rfl, rfl⟩)
    | (go_at_call 74; (with_reducible refine (growNode_calls _ b0 b0 b NNode cNode ANode hsNode cs HQNode.out.1 HBK.out HQNode.out.2.2.2.1 HPNode.out.held HPNode.out.lists HQNode.out.2.1 HQNode.out.2.2.1 (Nat.le_trans hbs HB.out.size) HQNode.out.2.2.2.2 (Nat.le_refl _)).mono ?_); rintro e W' ⟨rfl, hk, hs2Node, g1, g2, g3, g4⟩; have HK2 := Aside0.mk hk; have HGNode : Aside0 (GrE kNode 119 167 b0 markN ANode NNode cNode hsNode hs2Node W') := ⟨⟨_, g1, g2, g3, g4⟩⟩; clear HPNode; have HPBound' := Aside0.mk (HPBound.out.keep rfl HK2.out (by decide) (by decide) (by decide) (by decide)); clear HPBound; have HPBound := HPBound'; clear HPBound'; have HGNum' := Aside0.mk (HGNum.out.keep rfl HK2.out (by decide) (by decide) (by decide) (by decide)); clear HGNum; have HGNum := HGNum'; clear HGNum'; have HBK' := Aside0.mk (HK2.out.box HBK.out (by decide) (by decide)); clear HBK; have HBK := HBK'; clear HBK'; have HB' := Aside0.mk (HB.out.trans HK2.out.below); clear HB; have HB := HB'; clear HB'; clear hk g1 g2 g3 g4 HK2)
    | (go_at_call 75; (with_reducible refine (growBound_calls _ b0 b0 b NBound cBound ABound hsBound cs HQBound.out.1 HBK.out HQBound.out.2.2.2.1 HPBound.out.held HPBound.out.lists HQBound.out.2.1 HQBound.out.2.2.1 (Nat.le_trans hbs HB.out.size) HQBound.out.2.2.2.2 (Nat.le_refl _)).mono ?_); rintro e W' ⟨rfl, hk, hs2Bound, g1, g2, g3, g4⟩; have HK2 := Aside0.mk hk; have HGBound : Aside0 (GrE kBound 104 193 b0 markBound ABound NBound cBound hsBound hs2Bound W') := ⟨⟨_, g1, g2, g3, g4⟩⟩; clear HPBound; have HGNum' := Aside0.mk (HGNum.out.keep rfl HK2.out (by decide) (by decide) (by decide) (by decide)); clear HGNum; have HGNum := HGNum'; clear HGNum'; have HGNode' := Aside0.mk (HGNode.out.keep rfl HK2.out (by decide) (by decide) (by decide) (by decide)); clear HGNode; have HGNode := HGNode'; clear HGNode'; have HBK' := Aside0.mk (HK2.out.box HBK.out (by decide) (by decide)); clear HBK; have HBK := HBK'; clear HBK'; have HB' := Aside0.mk (HB.out.trans HK2.out.below); clear HB; have HB := HB'; clear HB'; clear hk g1 g2 g3 g4 HK2)
    | (go_at_call 76; (with_reducible refine (grow0_Term _ b ((blk_cell HBK.out 10).trans HC10.out)).mono ?_); rintro e W' ⟨rfl, rfl⟩)
    | (go_at_call 77; (with_reducible refine (grow0_Spot _ b ((blk_cell HBK.out 11).trans HC11.out)).mono ?_); rintro e W' ⟨rfl, rfl⟩)
    | (go_at_call 78; (with_reducible refine (grow0_Import _ b ((blk_cell HBK.out 12).trans HC12.out)).mono ?_); rintro e W' ⟨rfl, rfl⟩)
    | (go_at_call 79; (with_reducible refine (grow0_Entry _ b ((blk_cell HBK.out 13).trans HC13.out)).mono ?_); rintro e W' ⟨rfl, rfl⟩)
    | (go_at_call 80; (with_reducible refine (grow0_Item _ b ((blk_cell HBK.out 14).trans HC14.out)).mono ?_); rintro e W' ⟨rfl, rfl⟩)
    | (go_at_call 81; (with_reducible refine (grow0_Word _ b ((blk_cell HBK.out 15).trans HC15.out)).mono ?_); rintro e W' ⟨rfl, rfl⟩)
    | (go_at_call 82; (with_reducible refine (look0_Byte _ b ((blk_cell HBK.out 1).trans HC1.out)).mono ?_); rintro e W' ⟨rfl, rfl⟩)
    | (go_at_call 83; (with_reducible refine (look0_Int _ b ((blk_cell HBK.out 2).trans HC2.out)).mono ?_); rintro e W' ⟨rfl, rfl⟩)
    | (go_at_call 84; (with_reducible refine (look0_Text _ b ((blk_cell HBK.out 3).trans HC3.out)).mono ?_); rintro e W' ⟨rfl, rfl⟩)
    | (go_at_call 85; (with_reducible refine (lookNum_calls _ b NNum cNum ANum hs2Num (HGNum.out.reads HQNum.out.1 HQNum.out.2.1).1 ((blk_cell HBK.out 4).trans HQNum.out.2.2.2.1) (HGNum.out.reads HQNum.out.1 HQNum.out.2.1).2.1 (HGNum.out.reads HQNum.out.1 HQNum.out.2.1).2.2 HQNum.out.2.2.2.2).mono ?_); rintro e W' ⟨rfl, hb'⟩; have HGNum' := Aside0.mk (HGNum.out.below hb'); clear HGNum; have HGNum := HGNum'; clear HGNum'; have HGNode' := Aside0.mk (HGNode.out.below hb'); clear HGNode; have HGNode := HGNode'; clear HGNode'; have HGBound' := Aside0.mk (HGBound.out.below hb'); clear HGBound; have HGBound := HGBound'; clear HGBound'; have HBK' := Aside0.mk (blk_below HBK.out hb'); clear HBK; have HBK := HBK'; clear HBK'; have HB' := Aside0.mk (HB.out.trans (hb'.mono (Nat.le_trans hbs HB.out.size))); clear HB; have HB := HB'; clear HB'; clear hb')
    | (go_at_call 86; (with_reducible refine (look0_Bool _ b ((blk_cell HBK.out 5).trans HC5.out)).mono ?_); rintro e W' ⟨rfl, rfl⟩)
    | (go_at_call 87; (with_reducible refine (look0_BoolList _ b ((blk_cell HBK.out 6).trans HC6.out)).mono ?_); rintro e W' ⟨rfl, rfl⟩)
    | (go_at_call 88; (with_reducible refine (look0_Pair _ b ((blk_cell HBK.out 7).trans HC7.out)).mono ?_); rintro e W' ⟨rfl, rfl⟩)
    | (go_at_call 89; (with_reducible refine (lookNode_calls _ b NNode cNode ANode hs2Node (HGNode.out.reads HQNode.out.1 HQNode.out.2.1).1 ((blk_cell HBK.out 8).trans HQNode.out.2.2.2.1) (HGNode.out.reads HQNode.out.1 HQNode.out.2.1).2.1 (HGNode.out.reads HQNode.out.1 HQNode.out.2.1).2.2 HQNode.out.2.2.2.2).mono ?_); rintro e W' ⟨rfl, hb'⟩; have HGNum' := Aside0.mk (HGNum.out.below hb'); clear HGNum; have HGNum := HGNum'; clear HGNum'; have HGNode' := Aside0.mk (HGNode.out.below hb'); clear HGNode; have HGNode := HGNode'; clear HGNode'; have HGBound' := Aside0.mk (HGBound.out.below hb'); clear HGBound; have HGBound := HGBound'; clear HGBound'; have HBK' := Aside0.mk (blk_below HBK.out hb'); clear HBK; have HBK := HBK'; clear HBK'; have HB' := Aside0.mk (HB.out.trans (hb'.mono (Nat.le_trans hbs HB.out.size))); clear HB; have HB := HB'; clear HB'; clear hb')
    | (go_at_call 90; (with_reducible refine (lookBound_calls _ b NBound cBound ABound hs2Bound (HGBound.out.reads HQBound.out.1 HQBound.out.2.1).1 ((blk_cell HBK.out 9).trans HQBound.out.2.2.2.1) (HGBound.out.reads HQBound.out.1 HQBound.out.2.1).2.1 (HGBound.out.reads HQBound.out.1 HQBound.out.2.1).2.2 HQBound.out.2.2.2.2).mono ?_); rintro e W' ⟨rfl, hb'⟩; have HGNum' := Aside0.mk (HGNum.out.below hb'); clear HGNum; have HGNum := HGNum'; clear HGNum'; have HGNode' := Aside0.mk (HGNode.out.below hb'); clear HGNode; have HGNode := HGNode'; clear HGNode'; have HGBound' := Aside0.mk (HGBound.out.below hb'); clear HGBound; have HGBound := HGBound'; clear HGBound'; have HBK' := Aside0.mk (blk_below HBK.out hb'); clear HBK; have HBK := HBK'; clear HBK'; have HB' := Aside0.mk (HB.out.trans (hb'.mono (Nat.le_trans hbs HB.out.size))); clear HB; have HB := HB'; clear HB'; clear hb')
    | (go_at_call 91; (with_reducible refine (look0_Term _ b ((blk_cell HBK.out 10).trans HC10.out)).mono ?_); rintro e W' ⟨rfl, rfl⟩)
    | (go_at_call 92; (with_reducible refine (look0_Spot _ b ((blk_cell HBK.out 11).trans HC11.out)).mono ?_); rintro e W' ⟨rfl, rfl⟩)
    | (go_at_call 93; (with_reducible refine (look0_Import _ b ((blk_cell HBK.out 12).trans HC12.out)).mono ?_); rintro e W' ⟨rfl, rfl⟩)
    | (go_at_call 94; (with_reducible refine (look0_Entry _ b ((blk_cell HBK.out 13).trans HC13.out)).mono ?_); rintro e W' ⟨rfl, rfl⟩)
    | (go_at_call 95; (with_reducible refine (look0_Item _ b ((blk_cell HBK.out 14).trans HC14.out)).mono ?_); rintro e W' ⟨rfl, rfl⟩)
    | (go_at_call 96; (with_reducible refine (look0_Word _ b ((blk_cell HBK.out 15).trans HC15.out)).mono ?_); rintro e W' ⟨rfl, rfl⟩))
  go_ret
  exact ⟨rfl, HB.out⟩
end Bk
end Go.Proofs.YtdecijmncpbheaaGreatDoor
