/- trees.reader: rows of nodes; slices.Concat, slices.Grow. -/
import Derived.Test.YtdecijmncpbheaaGreatDoorTrW
import Derived.Shelf.Spec.SlicesGrow

namespace Go.Proofs.YtdecijmncpbheaaGreatDoor
open Go.RowKit Go.Proofs.YtdecijmncpbheaaGreatDoorW.PrintWords Go.Proofs.YtdecijmncpbheaaGreatDoorW.PrintLast Go.Proofs.YtdecijmncpbheaaGreatDoorW.PrintMore
set_option linter.unusedVariables false
set_option linter.unusedSimpArgs false
open Go.Shelf
namespace Tr
open Wd (gB_refl gB_trans gB_below gB_set)
/-- A row of nodes in new memory. -/
def Row (w : World) (base : Nat) (v : Value) (l : List Nd) : Prop := kNode.R 119 w base (fun _ => True) v l
theorem Row.grown {w W : World} {base b : Nat} {v : Value} {l : List Nd} (h : Row w base v l) (hg : w.grownBy W (some b)) (hb : b < base) : Row W base v l :=
  Kd.R_mono (Kd.R_grown (Kd.R_bound h) hg (fun k hk e => by have := Option.some.inj e; have := hk.2.1; omega)) (fun _ _ => trivial)
theorem Row.below {w W : World} {base : Nat} {v : Value} {l : List Nd} (h : Row w base v l) (hb : Below w.heap.size w W) : Row W base v l := Kd.R_below h hb
theorem Row.lower {w : World} {base base' : Nat} {v : Value} {l : List Nd} (h : Row w base v l) (hb : base' ≤ base) : Row w base' v l := Kd.R_lower h hb
theorem infoN : (Tryz.prog.info? 119).map (fun i => (i.zero, i.size, i.bytes)) = some (some (.agg #[.int .u8 0, .int .i64 0, .string ⟨#[]⟩, .int .i64 0, .bool false, .int .u64 0, .bool false, .int .u64 0, .bool false, .int .u64 0]), 10, 88) := by kernel_rfl
theorem nodeM {W : World} {base : Nat} {ok : Nat → Prop} {x : Nd} {w : World} {cs : List Value} (h : kNode.K w x cs) : kNode.M W base ok x cs := by
  rw [k119_open h]
  exact k119_mkM W base ok x
/-- A node in a block of its own, as a row. -/
theorem row_one {w : World} {g base : Nat} {x : Nd} (h : w.heap[g]? = some (.cells (nodeCs x) 119 (0, 0))) (hb : base ≤ g) : Row w base (.slice (some ⟨g, 0, none⟩) 1 1) [x] := by
  refine ⟨fun k _ => trivial, (nodeCs x).toList, ⟨rfl, .inr ⟨g, 1, nodeCs x, rfl, hb, h, Nat.le_refl _, by decide, rfl, rfl⟩⟩, ?_⟩
  have := reps_cons (R := kNode.M w base (fun k => True ∧ some k ≠ (Value.slice (some ⟨g, 0, none⟩) 1 1).ownBlock)) (k119_mkM w base _ x) rfl (Reps.none _ kNode.sz)
  exact this
theorem one_C {w : World} {g : Nat} {x : Nd} (h : w.heap[g]? = some (.cells (nodeCs x) 119 (0, 0))) : kNode.C w (some ⟨g, 0, none⟩) 1 [x] := (Kd.R_reads' (row_one (base := 0) h (Nat.zero_le _))).2.2
set_option maxRecDepth 100000 in
set_option maxHeartbeats 4000000 in
theorem grow_calls (w : World) (n : Nat) (h1 : 1 ≤ n) (h2 : n ≤ 1000) :
    Calls Tryz.prog 228 #[.slice none 0 0, .int .i64 (n : Int)] w fun e w' => ∃ A c, e = .returned (.slice A 0 c) ∧ Row w' w.heap.size (.slice A 0 c) [] ∧ Below w.heap.size w w' := by
  obtain ⟨i0, hi, hzz⟩ := Option.map_eq_some_iff.1 infoN
  simp only [Prod.mk.injEq] at hzz
  obtain ⟨hz0, hz1, hz2⟩ := hzz
  have := Any8.slices_Grow_grow Tryz.lays8n4 i0 _ hi hz0 (by rw [hz1]; decide) none 0 0 n [] w (Nat.le_refl _) (by omega) (by rw [hz2]; omega) (by omega) (by simp) (fun _ => rfl) (fun a e => by cases e)
  refine this.mono ?_
  rintro e w' ⟨rfl, rfl⟩
  have hG := grownCap_ge w (0 + n) 0 (Tryz.lays8n4_ren.t 25)
  have hG2 := grownCap_le_maxLen w (0 + n) 0 (Tryz.lays8n4_ren.t 25) (by unfold maxLen; omega)
  have hcs : (Value.agg #[.int .u8 0, .int .i64 0, .string ⟨#[]⟩, .int .i64 0, .bool false, .int .u64 0, .bool false, .int .u64 0, .bool false, .int .u64 0]).cells.size = 10 := by kernel_rfl
  refine ⟨_, _, rfl, ⟨fun k _ => trivial, [], ⟨by simp, .inr ⟨w.heap.size, _, _, rfl, Nat.le_refl _, blk_new w.drew _, Nat.zero_le _, hG2, ?_, by simp⟩⟩, Reps.none _ _⟩, below_alloc (Below.refl _ _).drew _⟩
  rw [Array.size_append, Array.size_append, size_zeroCells, size_zeroCells, hcs]
  show 0 + (0 + n - 0) * 10 + (_ - (0 + n)) * 10 = _ * 10
  omega
def flat (vs : List (Option Addr × Nat × List Nd)) : List Nd := vs.flatMap (·.2.2)
theorem flat_snoc (vs : List (Option Addr × Nat × List Nd)) (k : Nat) (hk : k < vs.length) : flat (vs.take (k + 1)) = flat (vs.take k) ++ vs[k].2.2 := by
  rw [flat, flat, List.take_succ_eq_append_getElem hk, List.flatMap_append]
  simp
theorem flat_le (vs : List (Option Addr × Nat × List Nd)) (k : Nat) : (flat (vs.take k)).length ≤ (flat vs).length := by
  have : flat vs = flat (vs.take k) ++ flat (vs.drop k) := by
    rw [flat, flat, flat, ← List.flatMap_append, List.take_append_drop]
  rw [this, List.length_append]
  omega
set_option maxRecDepth 100000 in
set_option maxHeartbeats 4000000 in
theorem concat_calls (w : World) (g c0 : Nat) (vs : List (Option Addr × Nat × List Nd)) (hg : ∀ j (hj : j < vs.length), w.cell? ⟨g, j, none⟩ = some (.slice vs[j].1 vs[j].2.2.length vs[j].2.1)) (hC : ∀ j (hj : j < vs.length), kNode.C w vs[j].1 vs[j].2.2.length vs[j].2.2) (h3 : vs.length ≤ 100) (ht1 : 1 ≤ (flat vs).length) (ht2 : (flat vs).length ≤ 1000) :
    Calls Tryz.prog 199 #[.slice (some ⟨g, 0, none⟩) vs.length c0] w fun e w' => ∃ A c, e = .returned (.slice A (flat vs).length c) ∧ Row w' w.heap.size (.slice A (flat vs).length c) (flat vs) ∧ Below w.heap.size w w' := by
  obtain ⟨n, hn⟩ : ∃ n, n = vs.length := ⟨_, rfl⟩
  obtain ⟨T, hT⟩ : ∃ T, T = (flat vs).length := ⟨_, rfl⟩
  have HG := Aside0.mk (And.intro hg hC)
  have HN := Aside0.mk (And.intro hn hT)
  have HGR := Aside0.mk (grow_calls w T (by omega) (by omega))
  have hfl := flat_le vs
  rw [← hT] at ht1 ht2 hfl ⊢
  have HFL := Aside0.mk hfl
  rw [← hn] at h3 ⊢
  clear hg hC hn hT hfl
  go_enter Tryz.func199, Tryz.ntmps199
  go_wp2
  go_loopg [3, 11] (n + 1) (fun gk z i W => ∃ k : Nat, i = .int .i64 (k : Int) ∧ z = .int .i64 ((flat (vs.take k)).length : Int) ∧ k ≤ n ∧ n + 1 - k ≤ gk ∧ W = w)
  case atStart => exact ⟨0, rfl, rfl, by omega, by omega, rfl⟩
  case round =>
    obtain ⟨k, rfl, rfl, hk, hkg, hW⟩ := hrel
    replace hW := hW.symm
    subst hW
    obtain ⟨S, hS⟩ : ∃ S, S = (flat (vs.take k)).length := ⟨_, rfl⟩
    rw [← hS]
    rcases Nat.lt_or_ge k n with hlt | hge
    · have hd : decide (k < n) = true := decide_eq_true hlt
      have hk2 : k < vs.length := by rw [← HN.out.1]; exact hlt
      obtain ⟨m, hm⟩ : ∃ m, m = vs[k].2.2.length := ⟨_, rfl⟩
      have c0 := HG.out.1 k hk2
      rw [← hm] at c0
      have hS2 : (flat (vs.take (k + 1))).length = S + m := by rw [flat_snoc vs k hk2, List.length_append, ← hS, ← hm]
      have hb := HFL.out (k + 1)
      rw [hS2] at hb
      have hw : IntKind.i64.wrap ((S : Int) + (m : Int)) = (S : Int) + (m : Int) := by rw [IntKind.wrap_i64]; omega
      have hd2 : decide ((S : Int) + (m : Int) < 0) = false := decide_eq_false (by omega)
      have HS2 := Aside0.mk hS2
      clear hS hS2 hm
      go_wp2
      go_roundg (gk - 1)
      case measure => omega
      case rel => exact ⟨k + 1, by go_num, by rw [HS2.out]; congr 1, by omega, by omega, rfl⟩
    · have hd : decide (k < n) = false := decide_eq_false (by omega)
      obtain rfl : k = n := by omega
      obtain rfl : S = T := by rw [hS, HN.out.1, List.take_length, HN.out.2]
      clear hS
      go_wp2_with fail
      refine HGR.out.mono ?_
      rintro e W1 ⟨A, c, rfl, hr, hb1⟩
      have HR1 := Aside0.mk hr
      have HB1 := Aside0.mk hb1
      clear hr hb1 HGR
      go_wp2
      go_loopg [6, 27] (k + 1) (fun gk v i W => ∃ (j : Nat) (A : Option Addr) (c : Nat), i = .int .i64 (j : Int) ∧ v = .slice A (flat (vs.take j)).length c ∧ j ≤ k ∧ k + 1 - j ≤ gk ∧ Aside0 (Row W w.heap.size (.slice A (flat (vs.take j)).length c) (flat (vs.take j))) ∧ Aside0 (Below w.heap.size w W))
      case atStart => exact ⟨0, A, c, rfl, rfl, by omega, by omega, HR1, HB1⟩
      case round =>
        clear HR1 HB1
        obtain ⟨j, A2, c2, rfl, rfl, hj, hjg, HR2, HB2⟩ := hrel
        obtain ⟨xs, hxs⟩ : ∃ xs, xs = flat (vs.take j) := ⟨_, rfl⟩
        rw [← hxs] at HR2 ⊢
        rcases Nat.lt_or_ge j k with hlt | hge
        · have hd : decide (j < k) = true := decide_eq_true hlt
          have hk2 : j < vs.length := by rw [← HN.out.1]; exact hlt
          obtain ⟨ys, hys⟩ : ∃ ys, ys = vs[j].2.2 := ⟨_, rfl⟩
          obtain ⟨A3, hA3⟩ : ∃ A, A = vs[j].1 := ⟨_, rfl⟩
          obtain ⟨c3, hc3⟩ : ∃ c, c = vs[j].2.1 := ⟨_, rfl⟩
          have e0 : wr.cell? ⟨g, j, none⟩ = some (.slice A3 ys.length c3) := by
            rw [hA3, hys, hc3]
            exact (Below.cell HB2.out (World.block_lt_of_cell? _ _ (HG.out.1 j hk2))).trans (HG.out.1 j hk2)
          have HC := Aside0.mk (Kd.C_below (HG.out.2 j hk2) HB2.out)
          rw [← hys, ← hA3] at HC
          have hS2 : flat (vs.take (j + 1)) = xs ++ ys := by rw [flat_snoc vs j hk2, ← hxs, ← hys]
          have hb := HFL.out (j + 1)
          rw [hS2, List.length_append] at hb
          have HS2 := Aside0.mk hS2
          have HLE : Aside0 ((xs.length + ys.length) * 88 ≤ 140737488355328) := ⟨by omega⟩
          clear hxs hys hA3 hc3 hS2 hb
          go_wp2_with (at_builtin; refine wpList_append_R rfl kNode w.heap.size (.tmp 31) (.tmp 32) 22 22 119 119 (.agg #[.int .u8 0, .int .i64 0, .string ⟨#[]⟩, .int .i64 0, .bool false, .int .u64 0, .bool false, .int .u64 0, .bool false, .int .u64 0]) 88 rfl (by kernel_rfl) (by kernel_rfl) infoN rfl (by decide) (by decide) (.slice A2 xs.length c2) xs ys A3 ys.length c3 (fun _ => True) (fun _ => False) rfl rfl HR2.out HC.out (fun x cs h => nodeM h) (fun _ h => h.elim) (fun _ _ => trivial) HB2.out.size HLE.out ?_; intro v1 w1 HO1 hg1 hat; obtain ⟨A4, c4, rfl⟩ := Kd.R_slice HO1; have HR3 := Aside0.mk HO1; have HB3 := Aside0.mk (HB2.out.grown hg1 HB2.out.size (fun k hk => (Kd.R_bound HR2.out).1 k hk |>.2.1)); clear HO1 hg1 hat)
          go_roundg (gk - 1)
          case measure => omega
          case rel => exact ⟨j + 1, A4, c4, by go_num, by rw [HS2.out, List.length_append], by omega, by omega, ⟨by rw [HS2.out]; exact HR3.out⟩, HB3⟩
        · have hd : decide (j < k) = false := decide_eq_false (by omega)
          obtain rfl : j = k := by omega
          have e : xs = flat vs := by rw [hxs, HN.out.1, List.take_length]
          have HX := Aside0.mk (And.intro HR2.out HB2.out)
          have HE := Aside0.mk e
          clear hxs e
          go_wp2
          go_ret
          have h2 := HN.out.2
          rw [← HE.out] at h2 ⊢
          rw [h2]
          exact ⟨A2, c2, rfl, HX.out.1, HX.out.2⟩
set_option maxRecDepth 100000 in
set_option maxHeartbeats 4000000 in
theorem clipN_calls (w : World) (A : Option Addr) (n c : Nat) (h : n ≤ c) (hm : c ≤ 9223372036854775807) (hA : A = none → n = 0 ∧ c = 0) :
    Calls Tryz.prog 110 #[.slice A n c] w fun e w' => e = .returned (.slice A n n) ∧ w' = w := by
  cases A with
  | none =>
    obtain ⟨rfl, rfl⟩ := hA rfl
    go_enter Tryz.func110, Tryz.ntmps110
    go_wp2
    go_ret
    exact ⟨rfl, rfl⟩
  | some ad =>
    clear hA
    go_enter Tryz.func110, Tryz.ntmps110
    go_wp2
    go_ret
    exact ⟨rfl, rfl⟩
set_option maxRecDepth 100000 in
set_option maxHeartbeats 4000000 in
theorem clipW_calls (w : World) (A : Option Addr) (n c : Nat) (h : n ≤ c) (hm : c ≤ 9223372036854775807) (hA : A = none → n = 0 ∧ c = 0) :
    Calls Tryz.prog 160 #[.slice A n c] w fun e w' => e = .returned (.slice A n n) ∧ w' = w := by
  cases A with
  | none =>
    obtain ⟨rfl, rfl⟩ := hA rfl
    go_enter Tryz.func160, Tryz.ntmps160
    go_wp2
    go_ret
    exact ⟨rfl, rfl⟩
  | some ad =>
    clear hA
    go_enter Tryz.func160, Tryz.ntmps160
    go_wp2
    go_ret
    exact ⟨rfl, rfl⟩
theorem nilW (w : World) (A : Option Addr) (n c : Nat) : (binOp .eql 125 (.slice A n c) (.slice none 0 0)).run Tryz.prog w = .ok (.bool A.isNone) w := by cases A <;> kernel_rfl
set_option maxRecDepth 100000 in
set_option maxHeartbeats 4000000 in
theorem cloneW_calls (w : World) (A : Option Addr) (c : Nat) (l : List Wrd) (hl : l.length * 40 ≤ 140737488355328) (hC : kWord.C w A l.length l) :
    Calls Tryz.prog 161 #[.slice A l.length c] w fun e w' => ∃ A' c', e = .returned (.slice A' l.length c') ∧ kWord.R 134 w' w.heap.size (fun _ => True) (.slice A' l.length c') l ∧ Below w.heap.size w w' := by
  have hnil := nilW
  cases A with
  | none =>
    have h0 : l = [] := by
      have := hC.2.2
      cases l with
      | nil => rfl
      | cons x r =>
        obtain ⟨ad, e, _⟩ := this (by simp)
        cases e
    subst h0
    clear hC hl
    go_enter Tryz.func161, Tryz.ntmps161
    go_wp2
    go_ret
    exact ⟨none, 0, rfl, Kd.R_nil _ _ _ _ _, Below.refl _ _⟩
  | some ad =>
    have HC := Aside0.mk hC
    have HL := Aside0.mk hl
    obtain ⟨n, hn⟩ : ∃ n, n = l.length := ⟨_, rfl⟩
    have HN := Aside0.mk hn
    rw [← hn]
    clear hn hC hl
    go_enter Tryz.func161, Tryz.ntmps161
    have HR0 : Aside0 (kWord.R 134 (w.alloc (.cells #[] 134)) w.heap.size (fun _ => True) (.slice (some ⟨w.heap.size, 0, none⟩) 0 0) []) := ⟨⟨fun _ _ => trivial, [], World.ownsRow_made w #[] 0 (Nat.le_refl _) (by decide) rfl, Reps.none _ _⟩⟩
    have HC1 := Aside0.mk (Kd.C_below HC.out (below_alloc (Below.refl _ _) (.cells #[] 134)))
    have HB1 := Aside0.mk (below_alloc (Below.refl w.heap.size w) (.cells #[] 134))
    have HLL : Aside0 ((([] : List Wrd).length + l.length) * 40 ≤ 140737488355328) := ⟨by rw [List.length_nil, Nat.zero_add]; exact HL.out⟩
    rw [← HN.out] at HC1 HLL
    go_wp2_with (at_builtin; refine wpList_append_R rfl kWord w.heap.size (.tmp 5) (.tmp 6) 125 125 134 134 (.agg #[.int .u8 0, .string ⟨#[]⟩, .int .i64 0, .int .i64 0]) 40 rfl (by kernel_rfl) (by kernel_rfl) Wd.infoW rfl (by decide) (by decide) (.slice (some ⟨w.heap.size, 0, none⟩) 0 0) [] l (some ad) n c (fun _ => True) (fun _ => False) rfl rfl HR0.out HC1.out (fun x cs h => Wd.wordM h) (fun _ h => h.elim) (fun _ _ => trivial) HB1.out.size HLL.out ?_; intro v1 w1 HO1 hg1 hat; obtain ⟨A4, c4, rfl⟩ := Kd.R_slice HO1; have HR3 := Aside0.mk HO1; have HB3 := Aside0.mk (HB1.out.grown hg1 HB1.out.size (fun k hk => (Kd.R_bound HR0.out).1 k hk |>.2.1)); clear HO1 hg1 hat)
    have hr := HR3.out
    rw [List.nil_append, ← HN.out] at hr
    have HR4 := Aside0.mk hr
    clear hr
    simp only [List.nil_append, ← HN.out]
    go_ret
    exact ⟨A4, c4, rfl, HR4.out, HB3.out⟩
end Tr
end Go.Proofs.YtdecijmncpbheaaGreatDoor
