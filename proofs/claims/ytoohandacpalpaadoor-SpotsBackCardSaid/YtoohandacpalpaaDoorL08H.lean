/- The law SpotsBack: a walk through its code at every input. -/
import Derived.Test.YtoohandacpalpaaDoorL08G
namespace Go.Proofs.YtoohandacpalpaaDoor
open Go.RowKit Go.Shelf Go.Proofs.YtoohandacpalpaaDoorW.PrintWords Go.Proofs.YtoohandacpalpaaDoorW.PrintLast Go.Proofs.YtoohandacpalpaaDoorW.PrintMore
set_option linter.unusedVariables false
set_option linter.unusedSimpArgs false
namespace L08
open L07
set_option maxRecDepth 100000 in
set_option maxHeartbeats 4000000 in
theorem back_no (w : World) (A B : Option Addr) (c N n d : Nat) (body : List Node) (hN : N = body.length) (hr : kNode.C w A body.length body) (h : 300 < N ∨ n = 0 ∨ checkB body ≠ 0) :
    Calls Tryd.prog 12 #[.slice A N c, .slice B n d] w fun e w' => e = .returned (.bool true) ∧ Below w.heap.size w w' := by
  obtain ⟨q, hq⟩ : ∃ q, q = checkB body := ⟨_, rfl⟩
  have CK : Aside0 (∀ W, Below w.heap.size w W → Calls Tryd.prog 14 #[.slice A N c] W fun e w' => e = .returned (.int .i64 q) ∧ Below W.heap.size W w') := ⟨fun W hb => by rw [hq, hN]; exact check_calls W A c body (Kd.C_below hr hb)⟩
  rw [← hq] at h
  have HB := Aside0.mk (Below.refl w.heap.size w)
  clear hN hq hr
  by_cases h1 : 300 < N
  rotate_left
  by_cases h2 : n = 0
  rotate_left
  all_goals
    try have z1 : decide (300 < (N : Int)) = true := decide_eq_true (by omega)
    try have z1 : decide (300 < (N : Int)) = false := decide_eq_false (by omega)
    try have z2 : ((n : Int) == 0) = true := beq_iff_eq.mpr (by omega)
    try have z2 : ((n : Int) == 0) = false := beq_eq_false_iff_ne.mpr (by omega)
    try have e0 : (q != 0) = true := bne_iff_ne.mpr ((h.resolve_left h1).resolve_left h2)
    clear h h1
    try clear h2
    go_enter Tryd.func12, Tryd.ntmps12
    go_wp2_with (first | (go_at_call 14; (with_reducible refine (CK.out _ HB.out).mono ?_); rintro e W' ⟨rfl, hb'⟩; have HB' := Aside0.mk (below_step HB.out hb'); clear HB hb'; have HB := HB'; clear HB') | (go_at_call 28; (with_reducible refine (alive_calls _).mono ?_); rintro e W' ⟨rfl, hb'⟩; have HB' := Aside0.mk (below_step HB.out hb'); clear HB hb'; have HB := HB'; clear HB'))
    go_ret
    exact ⟨rfl, HB.out⟩
set_option maxRecDepth 100000 in
set_option maxHeartbeats 8000000 in
theorem back_yes (w : World) (ad : Addr) (B : Option Addr) (c N n d : Nat) (body : List Node) (zs : List Term) (hN : N = body.length) (hr : kNode.C w (some ad) body.length body) (hz : checkB body = 0) (hzr : kTerm.C w B n zs) (hn : 0 < n) (hnm : n ≤ 9223372036854775807) :
    Calls Tryd.prog 12 #[.slice (some ad) N c, .slice B n d] w fun e w' => e = .returned (.bool true) ∧ Below w.heap.size w w' := by
  have hl128 : N ≤ 128 := by rw [hN]; exact (checkB_L hz).2.1
  obtain ⟨l, hl⟩ : ∃ l, l = labB body := ⟨_, rfl⟩
  obtain ⟨x, hx⟩ : ∃ x, x = effB body := ⟨_, rfl⟩
  obtain ⟨L, hL⟩ : ∃ L, L = l.length := ⟨_, rfl⟩
  obtain ⟨X, hX⟩ : ∃ X, X = x.length := ⟨_, rfl⟩
  have hLP : L = (labP body N).length := by rw [hL, hl, hN, labP_full hz]
  have hXP : X = (effP body N).length := by rw [hX, hx, hN, effP_full hz]
  have hL2 : L ≤ 2 * N := by rw [hLP, hN]; exact labP_len _ _
  have hX2 : X ≤ N := by rw [hXP, hN]; exact effP_len _ _
  have CK : Aside0 (∀ W, Below w.heap.size w W → Calls Tryd.prog 14 #[.slice (some ad) N c] W fun e w' => e = .returned (.int .i64 0) ∧ Below W.heap.size W w') := ⟨fun W hb => by rw [← hz, hN]; exact check_calls W _ c body (Kd.C_below hr hb)⟩
  have OF : Aside0 (∀ W, Below w.heap.size w W → Calls Tryd.prog 27 #[.slice (some ad) N c] W fun e w' => ∃ v1 v2, e = .returned (.tuple #[v1, v2]) ∧ kSpot.R 50 w' W.heap.size (fun k => some k ≠ v2.ownBlock) v1 l ∧ kSpot.R 50 w' W.heap.size (fun k => some k ≠ v1.ownBlock) v2 x ∧ Below W.heap.size W w') := ⟨fun W hb => by rw [hN, hl, hx]; exact of_calls W (some ad) c body (Kd.C_below hr hb)⟩
  have PU : Aside0 (∀ W (B1 B2 : Option Addr) (d1 d2 : Nat) (ls es : List Term), Below w.heap.size w W → kTerm.C W B1 L ls → kTerm.C W B2 X es → Calls Tryd.prog 31 #[.slice (some ad) N c, .slice B1 L d1, .slice B2 X d2] W fun e w' => ∃ g c1, e = .returned (.tuple #[.slice (some ⟨g, 0, none⟩) N N, .int .i64 0]) ∧ kNode.R 36 w' W.heap.size (fun _ => True) (.slice (some ⟨g, 0, none⟩) N c1) (putB body ls es) ∧ Below W.heap.size W w') := ⟨fun W B1 B2 d1 d2 ls es hb h1 h2 =>
    put_ok W ad c N body hN (Kd.C_below hr hb) B1 B2 d1 d2 L X ls es (by rw [h1.1]; exact h1) (by rw [h2.1]; exact h2) hz hLP hXP h1.1.symm h2.1.symm⟩
  have hown : putB body (l.map (·.f3)) (x.map (·.f3)) = body := by rw [hl, hx]; exact putB_own hz
  have z1 : decide (300 < (N : Int)) = false := decide_eq_false (by omega)
  have z2 : ((n : Int) == 0) = false := beq_eq_false_iff_ne.mpr (by omega)
  have HZ := Aside0.mk hz
  have HN := Aside0.mk hN
  have HR := Aside0.mk hr
  have HZR := Aside0.mk hzr
  have HLB := Aside0.mk hl
  have HXB := Aside0.mk hx
  have HLL := Aside0.mk hL
  have HXL := Aside0.mk hX
  have HOWN := Aside0.mk hown
  have HB := Aside0.mk (Below.refl w.heap.size w)
  clear hz hN hr hzr hl hx hL hX hLP hXP hown
  go_enter Tryd.func12, Tryd.ntmps12
  go_wp2_with (go_at_call 14; (with_reducible refine (CK.out _ HB.out).mono ?_); rintro e W' ⟨rfl, hb'⟩; have HB' := Aside0.mk (below_step HB.out hb'); clear HB hb'; have HB := HB'; clear HB')
  refine (OF.out _ HB.out).mono ?_
  rintro e w2 ⟨v1, v2, rfl, r1, r2, hb2⟩
  obtain ⟨A1, c1, rfl⟩ := Kd.R_slice r1
  obtain ⟨A2, c2, rfl⟩ := Kd.R_slice r2
  rw [← HLL.out, ← HXL.out] at r1 r2 ⊢
  have HB2 := Aside0.mk (below_step HB.out hb2)
  have R1 := Aside0.mk (Kd.R_lower r1 HB.out.size)
  have R2 := Aside0.mk (Kd.R_lower r2 HB.out.size)
  clear r1 r2 hb2 HB
  go_wp2_with fail
  have T1 := terms_calls w2 A1 c1 l (by rw [← HLL.out]; omega) (Kd.R_reads' R1.out).2.2
  rw [← HLL.out] at T1
  refine T1.mono ?_
  rintro e w3 ⟨A3, c3, rfl, r3, hb3⟩
  clear T1
  have HB3 := Aside0.mk (below_step HB2.out hb3)
  have R1' := Aside0.mk (Kd.R_below R1.out hb3)
  have R2' := Aside0.mk (Kd.R_below R2.out hb3)
  have R3 := Aside0.mk (Kd.R_reads' r3).2.2
  clear R1 R2 r3 hb3 HB2
  go_wp2_with fail
  have T1 := terms_calls w3 A2 c2 x (by rw [← HXL.out]; omega) (Kd.R_reads' R2'.out).2.2
  rw [← HXL.out] at T1
  refine T1.mono ?_
  rintro e w4 ⟨A4, c4, rfl, r4, hb4⟩
  clear T1
  have HB4 := Aside0.mk (below_step HB3.out hb4)
  have R1 := Aside0.mk (Kd.R_below R1'.out hb4)
  have R2 := Aside0.mk (Kd.R_below R2'.out hb4)
  have R3' := Aside0.mk (Kd.C_below R3.out hb4)
  have R4 := Aside0.mk (Kd.R_reads' r4).2.2
  clear R1' R2' r4 hb4 R3 HB3
  go_wp2_with fail
  have P1 := PU.out w4 A3 A4 c3 c4 (l.map (·.f3)) (x.map (·.f3)) HB4.out (by have h := R3'.out; rwa [List.length_map, ← HLL.out] at h) (by have h := R4.out; rwa [List.length_map, ← HXL.out] at h)
  rw [HOWN.out] at P1
  refine P1.mono ?_
  rintro e w5 ⟨g5, c5, rfl, r5, hb5⟩
  clear P1
  have HB5 := Aside0.mk (below_step HB4.out hb5)
  have R1' := Aside0.mk (Kd.R_below R1.out hb5)
  have R2' := Aside0.mk (Kd.R_below R2.out hb5)
  have R5 := Aside0.mk (Kd.R_reads' r5).2.2
  clear R1 R2 R3' R4 r5 hb5 HB4
  go_wp2_with fail
  have S1 := sameNodes_calls w5 (some ⟨g5, 0, none⟩) (some ad) N c body R5.out (Kd.C_below HR.out HB5.out)
  rw [← HN.out] at S1
  refine S1.mono ?_
  rintro e w6 ⟨rfl, hb6⟩
  clear S1
  have HB6 := Aside0.mk (below_step HB5.out hb6)
  have R1 := Aside0.mk (Kd.R_below R1'.out hb6)
  have R2 := Aside0.mk (Kd.R_below R2'.out hb6)
  clear R1' R2' R5 hb6 HB5
  go_wp2
  have HW6 := Aside0.mk HB6.out.size
  -- what the loops write
  obtain ⟨f1, hf1⟩ : ∃ f : Nat → Term, f = fun k => zs.getD (k % n) ⟨false, 0⟩ := ⟨_, rfl⟩
  obtain ⟨f2, hf2⟩ : ∃ f : Nat → Term, f = fun k => zs.getD ((k + 1) % n) ⟨false, 0⟩ := ⟨_, rfl⟩
  have HF1 := Aside0.mk hf1
  have HF2 := Aside0.mk hf2
  clear hf1 hf2
  have D1 : Aside0 (kSpot.R 50 w6 w.heap.size (fun k => k < w6.heap.size ∧ some k ≠ (Value.slice A2 X c2).ownBlock) (.slice A1 L c1) l) := ⟨Kd.R_mono (Kd.R_bound R1.out) (fun k hk => ⟨hk.2.2.1, hk.1⟩)⟩
  have D2 : Aside0 (kSpot.R 50 w6 w.heap.size (fun k => k < w6.heap.size ∧ some k ≠ (Value.slice A1 L c1).ownBlock) (.slice A2 X c2) x) := ⟨Kd.R_mono (Kd.R_bound R2.out) (fun k hk => ⟨hk.2.2.1, hk.1⟩)⟩
  clear R1 R2
  go_loopg [9, 11] (L + 1) (fun g a i W => ∃ (k : Nat) (A7 : Option Addr) (c7 : Nat), i = .int .i64 (k : Int) ∧ a = .slice A7 k c7 ∧ k ≤ L ∧ L + 1 - k ≤ g ∧ Aside0 (kTerm.R 34 W w6.heap.size (fun _ => True) (.slice A7 k c7) (cyc f1 k)) ∧ Aside0 (kSpot.R 50 W w.heap.size (fun k => k < w6.heap.size ∧ some k ≠ (Value.slice A2 X c2).ownBlock) (.slice A1 L c1) (mix l f1 k)) ∧ Aside0 (kSpot.R 50 W w.heap.size (fun k => k < w6.heap.size ∧ some k ≠ (Value.slice A1 L c1).ownBlock) (.slice A2 X c2) x) ∧ Aside0 (Below w.heap.size w W ∧ w6.heap.size ≤ W.heap.size))
  case atStart => exact ⟨0, none, 0, rfl, rfl, by omega, by omega, ⟨Kd.R_nil _ _ _ _ _⟩, ⟨by rw [mix_zero]; exact D1.out⟩, D2, ⟨HB6.out, Nat.le_refl _⟩⟩
  case round =>
    clear D1 D2 HB6
    obtain ⟨k, A7, c7, rfl, rfl, hk, hkg, HO, D1, D2, HB⟩ := hrel
    rcases Nat.lt_or_ge k L with hlt | hge
    · have hdk : decide (k < L) = true := decide_eq_true hlt
      have hkl : k < l.length := by rw [← HLL.out]; exact hlt
      have hml : (mix l f1 k).length = L := by rw [mix_len _ _ _ (by omega), HLL.out]
      obtain ⟨gl, rfl⟩ := R_pos D1.out (by omega)
      have hgl6 : gl < w6.heap.size := (D1.out.1 gl rfl).1
      have hgw : w.heap.size ≤ gl := own_base (Kd.R_own D1.out).choose_spec gl rfl
      obtain ⟨r, hr⟩ : ∃ r, r = k % n := ⟨_, rfl⟩
      have hrn : r < n := by rw [hr]; exact Nat.mod_lt _ hn
      have hrem : (k : Int) % (n : Int) = (r : Int) := by rw [hr]; exact (Int.natCast_emod k n).symm
      obtain ⟨t, ht⟩ : ∃ t, t = f1 k := ⟨_, rfl⟩
      have HT := Aside0.mk ht
      have htz : t = zs.getD r ⟨false, 0⟩ := by rw [ht, HF1.out, hr]
      obtain ⟨bd, rfl, t0, t1⟩ := termNat (Kd.C_below HZR.out HB.out.1) r hrn t htz
      have HTZ := Aside0.mk htz
      clear hr ht htz
      have hcl : (cyc f1 k).length = k := cyc_len _ _
      go_wp2_with (at_builtin; refine wpList_append_R rfl kTerm w6.heap.size (.tmp 59) (.tmp 67) 38 38 34 34 (.agg #[.bool false, .int .u64 0]) 16 rfl (by kernel_rfl) (by kernel_rfl) infoT rfl (by decide) (by decide) (.slice A7 k c7) (cyc f1 k) [t] (some ⟨wr.heap.size, 0, none⟩) 1 1 (fun _ => True) (fun _ => False) rfl rfl (Kd.R_below HO.out (below_alloc (Below.refl _ _) _)) (term_C wr t) (fun x cs h => termM h) (fun _ h => h.elim) (fun _ _ => trivial) (by simp; have := HB.out.2; omega) (by rw [hcl]; omega) ?_; intro v1 w1 HO1 hg1 hat; rw [HT.out, cyc_next] at HO1; obtain ⟨A8, c8, rfl⟩ := Kd.R_slice HO1; rw [cyc_len] at HO1 ⊢; have hag : ∀ q, (Value.slice A7 k c7).ownBlock = some q → w6.heap.size ≤ q := (fun q e => own_base (Kd.R_own HO.out).choose_spec q e); have HB1 : Aside0 (Below w.heap.size w w1 ∧ w6.heap.size ≤ w1.heap.size) := ⟨(below_alloc HB.out.1 _).grown hg1 (below_alloc HB.out.1 _).size (fun q e => Nat.le_trans HW6.out (hag q e)), (by have := hg1.size; have := HB.out.2; simp at *; omega)⟩; have HO2 := Aside0.mk HO1; have D1' := Aside0.mk (Kd.R_grown (Kd.R_below D1.out (below_alloc (Below.refl _ _) (.cells #[.bool t.f0, .int .u64 t.f1] 34))) hg1 (fun q hq e => by have := hag q e.symm; omega)); have D2' := Aside0.mk (Kd.R_grown (Kd.R_below D2.out (below_alloc (Below.refl _ _) (.cells #[.bool t.f0, .int .u64 t.f1] 34))) hg1 (fun q hq e => by have := hag q e.symm; omega)); obtain ⟨p0, p1, p2, p3, p4, pf⟩ := spot_cells D1'.out k (by rw [hml]; exact hlt); obtain ⟨bd', e', t0', t1'⟩ := termNat (Kd.C_below HZR.out HB1.out.1) r hrn t HTZ.out; cases e'; clear HO1 hg1 hat HO HB D1 D2 t0 t1 hag)
      go_roundg (gk - 1)
      case measure => omega
      case rel =>
        have h2 := spot_term D1'.out k (by rw [hml]; exact hlt) t
        rw [mix_get l f1 k hkl, HT.out, mix_next l f1 k hkl, ← HT.out] at h2
        refine ⟨k + 1, A8, c8, by go_num, rfl, by omega, by omega, ⟨?_⟩, ⟨h2⟩, ⟨?_⟩, ⟨?_⟩⟩
        · refine Kd.R_mono (Kd.R_far (Kd.R_far (Kd.R_mono (Kd.R_bound HO2.out) (fun q hq => hq.2.1)) (fun q hq e => ?_) _) (fun q hq e => ?_) _) (fun _ _ => trivial)
          · simp only at e; omega
          · simp only at e; omega
        · refine Kd.R_far (Kd.R_far D2'.out (fun q hq e => hq.2 ?_) _) (fun q hq e => hq.2 ?_) _
          · rw [e]; rfl
          · rw [e]; rfl
        · exact ⟨below_set (below_set HB1.out.1 _ hgw) _ hgw, by simp only [World.setCell, Array.size_modify]; exact HB1.out.2⟩
    · have hdk : decide (k < L) = false := decide_eq_false (by omega)
      obtain rfl : L = k := by omega
      have D3 := D1.out
      rw [mix_all l f1 L HLL.out] at D3
      have D1' := Aside0.mk D3
      clear D1 D3 hge hkg hk
      generalize wr = w7 at *
      have HA7 : Aside0 (kTerm.R 34 w7 w6.heap.size (fun k => k < w7.heap.size ∧ w6.heap.size ≤ k) (.slice A7 L c7) (cyc f1 L)) := ⟨Kd.R_mono (Kd.R_bound HO.out) (fun q hq => ⟨hq.2.2.1, hq.2.1⟩)⟩
      have HW7 := Aside0.mk HB.out.2
      have HB7 := Aside0.mk HB.out.1
      clear HO HB
      go_wp2
      go_loopg [10, 12] (X + 1) (fun g a i W => ∃ (k : Nat) (A9 : Option Addr) (c9 : Nat), i = .int .i64 (k : Int) ∧ a = .slice A9 k c9 ∧ k ≤ X ∧ X + 1 - k ≤ g ∧ Aside0 (kTerm.R 34 W w7.heap.size (fun _ => True) (.slice A9 k c9) (cyc f2 k)) ∧ Aside0 (kTerm.R 34 W w6.heap.size (fun k => k < w7.heap.size ∧ w6.heap.size ≤ k) (.slice A7 L c7) (cyc f1 L)) ∧ Aside0 (kSpot.R 50 W w.heap.size (fun k => k < w6.heap.size ∧ some k ≠ (Value.slice A2 X c2).ownBlock) (.slice A1 L c1) (withT l (cyc f1 L))) ∧ Aside0 (kSpot.R 50 W w.heap.size (fun k => k < w6.heap.size ∧ some k ≠ (Value.slice A1 L c1).ownBlock) (.slice A2 X c2) (mix x f2 k)) ∧ Aside0 (Below w.heap.size w W ∧ w7.heap.size ≤ W.heap.size))
      case atStart => exact ⟨0, none, 0, rfl, rfl, by omega, by omega, ⟨Kd.R_nil _ _ _ _ _⟩, HA7, D1', ⟨by rw [mix_zero]; exact D2.out⟩, ⟨HB7.out, Nat.le_refl _⟩⟩
      case round =>
        clear HA7 D1' D2
        obtain ⟨k, A9, c9, rfl, rfl, hk, hkg, HO, HA7, D1, D2, HB⟩ := hrel
        rcases Nat.lt_or_ge k X with hlt | hge
        · have hdk : decide (k < X) = true := decide_eq_true hlt
          have hkl : k < x.length := by rw [← HXL.out]; exact hlt
          have hml : (mix x f2 k).length = X := by rw [mix_len _ _ _ (by omega), HXL.out]
          obtain ⟨gl, rfl⟩ := R_pos D2.out (by omega)
          have hgl6 : gl < w6.heap.size := (D2.out.1 gl rfl).1
          have hgw : w.heap.size ≤ gl := own_base (Kd.R_own D2.out).choose_spec gl rfl
          obtain ⟨r, hr⟩ : ∃ r, r = (k + 1) % n := ⟨_, rfl⟩
          have hrn : r < n := by rw [hr]; exact Nat.mod_lt _ hn
          have hrem : ((k : Int) + 1) % (n : Int) = (r : Int) := by rw [hr]; exact (Int.natCast_emod (k + 1) n).symm
          obtain ⟨t, ht⟩ : ∃ t, t = f2 k := ⟨_, rfl⟩
          have HT := Aside0.mk ht
          have htz : t = zs.getD r ⟨false, 0⟩ := by rw [ht, HF2.out, hr]
          obtain ⟨bd, rfl, t0, t1⟩ := termNat (Kd.C_below HZR.out HB.out.1) r hrn t htz
          have HTZ := Aside0.mk htz
          clear hr ht htz
          have hcl : (cyc f2 k).length = k := cyc_len _ _
          have hw67 := HW7.out
          go_wp2_with (at_builtin; refine wpList_append_R rfl kTerm w7.heap.size (.tmp 86) (.tmp 95) 38 38 34 34 (.agg #[.bool false, .int .u64 0]) 16 rfl (by kernel_rfl) (by kernel_rfl) infoT rfl (by decide) (by decide) (.slice A9 k c9) (cyc f2 k) [t] (some ⟨wr.heap.size, 0, none⟩) 1 1 (fun _ => True) (fun _ => False) rfl rfl (Kd.R_below HO.out (below_alloc (Below.refl _ _) _)) (term_C wr t) (fun x cs h => termM h) (fun _ h => h.elim) (fun _ _ => trivial) (by simp; have := HB.out.2; omega) (by rw [hcl]; omega) ?_; intro v1 w1 HO1 hg1 hat; rw [HT.out, cyc_next] at HO1; obtain ⟨A8, c8, rfl⟩ := Kd.R_slice HO1; rw [cyc_len] at HO1 ⊢; have hag : ∀ q, (Value.slice A9 k c9).ownBlock = some q → w7.heap.size ≤ q := (fun q e => own_base (Kd.R_own HO.out).choose_spec q e); have HB1 : Aside0 (Below w.heap.size w w1 ∧ w7.heap.size ≤ w1.heap.size) := ⟨(below_alloc HB.out.1 _).grown hg1 (below_alloc HB.out.1 _).size (fun q e => Nat.le_trans (Nat.le_trans HW6.out hw67) (hag q e)), (by have := hg1.size; have := HB.out.2; simp at *; omega)⟩; have HO2 := Aside0.mk HO1; have HA8 := Aside0.mk (Kd.R_grown (Kd.R_below HA7.out (below_alloc (Below.refl _ _) (.cells #[.bool t.f0, .int .u64 t.f1] 34))) hg1 (fun q hq e => by have := hag q e.symm; omega)); have D1' := Aside0.mk (Kd.R_grown (Kd.R_below D1.out (below_alloc (Below.refl _ _) (.cells #[.bool t.f0, .int .u64 t.f1] 34))) hg1 (fun q hq e => by have := hag q e.symm; omega)); have D2' := Aside0.mk (Kd.R_grown (Kd.R_below D2.out (below_alloc (Below.refl _ _) (.cells #[.bool t.f0, .int .u64 t.f1] 34))) hg1 (fun q hq e => by have := hag q e.symm; omega)); obtain ⟨p0, p1, p2, p3, p4, pf⟩ := spot_cells D2'.out k (by rw [hml]; exact hlt); obtain ⟨bd', e', t0', t1'⟩ := termNat (Kd.C_below HZR.out HB1.out.1) r hrn t HTZ.out; cases e'; clear HO1 hg1 hat HO HB D1 D2 HA7 t0 t1 hag)
          go_roundg (gk - 1)
          case measure => omega
          case rel =>
            have h2 := spot_term D2'.out k (by rw [hml]; exact hlt) t
            rw [mix_get x f2 k hkl, HT.out, mix_next x f2 k hkl, ← HT.out] at h2
            refine ⟨k + 1, A8, c8, by go_num, rfl, by omega, by omega, ⟨?_⟩, ⟨?_⟩, ⟨?_⟩, ⟨h2⟩, ⟨?_⟩⟩
            · refine Kd.R_mono (Kd.R_far (Kd.R_far (Kd.R_mono (Kd.R_bound HO2.out) (fun q hq => hq.2.1)) (fun q hq e => ?_) _) (fun q hq e => ?_) _) (fun _ _ => trivial)
              · simp only at e; omega
              · simp only at e; omega
            · refine Kd.R_far (Kd.R_far HA8.out (fun q hq e => ?_) _) (fun q hq e => ?_) _
              · simp only at e; omega
              · simp only at e; omega
            · refine Kd.R_far (Kd.R_far D1'.out (fun q hq e => hq.2 ?_) _) (fun q hq e => hq.2 ?_) _
              · rw [e]; rfl
              · rw [e]; rfl
            · exact ⟨below_set (below_set HB1.out.1 _ hgw) _ hgw, by simp only [World.setCell, Array.size_modify]; exact HB1.out.2⟩
        · have hdk : decide (k < X) = false := decide_eq_false (by omega)
          obtain rfl : X = k := by omega
          have D3 := D2.out
          rw [mix_all x f2 X HXL.out] at D3
          have D2' := Aside0.mk D3
          clear D2 D3 hge hkg hk
          generalize wr = w8 at *
          go_wp2_with fail
          obtain ⟨pb, hpb⟩ : ∃ pb, pb = putB body (cyc f1 L) (cyc f2 X) := ⟨_, rfl⟩
          have hlL : (cyc f1 L).length = (labB body).length := by rw [cyc_len, HLL.out, HLB.out]
          have hxX : (cyc f2 X).length = (effB body).length := by rw [cyc_len, HXL.out, HXB.out]
          have HPL : Aside0 (pb.length = N) := ⟨by rw [hpb, HN.out]; exact (baseL_len (putB_base _ _ _)).symm⟩
          have HPM : Aside0 (labB pb = withT l (cyc f1 L)) := ⟨by rw [hpb, putB_lab HZ.out _ _ hlL, ← HLB.out]⟩
          have HPE : Aside0 (effB pb = withT x (cyc f2 X)) := ⟨by rw [hpb, putB_eff HZ.out _ _ hxX, ← HXB.out]⟩
          have HPS : Aside0 (sameL body pb = true) := ⟨by rw [hpb]; exact baseL_same (putB_base _ _ _)⟩
          have hwl : (withT l (cyc f1 L)).length = L := by rw [withT_len _ _ (by rw [cyc_len]; exact HLL.out.symm)]; exact HLL.out.symm
          have hwx : (withT x (cyc f2 X)).length = X := by rw [withT_len _ _ (by rw [cyc_len]; exact HXL.out.symm)]; exact HXL.out.symm
          have P1 := PU.out w8 A7 A9 c7 c9 (cyc f1 L) (cyc f2 X) HB.out.1 (by have h := (Kd.R_reads' HA7.out).2.2; rwa [cyc_len] at h) (by have h := (Kd.R_reads' HO.out).2.2; rwa [cyc_len] at h)
          rw [← hpb] at P1
          clear hpb
          refine P1.mono ?_
          rintro e w9 ⟨g9, c10, rfl, r9, hb9⟩
          clear P1
          have HB9 := Aside0.mk (below_step HB.out.1 hb9)
          have C1 := Aside0.mk (Kd.C_below (Kd.R_reads' D1.out).2.2 hb9)
          have C2 := Aside0.mk (Kd.C_below (Kd.R_reads' D2'.out).2.2 hb9)
          have C3 := Aside0.mk (Kd.R_reads' r9).2.2
          clear r9 hb9 HO HA7 D1 D2' HB
          go_wp2_with fail
          have O1 := of_calls w9 (some ⟨g9, 0, none⟩) N pb C3.out
          rw [HPL.out, HPM.out, HPE.out] at O1
          refine O1.mono ?_
          rintro e w10 ⟨v3, v4, rfl, r10, r11, hb10⟩
          clear O1
          obtain ⟨A10, c11, rfl⟩ := Kd.R_slice r10
          obtain ⟨A11, c12, rfl⟩ := Kd.R_slice r11
          have HB10 := Aside0.mk (below_step HB9.out hb10)
          have C1' := Aside0.mk (Kd.C_below C1.out hb10)
          have C2' := Aside0.mk (Kd.C_below C2.out hb10)
          have C3' := Aside0.mk (Kd.C_below C3.out hb10)
          have C4 := Aside0.mk (Kd.R_reads' r10).2.2
          have C5 := Aside0.mk (Kd.R_reads' r11).2.2
          rw [hwl] at C1' C4 ⊢
          rw [hwx] at C2' C5 ⊢
          rw [HPL.out] at C3'
          clear r10 r11 hb10 C1 C2 C3 HB9
          have HWL := Aside0.mk hwl
          have HWX := Aside0.mk hwx
          clear hwl hwx hlL hxX
          have K1 : Aside0 (∀ W, Below w10.heap.size w10 W → Calls Tryd.prog 20 #[.slice (some ad) N c, .slice (some ⟨g9, 0, none⟩) N N] W fun e w' => e = .returned (.bool true) ∧ Below W.heap.size W w') := ⟨fun W hb => by
            have := same_calls W (some ad) (some ⟨g9, 0, none⟩) c N body pb (Kd.C_below (Kd.C_below HR.out HB10.out) hb) (by rw [HPL.out]; exact Kd.C_below C3'.out hb)
            rwa [HPS.out, HPL.out, ← HN.out] at this⟩
          have K2 : Aside0 (∀ W, Below w10.heap.size w10 W → Calls Tryd.prog 34 #[.slice A1 L c1, .slice A10 L c11] W fun e w' => e = .returned (.bool true) ∧ Below W.heap.size W w') := ⟨fun W hb => by
            have := sameSpots_calls W A1 A10 c1 c11 (withT l (cyc f1 L)) (by rw [HWL.out]; exact Kd.C_below C1'.out hb) (by rw [HWL.out]; exact Kd.C_below C4.out hb)
            rwa [HWL.out] at this⟩
          have K3 : Aside0 (∀ W, Below w10.heap.size w10 W → Calls Tryd.prog 34 #[.slice A2 X c2, .slice A11 X c12] W fun e w' => e = .returned (.bool true) ∧ Below W.heap.size W w') := ⟨fun W hb => by
            have := sameSpots_calls W A2 A11 c2 c12 (withT x (cyc f2 X)) (by rw [HWX.out]; exact Kd.C_below C2'.out hb) (by rw [HWX.out]; exact Kd.C_below C5.out hb)
            rwa [HWX.out] at this⟩
          have HB := Aside0.mk (Below.refl w10.heap.size w10)
          go_wp2_with (first | (go_at_call 28; (with_reducible refine (alive_calls _).mono ?_); rintro e W' ⟨rfl, hb'⟩; have HB' := Aside0.mk (below_step HB.out hb'); clear HB hb'; have HB := HB'; clear HB') | (go_at_call 20; (with_reducible refine (K1.out _ HB.out).mono ?_); rintro e W' ⟨rfl, hb'⟩; have HB' := Aside0.mk (below_step HB.out hb'); clear HB hb'; have HB := HB'; clear HB') | (go_at_call 34; (with_reducible refine (K2.out _ HB.out).mono ?_); rintro e W' ⟨rfl, hb'⟩; have HB' := Aside0.mk (below_step HB.out hb'); clear HB hb'; have HB := HB'; clear HB') | (go_at_call 34; (with_reducible refine (K3.out _ HB.out).mono ?_); rintro e W' ⟨rfl, hb'⟩; have HB' := Aside0.mk (below_step HB.out hb'); clear HB hb'; have HB := HB'; clear HB'))
          go_ret
          exact ⟨rfl, below_step HB10.out HB.out⟩
/-- SpotsBack: true at every input. -/
theorem back_walk (w : World) (A : Option Addr) (c : Nat) (body : List Node) (hr : Kd.C kNode w A body.length body) (hc : body.length ≤ c) (hw : ∀ n ∈ body, Node.wf n) (B : Option Addr) (d : Nat) (zs : List Term) (hr2 : Kd.C kTerm w B zs.length zs) (hd : zs.length ≤ d) (hw2 : ∀ t ∈ zs, Term.wf t) :
    Calls Tryd.prog 12 #[.slice A body.length c, .slice B zs.length d] w fun e w' => e = .returned (.bool true) ∧ Below w.heap.size w w' := by
  by_cases h : 300 < body.length ∨ zs.length = 0 ∨ checkB body ≠ 0
  · exact back_no w A B c _ _ d body rfl hr h
  · have hz : checkB body = 0 := by
      by_cases h2 : checkB body = 0
      · exact h2
      · exact absurd (.inr (.inr h2)) h
    obtain ⟨ad, rfl, -⟩ := C_nodeN hr 0 (checkB_L hz).1
    exact back_yes w ad B c _ _ d body zs rfl hr hz hr2 (by omega) hr2.2.1
end L08
end Go.Proofs.YtoohandacpalpaaDoor
