/- The law SpotsBelow: a walk through its code at every input. -/
import Derived.Test.YtoohandacpalpaaDoorL08D
namespace Go.Proofs.YtoohandacpalpaaDoor
open Go.RowKit Go.Shelf Go.Proofs.YtoohandacpalpaaDoorW.PrintWords Go.Proofs.YtoohandacpalpaaDoorW.PrintLast Go.Proofs.YtoohandacpalpaaDoorW.PrintMore
set_option linter.unusedVariables false
set_option linter.unusedSimpArgs false
namespace L08
open L07
set_option maxRecDepth 100000 in
set_option maxHeartbeats 4000000 in
theorem below_no (w : World) (A : Option Addr) (c : Nat) (body : List Node) (at_ : Int) (hr : kNode.C w A body.length body) (h : 120 < body.length ∨ checkB body ≠ 0 ∨ 15 < deepB body) :
    Calls Tryd.prog 10 #[.slice A body.length c, .int .u8 at_] w fun e w' => e = .returned (.bool true) ∧ Below w.heap.size w w' := by
  obtain ⟨N, hN⟩ : ∃ N, N = body.length := ⟨_, rfl⟩
  obtain ⟨q, hq⟩ : ∃ q, q = checkB body := ⟨_, rfl⟩
  obtain ⟨d, hd⟩ : ∃ d, d = deepB body := ⟨_, rfl⟩
  have CK : Aside0 (∀ W, Below w.heap.size w W → Calls Tryd.prog 14 #[.slice A N c] W fun e w' => e = .returned (.int .i64 q) ∧ Below W.heap.size W w') := ⟨fun W hb => by rw [hq, hN]; exact check_calls W A c body (Kd.C_below hr hb)⟩
  have CD : Aside0 (∀ W, Below w.heap.size w W → Calls Tryd.prog 18 #[.slice A N c] W fun e w' => e = .returned (.int .i64 d) ∧ Below W.heap.size W w') := ⟨fun W hb => by rw [hd, hN]; exact deep_calls W A c body (Kd.C_below hr hb)⟩
  rw [← hN, ← hq, ← hd] at h
  rw [← hN]
  have HB := Aside0.mk (Below.refl w.heap.size w)
  clear hN hq hd hr
  by_cases h1 : 120 < N
  rotate_left
  by_cases h2 : q = 0
  all_goals
    try have z1 : decide (120 < (N : Int)) = true := decide_eq_true (by omega)
    try have z1 : decide (120 < (N : Int)) = false := decide_eq_false (by omega)
    try have e0 : (q != 0) = true := bne_iff_ne.mpr h2
    try have z2 : decide (15 < d) = true := decide_eq_true ((h.resolve_left h1).resolve_left (fun h => h h2))
    try subst h2
    clear h h1
    try clear h2
    go_enter Tryd.func10, Tryd.ntmps10
    go_wp2_with (first | (go_at_call 14; (with_reducible refine (CK.out _ HB.out).mono ?_); rintro e W' ⟨rfl, hb'⟩; have HB' := Aside0.mk (below_step HB.out hb'); clear HB hb'; have HB := HB'; clear HB') | (go_at_call 18; (with_reducible refine (CD.out _ HB.out).mono ?_); rintro e W' ⟨rfl, hb'⟩; have HB' := Aside0.mk (below_step HB.out hb'); clear HB hb'; have HB := HB'; clear HB') | (go_at_call 28; (with_reducible refine (alive_calls _).mono ?_); rintro e W' ⟨rfl, hb'⟩; have HB' := Aside0.mk (below_step HB.out hb'); clear HB hb'; have HB := HB'; clear HB'))
    go_ret
    exact ⟨rfl, HB.out⟩
set_option maxRecDepth 100000 in
set_option maxHeartbeats 4000000 in
theorem below_ref_yes (w : World) (ad : Addr) (c N : Nat) (body : List Node) (at_ : Int) (h0 : 0 ≤ at_) (h255 : at_ ≤ 255) (hj : at_ % 4 = 0) (hN : N = body.length) (hr : kNode.C w (some ad) body.length body) (hz : checkB body = 0) (hn : N ≤ 120) (hd : deepB body ≤ 15) :
    Calls Tryd.prog 10 #[.slice (some ad) N c, .int .u8 at_] w fun e w' => e = .returned (.bool true) ∧ Below w.heap.size w w' := by
  obtain ⟨hb0, hb1, hb2⟩ := below_ref hz (by omega) hd
  have hb3 := labP_len body body.length
  rw [labP_full hz] at hb3
  obtain ⟨d, hdd⟩ : ∃ d, d = deepB body := ⟨_, rfl⟩
  obtain ⟨m, hm⟩ : ∃ m, m = ([L07.refN] ++ body).length := ⟨_, rfl⟩
  have CK : Aside0 (∀ W, Below w.heap.size w W → Calls Tryd.prog 14 #[.slice (some ad) N c] W fun e w' => e = .returned (.int .i64 0) ∧ Below W.heap.size W w') := ⟨fun W hb => by rw [← hz, hN]; exact check_calls W _ c body (Kd.C_below hr hb)⟩
  have CD : Aside0 (∀ W, Below w.heap.size w W → Calls Tryd.prog 18 #[.slice (some ad) N c] W fun e w' => e = .returned (.int .i64 d) ∧ Below W.heap.size W w') := ⟨fun W hb => by rw [hdd, hN]; exact deep_calls W _ c body (Kd.C_below hr hb)⟩
  have OF : Aside0 (∀ W, Below w.heap.size w W → Calls Tryd.prog 27 #[.slice (some ad) N c] W fun e w' => ∃ v1 v2, e = .returned (.tuple #[v1, v2]) ∧ kSpot.R 50 w' W.heap.size (fun k => some k ≠ v2.ownBlock) v1 (labB body) ∧ kSpot.R 50 w' W.heap.size (fun k => some k ≠ v1.ownBlock) v2 (effB body) ∧ Below W.heap.size W w') := ⟨fun W hb => by rw [hN]; exact of_calls W (some ad) c body (Kd.C_below hr hb)⟩
  rw [← hdd] at hd
  have z1 : decide (120 < (N : Int)) = false := decide_eq_false (by omega)
  have z2 : decide (15 < d) = false := decide_eq_false (by omega)
  have HM := Aside0.mk hm
  have HN := Aside0.mk hN
  have HR := Aside0.mk hr
  have HB := Aside0.mk (Below.refl w.heap.size w)
  rw [← hN] at hb3
  obtain ⟨l, hl⟩ : ∃ l, l = labB body := ⟨_, rfl⟩
  obtain ⟨x, hx⟩ : ∃ x, x = labB ([L07.refN] ++ body) := ⟨_, rfl⟩
  rw [← hl] at hb1 hb2 hb3 OF
  rw [← hx] at hb1 hb2
  have HX := Aside0.mk hx
  obtain ⟨L, hL⟩ : ∃ L, L = l.length := ⟨_, rfl⟩
  obtain ⟨X, hXL⟩ : ∃ X, X = x.length := ⟨_, rfl⟩
  rw [← hL, ← hXL] at hb1
  rw [← hL] at hb3
  have HLL := Aside0.mk hL
  have HXL := Aside0.mk hXL
  have H2 := Aside0.mk hb2
  have z3 : decide ((X : Int) < 1 + (L : Int)) = false := decide_eq_false (by omega)
  clear hz hr hN hm hdd hd hl hx hL hXL hb0 hb2
  go_enter Tryd.func10, Tryd.ntmps10
  go_wp2_with (first | (go_at_call 14; (with_reducible refine (CK.out _ HB.out).mono ?_); rintro e W' ⟨rfl, hb'⟩; have HB' := Aside0.mk (below_step HB.out hb'); clear HB hb'; have HB := HB'; clear HB') | (go_at_call 18; (with_reducible refine (CD.out _ HB.out).mono ?_); rintro e W' ⟨rfl, hb'⟩; have HB' := Aside0.mk (below_step HB.out hb'); clear HB hb'; have HB := HB'; clear HB'))
  refine (OF.out _ HB.out).mono ?_
  rintro e w2 ⟨v1, v2, rfl, r1, r2, hb2'⟩
  obtain ⟨A1, c1, rfl⟩ := Kd.R_slice r1
  obtain ⟨A2, c2, rfl⟩ := Kd.R_slice r2
  rw [← HLL.out] at r1 r2 ⊢
  have R1 := Aside0.mk (Kd.R_reads' r1).2.2
  have HW2 := Aside0.mk (below_step HB.out hb2')
  rw [← HLL.out] at R1
  clear r1 r2 hb2' HB CK CD OF
  have HB := Aside0.mk (Below.refl w2.heap.size w2)
  go_wp2_with (first
      | (go_at_call 29; (with_reducible refine (L08.whole_calls _).mono ?_); rintro e wx ⟨rfl, hb'⟩; have HB' := Aside0.mk (below_step HB.out hb'); clear HB; have HB := HB'; clear HB'; (try (have HL' := Aside0.mk (Kd.C_below HL.out hb'); clear HL; have HL := HL'; clear HL')); (try (have HO' := Aside0.mk (Kd.R_below HO.out hb'); clear HO; have HO := HO'; clear HO')); clear hb')
      | (go_at_call 30; (with_reducible refine (L08.fun_calls _).mono ?_); rintro e wx ⟨rfl, hb'⟩; have HB' := Aside0.mk (below_step HB.out hb'); clear HB; have HB := HB'; clear HB'; (try (have HL' := Aside0.mk (Kd.C_below HL.out hb'); clear HL; have HL := HL'; clear HL')); (try (have HO' := Aside0.mk (Kd.R_below HO.out hb'); clear HO; have HO := HO'; clear HO')); clear hb')
      | (at_builtin; refine wpList_append_R rfl kNode w2.heap.size _ (.tmp 38) 22 22 36 36 (.agg #[.int .u8 0, .int .i64 0, .string ⟨#[]⟩, .int .i64 0, .bool false, .int .u64 0, .bool false, .int .u64 0, .bool false, .int .u64 0]) 88 rfl (by kernel_rfl) (by kernel_rfl) infoN rfl (by decide) (by decide) (.slice (some ⟨_, 0, none⟩) 1 1) [L07.refN] body (some ad) N c (fun _ => True) (fun _ => False) rfl rfl (lit_R _ w2.heap.size HB.out.size [L07.refN] (by decide)) (by rw [HN.out]; exact Kd.C_below (Kd.C_below HR.out HW2.out) (below_alloc HB.out _)) (fun x cs h => nodeM h) (fun _ h => h.elim) (fun _ _ => trivial) (below_alloc HB.out _).size (by simp; omega) ?_; intro v1 wx HO1 hg hat; obtain ⟨A3, c3, rfl⟩ := Kd.R_slice HO1; have HL := Aside0.mk (Kd.R_reads' HO1).2.2; have HB' := Aside0.mk ((below_alloc HB.out _).grown hg (below_alloc HB.out _).size ((fun k hk => by simp only [Value.ownBlock, Option.some.injEq] at hk; have := HB.out.size; omega))); clear HB HO1 hg hat; have HB := HB'; clear HB'; rw [← HM.out]))
  have OA := of_calls wx A3 c3 ([L07.refN] ++ body) HL.out
  rw [← HM.out, ← HX.out] at OA
  refine OA.mono ?_
  rintro e w4 ⟨v3, v4, rfl, r3, r4, hb4⟩
  obtain ⟨A5, c5, rfl⟩ := Kd.R_slice r3
  obtain ⟨A6, c6, rfl⟩ := Kd.R_slice r4
  rw [← HXL.out] at r3 ⊢
  have R3 := Aside0.mk (Kd.R_reads' r3).2.2
  rw [← HXL.out] at R3
  have HW4 := Aside0.mk (below_step HB.out hb4)
  have R1' := Aside0.mk (Kd.C_below R1.out HW4.out)
  clear r3 r4 hb4 OA HL R1 HB
  go_wp2
  go_loopg [11] (L + 1) (fun g i W => ∃ k : Nat, i = .int .i64 (k : Int) ∧ k ≤ L ∧ L + 1 - k ≤ g ∧ Aside0 (Below w4.heap.size w4 W))
  case atStart => exact ⟨0, rfl, by omega, by omega, ⟨Below.refl _ _⟩⟩
  case round =>
    obtain ⟨k, rfl, hk, hkg, HB⟩ := hrel
    rcases Nat.lt_or_ge k L with hlt | hge
    · have hdk : decide (k < L) = true := decide_eq_true hlt
      have hkl : k < l.length := by rw [← HLL.out]; exact hlt
      obtain ⟨y, hy, hy1, hy2⟩ := H2.out k l[k] (List.getElem?_eq_getElem hkl)
      have hxk : l[k]? = some l[k] := List.getElem?_eq_getElem hkl
      obtain ⟨xk, hxe⟩ : ∃ xk, xk = l[k] := ⟨_, rfl⟩
      rw [← hxe] at hy1 hxk
      try rw [← hxe] at hy2
      clear hxe
      obtain ⟨x0, x1, x2, x3⟩ := xk
      obtain ⟨y0, y1, y2, y3⟩ := y
      simp only at hy1 hy2
      subst hy1 hy2
      obtain ⟨ld, rfl, c0, c1', c2', c3', c4⟩ := spotAt (Kd.C_below R1'.out HB.out) hxk
      obtain ⟨md, rfl, d0, d1, d2, d3, d4⟩ := spotAt (Kd.C_below R3.out HB.out) hy
      have hkX : 1 + k < X := by rw [HXL.out]; exact (List.getElem?_eq_some_iff.1 hy).1
      clear hy hxk
      go_wp2
      go_quiet (fail)
      go_wp2
      go_roundg (gk - 1)
      case measure => omega
      case rel => exact ⟨k + 1, by go_num, by omega, by omega, ⟨pw_below_drewN HB.out _⟩⟩
    · have hdk : decide (k < L) = false := decide_eq_false (by omega)
      go_wp2_with (go_at_call 28; (with_reducible refine (L08.alive_calls _).mono ?_); rintro e W' ⟨rfl, hb'⟩; have HB3 := Aside0.mk hb'; clear hb')
      go_ret
      exact ⟨rfl, below_step HW2.out (below_step HW4.out (below_step HB.out HB3.out))⟩
set_option maxRecDepth 100000 in
set_option maxHeartbeats 4000000 in
theorem below_tup_yes (w : World) (ad : Addr) (c N : Nat) (body : List Node) (at_ : Int) (h0 : 0 ≤ at_) (h255 : at_ ≤ 255) (hj : at_ % 4 = 1) (hN : N = body.length) (hr : kNode.C w (some ad) body.length body) (hz : checkB body = 0) (hn : N ≤ 120) (hd : deepB body ≤ 15) :
    Calls Tryd.prog 10 #[.slice (some ad) N c, .int .u8 at_] w fun e w' => e = .returned (.bool true) ∧ Below w.heap.size w w' := by
  obtain ⟨hb0, hb1, hb2⟩ := below_tup hz (by omega) hd
  have hb3 := labP_len body body.length
  rw [labP_full hz] at hb3
  obtain ⟨d, hdd⟩ : ∃ d, d = deepB body := ⟨_, rfl⟩
  obtain ⟨m, hm⟩ : ∃ m, m = ([L07.tupN, wholeN] ++ body).length := ⟨_, rfl⟩
  have CK : Aside0 (∀ W, Below w.heap.size w W → Calls Tryd.prog 14 #[.slice (some ad) N c] W fun e w' => e = .returned (.int .i64 0) ∧ Below W.heap.size W w') := ⟨fun W hb => by rw [← hz, hN]; exact check_calls W _ c body (Kd.C_below hr hb)⟩
  have CD : Aside0 (∀ W, Below w.heap.size w W → Calls Tryd.prog 18 #[.slice (some ad) N c] W fun e w' => e = .returned (.int .i64 d) ∧ Below W.heap.size W w') := ⟨fun W hb => by rw [hdd, hN]; exact deep_calls W _ c body (Kd.C_below hr hb)⟩
  have OF : Aside0 (∀ W, Below w.heap.size w W → Calls Tryd.prog 27 #[.slice (some ad) N c] W fun e w' => ∃ v1 v2, e = .returned (.tuple #[v1, v2]) ∧ kSpot.R 50 w' W.heap.size (fun k => some k ≠ v2.ownBlock) v1 (labB body) ∧ kSpot.R 50 w' W.heap.size (fun k => some k ≠ v1.ownBlock) v2 (effB body) ∧ Below W.heap.size W w') := ⟨fun W hb => by rw [hN]; exact of_calls W (some ad) c body (Kd.C_below hr hb)⟩
  rw [← hdd] at hd
  have z1 : decide (120 < (N : Int)) = false := decide_eq_false (by omega)
  have z2 : decide (15 < d) = false := decide_eq_false (by omega)
  have HM := Aside0.mk hm
  have HN := Aside0.mk hN
  have HR := Aside0.mk hr
  have HB := Aside0.mk (Below.refl w.heap.size w)
  rw [← hN] at hb3
  obtain ⟨l, hl⟩ : ∃ l, l = labB body := ⟨_, rfl⟩
  obtain ⟨x, hx⟩ : ∃ x, x = labB ([L07.tupN, wholeN] ++ body) := ⟨_, rfl⟩
  rw [← hl] at hb1 hb2 hb3 OF
  rw [← hx] at hb1 hb2
  have HX := Aside0.mk hx
  obtain ⟨L, hL⟩ : ∃ L, L = l.length := ⟨_, rfl⟩
  obtain ⟨X, hXL⟩ : ∃ X, X = x.length := ⟨_, rfl⟩
  rw [← hL, ← hXL] at hb1
  rw [← hL] at hb3
  have HLL := Aside0.mk hL
  have HXL := Aside0.mk hXL
  have H2 := Aside0.mk hb2
  have z3 : decide ((X : Int) < 2 + (L : Int)) = false := decide_eq_false (by omega)
  clear hz hr hN hm hdd hd hl hx hL hXL hb0 hb2
  go_enter Tryd.func10, Tryd.ntmps10
  go_wp2_with (first | (go_at_call 14; (with_reducible refine (CK.out _ HB.out).mono ?_); rintro e W' ⟨rfl, hb'⟩; have HB' := Aside0.mk (below_step HB.out hb'); clear HB hb'; have HB := HB'; clear HB') | (go_at_call 18; (with_reducible refine (CD.out _ HB.out).mono ?_); rintro e W' ⟨rfl, hb'⟩; have HB' := Aside0.mk (below_step HB.out hb'); clear HB hb'; have HB := HB'; clear HB'))
  refine (OF.out _ HB.out).mono ?_
  rintro e w2 ⟨v1, v2, rfl, r1, r2, hb2'⟩
  obtain ⟨A1, c1, rfl⟩ := Kd.R_slice r1
  obtain ⟨A2, c2, rfl⟩ := Kd.R_slice r2
  rw [← HLL.out] at r1 r2 ⊢
  have R1 := Aside0.mk (Kd.R_reads' r1).2.2
  have HW2 := Aside0.mk (below_step HB.out hb2')
  rw [← HLL.out] at R1
  clear r1 r2 hb2' HB CK CD OF
  have HB := Aside0.mk (Below.refl w2.heap.size w2)
  go_wp2_with (first
      | (go_at_call 29; (with_reducible refine (L08.whole_calls _).mono ?_); rintro e wx ⟨rfl, hb'⟩; have HB' := Aside0.mk (below_step HB.out hb'); clear HB; have HB := HB'; clear HB'; (try (have HL' := Aside0.mk (Kd.C_below HL.out hb'); clear HL; have HL := HL'; clear HL')); (try (have HO' := Aside0.mk (Kd.R_below HO.out hb'); clear HO; have HO := HO'; clear HO')); clear hb')
      | (go_at_call 30; (with_reducible refine (L08.fun_calls _).mono ?_); rintro e wx ⟨rfl, hb'⟩; have HB' := Aside0.mk (below_step HB.out hb'); clear HB; have HB := HB'; clear HB'; (try (have HL' := Aside0.mk (Kd.C_below HL.out hb'); clear HL; have HL := HL'; clear HL')); (try (have HO' := Aside0.mk (Kd.R_below HO.out hb'); clear HO; have HO := HO'; clear HO')); clear hb')
      | (at_builtin; refine wpList_append_R rfl kNode w2.heap.size _ (.tmp 45) 22 22 36 36 (.agg #[.int .u8 0, .int .i64 0, .string ⟨#[]⟩, .int .i64 0, .bool false, .int .u64 0, .bool false, .int .u64 0, .bool false, .int .u64 0]) 88 rfl (by kernel_rfl) (by kernel_rfl) infoN rfl (by decide) (by decide) (.slice (some ⟨_, 0, none⟩) 2 2) [L07.tupN, wholeN] body (some ad) N c (fun _ => True) (fun _ => False) rfl rfl (lit_R _ w2.heap.size HB.out.size [L07.tupN, wholeN] (by decide)) (by rw [HN.out]; exact Kd.C_below (Kd.C_below HR.out HW2.out) (below_alloc HB.out _)) (fun x cs h => nodeM h) (fun _ h => h.elim) (fun _ _ => trivial) (below_alloc HB.out _).size (by simp; omega) ?_; intro v1 wx HO1 hg hat; obtain ⟨A3, c3, rfl⟩ := Kd.R_slice HO1; have HL := Aside0.mk (Kd.R_reads' HO1).2.2; have HB' := Aside0.mk ((below_alloc HB.out _).grown hg (below_alloc HB.out _).size ((fun k hk => by simp only [Value.ownBlock, Option.some.injEq] at hk; have := HB.out.size; omega))); clear HB HO1 hg hat; have HB := HB'; clear HB'; rw [← HM.out]))
  have OA := of_calls wx A3 c3 ([L07.tupN, wholeN] ++ body) HL.out
  rw [← HM.out, ← HX.out] at OA
  refine OA.mono ?_
  rintro e w4 ⟨v3, v4, rfl, r3, r4, hb4⟩
  obtain ⟨A5, c5, rfl⟩ := Kd.R_slice r3
  obtain ⟨A6, c6, rfl⟩ := Kd.R_slice r4
  rw [← HXL.out] at r3 ⊢
  have R3 := Aside0.mk (Kd.R_reads' r3).2.2
  rw [← HXL.out] at R3
  have HW4 := Aside0.mk (below_step HB.out hb4)
  have R1' := Aside0.mk (Kd.C_below R1.out HW4.out)
  clear r3 r4 hb4 OA HL R1 HB
  go_wp2
  go_loopg [11] (L + 1) (fun g i W => ∃ k : Nat, i = .int .i64 (k : Int) ∧ k ≤ L ∧ L + 1 - k ≤ g ∧ Aside0 (Below w4.heap.size w4 W))
  case atStart => exact ⟨0, rfl, by omega, by omega, ⟨Below.refl _ _⟩⟩
  case round =>
    obtain ⟨k, rfl, hk, hkg, HB⟩ := hrel
    rcases Nat.lt_or_ge k L with hlt | hge
    · have hdk : decide (k < L) = true := decide_eq_true hlt
      have hkl : k < l.length := by rw [← HLL.out]; exact hlt
      obtain ⟨y, hy, hy1, hy2⟩ := H2.out k l[k] (List.getElem?_eq_getElem hkl)
      have hxk : l[k]? = some l[k] := List.getElem?_eq_getElem hkl
      obtain ⟨xk, hxe⟩ : ∃ xk, xk = l[k] := ⟨_, rfl⟩
      rw [← hxe] at hy1 hxk
      try rw [← hxe] at hy2
      clear hxe
      obtain ⟨x0, x1, x2, x3⟩ := xk
      obtain ⟨y0, y1, y2, y3⟩ := y
      simp only at hy1 hy2
      subst hy1 hy2
      obtain ⟨ld, rfl, c0, c1', c2', c3', c4⟩ := spotAt (Kd.C_below R1'.out HB.out) hxk
      obtain ⟨md, rfl, d0, d1, d2, d3, d4⟩ := spotAt (Kd.C_below R3.out HB.out) hy
      have hkX : 2 + k < X := by rw [HXL.out]; exact (List.getElem?_eq_some_iff.1 hy).1
      clear hy hxk
      go_wp2
      go_quiet (fail)
      go_wp2
      go_roundg (gk - 1)
      case measure => omega
      case rel => exact ⟨k + 1, by go_num, by omega, by omega, ⟨pw_below_drewN HB.out _⟩⟩
    · have hdk : decide (k < L) = false := decide_eq_false (by omega)
      go_wp2_with (go_at_call 28; (with_reducible refine (L08.alive_calls _).mono ?_); rintro e W' ⟨rfl, hb'⟩; have HB3 := Aside0.mk hb'; clear hb')
      go_ret
      exact ⟨rfl, below_step HW2.out (below_step HW4.out (below_step HB.out HB3.out))⟩
set_option maxRecDepth 100000 in
set_option maxHeartbeats 4000000 in
theorem below_fun_yes (w : World) (ad : Addr) (c N : Nat) (body : List Node) (at_ : Int) (h0 : 0 ≤ at_) (h255 : at_ ≤ 255) (hj : at_ % 4 = 2) (hN : N = body.length) (hr : kNode.C w (some ad) body.length body) (hz : checkB body = 0) (hn : N ≤ 120) (hd : deepB body ≤ 15) :
    Calls Tryd.prog 10 #[.slice (some ad) N c, .int .u8 at_] w fun e w' => e = .returned (.bool true) ∧ Below w.heap.size w w' := by
  obtain ⟨hb0, hb1, hb2⟩ := below_fun hz (by omega) hd
  have hb3 := labP_len body body.length
  rw [labP_full hz] at hb3
  obtain ⟨d, hdd⟩ : ∃ d, d = deepB body := ⟨_, rfl⟩
  obtain ⟨m, hm⟩ : ∃ m, m = ([funN, wholeN] ++ body).length := ⟨_, rfl⟩
  have CK : Aside0 (∀ W, Below w.heap.size w W → Calls Tryd.prog 14 #[.slice (some ad) N c] W fun e w' => e = .returned (.int .i64 0) ∧ Below W.heap.size W w') := ⟨fun W hb => by rw [← hz, hN]; exact check_calls W _ c body (Kd.C_below hr hb)⟩
  have CD : Aside0 (∀ W, Below w.heap.size w W → Calls Tryd.prog 18 #[.slice (some ad) N c] W fun e w' => e = .returned (.int .i64 d) ∧ Below W.heap.size W w') := ⟨fun W hb => by rw [hdd, hN]; exact deep_calls W _ c body (Kd.C_below hr hb)⟩
  have OF : Aside0 (∀ W, Below w.heap.size w W → Calls Tryd.prog 27 #[.slice (some ad) N c] W fun e w' => ∃ v1 v2, e = .returned (.tuple #[v1, v2]) ∧ kSpot.R 50 w' W.heap.size (fun k => some k ≠ v2.ownBlock) v1 (labB body) ∧ kSpot.R 50 w' W.heap.size (fun k => some k ≠ v1.ownBlock) v2 (effB body) ∧ Below W.heap.size W w') := ⟨fun W hb => by rw [hN]; exact of_calls W (some ad) c body (Kd.C_below hr hb)⟩
  rw [← hdd] at hd
  have z1 : decide (120 < (N : Int)) = false := decide_eq_false (by omega)
  have z2 : decide (15 < d) = false := decide_eq_false (by omega)
  have HM := Aside0.mk hm
  have HN := Aside0.mk hN
  have HR := Aside0.mk hr
  have HB := Aside0.mk (Below.refl w.heap.size w)
  rw [← hN] at hb3
  obtain ⟨l, hl⟩ : ∃ l, l = labB body := ⟨_, rfl⟩
  obtain ⟨x, hx⟩ : ∃ x, x = labB ([funN, wholeN] ++ body) := ⟨_, rfl⟩
  rw [← hl] at hb1 hb2 hb3 OF
  rw [← hx] at hb1 hb2
  have HX := Aside0.mk hx
  obtain ⟨L, hL⟩ : ∃ L, L = l.length := ⟨_, rfl⟩
  obtain ⟨X, hXL⟩ : ∃ X, X = x.length := ⟨_, rfl⟩
  rw [← hL, ← hXL] at hb1
  rw [← hL] at hb3
  have HLL := Aside0.mk hL
  have HXL := Aside0.mk hXL
  have H2 := Aside0.mk hb2
  have z3 : decide ((X : Int) < 3 + (L : Int)) = false := decide_eq_false (by omega)
  clear hz hr hN hm hdd hd hl hx hL hXL hb0 hb2
  go_enter Tryd.func10, Tryd.ntmps10
  go_wp2_with (first | (go_at_call 14; (with_reducible refine (CK.out _ HB.out).mono ?_); rintro e W' ⟨rfl, hb'⟩; have HB' := Aside0.mk (below_step HB.out hb'); clear HB hb'; have HB := HB'; clear HB') | (go_at_call 18; (with_reducible refine (CD.out _ HB.out).mono ?_); rintro e W' ⟨rfl, hb'⟩; have HB' := Aside0.mk (below_step HB.out hb'); clear HB hb'; have HB := HB'; clear HB'))
  refine (OF.out _ HB.out).mono ?_
  rintro e w2 ⟨v1, v2, rfl, r1, r2, hb2'⟩
  obtain ⟨A1, c1, rfl⟩ := Kd.R_slice r1
  obtain ⟨A2, c2, rfl⟩ := Kd.R_slice r2
  rw [← HLL.out] at r1 r2 ⊢
  have R1 := Aside0.mk (Kd.R_reads' r1).2.2
  have HW2 := Aside0.mk (below_step HB.out hb2')
  rw [← HLL.out] at R1
  clear r1 r2 hb2' HB CK CD OF
  have HB := Aside0.mk (Below.refl w2.heap.size w2)
  go_wp2_with (first
      | (go_at_call 29; (with_reducible refine (L08.whole_calls _).mono ?_); rintro e wx ⟨rfl, hb'⟩; have HB' := Aside0.mk (below_step HB.out hb'); clear HB; have HB := HB'; clear HB'; (try (have HL' := Aside0.mk (Kd.C_below HL.out hb'); clear HL; have HL := HL'; clear HL')); (try (have HO' := Aside0.mk (Kd.R_below HO.out hb'); clear HO; have HO := HO'; clear HO')); clear hb')
      | (go_at_call 30; (with_reducible refine (L08.fun_calls _).mono ?_); rintro e wx ⟨rfl, hb'⟩; have HB' := Aside0.mk (below_step HB.out hb'); clear HB; have HB := HB'; clear HB'; (try (have HL' := Aside0.mk (Kd.C_below HL.out hb'); clear HL; have HL := HL'; clear HL')); (try (have HO' := Aside0.mk (Kd.R_below HO.out hb'); clear HO; have HO := HO'; clear HO')); clear hb')
      | (at_builtin; refine wpList_append_R rfl kNode w2.heap.size _ (.tmp 52) 22 22 36 36 (.agg #[.int .u8 0, .int .i64 0, .string ⟨#[]⟩, .int .i64 0, .bool false, .int .u64 0, .bool false, .int .u64 0, .bool false, .int .u64 0]) 88 rfl (by kernel_rfl) (by kernel_rfl) infoN rfl (by decide) (by decide) (.slice (some ⟨_, 0, none⟩) 2 2) [funN, wholeN] body (some ad) N c (fun _ => True) (fun _ => False) rfl rfl (lit_R _ w2.heap.size HB.out.size [funN, wholeN] (by decide)) (by rw [HN.out]; exact Kd.C_below (Kd.C_below HR.out HW2.out) (below_alloc HB.out _)) (fun x cs h => nodeM h) (fun _ h => h.elim) (fun _ _ => trivial) (below_alloc HB.out _).size (by simp; omega) ?_; intro v1 wx HO1 hg hat; obtain ⟨A3, c3, rfl⟩ := Kd.R_slice HO1; have HL := Aside0.mk (Kd.R_reads' HO1).2.2; have HB' := Aside0.mk ((below_alloc HB.out _).grown hg (below_alloc HB.out _).size ((fun k hk => by simp only [Value.ownBlock, Option.some.injEq] at hk; have := HB.out.size; omega))); clear HB HO1 hg hat; have HB := HB'; clear HB'; rw [← HM.out]))
  have OA := of_calls wx A3 c3 ([funN, wholeN] ++ body) HL.out
  rw [← HM.out, ← HX.out] at OA
  refine OA.mono ?_
  rintro e w4 ⟨v3, v4, rfl, r3, r4, hb4⟩
  obtain ⟨A5, c5, rfl⟩ := Kd.R_slice r3
  obtain ⟨A6, c6, rfl⟩ := Kd.R_slice r4
  rw [← HXL.out] at r3 ⊢
  have R3 := Aside0.mk (Kd.R_reads' r3).2.2
  rw [← HXL.out] at R3
  have HW4 := Aside0.mk (below_step HB.out hb4)
  have R1' := Aside0.mk (Kd.C_below R1.out HW4.out)
  clear r3 r4 hb4 OA HL R1 HB
  go_wp2
  go_loopg [11] (L + 1) (fun g i W => ∃ k : Nat, i = .int .i64 (k : Int) ∧ k ≤ L ∧ L + 1 - k ≤ g ∧ Aside0 (Below w4.heap.size w4 W))
  case atStart => exact ⟨0, rfl, by omega, by omega, ⟨Below.refl _ _⟩⟩
  case round =>
    obtain ⟨k, rfl, hk, hkg, HB⟩ := hrel
    rcases Nat.lt_or_ge k L with hlt | hge
    · have hdk : decide (k < L) = true := decide_eq_true hlt
      have hkl : k < l.length := by rw [← HLL.out]; exact hlt
      obtain ⟨y, hy, hy1, hy2⟩ := H2.out k l[k] (List.getElem?_eq_getElem hkl)
      have hxk : l[k]? = some l[k] := List.getElem?_eq_getElem hkl
      obtain ⟨xk, hxe⟩ : ∃ xk, xk = l[k] := ⟨_, rfl⟩
      rw [← hxe] at hy1 hxk
      try rw [← hxe] at hy2
      clear hxe
      obtain ⟨x0, x1, x2, x3⟩ := xk
      obtain ⟨y0, y1, y2, y3⟩ := y
      simp only at hy1 hy2
      subst hy1 hy2
      obtain ⟨ld, rfl, c0, c1', c2', c3', c4⟩ := spotAt (Kd.C_below R1'.out HB.out) hxk
      obtain ⟨md, rfl, d0, d1, d2, d3, d4⟩ := spotAt (Kd.C_below R3.out HB.out) hy
      have hkX : 3 + k < X := by rw [HXL.out]; exact (List.getElem?_eq_some_iff.1 hy).1
      clear hy hxk
      go_wp2
      go_quiet (fail)
      go_wp2
      go_roundg (gk - 1)
      case measure => omega
      case rel => exact ⟨k + 1, by go_num, by omega, by omega, ⟨pw_below_drewN HB.out _⟩⟩
    · have hdk : decide (k < L) = false := decide_eq_false (by omega)
      go_wp2_with (go_at_call 28; (with_reducible refine (L08.alive_calls _).mono ?_); rintro e W' ⟨rfl, hb'⟩; have HB3 := Aside0.mk hb'; clear hb')
      go_ret
      exact ⟨rfl, below_step HW2.out (below_step HW4.out (below_step HB.out HB3.out))⟩
set_option maxRecDepth 100000 in
set_option maxHeartbeats 4000000 in
theorem below_arg_yes (w : World) (ad : Addr) (c N : Nat) (body : List Node) (at_ : Int) (h0 : 0 ≤ at_) (h255 : at_ ≤ 255) (hj : at_ % 4 = 3) (hN : N = body.length) (hr : kNode.C w (some ad) body.length body) (hz : checkB body = 0) (hn : N ≤ 120) (hd : deepB body ≤ 15) :
    Calls Tryd.prog 10 #[.slice (some ad) N c, .int .u8 at_] w fun e w' => e = .returned (.bool true) ∧ Below w.heap.size w w' := by
  obtain ⟨hb0, hb1, hb2⟩ := below_arg hz (by omega) hd
  have hb3 := labP_len body body.length
  rw [labP_full hz] at hb3
  obtain ⟨d, hdd⟩ : ∃ d, d = deepB body := ⟨_, rfl⟩
  obtain ⟨m, hm⟩ : ∃ m, m = ([funN] ++ body ++ [wholeN]).length := ⟨_, rfl⟩
  have CK : Aside0 (∀ W, Below w.heap.size w W → Calls Tryd.prog 14 #[.slice (some ad) N c] W fun e w' => e = .returned (.int .i64 0) ∧ Below W.heap.size W w') := ⟨fun W hb => by rw [← hz, hN]; exact check_calls W _ c body (Kd.C_below hr hb)⟩
  have CD : Aside0 (∀ W, Below w.heap.size w W → Calls Tryd.prog 18 #[.slice (some ad) N c] W fun e w' => e = .returned (.int .i64 d) ∧ Below W.heap.size W w') := ⟨fun W hb => by rw [hdd, hN]; exact deep_calls W _ c body (Kd.C_below hr hb)⟩
  have OF : Aside0 (∀ W, Below w.heap.size w W → Calls Tryd.prog 27 #[.slice (some ad) N c] W fun e w' => ∃ v1 v2, e = .returned (.tuple #[v1, v2]) ∧ kSpot.R 50 w' W.heap.size (fun k => some k ≠ v2.ownBlock) v1 (labB body) ∧ kSpot.R 50 w' W.heap.size (fun k => some k ≠ v1.ownBlock) v2 (effB body) ∧ Below W.heap.size W w') := ⟨fun W hb => by rw [hN]; exact of_calls W (some ad) c body (Kd.C_below hr hb)⟩
  rw [← hdd] at hd
  have z1 : decide (120 < (N : Int)) = false := decide_eq_false (by omega)
  have z2 : decide (15 < d) = false := decide_eq_false (by omega)
  have HM := Aside0.mk hm
  have HN := Aside0.mk hN
  have HR := Aside0.mk hr
  have HB := Aside0.mk (Below.refl w.heap.size w)
  rw [← hN] at hb3
  obtain ⟨l, hl⟩ : ∃ l, l = labB body := ⟨_, rfl⟩
  obtain ⟨x, hx⟩ : ∃ x, x = labB ([funN] ++ body ++ [wholeN]) := ⟨_, rfl⟩
  rw [← hl] at hb1 hb2 hb3 OF
  rw [← hx] at hb1 hb2
  have HX := Aside0.mk hx
  obtain ⟨L, hL⟩ : ∃ L, L = l.length := ⟨_, rfl⟩
  obtain ⟨X, hXL⟩ : ∃ X, X = x.length := ⟨_, rfl⟩
  rw [← hL, ← hXL] at hb1
  rw [← hL] at hb3
  have HLL := Aside0.mk hL
  have HXL := Aside0.mk hXL
  have H2 := Aside0.mk hb2
  have z3 : decide ((X : Int) < 2 + (L : Int)) = false := decide_eq_false (by omega)
  clear hz hr hN hm hdd hd hl hx hL hXL hb0 hb2
  go_enter Tryd.func10, Tryd.ntmps10
  go_wp2_with (first | (go_at_call 14; (with_reducible refine (CK.out _ HB.out).mono ?_); rintro e W' ⟨rfl, hb'⟩; have HB' := Aside0.mk (below_step HB.out hb'); clear HB hb'; have HB := HB'; clear HB') | (go_at_call 18; (with_reducible refine (CD.out _ HB.out).mono ?_); rintro e W' ⟨rfl, hb'⟩; have HB' := Aside0.mk (below_step HB.out hb'); clear HB hb'; have HB := HB'; clear HB'))
  refine (OF.out _ HB.out).mono ?_
  rintro e w2 ⟨v1, v2, rfl, r1, r2, hb2'⟩
  obtain ⟨A1, c1, rfl⟩ := Kd.R_slice r1
  obtain ⟨A2, c2, rfl⟩ := Kd.R_slice r2
  rw [← HLL.out] at r1 r2 ⊢
  have R1 := Aside0.mk (Kd.R_reads' r1).2.2
  have HW2 := Aside0.mk (below_step HB.out hb2')
  rw [← HLL.out] at R1
  clear r1 r2 hb2' HB CK CD OF
  have HB := Aside0.mk (Below.refl w2.heap.size w2)
  go_wp2_with (first
      | (go_at_call 29; (with_reducible refine (L08.whole_calls _).mono ?_); rintro e wx ⟨rfl, hb'⟩; have HB' := Aside0.mk (below_step HB.out hb'); clear HB; have HB := HB'; clear HB'; (try (have HL' := Aside0.mk (Kd.C_below HL.out hb'); clear HL; have HL := HL'; clear HL')); (try (have HO' := Aside0.mk (Kd.R_below HO.out hb'); clear HO; have HO := HO'; clear HO')); clear hb')
      | (go_at_call 30; (with_reducible refine (L08.fun_calls _).mono ?_); rintro e wx ⟨rfl, hb'⟩; have HB' := Aside0.mk (below_step HB.out hb'); clear HB; have HB := HB'; clear HB'; (try (have HL' := Aside0.mk (Kd.C_below HL.out hb'); clear HL; have HL := HL'; clear HL')); (try (have HO' := Aside0.mk (Kd.R_below HO.out hb'); clear HO; have HO := HO'; clear HO')); clear hb')
      | (at_builtin; refine wpList_append_R rfl kNode w2.heap.size _ (.tmp 58) 22 22 36 36 (.agg #[.int .u8 0, .int .i64 0, .string ⟨#[]⟩, .int .i64 0, .bool false, .int .u64 0, .bool false, .int .u64 0, .bool false, .int .u64 0]) 88 rfl (by kernel_rfl) (by kernel_rfl) infoN rfl (by decide) (by decide) (.slice (some ⟨_, 0, none⟩) 1 1) [funN] body (some ad) N c (fun _ => True) (fun _ => False) rfl rfl (lit_R _ w2.heap.size HB.out.size [funN] (by decide)) (by rw [HN.out]; exact Kd.C_below (Kd.C_below HR.out HW2.out) (below_alloc HB.out _)) (fun x cs h => nodeM h) (fun _ h => h.elim) (fun _ _ => trivial) (below_alloc HB.out _).size (by simp; omega) ?_; intro v1 wx HO1 hg hat; obtain ⟨A3, c3, rfl⟩ := Kd.R_slice HO1; have HO := Aside0.mk HO1; have HB' := Aside0.mk ((below_alloc HB.out _).grown hg (below_alloc HB.out _).size ((fun k hk => by simp only [Value.ownBlock, Option.some.injEq] at hk; have := HB.out.size; omega))); clear HB HO1 hg hat; have HB := HB'; clear HB')
      | (at_builtin; refine wpList_append_R rfl kNode w2.heap.size (.tmp 59) (.tmp 61) 22 22 36 36 (.agg #[.int .u8 0, .int .i64 0, .string ⟨#[]⟩, .int .i64 0, .bool false, .int .u64 0, .bool false, .int .u64 0, .bool false, .int .u64 0]) 88 rfl (by kernel_rfl) (by kernel_rfl) infoN rfl (by decide) (by decide) (.slice _ _ _) ([funN] ++ body) [wholeN] _ 1 1 (fun _ => True) (fun _ => False) rfl rfl (Kd.R_below HO.out (below_alloc (Below.refl _ _) _)) (one_C _) (fun x cs h => nodeM h) (fun _ h => h.elim) (fun _ _ => trivial) (below_alloc HB.out _).size (by have := HN.out; simp; omega) ?_; intro v2 wx HO2 hg2 hat2; obtain ⟨A3, c3, rfl⟩ := Kd.R_slice HO2; have HL := Aside0.mk (Kd.R_reads' HO2).2.2; have HB' := Aside0.mk ((below_alloc HB.out _).grown hg2 (below_alloc HB.out _).size (fun k hk => (Kd.R_bound HO.out).1 k hk |>.2.1)); clear HB HO2 HO hg2 hat2; have HB := HB'; clear HB'; rw [← HM.out]))
  have OA := of_calls wx A3 c3 ([funN] ++ body ++ [wholeN]) HL.out
  rw [← HM.out, ← HX.out] at OA
  refine OA.mono ?_
  rintro e w4 ⟨v3, v4, rfl, r3, r4, hb4⟩
  obtain ⟨A5, c5, rfl⟩ := Kd.R_slice r3
  obtain ⟨A6, c6, rfl⟩ := Kd.R_slice r4
  rw [← HXL.out] at r3 ⊢
  have R3 := Aside0.mk (Kd.R_reads' r3).2.2
  rw [← HXL.out] at R3
  have HW4 := Aside0.mk (below_step HB.out hb4)
  have R1' := Aside0.mk (Kd.C_below R1.out HW4.out)
  clear r3 r4 hb4 OA HL R1 HB
  go_wp2
  go_loopg [11] (L + 1) (fun g i W => ∃ k : Nat, i = .int .i64 (k : Int) ∧ k ≤ L ∧ L + 1 - k ≤ g ∧ Aside0 (Below w4.heap.size w4 W))
  case atStart => exact ⟨0, rfl, by omega, by omega, ⟨Below.refl _ _⟩⟩
  case round =>
    obtain ⟨k, rfl, hk, hkg, HB⟩ := hrel
    rcases Nat.lt_or_ge k L with hlt | hge
    · have hdk : decide (k < L) = true := decide_eq_true hlt
      have hkl : k < l.length := by rw [← HLL.out]; exact hlt
      obtain ⟨y, hy, hy1, hy2⟩ := H2.out k l[k] (List.getElem?_eq_getElem hkl)
      have hxk : l[k]? = some l[k] := List.getElem?_eq_getElem hkl
      obtain ⟨xk, hxe⟩ : ∃ xk, xk = l[k] := ⟨_, rfl⟩
      rw [← hxe] at hy1 hxk
      try rw [← hxe] at hy2
      clear hxe
      obtain ⟨x0, x1, x2, x3⟩ := xk
      obtain ⟨y0, y1, y2, y3⟩ := y
      simp only at hy1 hy2
      subst hy1 hy2
      obtain ⟨ld, rfl, c0, c1', c2', c3', c4⟩ := spotAt (Kd.C_below R1'.out HB.out) hxk
      obtain ⟨md, rfl, d0, d1, d2, d3, d4⟩ := spotAt (Kd.C_below R3.out HB.out) hy
      have hkX : 2 + k < X := by rw [HXL.out]; exact (List.getElem?_eq_some_iff.1 hy).1
      clear hy hxk
      by_cases x20 : x2 = 0
      · subst x20
        rw [show turnI 0 = 1 from rfl] at d2
        go_wp2
        go_quiet (fail)
        go_wp2
        go_roundg (gk - 1)
        case measure => omega
        case rel => exact ⟨k + 1, by go_num, by omega, by omega, ⟨pw_below_drewN HB.out _⟩⟩
      · have z20 : (x2 == 0) = false := beq_eq_false_iff_ne.mpr x20
        by_cases x21 : x2 = 1
        · subst x21
          rw [show turnI 1 = 0 from rfl] at d2
          clear x20
          go_wp2
          go_quiet (fail)
          go_wp2
          go_roundg (gk - 1)
          case measure => omega
          case rel => exact ⟨k + 1, by go_num, by omega, by omega, ⟨pw_below_drewN HB.out _⟩⟩
        · have z21 : (x2 == 1) = false := beq_eq_false_iff_ne.mpr x21
          rw [show turnI x2 = x2 by unfold turnI; rw [if_neg x20, if_neg x21]] at d2
          clear x20 x21
          go_wp2
          go_quiet (fail)
          go_wp2
          go_roundg (gk - 1)
          case measure => omega
          case rel => exact ⟨k + 1, by go_num, by omega, by omega, ⟨pw_below_drewN HB.out _⟩⟩
    · have hdk : decide (k < L) = false := decide_eq_false (by omega)
      go_wp2_with (go_at_call 28; (with_reducible refine (L08.alive_calls _).mono ?_); rintro e W' ⟨rfl, hb'⟩; have HB3 := Aside0.mk hb'; clear hb')
      go_ret
      exact ⟨rfl, below_step HW2.out (below_step HW4.out (below_step HB.out HB3.out))⟩
/-- SpotsBelow: true at every input. -/
theorem below_walk (w : World) (A : Option Addr) (c : Nat) (body : List Node) (hr : Kd.C kNode w A body.length body) (hc : body.length ≤ c) (hw : ∀ n ∈ body, Node.wf n) (at_ : Int) (ha : (Lit.int .u8 at_).wf = true) :
    Calls Tryd.prog 10 #[.slice A body.length c, .int .u8 at_] w fun e w' => e = .returned (.bool true) ∧ Below w.heap.size w w' := by
  by_cases h : 120 < body.length ∨ checkB body ≠ 0 ∨ 15 < deepB body
  · exact below_no w A c body at_ hr h
  · have hz : checkB body = 0 := by
      by_cases h2 : checkB body = 0
      · exact h2
      · exact absurd (.inr (.inl h2)) h
    obtain ⟨ad, rfl, -⟩ := C_nodeN hr 0 (checkB_L hz).1
    have hb := wf_u8 ha
    rcases (by omega : at_ % 4 = 0 ∨ at_ % 4 = 1 ∨ at_ % 4 = 2 ∨ at_ % 4 = 3) with hj | hj | hj | hj
    · exact below_ref_yes w ad c _ body at_ hb.1 hb.2 hj rfl hr hz (by omega) (by omega)
    · exact below_tup_yes w ad c _ body at_ hb.1 hb.2 hj rfl hr hz (by omega) (by omega)
    · exact below_fun_yes w ad c _ body at_ hb.1 hb.2 hj rfl hr hz (by omega) (by omega)
    · exact below_arg_yes w ad c _ body at_ hb.1 hb.2 hj rfl hr hz (by omega) (by omega)
end L08
end Go.Proofs.YtoohandacpalpaaDoor
