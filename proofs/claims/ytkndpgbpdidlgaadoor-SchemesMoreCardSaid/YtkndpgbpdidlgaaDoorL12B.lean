/- The law SchemesMore: a walk through its code at every input. -/
import Derived.Test.YtkndpgbpdidlgaaDoorL12A
import Derived.Test.YtkndpgbpdidlgaaDoorScT
namespace Go.Proofs.YtkndpgbpdidlgaaDoor
open Go.RowKit Go.Proofs.YtkndpgbpdidlgaaDoorW.PrintWords Go.Proofs.YtkndpgbpdidlgaaDoorW.PrintLast Go.Proofs.YtkndpgbpdidlgaaDoorW.PrintMore
set_option linter.unusedVariables false
set_option linter.unusedSimpArgs false
namespace L12
open L09
theorem scheme_named (w : World) (lv ev : Int) (A LA EA : Option Addr) (c lc ec n k m : Nat) (a : List Node) (L E : List Bound) (v1 v2 : Value) (o : Option (List Int)) (p : Option Int) (r : Int) (hr : schemeB (hasLat o) (hasEff p) lv ev a L E = r) (hn : n = a.length) (hk : k = L.length) (hm : m = E.length) (hy : SchY.ok w ⟨lv, ev, A, c, a, LA, lc, L, EA, ec, E⟩) (hv1 : LatV w v1 o) (hv2 : EffV w v2 p) :
    Calls Tryd.prog 22 #[.agg #[.int .i64 lv, .int .i64 ev, .slice A n c, .slice LA k lc, .slice EA m ec], .iface 28 v1, .iface 29 v2] w fun e w' => e = .returned (.int .i64 r) ∧ Below w.heap.size w w' := by
  rw [← hr]
  subst hn hk hm
  exact scheme_calls w ⟨lv, ev, A, c, a, LA, lc, L, EA, ec, E⟩ hy v1 v2 o p hv1 hv2
theorem wf_small {n : Int} (h0 : -1 ≤ n) (h1 : n ≤ 100) : (Lit.int .i64 n).wf = true := by
  simp only [Lit.wf, IntKind.min, IntKind.max, IntKind.signed, IntKind.bits]
  simp
  omega
attribute [local go_sem high] eqTerm
set_option maxRecDepth 100000 in
set_option maxHeartbeats 16000000 in
theorem more_walk (w : World) (ht : TabAt 0 Lib.deBruijn64tab w) (y : SchY) (hy : y.ok w) (z : SortsY) (hz : z.ok w) :
    Calls Tryd.prog 8 #[y.v, z.v] w fun e w' => e = .returned (.bool true) ∧ Below w.heap.size w w' := by
  obtain ⟨D, f, rows, zm⟩ := z
  obtain ⟨lv, ev, A, c, a, LA, lc, L, EA, ec, E⟩ := y
  obtain ⟨-, hs, hU, -⟩ := hz
  simp only at hs hU
  simp only [SortsY.v, SchY.v]
  have HT := Aside0.mk ht
  have HY := Aside0.mk hy
  have HZ := Aside0.mk hs
  have HU := Aside0.mk hU
  obtain ⟨n, hn⟩ : ∃ n, n = a.length := ⟨_, rfl⟩
  obtain ⟨k, hk⟩ : ∃ n, n = L.length := ⟨_, rfl⟩
  obtain ⟨m, hm⟩ : ∃ n, n = E.length := ⟨_, rfl⟩
  obtain ⟨q, hq⟩ : ∃ n, n = rows.length := ⟨_, rfl⟩
  have HN := Aside0.mk (And.intro hn (And.intro hk hm))
  have HQ := Aside0.mk hq
  rw [← hn, ← hk, ← hm, ← hq]
  obtain ⟨O1, hO1⟩ : ∃ O : Obj, O = .cells #[.int .i64 lv, .int .i64 ev, .slice A n c, .slice LA k lc, .slice EA m ec] 46 := ⟨_, rfl⟩
  obtain ⟨O, hO⟩ : ∃ O : Obj, O = .cells #[.slice D q f, .int .i64 zm] 47 := ⟨_, rfl⟩
  have HB := Aside0.mk (below_alloc (below_alloc (Below.refl w.heap.size w) O1) O)
  have g1 : ((w.alloc O1).alloc O).heap[w.heap.size]? = some O1 := blk_alloc (blk_new w _) _
  have g2 : ((w.alloc O1).alloc O).heap[w.heap.size + 1]? = some O := by have := blk_new (w.alloc O1) O; rwa [World.size_alloc] at this
  subst hO hO1
  have c0 := (blk_cell g1 0).trans (show _ = some (Value.int .i64 lv) from rfl)
  have c1 := (blk_cell g1 1).trans (show _ = some (Value.int .i64 ev) from rfl)
  have c2 := (blk_cell g1 2).trans (show _ = some (Value.slice A n c) from rfl)
  have c3 := (blk_cell g1 3).trans (show _ = some (Value.slice LA k lc) from rfl)
  have c4 := (blk_cell g1 4).trans (show _ = some (Value.slice EA m ec) from rfl)
  have c5 := (blk_cell g2 0).trans (show _ = some (Value.slice D q f) from rfl)
  have c6 := (blk_cell g2 1).trans (show _ = some (Value.int .i64 zm) from rfl)
  clear g1 g2 ht hy hs hU hn hk hm hq
  go_enter Tryd.func8, Tryd.ntmps8
  go_wp2_with fail
  refine (of12_calls _ D f q rows zm HQ.out (Kd.C_below (by rw [HQ.out]; exact HZ.out) HB.out) HU.out ⟨tab_below HB.out HT.out⟩).mono ?_
  rintro e W1 ⟨hb', v1, v2, rfl, hl, hx⟩
  replace c0 := pw_cell_below hb' c0; replace c1 := pw_cell_below hb' c1; replace c2 := pw_cell_below hb' c2; replace c3 := pw_cell_below hb' c3; replace c4 := pw_cell_below hb' c4; replace c5 := pw_cell_below hb' c5; replace c6 := pw_cell_below hb' c6
  have HB' := Aside0.mk (below_step HB.out hb'); clear HB hb'; have HB := HB'; clear HB'
  have HLX := Aside0.mk (And.intro hl hx)
  obtain ⟨o, ho⟩ : ∃ o, o = latO rows := ⟨_, rfl⟩
  obtain ⟨p, hp⟩ : ∃ p, p = effO zm := ⟨_, rfl⟩
  rw [← ho, ← hp] at HLX
  clear hl hx ho hp
  have HB1 := HB
  clear HB
  have HB := Aside0.mk (Below.refl W1.heap.size W1)
  have HY1 := Aside0.mk (HY.out.kept HB1.out)
  by_cases hb : 64 < q ∨ 200 < n ∨ 300 < k ∨ 300 < m
  · have HE : Aside0 (decide (64 < q ∨ 200 < n ∨ 300 < k ∨ 300 < m) = true) := ⟨decide_eq_true hb⟩
    clear hb
    go_wp2_with (first | (go_at_call 21; (with_reducible refine (great12_calls _ _ _ _ _ _ _ _ _ _ _ _ _ _ _ _).mono ?_); rintro e W' ⟨rfl, hb'⟩; replace c0 := pw_cell_below hb' c0; replace c1 := pw_cell_below hb' c1; replace c2 := pw_cell_below hb' c2; replace c3 := pw_cell_below hb' c3; replace c4 := pw_cell_below hb' c4; replace c5 := pw_cell_below hb' c5; replace c6 := pw_cell_below hb' c6; have HB' := Aside0.mk (below_step HB.out hb'); clear HB hb'; have HB := HB'; clear HB'; rw [HE.out]) | (go_at_call 23; (with_reducible refine (alive12_calls _ ⟨tab_below (below_step HB1.out HB.out) HT.out⟩).mono ?_); rintro e W' ⟨rfl, hb'⟩; replace c0 := pw_cell_below hb' c0; replace c1 := pw_cell_below hb' c1; replace c2 := pw_cell_below hb' c2; replace c3 := pw_cell_below hb' c3; replace c4 := pw_cell_below hb' c4; replace c5 := pw_cell_below hb' c5; replace c6 := pw_cell_below hb' c6; have HB' := Aside0.mk (below_step HB.out hb'); clear HB hb'; have HB := HB'; clear HB'))
    go_ret
    exact ⟨rfl, below_step HB1.out HB.out⟩
  have HE : Aside0 (decide (64 < q ∨ 200 < n ∨ 300 < k ∨ 300 < m) = false) := ⟨decide_eq_false hb⟩
  have k300 : k ≤ 300 := by omega
  obtain ⟨r, hr⟩ : ∃ r, schemeB (hasLat o) (hasEff p) lv ev a L E = r := ⟨_, rfl⟩
  have HR := Aside0.mk hr
  have S0 : Aside0 (∀ W, Below W1.heap.size W1 W → Calls Tryd.prog 22 #[.agg #[.int .i64 lv, .int .i64 ev, .slice A n c, .slice LA k lc, .slice EA m ec], .iface 28 v1, .iface 29 v2] W fun e w' => e = .returned (.int .i64 r) ∧ Below W.heap.size W w') := ⟨fun W hb => scheme_named W lv ev A LA EA c lc ec n k m a L E v1 v2 o p r HR.out HN.out.1 HN.out.2.1 HN.out.2.2 (HY1.out.kept hb) (HLX.out.1.kept hb) (HLX.out.2.kept hb)⟩
  clear hr hb
  by_cases q1 : r = 0
  rotate_left
  · have z1 : (r != 0) = true := bne_iff_ne.mpr q1
    clear q1
    go_wp2_with (first | (go_at_call 21; (with_reducible refine (great12_calls _ _ _ _ _ _ _ _ _ _ _ _ _ _ _ _).mono ?_); rintro e W' ⟨rfl, hb'⟩; replace c0 := pw_cell_below hb' c0; replace c1 := pw_cell_below hb' c1; replace c2 := pw_cell_below hb' c2; replace c3 := pw_cell_below hb' c3; replace c4 := pw_cell_below hb' c4; replace c5 := pw_cell_below hb' c5; replace c6 := pw_cell_below hb' c6; have HB' := Aside0.mk (below_step HB.out hb'); clear HB hb'; have HB := HB'; clear HB'; rw [HE.out]) | (go_at_call 22; (with_reducible refine (S0.out _ HB.out).mono ?_); rintro e W' ⟨rfl, hb'⟩; replace c0 := pw_cell_below hb' c0; replace c1 := pw_cell_below hb' c1; replace c2 := pw_cell_below hb' c2; replace c3 := pw_cell_below hb' c3; replace c4 := pw_cell_below hb' c4; replace c5 := pw_cell_below hb' c5; replace c6 := pw_cell_below hb' c6; have HB' := Aside0.mk (below_step HB.out hb'); clear HB hb'; have HB := HB'; clear HB') | (go_at_call 23; (with_reducible refine (alive12_calls _ ⟨tab_below (below_step HB1.out HB.out) HT.out⟩).mono ?_); rintro e W' ⟨rfl, hb'⟩; replace c0 := pw_cell_below hb' c0; replace c1 := pw_cell_below hb' c1; replace c2 := pw_cell_below hb' c2; replace c3 := pw_cell_below hb' c3; replace c4 := pw_cell_below hb' c4; replace c5 := pw_cell_below hb' c5; replace c6 := pw_cell_below hb' c6; have HB' := Aside0.mk (below_step HB.out hb'); clear HB hb'; have HB := HB'; clear HB'))
    go_ret
    exact ⟨rfl, below_step HB1.out HB.out⟩
  subst q1
  obtain ⟨hz0, hbl, hbe, -, -⟩ := scheme_ok HR.out
  obtain ⟨l0, l64, -, -⟩ := bounds_vars hbl
  obtain ⟨e0, e64, -, -⟩ := bounds_vars hbe
  obtain ⟨lv, rfl⟩ := Int.eq_ofNat_of_zero_le l0
  obtain ⟨ev, rfl⟩ := Int.eq_ofNat_of_zero_le e0
  have l64' : lv ≤ 64 := by omega
  have e64' : ev ≤ 64 := by omega
  have HZ0 := Aside0.mk hz0
  obtain ⟨r2, hr2⟩ : ∃ r, schemeB (hasLat o) (hasEff p) ((lv : Int) + 1) ((ev : Int) + 1) a L E = r := ⟨_, rfl⟩
  have HR2 := Aside0.mk hr2
  have HR2' : Aside0 (r2 = if lv < 64 ∧ ev < 64 then 0 else 3) := ⟨by rw [← hr2, scheme_more HR.out]; congr 1; simp; omega⟩
  have S1 : Aside0 (∀ W, Below W1.heap.size W1 W → Calls Tryd.prog 22 #[.agg #[.int .i64 ((lv : Int) + 1), .int .i64 ((ev : Int) + 1), .slice A n c, .slice LA k lc, .slice EA m ec], .iface 28 v1, .iface 29 v2] W fun e w' => e = .returned (.int .i64 r2) ∧ Below W.heap.size W w') := ⟨fun W hb => scheme_named W _ _ A LA EA c lc ec n k m a L E v1 v2 o p r2 HR2.out HN.out.1 HN.out.2.1 HN.out.2.2 ⟨(HY1.out.kept hb).rb, HY1.out.wb, (HY1.out.kept hb).rl, HY1.out.wl, (HY1.out.kept hb).re, HY1.out.we, wf_small (n := (lv : Int) + 1) (by omega) (by omega), wf_small (n := (ev : Int) + 1) (by omega) (by omega)⟩ (HLX.out.1.kept hb) (HLX.out.2.kept hb)⟩
  clear hz0 hbl hbe l0 l64 e0 e64 hr2
  go_wp2_with (first | (go_at_call 21; (with_reducible refine (great12_calls _ _ _ _ _ _ _ _ _ _ _ _ _ _ _ _).mono ?_); rintro e W' ⟨rfl, hb'⟩; replace c0 := pw_cell_below hb' c0; replace c1 := pw_cell_below hb' c1; replace c2 := pw_cell_below hb' c2; replace c3 := pw_cell_below hb' c3; replace c4 := pw_cell_below hb' c4; replace c5 := pw_cell_below hb' c5; replace c6 := pw_cell_below hb' c6; have HB' := Aside0.mk (below_step HB.out hb'); clear HB hb'; have HB := HB'; clear HB'; rw [HE.out]) | (go_at_call 22; (with_reducible refine (S0.out _ HB.out).mono ?_); rintro e W' ⟨rfl, hb'⟩; replace c0 := pw_cell_below hb' c0; replace c1 := pw_cell_below hb' c1; replace c2 := pw_cell_below hb' c2; replace c3 := pw_cell_below hb' c3; replace c4 := pw_cell_below hb' c4; replace c5 := pw_cell_below hb' c5; replace c6 := pw_cell_below hb' c6; have HB' := Aside0.mk (below_step HB.out hb'); clear HB hb'; have HB := HB'; clear HB'))
  have hb' := below_alloc (Below.refl W'.heap.size W') (.cells #[.int .i64 ((lv : Int) + 1), .int .i64 ((ev : Int) + 1), .slice A n c, .slice LA k lc, .slice EA m ec] 46)
  replace c0 := pw_cell_below hb' c0; replace c1 := pw_cell_below hb' c1; replace c2 := pw_cell_below hb' c2; replace c3 := pw_cell_below hb' c3; replace c4 := pw_cell_below hb' c4; replace c5 := pw_cell_below hb' c5; replace c6 := pw_cell_below hb' c6
  have HB' := Aside0.mk (below_step HB.out hb'); clear HB hb'; have HB := HB'; clear HB'
  with_reducible refine (S1.out _ HB.out).mono ?_
  rintro e W2 ⟨rfl, hb'⟩
  replace c0 := pw_cell_below hb' c0; replace c1 := pw_cell_below hb' c1; replace c2 := pw_cell_below hb' c2; replace c3 := pw_cell_below hb' c3; replace c4 := pw_cell_below hb' c4; replace c5 := pw_cell_below hb' c5; replace c6 := pw_cell_below hb' c6
  have HB' := Aside0.mk (below_step HB.out hb'); clear HB hb'; have HB := HB'; clear HB'
  clear S1 S0 HR2
  by_cases q1 : lv < 64
  · have z1 : decide ((lv : Int) < 64) = true := decide_eq_true (by omega)
    by_cases q2 : ev < 64
    · have z2 : decide ((ev : Int) < 64) = true := decide_eq_true (by omega)
      have hr2 : r2 = 0 := HR2'.out.trans (if_pos ⟨q1, q2⟩)
      subst hr2
      clear q1 q2
      clear HR2'
      by_cases q3 : lv < 1
      · have z3 : decide ((lv : Int) < 1) = true := decide_eq_true (by omega)
        clear q3
        go_wp2_with (go_at_call 23; (with_reducible refine (alive12_calls _ ⟨tab_below (below_step HB1.out HB.out) HT.out⟩).mono ?_); rintro e W' ⟨rfl, hb'⟩; replace c0 := pw_cell_below hb' c0; replace c1 := pw_cell_below hb' c1; replace c2 := pw_cell_below hb' c2; replace c3 := pw_cell_below hb' c3; replace c4 := pw_cell_below hb' c4; replace c5 := pw_cell_below hb' c5; replace c6 := pw_cell_below hb' c6; have HB' := Aside0.mk (below_step HB.out hb'); clear HB hb'; have HB := HB'; clear HB')
        go_ret
        exact ⟨rfl, below_step HB1.out HB.out⟩
      have z3 : decide ((lv : Int) < 1) = false := decide_eq_false (by omega)
      have HG := Aside0.mk (And.intro HR.out (show (1 : Int) ≤ lv by omega))
      go_wp2
      obtain ⟨nl, hnl⟩ : ∃ n, n = (lv : Int) - 1 := ⟨_, rfl⟩
      rw [← hnl]
      have HNL := Aside0.mk hnl
      clear hnl z3 z1 z2
      have hb' := below_alloc (Below.refl W2.heap.size W2) (.cells #[.bool true, .int .u64 nl] 63)
      replace c0 := pw_cell_below hb' c0; replace c1 := pw_cell_below hb' c1; replace c2 := pw_cell_below hb' c2; replace c3 := pw_cell_below hb' c3; replace c4 := pw_cell_below hb' c4; replace c5 := pw_cell_below hb' c5; replace c6 := pw_cell_below hb' c6
      have HC := Aside0.mk (And.intro c0 (And.intro c1 (And.intro c2 (And.intro c3 (And.intro c4 (And.intro c5 c6))))))
      have b0 : (W2.alloc (.cells #[.bool true, .int .u64 nl] 63)).cell? ⟨W2.heap.size, 0, none⟩ = some (.bool true) := blk_cell (blk_new W2 _) 0
      have b1 : (W2.alloc (.cells #[.bool true, .int .u64 nl] 63)).cell? ⟨W2.heap.size, 1, none⟩ = some (.int .u64 nl) := blk_cell (blk_new W2 _) 1
      have HB' := Aside0.mk (below_step HB.out hb'); clear HB hb'; have HB := HB'; clear HB'
      clear c0 c1 c4 c5 c6
      generalize W2.alloc (.cells #[.bool true, .int .u64 nl] 63) = W3 at *
      go_loopg [10, 11] (k + 1) (fun g b i W => ∃ t : Nat, i = .int .i64 (t : Int) ∧ b = .bool (askL nl (L.take t)) ∧ t ≤ k ∧ k + 1 - t ≤ g ∧ Aside0 (Below W3.heap.size W3 W))
      case atStart => exact ⟨0, rfl, rfl, by omega, by omega, ⟨Below.refl _ _⟩⟩
      case round =>
        obtain ⟨t, rfl, rfl, ht, htg, HW⟩ := hrel
        obtain ⟨ask, hask⟩ : ∃ b, b = askL nl (L.take t) := ⟨_, rfl⟩
        rw [← hask]
        rcases Nat.lt_or_ge t k with hlt | hge
        · have hd : decide (t < k) = true := decide_eq_true hlt
          have htx : t < L.length := by rw [← HN.out.2.1]; exact hlt
          obtain ⟨ad, e2, x0, x1, x2, x3⟩ := C_boundN (Kd.C_below (Kd.C_below HY1.out.rl HB.out) HW.out) t htx
          subst e2
          obtain ⟨b, hb⟩ : ∃ b, b = L[t] := ⟨_, rfl⟩
          rw [← hb] at x0 x1 x2 x3
          have HM : Aside0 (askL nl (L.take (t + 1)) = (ask || (eqT b.f0 ⟨true, nl⟩ || eqT b.f1 ⟨true, nl⟩))) := ⟨by rw [hask, hb, List.take_succ_eq_append_getElem htx, askL, askL, List.any_append]; simp⟩
          obtain ⟨⟨t0, t1⟩, ⟨u0, u1⟩⟩ := b
          simp only [eqT] at x0 x1 x2 x3 HM
          clear hb hask
          replace c2 := pw_cell_below HW.out c2
          replace c3 := pw_cell_below HW.out c3
          replace b0 := pw_cell_below HW.out b0
          replace b1 := pw_cell_below HW.out b1
          cases ask
          rotate_left
          · go_wp2
            go_quiet (fail)
            go_wp2
            go_roundg (gk - 1)
            case measure => omega
            case rel => exact ⟨t + 1, by go_num, by rw [HM.out]; simp, by omega, by omega, ⟨pw_below_drewN HW.out _⟩⟩
          · cases t0
            · cases u0
              · go_wp2
                go_quiet (fail)
                go_wp2
                go_roundg (gk - 1)
                case measure => omega
                case rel => exact ⟨t + 1, by go_num, by rw [HM.out]; rfl, by omega, by omega, ⟨pw_below_drewN HW.out _⟩⟩
              by_cases qu1 : u1 = nl
              · have zu1 : (u1 == nl) = true := beq_iff_eq.mpr qu1
                clear qu1
                rw [zu1] at HM
                go_wp2
                go_quiet (fail)
                go_wp2
                go_roundg (gk - 1)
                case measure => omega
                case rel => exact ⟨t + 1, by go_num, by rw [HM.out]; rfl, by omega, by omega, ⟨pw_below_drewN HW.out _⟩⟩
              have zu1 : (u1 == nl) = false := beq_eq_false_iff_ne.mpr qu1
              clear qu1
              rw [zu1] at HM
              go_wp2
              go_quiet (fail)
              go_wp2
              go_roundg (gk - 1)
              case measure => omega
              case rel => exact ⟨t + 1, by go_num, by rw [HM.out]; rfl, by omega, by omega, ⟨pw_below_drewN HW.out _⟩⟩
            by_cases qt1 : t1 = nl
            · have zt1 : (t1 == nl) = true := beq_iff_eq.mpr qt1
              clear qt1
              rw [zt1] at HM
              go_wp2
              go_quiet (fail)
              go_wp2
              go_roundg (gk - 1)
              case measure => omega
              case rel => exact ⟨t + 1, by go_num, by rw [HM.out]; rfl, by omega, by omega, ⟨pw_below_drewN HW.out _⟩⟩
            have zt1 : (t1 == nl) = false := beq_eq_false_iff_ne.mpr qt1
            clear qt1
            rw [zt1] at HM
            cases u0
            · go_wp2
              go_quiet (fail)
              go_wp2
              go_roundg (gk - 1)
              case measure => omega
              case rel => exact ⟨t + 1, by go_num, by rw [HM.out]; rfl, by omega, by omega, ⟨pw_below_drewN HW.out _⟩⟩
            by_cases qu1 : u1 = nl
            · have zu1 : (u1 == nl) = true := beq_iff_eq.mpr qu1
              clear qu1
              rw [zu1] at HM
              go_wp2
              go_quiet (fail)
              go_wp2
              go_roundg (gk - 1)
              case measure => omega
              case rel => exact ⟨t + 1, by go_num, by rw [HM.out]; rfl, by omega, by omega, ⟨pw_below_drewN HW.out _⟩⟩
            have zu1 : (u1 == nl) = false := beq_eq_false_iff_ne.mpr qu1
            clear qu1
            rw [zu1] at HM
            go_wp2
            go_quiet (fail)
            go_wp2
            go_roundg (gk - 1)
            case measure => omega
            case rel => exact ⟨t + 1, by go_num, by rw [HM.out]; rfl, by omega, by omega, ⟨pw_below_drewN HW.out _⟩⟩
        · have hd : decide (t < k) = false := decide_eq_false (by omega)
          obtain rfl : t = k := by omega
          have HA : Aside0 (ask = askL nl L) := ⟨by rw [hask, List.take_of_length_le (by rw [← HN.out.2.1]; exact Nat.le_refl _)]⟩
          generalize wr = W4 at *
          replace c2 := pw_cell_below HW.out c2
          replace c3 := pw_cell_below HW.out c3
          replace b0 := pw_cell_below HW.out b0
          replace b1 := pw_cell_below HW.out b1
          have HB4 := Aside0.mk (below_step HB.out HW.out)
          have HW4 := HW
          clear hask hd htg ht hge HB HW
          have HB := HB4
          clear HB4
          have hra : kNode.C W4 A a.length a := Kd.C_below HY1.out.rb HB.out
          go_wp2_with fail
          have OF := Go.Proofs.YtkndpgbpdidlgaaDoor.of_calls W4 A c a hra
          rw [← HN.out.1] at OF
          refine OF.mono ?_
          clear OF hra
          rintro e W5 ⟨u1, u2, rfl, s1, s2, hb'⟩
          obtain ⟨A1, d1, rfl⟩ := Kd.R_slice s1
          obtain ⟨A2, d2, rfl⟩ := Kd.R_slice s2
          obtain ⟨la, hla⟩ : ∃ l, l = labB a := ⟨_, rfl⟩
          have HLA := Aside0.mk hla
          have q1 : la.length ≤ 256 := by rw [hla]; exact labB_max a
          replace s1 := (Kd.R_reads' s1).2.2
          rw [← hla] at s1 ⊢
          obtain ⟨X, hX⟩ : ∃ X, X = la.length := ⟨_, rfl⟩
          obtain ⟨Y, hY⟩ : ∃ Y, Y = (effB a).length := ⟨_, rfl⟩
          rw [← hX] at s1 q1 ⊢
          rw [← hY]
          have HX := Aside0.mk hX
          have HS := Aside0.mk s1
          replace c2 := pw_cell_below hb' c2
          replace b0 := pw_cell_below hb' b0
          replace b1 := pw_cell_below hb' b1
          have HW5 := Aside0.mk (below_step HW4.out hb')
          have HB' := Aside0.mk (below_step HB.out hb'); clear HB hb'; have HB := HB'; clear HB'
          clear s1 s2 hla hX hY c3 HW4
          go_wp2
          go_loopg [10, 14] (X + 1) (fun g b i W => ∃ j : Nat, i = .int .i64 (j : Int) ∧ b = .bool (ask || askS nl (la.take j)) ∧ j ≤ X ∧ X + 1 - j ≤ g ∧ Aside0 (Below W5.heap.size W5 W))
          case atStart => exact ⟨0, rfl, by simp [askS], by omega, by omega, ⟨Below.refl _ _⟩⟩
          case round =>
            obtain ⟨j, rfl, rfl, hj, hjg, HW⟩ := hrel
            obtain ⟨as2, has2⟩ : ∃ b, b = (ask || askS nl (la.take j)) := ⟨_, rfl⟩
            rw [← has2]
            rcases Nat.lt_or_ge j X with hlt | hge
            · have hd : decide (j < X) = true := decide_eq_true hlt
              have hjx : j < la.length := by rw [← HX.out]; exact hlt
              obtain ⟨ad2, e2, -, -, -, x3, x4⟩ := C_spotN (by rw [← HX.out]; exact Kd.C_below HS.out HW.out) j hjx
              subst e2
              obtain ⟨b, hb⟩ : ∃ b, b = la[j].f3 := ⟨_, rfl⟩
              rw [← hb] at x3 x4
              have HM : Aside0 ((ask || askS nl (la.take (j + 1))) = (as2 || eqT b ⟨true, nl⟩)) := ⟨by rw [has2, hb, List.take_succ_eq_append_getElem hjx, askS, askS, List.any_append]; simp [Bool.or_assoc]⟩
              obtain ⟨t0, t1⟩ := b
              simp only [eqT] at x3 x4 HM
              clear hb has2
              replace b0 := pw_cell_below HW.out b0
              replace b1 := pw_cell_below HW.out b1
              cases as2
              rotate_left
              · go_wp2
                go_quiet (fail)
                go_wp2
                go_roundg (gk - 1)
                case measure => omega
                case rel => exact ⟨j + 1, by go_num, by rw [HM.out]; simp, by omega, by omega, ⟨pw_below_drewN HW.out _⟩⟩
              cases t0
              · go_wp2
                go_quiet (fail)
                go_wp2
                go_roundg (gk - 1)
                case measure => omega
                case rel => exact ⟨j + 1, by go_num, by rw [HM.out]; rfl, by omega, by omega, ⟨pw_below_drewN HW.out _⟩⟩
              by_cases q : t1 = nl
              · have z : (t1 == nl) = true := beq_iff_eq.mpr q
                clear q
                rw [z] at HM
                go_wp2
                go_quiet (fail)
                go_wp2
                go_roundg (gk - 1)
                case measure => omega
                case rel => exact ⟨j + 1, by go_num, by rw [HM.out]; rfl, by omega, by omega, ⟨pw_below_drewN HW.out _⟩⟩
              have z : (t1 == nl) = false := beq_eq_false_iff_ne.mpr q
              clear q
              rw [z] at HM
              go_wp2
              go_quiet (fail)
              go_wp2
              go_roundg (gk - 1)
              case measure => omega
              case rel => exact ⟨j + 1, by go_num, by rw [HM.out]; rfl, by omega, by omega, ⟨pw_below_drewN HW.out _⟩⟩
            · have hd : decide (j < X) = false := decide_eq_false (by omega)
              obtain rfl : j = X := by omega
              have HA2 : Aside0 (as2 = (askL nl L || askS nl (labB a))) := ⟨by rw [has2, List.take_of_length_le (by rw [← HX.out]; exact Nat.le_refl _), HA.out, HLA.out]⟩
              generalize wr = W6 at *
              obtain ⟨c0, c1, c2', c3, c4, c5, c6⟩ := HC.out
              clear c5 c6 c2'
              have hb' := below_step HW5.out HW.out
              replace c0 := pw_cell_below hb' c0
              replace c1 := pw_cell_below hb' c1
              replace c3 := pw_cell_below hb' c3
              replace c4 := pw_cell_below hb' c4
              replace c2 := pw_cell_below HW.out c2
              have HB' := Aside0.mk (below_step HB.out HW.out)
              clear HB hb' has2 HA HC b0 b1 hd hge hjg hj HW HW5 HS
              have HB := HB'
              clear HB'
              obtain ⟨r3, hr3⟩ : ∃ r, schemeB (hasLat o) (hasEff p) ((lv : Int) - 1) (ev : Int) a L E = r := ⟨_, rfl⟩
              have z3 : (r3 == 0) = !as2 := by
                rw [← hr3, HA2.out, HNL.out]
                exact scheme_less HG.out.1 HG.out.2
              have HR3 := Aside0.mk hr3
              have S2 : Aside0 (∀ W, Below W1.heap.size W1 W → Calls Tryd.prog 22 #[.agg #[.int .i64 ((lv : Int) - 1), .int .i64 (ev : Int), .slice A n c, .slice LA t lc, .slice EA m ec], .iface 28 v1, .iface 29 v2] W fun e w' => e = .returned (.int .i64 r3) ∧ Below W.heap.size W w') := ⟨fun W hb => scheme_named W _ _ A LA EA c lc ec n t m a L E v1 v2 o p r3 HR3.out HN.out.1 HN.out.2.1 HN.out.2.2 ⟨(HY1.out.kept hb).rb, HY1.out.wb, (HY1.out.kept hb).rl, HY1.out.wl, (HY1.out.kept hb).re, HY1.out.we, wf_small (n := (lv : Int) - 1) (by omega) (by omega), wf_small (n := (ev : Int)) (by omega) (by omega)⟩ (HLX.out.1.kept hb) (HLX.out.2.kept hb)⟩
              clear hr3
              go_wp2_with fail
              obtain ⟨O, hO⟩ : ∃ O : Obj, O = .cells #[.int .i64 ((lv : Int) - 1), .int .i64 (ev : Int), .slice A n c, .slice LA t lc, .slice EA m ec] 46 := ⟨_, rfl⟩
              have g1 : (W6.alloc O).heap[W6.heap.size]? = some O := blk_new W6 O
              rw [← hO]
              have hb' := below_alloc (Below.refl W6.heap.size W6) O
              have HB' := Aside0.mk (below_step HB.out hb'); clear HB hb'; have HB := HB'; clear HB'
              subst hO
              have l0 := (blk_cell g1 0).trans (show _ = some (Value.int .i64 ((lv : Int) - 1)) from rfl)
              have l1 := (blk_cell g1 1).trans (show _ = some (Value.int .i64 (ev : Int)) from rfl)
              have l2 := (blk_cell g1 2).trans (show _ = some (Value.slice A n c) from rfl)
              have l3 := (blk_cell g1 3).trans (show _ = some (Value.slice LA t lc) from rfl)
              have l4 := (blk_cell g1 4).trans (show _ = some (Value.slice EA m ec) from rfl)
              clear g1 c0 c1 c2 c3 c4
              with_reducible refine (alive12_calls _ ⟨tab_below (below_step HB1.out HB.out) HT.out⟩).mono ?_
              rintro e W7 ⟨rfl, hb'⟩
              replace l0 := pw_cell_below hb' l0; replace l1 := pw_cell_below hb' l1; replace l2 := pw_cell_below hb' l2; replace l3 := pw_cell_below hb' l3; replace l4 := pw_cell_below hb' l4
              have HB' := Aside0.mk (below_step HB.out hb'); clear HB hb'; have HB := HB'; clear HB'
              cases as2
              · replace z3 : (r3 == 0) = true := z3
                go_wp2_with (go_at_call 22; (with_reducible refine (S2.out _ HB.out).mono ?_); rintro e W' ⟨rfl, hb'⟩; have HB' := Aside0.mk (below_step HB.out hb'); clear HB hb'; have HB := HB'; clear HB')
                go_ret
                exact ⟨rfl, below_step HB1.out HB.out⟩
              replace z3 : (r3 == 0) = false := z3
              go_wp2_with (go_at_call 22; (with_reducible refine (S2.out _ HB.out).mono ?_); rintro e W' ⟨rfl, hb'⟩; have HB' := Aside0.mk (below_step HB.out hb'); clear HB hb'; have HB := HB'; clear HB')
              go_ret
              exact ⟨rfl, below_step HB1.out HB.out⟩

    · have z2 : decide ((ev : Int) < 64) = false := decide_eq_false (by omega)
      have hr2 : r2 = 3 := HR2'.out.trans (if_neg (by omega))
      subst hr2
      clear q1 q2
      clear HR2'
      by_cases q3 : lv < 1
      · have z3 : decide ((lv : Int) < 1) = true := decide_eq_true (by omega)
        clear q3
        go_wp2_with (go_at_call 23; (with_reducible refine (alive12_calls _ ⟨tab_below (below_step HB1.out HB.out) HT.out⟩).mono ?_); rintro e W' ⟨rfl, hb'⟩; replace c0 := pw_cell_below hb' c0; replace c1 := pw_cell_below hb' c1; replace c2 := pw_cell_below hb' c2; replace c3 := pw_cell_below hb' c3; replace c4 := pw_cell_below hb' c4; replace c5 := pw_cell_below hb' c5; replace c6 := pw_cell_below hb' c6; have HB' := Aside0.mk (below_step HB.out hb'); clear HB hb'; have HB := HB'; clear HB')
        go_ret
        exact ⟨rfl, below_step HB1.out HB.out⟩
      have z3 : decide ((lv : Int) < 1) = false := decide_eq_false (by omega)
      have HG := Aside0.mk (And.intro HR.out (show (1 : Int) ≤ lv by omega))
      go_wp2
      obtain ⟨nl, hnl⟩ : ∃ n, n = (lv : Int) - 1 := ⟨_, rfl⟩
      rw [← hnl]
      have HNL := Aside0.mk hnl
      clear hnl z3 z1 z2
      have hb' := below_alloc (Below.refl W2.heap.size W2) (.cells #[.bool true, .int .u64 nl] 63)
      replace c0 := pw_cell_below hb' c0; replace c1 := pw_cell_below hb' c1; replace c2 := pw_cell_below hb' c2; replace c3 := pw_cell_below hb' c3; replace c4 := pw_cell_below hb' c4; replace c5 := pw_cell_below hb' c5; replace c6 := pw_cell_below hb' c6
      have HC := Aside0.mk (And.intro c0 (And.intro c1 (And.intro c2 (And.intro c3 (And.intro c4 (And.intro c5 c6))))))
      have b0 : (W2.alloc (.cells #[.bool true, .int .u64 nl] 63)).cell? ⟨W2.heap.size, 0, none⟩ = some (.bool true) := blk_cell (blk_new W2 _) 0
      have b1 : (W2.alloc (.cells #[.bool true, .int .u64 nl] 63)).cell? ⟨W2.heap.size, 1, none⟩ = some (.int .u64 nl) := blk_cell (blk_new W2 _) 1
      have HB' := Aside0.mk (below_step HB.out hb'); clear HB hb'; have HB := HB'; clear HB'
      clear c0 c1 c4 c5 c6
      generalize W2.alloc (.cells #[.bool true, .int .u64 nl] 63) = W3 at *
      go_loopg [10, 11] (k + 1) (fun g b i W => ∃ t : Nat, i = .int .i64 (t : Int) ∧ b = .bool (askL nl (L.take t)) ∧ t ≤ k ∧ k + 1 - t ≤ g ∧ Aside0 (Below W3.heap.size W3 W))
      case atStart => exact ⟨0, rfl, rfl, by omega, by omega, ⟨Below.refl _ _⟩⟩
      case round =>
        obtain ⟨t, rfl, rfl, ht, htg, HW⟩ := hrel
        obtain ⟨ask, hask⟩ : ∃ b, b = askL nl (L.take t) := ⟨_, rfl⟩
        rw [← hask]
        rcases Nat.lt_or_ge t k with hlt | hge
        · have hd : decide (t < k) = true := decide_eq_true hlt
          have htx : t < L.length := by rw [← HN.out.2.1]; exact hlt
          obtain ⟨ad, e2, x0, x1, x2, x3⟩ := C_boundN (Kd.C_below (Kd.C_below HY1.out.rl HB.out) HW.out) t htx
          subst e2
          obtain ⟨b, hb⟩ : ∃ b, b = L[t] := ⟨_, rfl⟩
          rw [← hb] at x0 x1 x2 x3
          have HM : Aside0 (askL nl (L.take (t + 1)) = (ask || (eqT b.f0 ⟨true, nl⟩ || eqT b.f1 ⟨true, nl⟩))) := ⟨by rw [hask, hb, List.take_succ_eq_append_getElem htx, askL, askL, List.any_append]; simp⟩
          obtain ⟨⟨t0, t1⟩, ⟨u0, u1⟩⟩ := b
          simp only [eqT] at x0 x1 x2 x3 HM
          clear hb hask
          replace c2 := pw_cell_below HW.out c2
          replace c3 := pw_cell_below HW.out c3
          replace b0 := pw_cell_below HW.out b0
          replace b1 := pw_cell_below HW.out b1
          cases ask
          rotate_left
          · go_wp2
            go_quiet (fail)
            go_wp2
            go_roundg (gk - 1)
            case measure => omega
            case rel => exact ⟨t + 1, by go_num, by rw [HM.out]; simp, by omega, by omega, ⟨pw_below_drewN HW.out _⟩⟩
          · cases t0
            · cases u0
              · go_wp2
                go_quiet (fail)
                go_wp2
                go_roundg (gk - 1)
                case measure => omega
                case rel => exact ⟨t + 1, by go_num, by rw [HM.out]; rfl, by omega, by omega, ⟨pw_below_drewN HW.out _⟩⟩
              by_cases qu1 : u1 = nl
              · have zu1 : (u1 == nl) = true := beq_iff_eq.mpr qu1
                clear qu1
                rw [zu1] at HM
                go_wp2
                go_quiet (fail)
                go_wp2
                go_roundg (gk - 1)
                case measure => omega
                case rel => exact ⟨t + 1, by go_num, by rw [HM.out]; rfl, by omega, by omega, ⟨pw_below_drewN HW.out _⟩⟩
              have zu1 : (u1 == nl) = false := beq_eq_false_iff_ne.mpr qu1
              clear qu1
              rw [zu1] at HM
              go_wp2
              go_quiet (fail)
              go_wp2
              go_roundg (gk - 1)
              case measure => omega
              case rel => exact ⟨t + 1, by go_num, by rw [HM.out]; rfl, by omega, by omega, ⟨pw_below_drewN HW.out _⟩⟩
            by_cases qt1 : t1 = nl
            · have zt1 : (t1 == nl) = true := beq_iff_eq.mpr qt1
              clear qt1
              rw [zt1] at HM
              go_wp2
              go_quiet (fail)
              go_wp2
              go_roundg (gk - 1)
              case measure => omega
              case rel => exact ⟨t + 1, by go_num, by rw [HM.out]; rfl, by omega, by omega, ⟨pw_below_drewN HW.out _⟩⟩
            have zt1 : (t1 == nl) = false := beq_eq_false_iff_ne.mpr qt1
            clear qt1
            rw [zt1] at HM
            cases u0
            · go_wp2
              go_quiet (fail)
              go_wp2
              go_roundg (gk - 1)
              case measure => omega
              case rel => exact ⟨t + 1, by go_num, by rw [HM.out]; rfl, by omega, by omega, ⟨pw_below_drewN HW.out _⟩⟩
            by_cases qu1 : u1 = nl
            · have zu1 : (u1 == nl) = true := beq_iff_eq.mpr qu1
              clear qu1
              rw [zu1] at HM
              go_wp2
              go_quiet (fail)
              go_wp2
              go_roundg (gk - 1)
              case measure => omega
              case rel => exact ⟨t + 1, by go_num, by rw [HM.out]; rfl, by omega, by omega, ⟨pw_below_drewN HW.out _⟩⟩
            have zu1 : (u1 == nl) = false := beq_eq_false_iff_ne.mpr qu1
            clear qu1
            rw [zu1] at HM
            go_wp2
            go_quiet (fail)
            go_wp2
            go_roundg (gk - 1)
            case measure => omega
            case rel => exact ⟨t + 1, by go_num, by rw [HM.out]; rfl, by omega, by omega, ⟨pw_below_drewN HW.out _⟩⟩
        · have hd : decide (t < k) = false := decide_eq_false (by omega)
          obtain rfl : t = k := by omega
          have HA : Aside0 (ask = askL nl L) := ⟨by rw [hask, List.take_of_length_le (by rw [← HN.out.2.1]; exact Nat.le_refl _)]⟩
          generalize wr = W4 at *
          replace c2 := pw_cell_below HW.out c2
          replace c3 := pw_cell_below HW.out c3
          replace b0 := pw_cell_below HW.out b0
          replace b1 := pw_cell_below HW.out b1
          have HB4 := Aside0.mk (below_step HB.out HW.out)
          have HW4 := HW
          clear hask hd htg ht hge HB HW
          have HB := HB4
          clear HB4
          have hra : kNode.C W4 A a.length a := Kd.C_below HY1.out.rb HB.out
          go_wp2_with fail
          have OF := Go.Proofs.YtkndpgbpdidlgaaDoor.of_calls W4 A c a hra
          rw [← HN.out.1] at OF
          refine OF.mono ?_
          clear OF hra
          rintro e W5 ⟨u1, u2, rfl, s1, s2, hb'⟩
          obtain ⟨A1, d1, rfl⟩ := Kd.R_slice s1
          obtain ⟨A2, d2, rfl⟩ := Kd.R_slice s2
          obtain ⟨la, hla⟩ : ∃ l, l = labB a := ⟨_, rfl⟩
          have HLA := Aside0.mk hla
          have q1 : la.length ≤ 256 := by rw [hla]; exact labB_max a
          replace s1 := (Kd.R_reads' s1).2.2
          rw [← hla] at s1 ⊢
          obtain ⟨X, hX⟩ : ∃ X, X = la.length := ⟨_, rfl⟩
          obtain ⟨Y, hY⟩ : ∃ Y, Y = (effB a).length := ⟨_, rfl⟩
          rw [← hX] at s1 q1 ⊢
          rw [← hY]
          have HX := Aside0.mk hX
          have HS := Aside0.mk s1
          replace c2 := pw_cell_below hb' c2
          replace b0 := pw_cell_below hb' b0
          replace b1 := pw_cell_below hb' b1
          have HW5 := Aside0.mk (below_step HW4.out hb')
          have HB' := Aside0.mk (below_step HB.out hb'); clear HB hb'; have HB := HB'; clear HB'
          clear s1 s2 hla hX hY c3 HW4
          go_wp2
          go_loopg [10, 14] (X + 1) (fun g b i W => ∃ j : Nat, i = .int .i64 (j : Int) ∧ b = .bool (ask || askS nl (la.take j)) ∧ j ≤ X ∧ X + 1 - j ≤ g ∧ Aside0 (Below W5.heap.size W5 W))
          case atStart => exact ⟨0, rfl, by simp [askS], by omega, by omega, ⟨Below.refl _ _⟩⟩
          case round =>
            obtain ⟨j, rfl, rfl, hj, hjg, HW⟩ := hrel
            obtain ⟨as2, has2⟩ : ∃ b, b = (ask || askS nl (la.take j)) := ⟨_, rfl⟩
            rw [← has2]
            rcases Nat.lt_or_ge j X with hlt | hge
            · have hd : decide (j < X) = true := decide_eq_true hlt
              have hjx : j < la.length := by rw [← HX.out]; exact hlt
              obtain ⟨ad2, e2, -, -, -, x3, x4⟩ := C_spotN (by rw [← HX.out]; exact Kd.C_below HS.out HW.out) j hjx
              subst e2
              obtain ⟨b, hb⟩ : ∃ b, b = la[j].f3 := ⟨_, rfl⟩
              rw [← hb] at x3 x4
              have HM : Aside0 ((ask || askS nl (la.take (j + 1))) = (as2 || eqT b ⟨true, nl⟩)) := ⟨by rw [has2, hb, List.take_succ_eq_append_getElem hjx, askS, askS, List.any_append]; simp [Bool.or_assoc]⟩
              obtain ⟨t0, t1⟩ := b
              simp only [eqT] at x3 x4 HM
              clear hb has2
              replace b0 := pw_cell_below HW.out b0
              replace b1 := pw_cell_below HW.out b1
              cases as2
              rotate_left
              · go_wp2
                go_quiet (fail)
                go_wp2
                go_roundg (gk - 1)
                case measure => omega
                case rel => exact ⟨j + 1, by go_num, by rw [HM.out]; simp, by omega, by omega, ⟨pw_below_drewN HW.out _⟩⟩
              cases t0
              · go_wp2
                go_quiet (fail)
                go_wp2
                go_roundg (gk - 1)
                case measure => omega
                case rel => exact ⟨j + 1, by go_num, by rw [HM.out]; rfl, by omega, by omega, ⟨pw_below_drewN HW.out _⟩⟩
              by_cases q : t1 = nl
              · have z : (t1 == nl) = true := beq_iff_eq.mpr q
                clear q
                rw [z] at HM
                go_wp2
                go_quiet (fail)
                go_wp2
                go_roundg (gk - 1)
                case measure => omega
                case rel => exact ⟨j + 1, by go_num, by rw [HM.out]; rfl, by omega, by omega, ⟨pw_below_drewN HW.out _⟩⟩
              have z : (t1 == nl) = false := beq_eq_false_iff_ne.mpr q
              clear q
              rw [z] at HM
              go_wp2
              go_quiet (fail)
              go_wp2
              go_roundg (gk - 1)
              case measure => omega
              case rel => exact ⟨j + 1, by go_num, by rw [HM.out]; rfl, by omega, by omega, ⟨pw_below_drewN HW.out _⟩⟩
            · have hd : decide (j < X) = false := decide_eq_false (by omega)
              obtain rfl : j = X := by omega
              have HA2 : Aside0 (as2 = (askL nl L || askS nl (labB a))) := ⟨by rw [has2, List.take_of_length_le (by rw [← HX.out]; exact Nat.le_refl _), HA.out, HLA.out]⟩
              generalize wr = W6 at *
              obtain ⟨c0, c1, c2', c3, c4, c5, c6⟩ := HC.out
              clear c5 c6 c2'
              have hb' := below_step HW5.out HW.out
              replace c0 := pw_cell_below hb' c0
              replace c1 := pw_cell_below hb' c1
              replace c3 := pw_cell_below hb' c3
              replace c4 := pw_cell_below hb' c4
              replace c2 := pw_cell_below HW.out c2
              have HB' := Aside0.mk (below_step HB.out HW.out)
              clear HB hb' has2 HA HC b0 b1 hd hge hjg hj HW HW5 HS
              have HB := HB'
              clear HB'
              obtain ⟨r3, hr3⟩ : ∃ r, schemeB (hasLat o) (hasEff p) ((lv : Int) - 1) (ev : Int) a L E = r := ⟨_, rfl⟩
              have z3 : (r3 == 0) = !as2 := by
                rw [← hr3, HA2.out, HNL.out]
                exact scheme_less HG.out.1 HG.out.2
              have HR3 := Aside0.mk hr3
              have S2 : Aside0 (∀ W, Below W1.heap.size W1 W → Calls Tryd.prog 22 #[.agg #[.int .i64 ((lv : Int) - 1), .int .i64 (ev : Int), .slice A n c, .slice LA t lc, .slice EA m ec], .iface 28 v1, .iface 29 v2] W fun e w' => e = .returned (.int .i64 r3) ∧ Below W.heap.size W w') := ⟨fun W hb => scheme_named W _ _ A LA EA c lc ec n t m a L E v1 v2 o p r3 HR3.out HN.out.1 HN.out.2.1 HN.out.2.2 ⟨(HY1.out.kept hb).rb, HY1.out.wb, (HY1.out.kept hb).rl, HY1.out.wl, (HY1.out.kept hb).re, HY1.out.we, wf_small (n := (lv : Int) - 1) (by omega) (by omega), wf_small (n := (ev : Int)) (by omega) (by omega)⟩ (HLX.out.1.kept hb) (HLX.out.2.kept hb)⟩
              clear hr3
              go_wp2_with fail
              obtain ⟨O, hO⟩ : ∃ O : Obj, O = .cells #[.int .i64 ((lv : Int) - 1), .int .i64 (ev : Int), .slice A n c, .slice LA t lc, .slice EA m ec] 46 := ⟨_, rfl⟩
              have g1 : (W6.alloc O).heap[W6.heap.size]? = some O := blk_new W6 O
              rw [← hO]
              have hb' := below_alloc (Below.refl W6.heap.size W6) O
              have HB' := Aside0.mk (below_step HB.out hb'); clear HB hb'; have HB := HB'; clear HB'
              subst hO
              have l0 := (blk_cell g1 0).trans (show _ = some (Value.int .i64 ((lv : Int) - 1)) from rfl)
              have l1 := (blk_cell g1 1).trans (show _ = some (Value.int .i64 (ev : Int)) from rfl)
              have l2 := (blk_cell g1 2).trans (show _ = some (Value.slice A n c) from rfl)
              have l3 := (blk_cell g1 3).trans (show _ = some (Value.slice LA t lc) from rfl)
              have l4 := (blk_cell g1 4).trans (show _ = some (Value.slice EA m ec) from rfl)
              clear g1 c0 c1 c2 c3 c4
              with_reducible refine (alive12_calls _ ⟨tab_below (below_step HB1.out HB.out) HT.out⟩).mono ?_
              rintro e W7 ⟨rfl, hb'⟩
              replace l0 := pw_cell_below hb' l0; replace l1 := pw_cell_below hb' l1; replace l2 := pw_cell_below hb' l2; replace l3 := pw_cell_below hb' l3; replace l4 := pw_cell_below hb' l4
              have HB' := Aside0.mk (below_step HB.out hb'); clear HB hb'; have HB := HB'; clear HB'
              cases as2
              · replace z3 : (r3 == 0) = true := z3
                go_wp2_with (go_at_call 22; (with_reducible refine (S2.out _ HB.out).mono ?_); rintro e W' ⟨rfl, hb'⟩; have HB' := Aside0.mk (below_step HB.out hb'); clear HB hb'; have HB := HB'; clear HB')
                go_ret
                exact ⟨rfl, below_step HB1.out HB.out⟩
              replace z3 : (r3 == 0) = false := z3
              go_wp2_with (go_at_call 22; (with_reducible refine (S2.out _ HB.out).mono ?_); rintro e W' ⟨rfl, hb'⟩; have HB' := Aside0.mk (below_step HB.out hb'); clear HB hb'; have HB := HB'; clear HB')
              go_ret
              exact ⟨rfl, below_step HB1.out HB.out⟩

  · have z1 : decide ((lv : Int) < 64) = false := decide_eq_false (by omega)
    have z2 := z1
    have hr2 : r2 = 3 := HR2'.out.trans (if_neg (by omega))
    subst hr2
    clear q1
    clear HR2'
    by_cases q3 : lv < 1
    · have z3 : decide ((lv : Int) < 1) = true := decide_eq_true (by omega)
      clear q3
      go_wp2_with (go_at_call 23; (with_reducible refine (alive12_calls _ ⟨tab_below (below_step HB1.out HB.out) HT.out⟩).mono ?_); rintro e W' ⟨rfl, hb'⟩; replace c0 := pw_cell_below hb' c0; replace c1 := pw_cell_below hb' c1; replace c2 := pw_cell_below hb' c2; replace c3 := pw_cell_below hb' c3; replace c4 := pw_cell_below hb' c4; replace c5 := pw_cell_below hb' c5; replace c6 := pw_cell_below hb' c6; have HB' := Aside0.mk (below_step HB.out hb'); clear HB hb'; have HB := HB'; clear HB')
      go_ret
      exact ⟨rfl, below_step HB1.out HB.out⟩
    have z3 : decide ((lv : Int) < 1) = false := decide_eq_false (by omega)
    have HG := Aside0.mk (And.intro HR.out (show (1 : Int) ≤ lv by omega))
    go_wp2
    obtain ⟨nl, hnl⟩ : ∃ n, n = (lv : Int) - 1 := ⟨_, rfl⟩
    rw [← hnl]
    have HNL := Aside0.mk hnl
    clear hnl z3 z1 z2
    have hb' := below_alloc (Below.refl W2.heap.size W2) (.cells #[.bool true, .int .u64 nl] 63)
    replace c0 := pw_cell_below hb' c0; replace c1 := pw_cell_below hb' c1; replace c2 := pw_cell_below hb' c2; replace c3 := pw_cell_below hb' c3; replace c4 := pw_cell_below hb' c4; replace c5 := pw_cell_below hb' c5; replace c6 := pw_cell_below hb' c6
    have HC := Aside0.mk (And.intro c0 (And.intro c1 (And.intro c2 (And.intro c3 (And.intro c4 (And.intro c5 c6))))))
    have b0 : (W2.alloc (.cells #[.bool true, .int .u64 nl] 63)).cell? ⟨W2.heap.size, 0, none⟩ = some (.bool true) := blk_cell (blk_new W2 _) 0
    have b1 : (W2.alloc (.cells #[.bool true, .int .u64 nl] 63)).cell? ⟨W2.heap.size, 1, none⟩ = some (.int .u64 nl) := blk_cell (blk_new W2 _) 1
    have HB' := Aside0.mk (below_step HB.out hb'); clear HB hb'; have HB := HB'; clear HB'
    clear c0 c1 c4 c5 c6
    generalize W2.alloc (.cells #[.bool true, .int .u64 nl] 63) = W3 at *
    go_loopg [10, 11] (k + 1) (fun g b i W => ∃ t : Nat, i = .int .i64 (t : Int) ∧ b = .bool (askL nl (L.take t)) ∧ t ≤ k ∧ k + 1 - t ≤ g ∧ Aside0 (Below W3.heap.size W3 W))
    case atStart => exact ⟨0, rfl, rfl, by omega, by omega, ⟨Below.refl _ _⟩⟩
    case round =>
      obtain ⟨t, rfl, rfl, ht, htg, HW⟩ := hrel
      obtain ⟨ask, hask⟩ : ∃ b, b = askL nl (L.take t) := ⟨_, rfl⟩
      rw [← hask]
      rcases Nat.lt_or_ge t k with hlt | hge
      · have hd : decide (t < k) = true := decide_eq_true hlt
        have htx : t < L.length := by rw [← HN.out.2.1]; exact hlt
        obtain ⟨ad, e2, x0, x1, x2, x3⟩ := C_boundN (Kd.C_below (Kd.C_below HY1.out.rl HB.out) HW.out) t htx
        subst e2
        obtain ⟨b, hb⟩ : ∃ b, b = L[t] := ⟨_, rfl⟩
        rw [← hb] at x0 x1 x2 x3
        have HM : Aside0 (askL nl (L.take (t + 1)) = (ask || (eqT b.f0 ⟨true, nl⟩ || eqT b.f1 ⟨true, nl⟩))) := ⟨by rw [hask, hb, List.take_succ_eq_append_getElem htx, askL, askL, List.any_append]; simp⟩
        obtain ⟨⟨t0, t1⟩, ⟨u0, u1⟩⟩ := b
        simp only [eqT] at x0 x1 x2 x3 HM
        clear hb hask
        replace c2 := pw_cell_below HW.out c2
        replace c3 := pw_cell_below HW.out c3
        replace b0 := pw_cell_below HW.out b0
        replace b1 := pw_cell_below HW.out b1
        cases ask
        rotate_left
        · go_wp2
          go_quiet (fail)
          go_wp2
          go_roundg (gk - 1)
          case measure => omega
          case rel => exact ⟨t + 1, by go_num, by rw [HM.out]; simp, by omega, by omega, ⟨pw_below_drewN HW.out _⟩⟩
        · cases t0
          · cases u0
            · go_wp2
              go_quiet (fail)
              go_wp2
              go_roundg (gk - 1)
              case measure => omega
              case rel => exact ⟨t + 1, by go_num, by rw [HM.out]; rfl, by omega, by omega, ⟨pw_below_drewN HW.out _⟩⟩
            by_cases qu1 : u1 = nl
            · have zu1 : (u1 == nl) = true := beq_iff_eq.mpr qu1
              clear qu1
              rw [zu1] at HM
              go_wp2
              go_quiet (fail)
              go_wp2
              go_roundg (gk - 1)
              case measure => omega
              case rel => exact ⟨t + 1, by go_num, by rw [HM.out]; rfl, by omega, by omega, ⟨pw_below_drewN HW.out _⟩⟩
            have zu1 : (u1 == nl) = false := beq_eq_false_iff_ne.mpr qu1
            clear qu1
            rw [zu1] at HM
            go_wp2
            go_quiet (fail)
            go_wp2
            go_roundg (gk - 1)
            case measure => omega
            case rel => exact ⟨t + 1, by go_num, by rw [HM.out]; rfl, by omega, by omega, ⟨pw_below_drewN HW.out _⟩⟩
          by_cases qt1 : t1 = nl
          · have zt1 : (t1 == nl) = true := beq_iff_eq.mpr qt1
            clear qt1
            rw [zt1] at HM
            go_wp2
            go_quiet (fail)
            go_wp2
            go_roundg (gk - 1)
            case measure => omega
            case rel => exact ⟨t + 1, by go_num, by rw [HM.out]; rfl, by omega, by omega, ⟨pw_below_drewN HW.out _⟩⟩
          have zt1 : (t1 == nl) = false := beq_eq_false_iff_ne.mpr qt1
          clear qt1
          rw [zt1] at HM
          cases u0
          · go_wp2
            go_quiet (fail)
            go_wp2
            go_roundg (gk - 1)
            case measure => omega
            case rel => exact ⟨t + 1, by go_num, by rw [HM.out]; rfl, by omega, by omega, ⟨pw_below_drewN HW.out _⟩⟩
          by_cases qu1 : u1 = nl
          · have zu1 : (u1 == nl) = true := beq_iff_eq.mpr qu1
            clear qu1
            rw [zu1] at HM
            go_wp2
            go_quiet (fail)
            go_wp2
            go_roundg (gk - 1)
            case measure => omega
            case rel => exact ⟨t + 1, by go_num, by rw [HM.out]; rfl, by omega, by omega, ⟨pw_below_drewN HW.out _⟩⟩
          have zu1 : (u1 == nl) = false := beq_eq_false_iff_ne.mpr qu1
          clear qu1
          rw [zu1] at HM
          go_wp2
          go_quiet (fail)
          go_wp2
          go_roundg (gk - 1)
          case measure => omega
          case rel => exact ⟨t + 1, by go_num, by rw [HM.out]; rfl, by omega, by omega, ⟨pw_below_drewN HW.out _⟩⟩
      · have hd : decide (t < k) = false := decide_eq_false (by omega)
        obtain rfl : t = k := by omega
        have HA : Aside0 (ask = askL nl L) := ⟨by rw [hask, List.take_of_length_le (by rw [← HN.out.2.1]; exact Nat.le_refl _)]⟩
        generalize wr = W4 at *
        replace c2 := pw_cell_below HW.out c2
        replace c3 := pw_cell_below HW.out c3
        replace b0 := pw_cell_below HW.out b0
        replace b1 := pw_cell_below HW.out b1
        have HB4 := Aside0.mk (below_step HB.out HW.out)
        have HW4 := HW
        clear hask hd htg ht hge HB HW
        have HB := HB4
        clear HB4
        have hra : kNode.C W4 A a.length a := Kd.C_below HY1.out.rb HB.out
        go_wp2_with fail
        have OF := Go.Proofs.YtkndpgbpdidlgaaDoor.of_calls W4 A c a hra
        rw [← HN.out.1] at OF
        refine OF.mono ?_
        clear OF hra
        rintro e W5 ⟨u1, u2, rfl, s1, s2, hb'⟩
        obtain ⟨A1, d1, rfl⟩ := Kd.R_slice s1
        obtain ⟨A2, d2, rfl⟩ := Kd.R_slice s2
        obtain ⟨la, hla⟩ : ∃ l, l = labB a := ⟨_, rfl⟩
        have HLA := Aside0.mk hla
        have q1 : la.length ≤ 256 := by rw [hla]; exact labB_max a
        replace s1 := (Kd.R_reads' s1).2.2
        rw [← hla] at s1 ⊢
        obtain ⟨X, hX⟩ : ∃ X, X = la.length := ⟨_, rfl⟩
        obtain ⟨Y, hY⟩ : ∃ Y, Y = (effB a).length := ⟨_, rfl⟩
        rw [← hX] at s1 q1 ⊢
        rw [← hY]
        have HX := Aside0.mk hX
        have HS := Aside0.mk s1
        replace c2 := pw_cell_below hb' c2
        replace b0 := pw_cell_below hb' b0
        replace b1 := pw_cell_below hb' b1
        have HW5 := Aside0.mk (below_step HW4.out hb')
        have HB' := Aside0.mk (below_step HB.out hb'); clear HB hb'; have HB := HB'; clear HB'
        clear s1 s2 hla hX hY c3 HW4
        go_wp2
        go_loopg [10, 14] (X + 1) (fun g b i W => ∃ j : Nat, i = .int .i64 (j : Int) ∧ b = .bool (ask || askS nl (la.take j)) ∧ j ≤ X ∧ X + 1 - j ≤ g ∧ Aside0 (Below W5.heap.size W5 W))
        case atStart => exact ⟨0, rfl, by simp [askS], by omega, by omega, ⟨Below.refl _ _⟩⟩
        case round =>
          obtain ⟨j, rfl, rfl, hj, hjg, HW⟩ := hrel
          obtain ⟨as2, has2⟩ : ∃ b, b = (ask || askS nl (la.take j)) := ⟨_, rfl⟩
          rw [← has2]
          rcases Nat.lt_or_ge j X with hlt | hge
          · have hd : decide (j < X) = true := decide_eq_true hlt
            have hjx : j < la.length := by rw [← HX.out]; exact hlt
            obtain ⟨ad2, e2, -, -, -, x3, x4⟩ := C_spotN (by rw [← HX.out]; exact Kd.C_below HS.out HW.out) j hjx
            subst e2
            obtain ⟨b, hb⟩ : ∃ b, b = la[j].f3 := ⟨_, rfl⟩
            rw [← hb] at x3 x4
            have HM : Aside0 ((ask || askS nl (la.take (j + 1))) = (as2 || eqT b ⟨true, nl⟩)) := ⟨by rw [has2, hb, List.take_succ_eq_append_getElem hjx, askS, askS, List.any_append]; simp [Bool.or_assoc]⟩
            obtain ⟨t0, t1⟩ := b
            simp only [eqT] at x3 x4 HM
            clear hb has2
            replace b0 := pw_cell_below HW.out b0
            replace b1 := pw_cell_below HW.out b1
            cases as2
            rotate_left
            · go_wp2
              go_quiet (fail)
              go_wp2
              go_roundg (gk - 1)
              case measure => omega
              case rel => exact ⟨j + 1, by go_num, by rw [HM.out]; simp, by omega, by omega, ⟨pw_below_drewN HW.out _⟩⟩
            cases t0
            · go_wp2
              go_quiet (fail)
              go_wp2
              go_roundg (gk - 1)
              case measure => omega
              case rel => exact ⟨j + 1, by go_num, by rw [HM.out]; rfl, by omega, by omega, ⟨pw_below_drewN HW.out _⟩⟩
            by_cases q : t1 = nl
            · have z : (t1 == nl) = true := beq_iff_eq.mpr q
              clear q
              rw [z] at HM
              go_wp2
              go_quiet (fail)
              go_wp2
              go_roundg (gk - 1)
              case measure => omega
              case rel => exact ⟨j + 1, by go_num, by rw [HM.out]; rfl, by omega, by omega, ⟨pw_below_drewN HW.out _⟩⟩
            have z : (t1 == nl) = false := beq_eq_false_iff_ne.mpr q
            clear q
            rw [z] at HM
            go_wp2
            go_quiet (fail)
            go_wp2
            go_roundg (gk - 1)
            case measure => omega
            case rel => exact ⟨j + 1, by go_num, by rw [HM.out]; rfl, by omega, by omega, ⟨pw_below_drewN HW.out _⟩⟩
          · have hd : decide (j < X) = false := decide_eq_false (by omega)
            obtain rfl : j = X := by omega
            have HA2 : Aside0 (as2 = (askL nl L || askS nl (labB a))) := ⟨by rw [has2, List.take_of_length_le (by rw [← HX.out]; exact Nat.le_refl _), HA.out, HLA.out]⟩
            generalize wr = W6 at *
            obtain ⟨c0, c1, c2', c3, c4, c5, c6⟩ := HC.out
            clear c5 c6 c2'
            have hb' := below_step HW5.out HW.out
            replace c0 := pw_cell_below hb' c0
            replace c1 := pw_cell_below hb' c1
            replace c3 := pw_cell_below hb' c3
            replace c4 := pw_cell_below hb' c4
            replace c2 := pw_cell_below HW.out c2
            have HB' := Aside0.mk (below_step HB.out HW.out)
            clear HB hb' has2 HA HC b0 b1 hd hge hjg hj HW HW5 HS
            have HB := HB'
            clear HB'
            obtain ⟨r3, hr3⟩ : ∃ r, schemeB (hasLat o) (hasEff p) ((lv : Int) - 1) (ev : Int) a L E = r := ⟨_, rfl⟩
            have z3 : (r3 == 0) = !as2 := by
              rw [← hr3, HA2.out, HNL.out]
              exact scheme_less HG.out.1 HG.out.2
            have HR3 := Aside0.mk hr3
            have S2 : Aside0 (∀ W, Below W1.heap.size W1 W → Calls Tryd.prog 22 #[.agg #[.int .i64 ((lv : Int) - 1), .int .i64 (ev : Int), .slice A n c, .slice LA t lc, .slice EA m ec], .iface 28 v1, .iface 29 v2] W fun e w' => e = .returned (.int .i64 r3) ∧ Below W.heap.size W w') := ⟨fun W hb => scheme_named W _ _ A LA EA c lc ec n t m a L E v1 v2 o p r3 HR3.out HN.out.1 HN.out.2.1 HN.out.2.2 ⟨(HY1.out.kept hb).rb, HY1.out.wb, (HY1.out.kept hb).rl, HY1.out.wl, (HY1.out.kept hb).re, HY1.out.we, wf_small (n := (lv : Int) - 1) (by omega) (by omega), wf_small (n := (ev : Int)) (by omega) (by omega)⟩ (HLX.out.1.kept hb) (HLX.out.2.kept hb)⟩
            clear hr3
            go_wp2_with fail
            obtain ⟨O, hO⟩ : ∃ O : Obj, O = .cells #[.int .i64 ((lv : Int) - 1), .int .i64 (ev : Int), .slice A n c, .slice LA t lc, .slice EA m ec] 46 := ⟨_, rfl⟩
            have g1 : (W6.alloc O).heap[W6.heap.size]? = some O := blk_new W6 O
            rw [← hO]
            have hb' := below_alloc (Below.refl W6.heap.size W6) O
            have HB' := Aside0.mk (below_step HB.out hb'); clear HB hb'; have HB := HB'; clear HB'
            subst hO
            have l0 := (blk_cell g1 0).trans (show _ = some (Value.int .i64 ((lv : Int) - 1)) from rfl)
            have l1 := (blk_cell g1 1).trans (show _ = some (Value.int .i64 (ev : Int)) from rfl)
            have l2 := (blk_cell g1 2).trans (show _ = some (Value.slice A n c) from rfl)
            have l3 := (blk_cell g1 3).trans (show _ = some (Value.slice LA t lc) from rfl)
            have l4 := (blk_cell g1 4).trans (show _ = some (Value.slice EA m ec) from rfl)
            clear g1 c0 c1 c2 c3 c4
            with_reducible refine (alive12_calls _ ⟨tab_below (below_step HB1.out HB.out) HT.out⟩).mono ?_
            rintro e W7 ⟨rfl, hb'⟩
            replace l0 := pw_cell_below hb' l0; replace l1 := pw_cell_below hb' l1; replace l2 := pw_cell_below hb' l2; replace l3 := pw_cell_below hb' l3; replace l4 := pw_cell_below hb' l4
            have HB' := Aside0.mk (below_step HB.out hb'); clear HB hb'; have HB := HB'; clear HB'
            cases as2
            · replace z3 : (r3 == 0) = true := z3
              go_wp2_with (go_at_call 22; (with_reducible refine (S2.out _ HB.out).mono ?_); rintro e W' ⟨rfl, hb'⟩; have HB' := Aside0.mk (below_step HB.out hb'); clear HB hb'; have HB := HB'; clear HB')
              go_ret
              exact ⟨rfl, below_step HB1.out HB.out⟩
            replace z3 : (r3 == 0) = false := z3
            go_wp2_with (go_at_call 22; (with_reducible refine (S2.out _ HB.out).mono ?_); rintro e W' ⟨rfl, hb'⟩; have HB' := Aside0.mk (below_step HB.out hb'); clear HB hb'; have HB := HB'; clear HB')
            go_ret
            exact ⟨rfl, below_step HB1.out HB.out⟩

end L12
end Go.Proofs.YtkndpgbpdidlgaaDoor
