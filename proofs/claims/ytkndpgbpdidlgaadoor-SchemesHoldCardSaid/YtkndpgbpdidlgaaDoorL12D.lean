/- The law SchemesHold: a walk through its code at every input. -/
import Derived.Test.YtkndpgbpdidlgaaDoorL12A
import Derived.Test.YtkndpgbpdidlgaaDoorHd
import Derived.Test.YtkndpgbpdidlgaaDoorQt
namespace Go.Proofs.YtkndpgbpdidlgaaDoor
open Go.RowKit Go.Proofs.YtkndpgbpdidlgaaDoorW.PrintWords Go.Proofs.YtkndpgbpdidlgaaDoorW.PrintLast Go.Proofs.YtkndpgbpdidlgaaDoorW.PrintMore
set_option linter.unusedVariables false
set_option linter.unusedSimpArgs false
namespace L12
open L09
structure ValsY where
  A : Option Addr
  c : Nat
  ls : List Int
  B : Option Addr
  d : Nat
  xs : List Int
def ValsY.ok (w : World) (y : ValsY) : Prop := (Kd.int .u64).C w y.A y.ls.length y.ls ∧ (∀ r ∈ y.ls, (Lit.int .u64 r).wf = true) ∧ (Kd.int .u64).C w y.B y.xs.length y.xs ∧ ∀ r ∈ y.xs, (Lit.int .u64 r).wf = true
def ValsY.v (y : ValsY) : Value := .agg #[.slice y.A y.ls.length y.c, .slice y.B y.xs.length y.d]
theorem arg_vals {H : Type} {enc : TypeId × Value → H} {w : World} {v : Value} {x : DataW H} {ps : List MemPlace} (hs : ∃ cs, v = .agg cs) (hx : DataW.Trod enc Tryd.prog w 0 (fun _ => true) true 72 v x ps) (hL : Light Tryd.prog 72 x) : ∃ y : ValsY, v = y.v ∧ y.ok w := by
  obtain ⟨cs, y, rfl, hK, hw⟩ := arg_agg (d := Kd.pair (Kd.slice 0 (Kd.int .u64)) (Kd.slice 0 (Kd.int .u64))) (opens_struct (l := [(23, 0), (23, 1)]) (by kernel_rfl) (by kernel_rfl) (from_cons (by kernel_rfl) rfl (opens_slice 0 Tryd.underlying23 (by kernel_rfl) (opens_int Tryd.underlying54)) (from_last (by kernel_rfl) (opens_slice 0 Tryd.underlying23 (by kernel_rfl) (opens_int Tryd.underlying54))))) hs hx hL
  obtain ⟨c1, c2, e, k1, k2⟩ := K_pair hK
  obtain ⟨A, a, rfl, ha, hA⟩ := K_slice k1
  obtain ⟨B, b, rfl, hb, hB⟩ := K_slice k2
  refine ⟨⟨A, a, y.1, B, b, y.2⟩, ?_, hA, hw.1.1, hB, hw.2.1⟩
  show Value.agg cs = _
  rw [← Array.toArray_toList (xs := cs), e]
  rfl
theorem nilHasL (k : Nat) (v : Value) (w : World) : (nilAhead (k + 1) 28 v "Has").run Tryd.prog w = .ok (some false) w := by kernel_rfl
theorem nilHasE (k : Nat) (v : Value) (w : World) : (nilAhead (k + 1) 29 v "Has").run Tryd.prog w = .ok (some false) w := by kernel_rfl
theorem scheme_named (w : World) (lv ev : Int) (A LA EA : Option Addr) (c lc ec n k m : Nat) (a : List Node) (L E : List Bound) (v1 v2 : Value) (o : Option (List Int)) (p : Option Int) (r : Int) (hr : schemeB (hasLat o) (hasEff p) lv ev a L E = r) (hn : n = a.length) (hk : k = L.length) (hm : m = E.length) (hy : SchY.ok w ⟨lv, ev, A, c, a, LA, lc, L, EA, ec, E⟩) (hv1 : LatV w v1 o) (hv2 : EffV w v2 p) :
    Calls Tryd.prog 22 #[.agg #[.int .i64 lv, .int .i64 ev, .slice A n c, .slice LA k lc, .slice EA m ec], .iface 28 v1, .iface 29 v2] w fun e w' => e = .returned (.int .i64 r) ∧ Below w.heap.size w w' := by
  rw [← hr]
  subst hn hk hm
  exact scheme_calls w ⟨lv, ev, A, c, a, LA, lc, L, EA, ec, E⟩ hy v1 v2 o p hv1 hv2
theorem groun_named2 (w : World) (lv ev : Int) (A LA EA : Option Addr) (c lc ec n k m : Nat) (a : List Node) (L E : List Bound) (hn : n = a.length) (hk : k = L.length) (hm : m = E.length) (hy : SchY.ok w ⟨lv, ev, A, c, a, LA, lc, L, EA, ec, E⟩) (B1 B2 : Option Addr) (m1 m2 f1 f2 : Nat) (ls xs : List Int) (gb : List Node) (er : Int) (gn : Nat) (hr : grounS lv ev a ls xs = (gb, er)) (hg : gn = gb.length) (hm1 : m1 = ls.length) (hm2 : m2 = xs.length) (hl1 : (Kd.int .u64).C w B1 m1 ls) (hl2 : (Kd.int .u64).C w B2 m2 xs) :
    Calls Tryd.prog 24 #[.agg #[.int .i64 lv, .int .i64 ev, .slice A n c, .slice LA k lc, .slice EA m ec], .slice B1 m1 f1, .slice B2 m2 f2] w fun e w' => ∃ A' c', e = .returned (.tuple #[.slice A' gn c', .int .i64 er]) ∧ kNode.C w' A' gn gb ∧ Below w.heap.size w w' := by
  subst hn hk hm hg
  exact groun_named w ⟨lv, ev, A, c, a, LA, lc, L, EA, ec, E⟩ hy B1 B2 m1 m2 f1 f2 ls xs (gb, er) hr hm1 hm2 hl1 hl2
set_option maxRecDepth 100000 in
set_option maxHeartbeats 16000000 in
theorem hold_walk (w : World) (ht : TabAt 0 Lib.deBruijn64tab w) (y : SchY) (hy : y.ok w) (z : SortsY) (hz : z.ok w) (vv : ValsY) (hvv : vv.ok w) :
    Calls Tryd.prog 9 #[y.v, z.v, vv.v] w fun e w' => e = .returned (.bool true) ∧ Below w.heap.size w w' := by
  obtain ⟨D, f, rows, zm⟩ := z
  obtain ⟨lv, ev, A, c, a, LA, lc, L, EA, ec, E⟩ := y
  obtain ⟨B1, f1, ls, B2, f2, xs⟩ := vv
  obtain ⟨-, hs, hU, -⟩ := hz
  obtain ⟨hv1, hw1, hv2, hw2⟩ := hvv
  simp only at hs hU hv1 hw1 hv2 hw2
  simp only [SortsY.v, SchY.v, ValsY.v]
  have HT := Aside0.mk ht
  have HY := Aside0.mk hy
  have HZ := Aside0.mk hs
  have HU := Aside0.mk hU
  have HWV := Aside0.mk (And.intro hw1 hw2)
  have HNN : Aside0 ((∀ r ∈ ls, 0 ≤ r) ∧ ∀ r ∈ xs, 0 ≤ r) := ⟨fun r hr => (u64_wf (hw1 r hr)).1, fun r hr => (u64_wf (hw2 r hr)).1⟩
  obtain ⟨n, hn⟩ : ∃ n, n = a.length := ⟨_, rfl⟩
  obtain ⟨k, hk⟩ : ∃ n, n = L.length := ⟨_, rfl⟩
  obtain ⟨m, hm⟩ : ∃ n, n = E.length := ⟨_, rfl⟩
  obtain ⟨q, hq⟩ : ∃ n, n = rows.length := ⟨_, rfl⟩
  obtain ⟨X, hX⟩ : ∃ n, n = ls.length := ⟨_, rfl⟩
  obtain ⟨Y, hY⟩ : ∃ n, n = xs.length := ⟨_, rfl⟩
  have HN := Aside0.mk (And.intro hn (And.intro hk (And.intro hm (And.intro hX hY))))
  have HQ := Aside0.mk hq
  rw [← hn, ← hk, ← hm, ← hq, ← hX, ← hY]
  rw [← hX] at hv1
  rw [← hY] at hv2
  obtain ⟨O1, hO1⟩ : ∃ O : Obj, O = .cells #[.int .i64 lv, .int .i64 ev, .slice A n c, .slice LA k lc, .slice EA m ec] 46 := ⟨_, rfl⟩
  obtain ⟨O, hO⟩ : ∃ O : Obj, O = .cells #[.slice D q f, .int .i64 zm] 47 := ⟨_, rfl⟩
  obtain ⟨O3, hO3⟩ : ∃ O : Obj, O = .cells #[.slice B1 X f1, .slice B2 Y f2] 72 := ⟨_, rfl⟩
  have HB := Aside0.mk (below_alloc (below_alloc (below_alloc (Below.refl w.heap.size w) O1) O) O3)
  have g1 : (((w.alloc O1).alloc O).alloc O3).heap[w.heap.size]? = some O1 := blk_alloc (blk_alloc (blk_new w _) _) _
  have g2 : (((w.alloc O1).alloc O).alloc O3).heap[w.heap.size + 1]? = some O := blk_alloc (by have := blk_new (w.alloc O1) O; rwa [World.size_alloc] at this) _
  have g3 : (((w.alloc O1).alloc O).alloc O3).heap[w.heap.size + 1 + 1]? = some O3 := by have := blk_new ((w.alloc O1).alloc O) O3; rwa [World.size_alloc, World.size_alloc] at this
  subst hO hO1 hO3
  have c0 := (blk_cell g1 0).trans (show _ = some (Value.int .i64 lv) from rfl)
  have c1 := (blk_cell g1 1).trans (show _ = some (Value.int .i64 ev) from rfl)
  have c2 := (blk_cell g1 2).trans (show _ = some (Value.slice A n c) from rfl)
  have c3 := (blk_cell g1 3).trans (show _ = some (Value.slice LA k lc) from rfl)
  have c4 := (blk_cell g1 4).trans (show _ = some (Value.slice EA m ec) from rfl)
  have c5 := (blk_cell g2 0).trans (show _ = some (Value.slice D q f) from rfl)
  have c6 := (blk_cell g2 1).trans (show _ = some (Value.int .i64 zm) from rfl)
  have c7 := (blk_cell g3 0).trans (show _ = some (Value.slice B1 X f1) from rfl)
  have c8 := (blk_cell g3 1).trans (show _ = some (Value.slice B2 Y f2) from rfl)
  have HV0 := Aside0.mk (And.intro hv1 hv2)
  have xm : X ≤ 9223372036854775807 := hv1.2.1
  have ym : Y ≤ 9223372036854775807 := hv2.2.1
  clear g1 g2 g3 ht hy hs hU hn hk hm hq hX hY hv1 hv2 hw1 hw2
  go_enter Tryd.func9, Tryd.ntmps9
  go_wp2_with fail
  refine (of12_calls _ D f q rows zm HQ.out (Kd.C_below (by rw [HQ.out]; exact HZ.out) HB.out) HU.out ⟨tab_below HB.out HT.out⟩).mono ?_
  rintro e W1 ⟨hb', v1, v2, rfl, hl, hx⟩
  replace c0 := pw_cell_below hb' c0; replace c1 := pw_cell_below hb' c1; replace c2 := pw_cell_below hb' c2; replace c3 := pw_cell_below hb' c3; replace c4 := pw_cell_below hb' c4; replace c5 := pw_cell_below hb' c5; replace c6 := pw_cell_below hb' c6; replace c7 := pw_cell_below hb' c7; replace c8 := pw_cell_below hb' c8
  have HB' := Aside0.mk (below_step HB.out hb'); clear HB hb'; have HB := HB'; clear HB'
  have HLX := Aside0.mk (And.intro hl hx)
  obtain ⟨o, ho⟩ : ∃ o, o = latO rows := ⟨_, rfl⟩
  obtain ⟨p, hp⟩ : ∃ p, p = effO zm := ⟨_, rfl⟩
  rw [← ho, ← hp] at HLX
  clear hl hx ho hp
  have HB1 := HB
  clear HB
  have HB := Aside0.mk (Below.refl W1.heap.size W1)
  have HY1 := Aside0.mk (HY.out.kept HB1.out)
  have HV := Aside0.mk (And.intro (Kd.C_below HV0.out.1 HB1.out) (Kd.C_below HV0.out.2 HB1.out))
  clear HV0
  by_cases hb : 64 < q ∨ 200 < n ∨ 300 < k ∨ 300 < m
  · have HE : Aside0 (decide (64 < q ∨ 200 < n ∨ 300 < k ∨ 300 < m) = true) := ⟨decide_eq_true hb⟩
    clear hb
    go_wp2_with (first | (go_at_call 21; (with_reducible refine (great12_calls _ _ _ _ _ _ _ _ _ _ _ _ _ _ _ _).mono ?_); rintro e W' ⟨rfl, hb'⟩; replace c0 := pw_cell_below hb' c0; replace c1 := pw_cell_below hb' c1; replace c2 := pw_cell_below hb' c2; replace c3 := pw_cell_below hb' c3; replace c4 := pw_cell_below hb' c4; replace c5 := pw_cell_below hb' c5; replace c6 := pw_cell_below hb' c6; replace c7 := pw_cell_below hb' c7; replace c8 := pw_cell_below hb' c8; have HB' := Aside0.mk (below_step HB.out hb'); clear HB hb'; have HB := HB'; clear HB'; rw [HE.out]) | (go_at_call 23; (with_reducible refine (alive12_calls _ ⟨tab_below (below_step HB1.out HB.out) HT.out⟩).mono ?_); rintro e W' ⟨rfl, hb'⟩; replace c0 := pw_cell_below hb' c0; replace c1 := pw_cell_below hb' c1; replace c2 := pw_cell_below hb' c2; replace c3 := pw_cell_below hb' c3; replace c4 := pw_cell_below hb' c4; replace c5 := pw_cell_below hb' c5; replace c6 := pw_cell_below hb' c6; replace c7 := pw_cell_below hb' c7; replace c8 := pw_cell_below hb' c8; have HB' := Aside0.mk (below_step HB.out hb'); clear HB hb'; have HB := HB'; clear HB'))
    go_ret
    exact ⟨rfl, below_step HB1.out HB.out⟩
  have HE : Aside0 (decide (64 < q ∨ 200 < n ∨ 300 < k ∨ 300 < m) = false) := ⟨decide_eq_false hb⟩
  clear hb
  by_cases hb : 100 < X
  · have z1 : decide (100 < (X : Int)) = true := decide_eq_true (by omega)
    clear hb
    go_wp2_with (first | (go_at_call 21; (with_reducible refine (great12_calls _ _ _ _ _ _ _ _ _ _ _ _ _ _ _ _).mono ?_); rintro e W' ⟨rfl, hb'⟩; replace c0 := pw_cell_below hb' c0; replace c1 := pw_cell_below hb' c1; replace c2 := pw_cell_below hb' c2; replace c3 := pw_cell_below hb' c3; replace c4 := pw_cell_below hb' c4; replace c5 := pw_cell_below hb' c5; replace c6 := pw_cell_below hb' c6; replace c7 := pw_cell_below hb' c7; replace c8 := pw_cell_below hb' c8; have HB' := Aside0.mk (below_step HB.out hb'); clear HB hb'; have HB := HB'; clear HB'; rw [HE.out]) | (go_at_call 23; (with_reducible refine (alive12_calls _ ⟨tab_below (below_step HB1.out HB.out) HT.out⟩).mono ?_); rintro e W' ⟨rfl, hb'⟩; replace c0 := pw_cell_below hb' c0; replace c1 := pw_cell_below hb' c1; replace c2 := pw_cell_below hb' c2; replace c3 := pw_cell_below hb' c3; replace c4 := pw_cell_below hb' c4; replace c5 := pw_cell_below hb' c5; replace c6 := pw_cell_below hb' c6; replace c7 := pw_cell_below hb' c7; replace c8 := pw_cell_below hb' c8; have HB' := Aside0.mk (below_step HB.out hb'); clear HB hb'; have HB := HB'; clear HB'))
    go_ret
    exact ⟨rfl, below_step HB1.out HB.out⟩
  have z1 : decide (100 < (X : Int)) = false := decide_eq_false (by omega)
  by_cases hb2 : 100 < Y
  · have z2 : decide (100 < (Y : Int)) = true := decide_eq_true (by omega)
    clear hb2
    go_wp2_with (first | (go_at_call 21; (with_reducible refine (great12_calls _ _ _ _ _ _ _ _ _ _ _ _ _ _ _ _).mono ?_); rintro e W' ⟨rfl, hb'⟩; replace c0 := pw_cell_below hb' c0; replace c1 := pw_cell_below hb' c1; replace c2 := pw_cell_below hb' c2; replace c3 := pw_cell_below hb' c3; replace c4 := pw_cell_below hb' c4; replace c5 := pw_cell_below hb' c5; replace c6 := pw_cell_below hb' c6; replace c7 := pw_cell_below hb' c7; replace c8 := pw_cell_below hb' c8; have HB' := Aside0.mk (below_step HB.out hb'); clear HB hb'; have HB := HB'; clear HB'; rw [HE.out]) | (go_at_call 23; (with_reducible refine (alive12_calls _ ⟨tab_below (below_step HB1.out HB.out) HT.out⟩).mono ?_); rintro e W' ⟨rfl, hb'⟩; replace c0 := pw_cell_below hb' c0; replace c1 := pw_cell_below hb' c1; replace c2 := pw_cell_below hb' c2; replace c3 := pw_cell_below hb' c3; replace c4 := pw_cell_below hb' c4; replace c5 := pw_cell_below hb' c5; replace c6 := pw_cell_below hb' c6; replace c7 := pw_cell_below hb' c7; replace c8 := pw_cell_below hb' c8; have HB' := Aside0.mk (below_step HB.out hb'); clear HB hb'; have HB := HB'; clear HB'))
    go_ret
    exact ⟨rfl, below_step HB1.out HB.out⟩
  have z2 : decide (100 < (Y : Int)) = false := decide_eq_false (by omega)
  obtain ⟨r, hr⟩ : ∃ r, schemeB (hasLat o) (hasEff p) lv ev a L E = r := ⟨_, rfl⟩
  have HR := Aside0.mk hr
  have S0 : Aside0 (∀ W, Below W1.heap.size W1 W → Calls Tryd.prog 22 #[.agg #[.int .i64 lv, .int .i64 ev, .slice A n c, .slice LA k lc, .slice EA m ec], .iface 28 v1, .iface 29 v2] W fun e w' => e = .returned (.int .i64 r) ∧ Below W.heap.size W w') := ⟨fun W hb => scheme_named W lv ev A LA EA c lc ec n k m a L E v1 v2 o p r HR.out HN.out.1 HN.out.2.1 HN.out.2.2.1 (HY1.out.kept hb) (HLX.out.1.kept hb) (HLX.out.2.kept hb)⟩
  clear hr
  by_cases q1 : r = 0
  rotate_left
  · have z3 : (r != 0) = true := bne_iff_ne.mpr q1
    clear q1
    go_wp2_with (first | (go_at_call 21; (with_reducible refine (great12_calls _ _ _ _ _ _ _ _ _ _ _ _ _ _ _ _).mono ?_); rintro e W' ⟨rfl, hb'⟩; replace c0 := pw_cell_below hb' c0; replace c1 := pw_cell_below hb' c1; replace c2 := pw_cell_below hb' c2; replace c3 := pw_cell_below hb' c3; replace c4 := pw_cell_below hb' c4; replace c5 := pw_cell_below hb' c5; replace c6 := pw_cell_below hb' c6; replace c7 := pw_cell_below hb' c7; replace c8 := pw_cell_below hb' c8; have HB' := Aside0.mk (below_step HB.out hb'); clear HB hb'; have HB := HB'; clear HB'; rw [HE.out]) | (go_at_call 22; (with_reducible refine (S0.out _ HB.out).mono ?_); rintro e W' ⟨rfl, hb'⟩; replace c0 := pw_cell_below hb' c0; replace c1 := pw_cell_below hb' c1; replace c2 := pw_cell_below hb' c2; replace c3 := pw_cell_below hb' c3; replace c4 := pw_cell_below hb' c4; replace c5 := pw_cell_below hb' c5; replace c6 := pw_cell_below hb' c6; replace c7 := pw_cell_below hb' c7; replace c8 := pw_cell_below hb' c8; have HB' := Aside0.mk (below_step HB.out hb'); clear HB hb'; have HB := HB'; clear HB') | (go_at_call 23; (with_reducible refine (alive12_calls _ ⟨tab_below (below_step HB1.out HB.out) HT.out⟩).mono ?_); rintro e W' ⟨rfl, hb'⟩; replace c0 := pw_cell_below hb' c0; replace c1 := pw_cell_below hb' c1; replace c2 := pw_cell_below hb' c2; replace c3 := pw_cell_below hb' c3; replace c4 := pw_cell_below hb' c4; replace c5 := pw_cell_below hb' c5; replace c6 := pw_cell_below hb' c6; replace c7 := pw_cell_below hb' c7; replace c8 := pw_cell_below hb' c8; have HB' := Aside0.mk (below_step HB.out hb'); clear HB hb'; have HB := HB'; clear HB'))
    go_ret
    exact ⟨rfl, below_step HB1.out HB.out⟩
  subst q1
  have HasL : Aside0 (∀ W, Below W1.heap.size W1 W → ∀ x, 0 ≤ x → Calls Tryd.prog 27 #[v1, .int .u64 x] W fun e w' => e = .returned (.bool (hasLat o x)) ∧ Below W.heap.size W w') := ⟨fun W hb x hx => hasLbd_calls W v1 o x hx (HLX.out.1.kept hb)⟩
  have HasE : Aside0 (∀ W, Below W1.heap.size W1 W → ∀ x, 0 ≤ x → Calls Tryd.prog 128 #[v2, .int .u64 x] W fun e w' => e = .returned (.bool (hasEff p x)) ∧ Below W.heap.size W w') := ⟨fun W hb x hx => hasE_calls W v2 p x (HLX.out.2.kept hb)⟩
  obtain ⟨⟨gb, er⟩, hgr⟩ : ∃ r, grounS lv ev a ls xs = r := ⟨_, rfl⟩
  obtain ⟨gn, hgn⟩ : ∃ g, g = gb.length := ⟨_, rfl⟩
  have HGR := Aside0.mk (And.intro hgr hgn)
  have GD : Aside0 (∀ W, Below W1.heap.size W1 W → Calls Tryd.prog 24 #[.agg #[.int .i64 lv, .int .i64 ev, .slice A n c, .slice LA k lc, .slice EA m ec], .slice B1 X f1, .slice B2 Y f2] W fun e w' => ∃ A' c', e = .returned (.tuple #[.slice A' gn c', .int .i64 er]) ∧ kNode.C w' A' gn gb ∧ Below W.heap.size W w') := ⟨fun W hb => groun_named2 W lv ev A LA EA c lc ec n k m a L E HN.out.1 HN.out.2.1 HN.out.2.2.1 (HY1.out.kept hb) B1 B2 X Y f1 f2 ls xs gb er gn HGR.out.1 HGR.out.2 HN.out.2.2.2.1 HN.out.2.2.2.2 (Kd.C_below HV.out.1 hb) (Kd.C_below HV.out.2 hb)⟩
  have HC := Aside0.mk (And.intro c0 (And.intro c1 (And.intro c2 (And.intro c3 (And.intro c4 (And.intro c7 c8))))))
  clear hgr hgn
  go_wp2_with (first | (go_at_call 21; (with_reducible refine (great12_calls _ _ _ _ _ _ _ _ _ _ _ _ _ _ _ _).mono ?_); rintro e W' ⟨rfl, hb'⟩; replace c0 := pw_cell_below hb' c0; replace c1 := pw_cell_below hb' c1; replace c2 := pw_cell_below hb' c2; replace c3 := pw_cell_below hb' c3; replace c4 := pw_cell_below hb' c4; replace c5 := pw_cell_below hb' c5; replace c6 := pw_cell_below hb' c6; replace c7 := pw_cell_below hb' c7; replace c8 := pw_cell_below hb' c8; have HB' := Aside0.mk (below_step HB.out hb'); clear HB hb'; have HB := HB'; clear HB'; rw [HE.out]) | (go_at_call 22; (with_reducible refine (S0.out _ HB.out).mono ?_); rintro e W' ⟨rfl, hb'⟩; replace c0 := pw_cell_below hb' c0; replace c1 := pw_cell_below hb' c1; replace c2 := pw_cell_below hb' c2; replace c3 := pw_cell_below hb' c3; replace c4 := pw_cell_below hb' c4; replace c5 := pw_cell_below hb' c5; replace c6 := pw_cell_below hb' c6; replace c7 := pw_cell_below hb' c7; replace c8 := pw_cell_below hb' c8; have HB' := Aside0.mk (below_step HB.out hb'); clear HB hb'; have HB := HB'; clear HB'))
  clear c0 c1 c2 c3 c4 c5 c6 c7 c8 S0 z1 z2
  go_loopg [9, 10] (X + 1) (fun g b i W => ∃ i1 : Nat, i = .int .i64 (i1 : Int) ∧ b = .bool ((ls.take i1).all (hasLat o)) ∧ i1 ≤ X ∧ X + 1 - i1 ≤ g ∧ Aside0 (Below W1.heap.size W1 W))
  case atStart => exact ⟨0, rfl, by simp, by omega, by omega, HB⟩
  case round =>
    clear HB
    obtain ⟨i1, rfl, rfl, hk, hkg, HW⟩ := hrel
    obtain ⟨gi1, hg2⟩ : ∃ b, b = ((ls.take i1).all (hasLat o)) := ⟨_, rfl⟩
    rw [← hg2]
    have hcc := HC.out.2.2.2.2.2.1
    replace hcc := pw_cell_below HW.out hcc
    rcases Nat.lt_or_ge i1 X with hlt | hge
    · have hd : decide (i1 < X) = true := decide_eq_true hlt
      have hkx : i1 < ls.length := by rw [← HN.out.2.2.2.1]; exact hlt
      obtain ⟨adx, e2, x0⟩ := C_rd (Kd.C_below HV.out.1 HW.out) i1 hlt
      obtain ⟨u, hu⟩ : ∃ u, u = rd ls (i1 : Int) := ⟨_, rfl⟩
      have eu : u = ls[i1] := by rw [hu, rd, Int.toNat_natCast, List.getD_eq_getElem?_getD, List.getElem?_eq_getElem hkx]; rfl
      rw [← hu] at x0
      subst e2
      have HM : Aside0 (((ls.take (i1 + 1)).all (hasLat o)) = (gi1 && hasLat o u)) := ⟨by rw [hg2, eu, List.take_succ_eq_append_getElem hkx, List.all_append]; simp [Bool.and_assoc]⟩
      have HU : Aside0 (0 ≤ u) := ⟨by rw [eu]; exact HNN.out.1 _ (List.getElem_mem _)⟩
      clear hg2 hu eu
      cases gi1
      · have HM2 : Aside0 (((ls.take (i1 + 1)).all (hasLat o)) = false) := ⟨HM.out⟩
        clear HM
        go_wp2
        go_quiet (fail)
        go_wp2
        go_roundg (gk - 1)
        case measure => omega
        case rel => exact ⟨i1 + 1, by go_num, by rw [HM2.out], by omega, by omega, ⟨pw_below_drewN HW.out _⟩⟩
      · obtain ⟨h, hh⟩ : ∃ h, hasLat o u = h := ⟨_, rfl⟩
        have HM2 : Aside0 (((ls.take (i1 + 1)).all (hasLat o)) = h) := ⟨by rw [HM.out, ← hh]; rfl⟩
        have HH := Aside0.mk hh
        clear hh HM
        have HB := Aside0.mk HW.out.drew
        have mh := mHasBdL
        have nh := nilHasL
        go_wp2
        refine region_quiet_tail 11 (by kernel_rfl) (by kernel_rfl) ?_
        simp only [List.take_succ_cons, List.take_zero, List.drop_succ_cons, List.drop_zero]
        repeat (go_big_quiet_step (fail))
        refine wpQuiet_nil ?_
        generalize World.drew wr = wd at *
        go_wp2_with (go_at_call 27; (with_reducible refine (HasL.out _ HB.out _ HU.out).mono ?_); rintro e W' ⟨rfl, hb'⟩; rw [HH.out]; have HB' := Aside0.mk (below_step HB.out hb'); clear HB hb'; have HB := HB'; clear HB')
        go_roundg (gk - 1)
        case measure => omega
        case rel => exact ⟨i1 + 1, by go_num, by rw [HM2.out], by omega, by omega, HB⟩
    · have hd : decide (i1 < X) = false := decide_eq_false (by omega)
      obtain rfl : i1 = X := by omega
      generalize wr = Wi1 at *
      have HG2 : Aside0 (gi1 = ls.all (hasLat o)) := ⟨by rw [hg2, List.take_of_length_le (by rw [← HN.out.2.2.2.1]; exact Nat.le_refl _)]⟩
      have HW1 := HW
      clear hg2 HW hge hkg hk
      go_wp2
      clear hd hcc
      go_loopg [9, 11] (Y + 1) (fun g b i W => ∃ j1 : Nat, i = .int .i64 (j1 : Int) ∧ b = .bool (gi1 && (xs.take j1).all (hasEff p)) ∧ j1 ≤ Y ∧ Y + 1 - j1 ≤ g ∧ Aside0 (Below W1.heap.size W1 W))
      case atStart => exact ⟨0, rfl, by simp, by omega, by omega, HW1⟩
      case round =>
        clear HW1
        obtain ⟨j1, rfl, rfl, hk, hkg, HW⟩ := hrel
        obtain ⟨gj1, hg2⟩ : ∃ b, b = (gi1 && (xs.take j1).all (hasEff p)) := ⟨_, rfl⟩
        rw [← hg2]
        have hcc := HC.out.2.2.2.2.2.2
        replace hcc := pw_cell_below HW.out hcc
        rcases Nat.lt_or_ge j1 Y with hlt | hge
        · have hd : decide (j1 < Y) = true := decide_eq_true hlt
          have hkx : j1 < xs.length := by rw [← HN.out.2.2.2.2]; exact hlt
          obtain ⟨adx, e2, x0⟩ := C_rd (Kd.C_below HV.out.2 HW.out) j1 hlt
          obtain ⟨u, hu⟩ : ∃ u, u = rd xs (j1 : Int) := ⟨_, rfl⟩
          have eu : u = xs[j1] := by rw [hu, rd, Int.toNat_natCast, List.getD_eq_getElem?_getD, List.getElem?_eq_getElem hkx]; rfl
          rw [← hu] at x0
          subst e2
          have HM : Aside0 ((gi1 && (xs.take (j1 + 1)).all (hasEff p)) = (gj1 && hasEff p u)) := ⟨by rw [hg2, eu, List.take_succ_eq_append_getElem hkx, List.all_append]; simp [Bool.and_assoc]⟩
          have HU : Aside0 (0 ≤ u) := ⟨by rw [eu]; exact HNN.out.2 _ (List.getElem_mem _)⟩
          clear hg2 hu eu
          cases gj1
          · have HM2 : Aside0 ((gi1 && (xs.take (j1 + 1)).all (hasEff p)) = false) := ⟨HM.out⟩
            clear HM
            go_wp2
            go_quiet (fail)
            go_wp2
            go_roundg (gk - 1)
            case measure => omega
            case rel => exact ⟨j1 + 1, by go_num, by rw [HM2.out], by omega, by omega, ⟨pw_below_drewN HW.out _⟩⟩
          · obtain ⟨h, hh⟩ : ∃ h, hasEff p u = h := ⟨_, rfl⟩
            have HM2 : Aside0 ((gi1 && (xs.take (j1 + 1)).all (hasEff p)) = h) := ⟨by rw [HM.out, ← hh]; rfl⟩
            have HH := Aside0.mk hh
            clear hh HM
            have HB := Aside0.mk HW.out.drew
            have mh := mHasBdE
            have nh := nilHasE
            go_wp2
            refine region_quiet_tail 11 (by kernel_rfl) (by kernel_rfl) ?_
            simp only [List.take_succ_cons, List.take_zero, List.drop_succ_cons, List.drop_zero]
            repeat (go_big_quiet_step (fail))
            refine wpQuiet_nil ?_
            generalize World.drew wr = wd at *
            go_wp2_with (go_at_call 128; (with_reducible refine (HasE.out _ HB.out _ HU.out).mono ?_); rintro e W' ⟨rfl, hb'⟩; rw [HH.out]; have HB' := Aside0.mk (below_step HB.out hb'); clear HB hb'; have HB := HB'; clear HB')
            go_roundg (gk - 1)
            case measure => omega
            case rel => exact ⟨j1 + 1, by go_num, by rw [HM2.out], by omega, by omega, HB⟩
        · have hd : decide (j1 < Y) = false := decide_eq_false (by omega)
          obtain rfl : j1 = Y := by omega
          generalize wr = Wj1 at *
          have HG3 : Aside0 (gj1 = (ls.all (hasLat o) && xs.all (hasEff p))) := ⟨by rw [hg2, HG2.out, List.take_of_length_le (by rw [← HN.out.2.2.2.2]; exact Nat.le_refl _)]⟩
          have HGE : Aside0 ((er == 0) = (((i1 : Int) == lv) && ((j1 : Int) == ev))) := ⟨by
            have := groun_err (ls := ls) (xs := xs) HR.out
            rw [HGR.out.1, ← HN.out.2.2.2.1, ← HN.out.2.2.2.2] at this
            exact this⟩
          obtain ⟨c0, c1, c2, c3, c4, c5, c6⟩ := HC.out
          replace c0 := pw_cell_below HW.out c0; replace c1 := pw_cell_below HW.out c1; replace c2 := pw_cell_below HW.out c2; replace c3 := pw_cell_below HW.out c3; replace c4 := pw_cell_below HW.out c4; replace c5 := pw_cell_below HW.out c5; replace c6 := pw_cell_below HW.out c6
          have HB := HW
          clear hg2 HW HG2 hge hkg hk HC
          go_wp2_with fail
          with_reducible refine (GD.out _ HB.out).mono ?_
          rintro e Wg ⟨Ag, cg, rfl, kg, hb'⟩
          replace c0 := pw_cell_below hb' c0; replace c1 := pw_cell_below hb' c1; replace c2 := pw_cell_below hb' c2; replace c3 := pw_cell_below hb' c3; replace c4 := pw_cell_below hb' c4; replace c5 := pw_cell_below hb' c5; replace c6 := pw_cell_below hb' c6
          have HBW := Aside0.mk (below_step HB.out hb')
          have HBG := Aside0.mk (below_step HB1.out HBW.out)
          have KG := Aside0.mk kg
          clear kg GD HasL HasE HB hb' hcc hd
          have HB := Aside0.mk (Below.refl Wg.heap.size Wg)
          by_cases q1 : er = 0
          rotate_left
          · have z1 : (er != 0) = true := bne_iff_ne.mpr q1
            have z2 : (er == 0) = false := beq_eq_false_iff_ne.mpr q1
            have hge := HGE.out
            rw [z2] at hge
            cases z4 : ((i1 : Int) == lv)
            · clear hge q1
              go_wp2_with (go_at_call 23; (with_reducible refine (alive12_calls _ ⟨tab_below (below_step HBG.out HB.out) HT.out⟩).mono ?_); rintro e W' ⟨rfl, hb'⟩; replace c0 := pw_cell_below hb' c0; replace c1 := pw_cell_below hb' c1; replace c2 := pw_cell_below hb' c2; replace c3 := pw_cell_below hb' c3; replace c4 := pw_cell_below hb' c4; replace c5 := pw_cell_below hb' c5; replace c6 := pw_cell_below hb' c6; have HB' := Aside0.mk (below_step HB.out hb'); clear HB hb'; have HB := HB'; clear HB')
              go_ret
              exact ⟨rfl, below_step HBG.out HB.out⟩
            · have z5 : ((j1 : Int) == ev) = false := by rw [z4, Bool.true_and] at hge; exact hge.symm
              clear hge q1
              go_wp2_with (go_at_call 23; (with_reducible refine (alive12_calls _ ⟨tab_below (below_step HBG.out HB.out) HT.out⟩).mono ?_); rintro e W' ⟨rfl, hb'⟩; replace c0 := pw_cell_below hb' c0; replace c1 := pw_cell_below hb' c1; replace c2 := pw_cell_below hb' c2; replace c3 := pw_cell_below hb' c3; replace c4 := pw_cell_below hb' c4; replace c5 := pw_cell_below hb' c5; replace c6 := pw_cell_below hb' c6; have HB' := Aside0.mk (below_step HB.out hb'); clear HB hb'; have HB := HB'; clear HB')
              go_ret
              exact ⟨rfl, below_step HBG.out HB.out⟩
          subst q1
          have hge := HGE.out
          rw [show ((0 : Int) == 0) = true from rfl, eq_comm, Bool.and_eq_true] at hge
          obtain ⟨z4, z5⟩ := hge
          cases gj1
          · go_wp2_with (go_at_call 23; (with_reducible refine (alive12_calls _ ⟨tab_below (below_step HBG.out HB.out) HT.out⟩).mono ?_); rintro e W' ⟨rfl, hb'⟩; replace c0 := pw_cell_below hb' c0; replace c1 := pw_cell_below hb' c1; replace c2 := pw_cell_below hb' c2; replace c3 := pw_cell_below hb' c3; replace c4 := pw_cell_below hb' c4; replace c5 := pw_cell_below hb' c5; replace c6 := pw_cell_below hb' c6; have HB' := Aside0.mk (below_step HB.out hb'); clear HB hb'; have HB := HB'; clear HB')
            go_ret
            exact ⟨rfl, below_step HBG.out HB.out⟩
          have hall := HG3.out
          rw [eq_comm, Bool.and_eq_true] at hall
          have HOK := Aside0.mk (groun_ok (ls := ls) (xs := xs) HR.out HY.out.wb (by rw [HGR.out.1]) hall.1 hall.2 HWV.out.1 HWV.out.2)
          have S2 : Aside0 (∀ W, Below Wg.heap.size Wg W → Calls Tryd.prog 22 #[.agg #[.int .i64 0, .int .i64 0, .slice Ag gn cg, .slice none 0 0, .slice none 0 0], .iface 28 v1, .iface 29 v2] W fun e w' => e = .returned (.int .i64 0) ∧ Below W.heap.size W w') := ⟨fun W hb => scheme_named W 0 0 Ag none none cg 0 0 gn 0 0 gb [] [] v1 v2 o p 0 (by have := HOK.out.1; rw [HGR.out.1] at this; exact this) HGR.out.2 rfl rfl ⟨by show kNode.C W Ag gb.length gb; rw [← HGR.out.2]; exact Kd.C_below KG.out hb, (by have := HOK.out.2; rw [HGR.out.1] at this; exact this), Kd.C_nil _ _, (fun b h => by cases h), Kd.C_nil _ _, (fun b h => by cases h), (show (Lit.int .i64 0).wf = true by decide +kernel), (show (Lit.int .i64 0).wf = true by decide +kernel)⟩ (HLX.out.1.kept (below_step HBW.out hb)) (HLX.out.2.kept (below_step HBW.out hb))⟩
          clear hall
          go_wp2_with (first | (go_at_call 23; (with_reducible refine (alive12_calls _ ⟨tab_below (below_step HBG.out HB.out) HT.out⟩).mono ?_); rintro e W' ⟨rfl, hb'⟩; replace c0 := pw_cell_below hb' c0; replace c1 := pw_cell_below hb' c1; replace c2 := pw_cell_below hb' c2; replace c3 := pw_cell_below hb' c3; replace c4 := pw_cell_below hb' c4; replace c5 := pw_cell_below hb' c5; replace c6 := pw_cell_below hb' c6; have HB' := Aside0.mk (below_step HB.out hb'); clear HB hb'; have HB := HB'; clear HB') | (go_at_call 22; (with_reducible refine (S2.out _ HB.out).mono ?_); rintro e W' ⟨rfl, hb'⟩; replace c0 := pw_cell_below hb' c0; replace c1 := pw_cell_below hb' c1; replace c2 := pw_cell_below hb' c2; replace c3 := pw_cell_below hb' c3; replace c4 := pw_cell_below hb' c4; replace c5 := pw_cell_below hb' c5; replace c6 := pw_cell_below hb' c6; have HB' := Aside0.mk (below_step HB.out hb'); clear HB hb'; have HB := HB'; clear HB'))
          go_ret
          exact ⟨rfl, below_step HBG.out HB.out⟩
end L12
end Go.Proofs.YtkndpgbpdidlgaaDoor
