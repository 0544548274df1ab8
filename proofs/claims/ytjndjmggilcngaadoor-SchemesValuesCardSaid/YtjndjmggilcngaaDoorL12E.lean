/- The law SchemesValues: a walk through its code at every input. -/
import Derived.Test.YtjndjmggilcngaaDoorL12A
import Derived.Test.YtjndjmggilcngaaDoorVl
import Derived.Test.YtjndjmggilcngaaDoorQt
import Derived.Test.YtjndjmggilcngaaDoorAp
import Derived.Deep.Cut
import Derived.Deep.RegionLaw

namespace Go.Proofs.YtjndjmggilcngaaDoor
open Go.RowKit Go.Proofs.YtjndjmggilcngaaDoorW.PrintWords Go.Proofs.YtjndjmggilcngaaDoorW.PrintLast Go.Proofs.YtjndjmggilcngaaDoorW.PrintMore
set_option linter.unusedVariables false
set_option linter.unusedSimpArgs false
namespace L12
open L09
theorem infoU : (Tryd.prog.info? 50).map (fun i => (i.zero, i.size, i.bytes)) = some (some (.int .u64 0), 1, 8) := by kernel_rfl
theorem u64_C (w : World) (x : Int) : (Kd.int .u64).C (w.alloc (.cells #[.int .u64 x] 50)) (some ⟨w.heap.size, 0, none⟩) 1 [x] := C_one_new .u64 w x _
theorem scheme_named (w : World) (lv ev : Int) (A LA EA : Option Addr) (c lc ec n k m : Nat) (a : List Node) (L E : List Bound) (v1 v2 : Value) (o : Option (List Int)) (p : Option Int) (r : Int) (hr : schemeB (hasLat o) (hasEff p) lv ev a L E = r) (hn : n = a.length) (hk : k = L.length) (hm : m = E.length) (hy : SchY.ok w ⟨lv, ev, A, c, a, LA, lc, L, EA, ec, E⟩) (hv1 : LatV w v1 o) (hv2 : EffV w v2 p) :
    Calls Tryd.prog 16 #[.agg #[.int .i64 lv, .int .i64 ev, .slice A n c, .slice LA k lc, .slice EA m ec], .iface 60 v1, .iface 63 v2] w fun e w' => e = .returned (.int .i64 r) ∧ Below w.heap.size w w' := by
  rw [← hr]
  subst hn hk hm
  exact scheme_calls w ⟨lv, ev, A, c, a, LA, lc, L, EA, ec, E⟩ hy v1 v2 o p hv1 hv2
theorem groun_named2 (w : World) (lv ev : Int) (A LA EA : Option Addr) (c lc ec n k m : Nat) (a : List Node) (L E : List Bound) (hn : n = a.length) (hk : k = L.length) (hm : m = E.length) (hy : SchY.ok w ⟨lv, ev, A, c, a, LA, lc, L, EA, ec, E⟩) (B1 B2 : Option Addr) (m1 m2 f1 f2 : Nat) (ls xs : List Int) (gb : List Node) (er : Int) (gn : Nat) (hr : grounS lv ev a ls xs = (gb, er)) (hg : gn = gb.length) (hm1 : m1 = ls.length) (hm2 : m2 = xs.length) (hl1 : (Kd.int .u64).C w B1 m1 ls) (hl2 : (Kd.int .u64).C w B2 m2 xs) :
    Calls Tryd.prog 18 #[.agg #[.int .i64 lv, .int .i64 ev, .slice A n c, .slice LA k lc, .slice EA m ec], .slice B1 m1 f1, .slice B2 m2 f2] w fun e w' => ∃ A' c', e = .returned (.tuple #[.slice A' gn c', .int .i64 er]) ∧ kNode.C w' A' gn gb ∧ Below w.heap.size w w' := by
  subst hn hk hm hg
  exact groun_named w ⟨lv, ev, A, c, a, LA, lc, L, EA, ec, E⟩ hy B1 B2 m1 m2 f1 f2 ls xs (gb, er) hr hm1 hm2 hl1 hl2
theorem slice_one (ad : Addr) (n c : Nat) (h1 : 1 ≤ n) (h2 : n ≤ c) : ∃ A : Option Addr, (∀ W, (Instr.sliceAt 41 (.slice (some ad) n c) (some (.int .i64 1)) none none).run Tryd.prog W = .ok (.slice A (n - 1) (c - 1)) W) ∧ (A = some ad ∧ n = 1 ∨ A = some (ad.add 1)) := by
  by_cases hc : c = 1
  · refine ⟨some ad, fun W => ?_, .inl ⟨rfl, by omega⟩⟩
    have d1 : ((n : Int) < 1) = False := by simp; omega
    go_simp
  · refine ⟨some (ad.add 1), fun W => ?_, .inr rfl⟩
    go_simp
    intro h
    omega
theorem slice_one_C {w : World} {ad : Addr} {n : Nat} {l : List Int} {A : Option Addr} (h : (Kd.int .u64).C w (some ad) n l) (h1 : 1 ≤ n) (hA : A = some ad ∧ n = 1 ∨ A = some (ad.add 1)) : (Kd.int .u64).C w A (n - 1) (l.drop 1) := by
  have hl : l.length = n := h.1
  rcases hA with ⟨rfl, rfl⟩ | rfl
  · exact ⟨by rw [List.length_drop, hl], by omega, fun h => absurd h (by omega)⟩
  · have := C_cut h 1 (n - 1) (by omega)
    rw [List.take_of_length_le (by rw [List.length_drop]; omega)] at this
    exact this
set_option maxRecDepth 100000 in
set_option maxHeartbeats 16000000 in
theorem values_walk (w : World) (ht : TabAt 5 Lib.deBruijn64tab w) (y : SchY) (hy : y.ok w) (z : SortsY) (hz : z.ok w) (A0 : Option Addr) (f0 : Nat) (vs : List Int) (hv0 : (Kd.int .u64).C w A0 vs.length vs) (hl0 : vs.length ≤ f0) (hw0 : ∀ r ∈ vs, (Lit.int .u64 r).wf = true) :
    Calls Tryd.prog 7 #[y.v, z.v, .slice A0 vs.length f0] w fun e w' => e = .returned (.bool true) ∧ Below w.heap.size w w' := by
  obtain ⟨D, f, rows, zm⟩ := z
  obtain ⟨lv, ev, A, c, a, LA, lc, L, EA, ec, E⟩ := y
  obtain ⟨-, hs, hU, -⟩ := hz
  simp only at hs hU
  simp only [SortsY.v, SchY.v]
  have HT := Aside0.mk ht
  have HY := Aside0.mk hy
  have HZ := Aside0.mk hs
  have HU := Aside0.mk hU
  obtain ⟨n, hn⟩ : ∃ n, n = a.length := ⟨_, rfl⟩
  obtain ⟨k, hk⟩ : ∃ n, n = L.length := ⟨_, rfl⟩
  obtain ⟨m, hm⟩ : ∃ n, n = E.length := ⟨_, rfl⟩
  obtain ⟨q, hq⟩ : ∃ n, n = rows.length := ⟨_, rfl⟩
  obtain ⟨X, hX⟩ : ∃ n, n = vs.length := ⟨_, rfl⟩
  have HN := Aside0.mk (And.intro hn (And.intro hk (And.intro hm hX)))
  have HQ := Aside0.mk hq
  rw [← hn, ← hk, ← hm, ← hq, ← hX]
  rw [← hX] at hv0
  obtain ⟨O1, hO1⟩ : ∃ O : Obj, O = .cells #[.int .i64 lv, .int .i64 ev, .slice A n c, .slice LA k lc, .slice EA m ec] 40 := ⟨_, rfl⟩
  obtain ⟨O, hO⟩ : ∃ O : Obj, O = .cells #[.slice D q f, .int .i64 zm] 43 := ⟨_, rfl⟩
  have HB := Aside0.mk (below_alloc (below_alloc (Below.refl w.heap.size w) O1) O)
  have g1 : ((w.alloc O1).alloc O).heap[w.heap.size]? = some O1 := blk_alloc (blk_new w _) _
  have g2 : ((w.alloc O1).alloc O).heap[w.heap.size + 1]? = some O := by have := blk_new (w.alloc O1) O; rwa [World.size_alloc] at this
  subst hO hO1
  have c0 := (blk_cell g1 0).trans (show _ = some (Value.int .i64 lv) from rfl)
  have c1 := (blk_cell g1 1).trans (show _ = some (Value.int .i64 ev) from rfl)
  have c2 := (blk_cell g1 2).trans (show _ = some (Value.slice A n c) from rfl)
  have c3 := (blk_cell g1 3).trans (show _ = some (Value.slice LA k lc) from rfl)
  have c4 := (blk_cell g1 4).trans (show _ = some (Value.slice EA m ec) from rfl)
  have c5 := (blk_cell g2 0).trans (show _ = some (Value.slice D q f) from rfl)
  have c6 := (blk_cell g2 1).trans (show _ = some (Value.int .i64 zm) from rfl)
  have HV0 := Aside0.mk hv0
  have xm : X ≤ 9223372036854775807 := hv0.2.1
  clear g1 g2 ht hy hs hU hn hk hm hq hX hv0 hl0 hw0
  go_enter Tryd.func7, Tryd.ntmps7
  go_wp2_with fail
  refine (of12_calls _ D f q rows zm HQ.out (Kd.C_below (by rw [HQ.out]; exact HZ.out) HB.out) HU.out ⟨tab_below HB.out HT.out⟩).mono ?_
  rintro e W1 ⟨hb', v1, v2, rfl, hl, hx⟩
  replace c0 := pw_cell_below hb' c0; replace c1 := pw_cell_below hb' c1; replace c2 := pw_cell_below hb' c2; replace c3 := pw_cell_below hb' c3; replace c4 := pw_cell_below hb' c4; replace c5 := pw_cell_below hb' c5; replace c6 := pw_cell_below hb' c6
  have HB' := Aside0.mk (below_step HB.out hb'); clear HB hb'; have HB := HB'; clear HB'
  have HLX := Aside0.mk (And.intro hl hx)
  obtain ⟨o, ho⟩ : ∃ o, o = latO rows := ⟨_, rfl⟩
  obtain ⟨p, hp⟩ : ∃ p, p = effO zm := ⟨_, rfl⟩
  rw [← ho, ← hp] at HLX
  clear hl hx ho hp
  have HB1 := HB
  clear HB
  have HB := Aside0.mk (Below.refl W1.heap.size W1)
  have HY1 := Aside0.mk (HY.out.kept HB1.out)
  have HV := Aside0.mk (Kd.C_below HV0.out HB1.out)
  clear HV0
  by_cases hb : 64 < q ∨ 200 < n ∨ 300 < k ∨ 300 < m
  · have HE : Aside0 (decide (64 < q ∨ 200 < n ∨ 300 < k ∨ 300 < m) = true) := ⟨decide_eq_true hb⟩
    clear hb
    go_wp2_with (first | (go_at_call 15; (with_reducible refine (great12_calls _ _ _ _ _ _ _ _ _ _ _ _ _ _ _ _).mono ?_); rintro e W' ⟨rfl, hb'⟩; replace c0 := pw_cell_below hb' c0; replace c1 := pw_cell_below hb' c1; replace c2 := pw_cell_below hb' c2; replace c3 := pw_cell_below hb' c3; replace c4 := pw_cell_below hb' c4; replace c5 := pw_cell_below hb' c5; replace c6 := pw_cell_below hb' c6; have HB' := Aside0.mk (below_step HB.out hb'); clear HB hb'; have HB := HB'; clear HB'; rw [HE.out]) | (go_at_call 17; (with_reducible refine (alive12_calls _ ⟨tab_below (below_step HB1.out HB.out) HT.out⟩).mono ?_); rintro e W' ⟨rfl, hb'⟩; replace c0 := pw_cell_below hb' c0; replace c1 := pw_cell_below hb' c1; replace c2 := pw_cell_below hb' c2; replace c3 := pw_cell_below hb' c3; replace c4 := pw_cell_below hb' c4; replace c5 := pw_cell_below hb' c5; replace c6 := pw_cell_below hb' c6; have HB' := Aside0.mk (below_step HB.out hb'); clear HB hb'; have HB := HB'; clear HB'))
    go_ret
    exact ⟨rfl, below_step HB1.out HB.out⟩
  have HE : Aside0 (decide (64 < q ∨ 200 < n ∨ 300 < k ∨ 300 < m) = false) := ⟨decide_eq_false hb⟩
  clear hb
  by_cases hb : X = 0
  · subst hb
    go_wp2_with (first | (go_at_call 15; (with_reducible refine (great12_calls _ _ _ _ _ _ _ _ _ _ _ _ _ _ _ _).mono ?_); rintro e W' ⟨rfl, hb'⟩; replace c0 := pw_cell_below hb' c0; replace c1 := pw_cell_below hb' c1; replace c2 := pw_cell_below hb' c2; replace c3 := pw_cell_below hb' c3; replace c4 := pw_cell_below hb' c4; replace c5 := pw_cell_below hb' c5; replace c6 := pw_cell_below hb' c6; have HB' := Aside0.mk (below_step HB.out hb'); clear HB hb'; have HB := HB'; clear HB'; rw [HE.out]) | (go_at_call 17; (with_reducible refine (alive12_calls _ ⟨tab_below (below_step HB1.out HB.out) HT.out⟩).mono ?_); rintro e W' ⟨rfl, hb'⟩; replace c0 := pw_cell_below hb' c0; replace c1 := pw_cell_below hb' c1; replace c2 := pw_cell_below hb' c2; replace c3 := pw_cell_below hb' c3; replace c4 := pw_cell_below hb' c4; replace c5 := pw_cell_below hb' c5; replace c6 := pw_cell_below hb' c6; have HB' := Aside0.mk (below_step HB.out hb'); clear HB hb'; have HB := HB'; clear HB'))
    go_ret
    exact ⟨rfl, below_step HB1.out HB.out⟩
  have z1 : ((X : Int) == 0) = false := beq_eq_false_iff_ne.mpr (by omega)
  by_cases hb2 : 200 < X
  · have z2 : decide (200 < (X : Int)) = true := decide_eq_true (by omega)
    clear hb2
    go_wp2_with (first | (go_at_call 15; (with_reducible refine (great12_calls _ _ _ _ _ _ _ _ _ _ _ _ _ _ _ _).mono ?_); rintro e W' ⟨rfl, hb'⟩; replace c0 := pw_cell_below hb' c0; replace c1 := pw_cell_below hb' c1; replace c2 := pw_cell_below hb' c2; replace c3 := pw_cell_below hb' c3; replace c4 := pw_cell_below hb' c4; replace c5 := pw_cell_below hb' c5; replace c6 := pw_cell_below hb' c6; have HB' := Aside0.mk (below_step HB.out hb'); clear HB hb'; have HB := HB'; clear HB'; rw [HE.out]) | (go_at_call 17; (with_reducible refine (alive12_calls _ ⟨tab_below (below_step HB1.out HB.out) HT.out⟩).mono ?_); rintro e W' ⟨rfl, hb'⟩; replace c0 := pw_cell_below hb' c0; replace c1 := pw_cell_below hb' c1; replace c2 := pw_cell_below hb' c2; replace c3 := pw_cell_below hb' c3; replace c4 := pw_cell_below hb' c4; replace c5 := pw_cell_below hb' c5; replace c6 := pw_cell_below hb' c6; have HB' := Aside0.mk (below_step HB.out hb'); clear HB hb'; have HB := HB'; clear HB'))
    go_ret
    exact ⟨rfl, below_step HB1.out HB.out⟩
  have z2 : decide (200 < (X : Int)) = false := decide_eq_false (by omega)
  obtain ⟨r, hr⟩ : ∃ r, schemeB (hasLat o) (hasEff p) lv ev a L E = r := ⟨_, rfl⟩
  have HR := Aside0.mk hr
  have S0 : Aside0 (∀ W, Below W1.heap.size W1 W → Calls Tryd.prog 16 #[.agg #[.int .i64 lv, .int .i64 ev, .slice A n c, .slice LA k lc, .slice EA m ec], .iface 60 v1, .iface 63 v2] W fun e w' => e = .returned (.int .i64 r) ∧ Below W.heap.size W w') := ⟨fun W hb => scheme_named W lv ev A LA EA c lc ec n k m a L E v1 v2 o p r HR.out HN.out.1 HN.out.2.1 HN.out.2.2.1 (HY1.out.kept hb) (HLX.out.1.kept hb) (HLX.out.2.kept hb)⟩
  clear hr
  by_cases q1 : r = 0
  rotate_left
  · have z3 : (r != 0) = true := bne_iff_ne.mpr q1
    clear q1
    go_wp2_with (first | (go_at_call 15; (with_reducible refine (great12_calls _ _ _ _ _ _ _ _ _ _ _ _ _ _ _ _).mono ?_); rintro e W' ⟨rfl, hb'⟩; replace c0 := pw_cell_below hb' c0; replace c1 := pw_cell_below hb' c1; replace c2 := pw_cell_below hb' c2; replace c3 := pw_cell_below hb' c3; replace c4 := pw_cell_below hb' c4; replace c5 := pw_cell_below hb' c5; replace c6 := pw_cell_below hb' c6; have HB' := Aside0.mk (below_step HB.out hb'); clear HB hb'; have HB := HB'; clear HB'; rw [HE.out]) | (go_at_call 16; (with_reducible refine (S0.out _ HB.out).mono ?_); rintro e W' ⟨rfl, hb'⟩; replace c0 := pw_cell_below hb' c0; replace c1 := pw_cell_below hb' c1; replace c2 := pw_cell_below hb' c2; replace c3 := pw_cell_below hb' c3; replace c4 := pw_cell_below hb' c4; replace c5 := pw_cell_below hb' c5; replace c6 := pw_cell_below hb' c6; have HB' := Aside0.mk (below_step HB.out hb'); clear HB hb'; have HB := HB'; clear HB') | (go_at_call 17; (with_reducible refine (alive12_calls _ ⟨tab_below (below_step HB1.out HB.out) HT.out⟩).mono ?_); rintro e W' ⟨rfl, hb'⟩; replace c0 := pw_cell_below hb' c0; replace c1 := pw_cell_below hb' c1; replace c2 := pw_cell_below hb' c2; replace c3 := pw_cell_below hb' c3; replace c4 := pw_cell_below hb' c4; replace c5 := pw_cell_below hb' c5; replace c6 := pw_cell_below hb' c6; have HB' := Aside0.mk (below_step HB.out hb'); clear HB hb'; have HB := HB'; clear HB'))
    go_ret
    exact ⟨rfl, below_step HB1.out HB.out⟩
  subst q1
  obtain ⟨hz0, hbl, hbe, -, -⟩ := scheme_ok HR.out
  obtain ⟨l0, l64, -, -⟩ := bounds_vars hbl
  obtain ⟨e0, e64, -, -⟩ := bounds_vars hbe
  obtain ⟨lv, rfl⟩ := Int.eq_ofNat_of_zero_le l0
  obtain ⟨ev, rfl⟩ := Int.eq_ofNat_of_zero_le e0
  have l64' : lv ≤ 64 := by omega
  have e64' : ev ≤ 64 := by omega
  have y1 : decide ((lv : Int) < 0) = false := decide_eq_false (by omega)
  have y2 : decide (64 < (lv : Int)) = false := decide_eq_false (by omega)
  have y3 : decide ((ev : Int) < 0) = false := decide_eq_false (by omega)
  have y4 : decide (64 < (ev : Int)) = false := decide_eq_false (by omega)
  clear hz0 hbl hbe l0 l64 e0 e64
  have HC := Aside0.mk (And.intro c0 (And.intro c1 (And.intro c2 (And.intro c3 c4))))
  go_wp2_with (first | (go_at_call 15; (with_reducible refine (great12_calls _ _ _ _ _ _ _ _ _ _ _ _ _ _ _ _).mono ?_); rintro e W' ⟨rfl, hb'⟩; replace c0 := pw_cell_below hb' c0; replace c1 := pw_cell_below hb' c1; replace c2 := pw_cell_below hb' c2; replace c3 := pw_cell_below hb' c3; replace c4 := pw_cell_below hb' c4; replace c5 := pw_cell_below hb' c5; replace c6 := pw_cell_below hb' c6; have HB' := Aside0.mk (below_step HB.out hb'); clear HB hb'; have HB := HB'; clear HB'; rw [HE.out]) | (go_at_call 16; (with_reducible refine (S0.out _ HB.out).mono ?_); rintro e W' ⟨rfl, hb'⟩; replace c0 := pw_cell_below hb' c0; replace c1 := pw_cell_below hb' c1; replace c2 := pw_cell_below hb' c2; replace c3 := pw_cell_below hb' c3; replace c4 := pw_cell_below hb' c4; replace c5 := pw_cell_below hb' c5; replace c6 := pw_cell_below hb' c6; have HB' := Aside0.mk (below_step HB.out hb'); clear HB hb'; have HB := HB'; clear HB'))
  clear S0 z1 z2 y1 y2 y3 y4 c0 c1 c2 c3 c4 c5 c6
  go_loopg [9, 11] (lv + 1) (fun g b i W => ∃ (i1 : Nat) (A7 : Option Addr) (c7 : Nat) (l : List Int), i = .int .i64 (i1 : Int) ∧ b = .slice A7 i1 c7 ∧ i1 ≤ lv ∧ lv + 1 - i1 ≤ g ∧ Aside0 (l.length = i1 ∧ (Kd.int .u64).R 50 W W1.heap.size (fun _ => True) (.slice A7 i1 c7) l) ∧ Aside0 (Below W1.heap.size W1 W))
  case atStart => exact ⟨0, none, 0, [], rfl, rfl, by omega, by omega, ⟨rfl, Kd.R_nil _ _ _ _ _⟩, HB⟩
  case round =>
    clear HB
    obtain ⟨i1, A7, c7, l, rfl, rfl, hk1, hkg, HO, HB⟩ := hrel
    have hcc := HC.out.1
    replace hcc := pw_cell_below HB.out hcc
    rcases Nat.lt_or_ge i1 lv with hlt | hge
    · have hd : decide (i1 < lv) = true := decide_eq_true hlt
      obtain ⟨kk, hkk⟩ : ∃ kk, kk = i1 % X := ⟨_, rfl⟩
      have hkX : kk < X := by rw [hkk]; exact Nat.mod_lt _ (by omega)
      have hrem : (i1 : Int) % (X : Int) = (kk : Int) := by rw [hkk]; exact (Int.natCast_emod i1 X).symm
      obtain ⟨ad, rfl, x0⟩ := C_rd (Kd.C_below HV.out HB.out) kk hkX
      obtain ⟨u, hu⟩ : ∃ u, u = rd vs (kk : Int) := ⟨_, rfl⟩
      rw [← hu] at x0
      have hlk : l.length = i1 := HO.out.1
      have hlk1 : (l ++ [u]).length = i1 + 1 := by rw [List.length_append, hlk]; rfl
      clear hu hkk
      go_wp2_with (at_builtin; refine wpList_append_R rfl (Kd.int .u64) W1.heap.size (.tmp 71) (.tmp 79) 41 41 50 50 (.int .u64 0) 8 rfl (by kernel_rfl) (by kernel_rfl) infoU rfl (by decide) (by decide) (.slice A7 i1 c7) l [u] (some ⟨wr.heap.size, 0, none⟩) 1 1 (fun _ => True) (fun _ => False) rfl rfl (Kd.R_below HO.out.2 (below_alloc (Below.refl _ _) _)) (u64_C wr u) (fun x cs h => h) (fun _ h => h.elim) (fun _ _ => trivial) (below_alloc HB.out _).size (by rw [hlk]; omega) ?_; intro v1' w1 HO1 hg1 hat; obtain ⟨A2, c2', rfl⟩ := Kd.R_slice HO1; rw [hlk1] at HO1 ⊢; have HB1' := Aside0.mk ((below_alloc HB.out _).grown hg1 (below_alloc HB.out _).size (fun k hk => (Kd.R_bound HO.out.2).1 k hk |>.2.1)); have HO2 := Aside0.mk HO1; clear HO1 hg1 hat HO HB)
      go_roundg (gk - 1)
      case measure => omega
      case rel => exact ⟨i1 + 1, A2, c2', l ++ [u], by go_num, rfl, by omega, by omega, ⟨hlk1, HO2.out⟩, HB1'⟩
    · have hd : decide (i1 < lv) = false := decide_eq_false (by omega)
      obtain rfl : i1 = lv := by omega
      generalize wr = W7 at *
      have HO7 := HO
      have HB7 := HB
      clear hge hkg hk1 HO HB
      have HB := Aside0.mk (Below.refl W7.heap.size W7)
      go_wp2
      clear hd hcc
      go_loopg [10, 12] (ev + 1) (fun g b i W => ∃ (j1 : Nat) (A9 : Option Addr) (c9 : Nat) (l2 : List Int), i = .int .i64 (j1 : Int) ∧ b = .slice A9 j1 c9 ∧ j1 ≤ ev ∧ ev + 1 - j1 ≤ g ∧ Aside0 (l2.length = j1 ∧ (Kd.int .u64).R 50 W W7.heap.size (fun _ => True) (.slice A9 j1 c9) l2) ∧ Aside0 (Below W7.heap.size W7 W))
      case atStart => exact ⟨0, none, 0, [], rfl, rfl, by omega, by omega, ⟨rfl, Kd.R_nil _ _ _ _ _⟩, HB⟩
      case round =>
        clear HB
        obtain ⟨j1, A9, c9, l2, rfl, rfl, hk1, hkg, HO, HB⟩ := hrel
        have hcc := HC.out.2.1
        replace hcc := pw_cell_below HB.out (pw_cell_below HB7.out hcc)
        rcases Nat.lt_or_ge j1 ev with hlt | hge
        · have hd : decide (j1 < ev) = true := decide_eq_true hlt
          obtain ⟨kk, hkk⟩ : ∃ kk, kk = (j1 + 1) % X := ⟨_, rfl⟩
          have hkX : kk < X := by rw [hkk]; exact Nat.mod_lt _ (by omega)
          have hrem : ((j1 : Int) + 1) % (X : Int) = (kk : Int) := by rw [hkk]; exact (Int.natCast_emod (j1 + 1) X).symm
          obtain ⟨ad, rfl, x0⟩ := C_rd (Kd.C_below (Kd.C_below HV.out HB7.out) HB.out) kk hkX
          obtain ⟨u, hu⟩ : ∃ u, u = rd vs (kk : Int) := ⟨_, rfl⟩
          rw [← hu] at x0
          have hlk : l2.length = j1 := HO.out.1
          have hlk1 : (l2 ++ [u]).length = j1 + 1 := by rw [List.length_append, hlk]; rfl
          clear hu hkk
          go_wp2_with (at_builtin; refine wpList_append_R rfl (Kd.int .u64) W7.heap.size (.tmp 87) (.tmp 96) 41 41 50 50 (.int .u64 0) 8 rfl (by kernel_rfl) (by kernel_rfl) infoU rfl (by decide) (by decide) (.slice A9 j1 c9) l2 [u] (some ⟨wr.heap.size, 0, none⟩) 1 1 (fun _ => True) (fun _ => False) rfl rfl (Kd.R_below HO.out.2 (below_alloc (Below.refl _ _) _)) (u64_C wr u) (fun x cs h => h) (fun _ h => h.elim) (fun _ _ => trivial) (below_alloc HB.out _).size (by rw [hlk]; omega) ?_; intro v1' w1 HO1 hg1 hat; obtain ⟨A2, c2', rfl⟩ := Kd.R_slice HO1; rw [hlk1] at HO1 ⊢; have HB1' := Aside0.mk ((below_alloc HB.out _).grown hg1 (below_alloc HB.out _).size (fun k hk => (Kd.R_bound HO.out.2).1 k hk |>.2.1)); have HO2 := Aside0.mk HO1; clear HO1 hg1 hat HO HB)
          go_roundg (gk - 1)
          case measure => omega
          case rel => exact ⟨j1 + 1, A2, c2', l2 ++ [u], by go_num, rfl, by omega, by omega, ⟨hlk1, HO2.out⟩, HB1'⟩
        · have hd : decide (j1 < ev) = false := decide_eq_false (by omega)
          obtain rfl : j1 = ev := by omega
          generalize wr = W8 at *
          obtain ⟨c0, c1, c2, c3, c4⟩ := HC.out
          have hb18 := Aside0.mk (HB7.out.trans (HB.out.mono HB7.out.size))
          replace c0 := pw_cell_below hb18.out c0
          replace c1 := pw_cell_below hb18.out c1
          replace c2 := pw_cell_below hb18.out c2
          replace c3 := pw_cell_below hb18.out c3
          replace c4 := pw_cell_below hb18.out c4
          clear hcc hge hkg hk1
          have hC1 : (Kd.int .u64).C W8 A7 i1 l := by have := Kd.C_below (Kd.R_reads' HO7.out.2).2.2 HB.out; rwa [HO7.out.1] at this
          have hC2 : (Kd.int .u64).C W8 A9 j1 l2 := by have := (Kd.R_reads' HO.out.2).2.2; rwa [HO.out.1] at this
          have HC12 := Aside0.mk (And.intro hC1 hC2)
          clear hC1 hC2
          have HLL : Aside0 (l.length = i1 ∧ l2.length = j1) := ⟨HO7.out.1, HO.out.1⟩
          have HGR : Aside0 (grounS (i1 : Int) (j1 : Int) a l l2 = ((grounS (i1 : Int) (j1 : Int) a l l2).1, 0)) := ⟨Prod.ext rfl (groun_zero HR.out (by rw [HLL.out.1]) (by rw [HLL.out.2]))⟩
          have HY8 := Aside0.mk (HY1.out.kept hb18.out)
          have HC8 := Aside0.mk (And.intro c0 (And.intro c1 (And.intro c2 (And.intro c3 c4))))
          go_wp2_with fail
          with_reducible refine (groun_named2 W8 i1 j1 A LA EA c lc ec n k m a L E HN.out.1 HN.out.2.1 HN.out.2.2.1 HY8.out A7 A9 i1 j1 c7 c9 l l2 _ 0 _ HGR.out rfl HLL.out.1.symm HLL.out.2.symm HC12.out.1 HC12.out.2).mono ?_
          rintro e W9 ⟨Ag, cg, rfl, kg, hb'⟩
          have HB9 := Aside0.mk hb'
          clear kg
          replace c0 := pw_cell_below hb' c0
          replace c1 := pw_cell_below hb' c1
          replace c2 := pw_cell_below hb' c2
          replace c3 := pw_cell_below hb' c3
          replace c4 := pw_cell_below hb' c4
          clear hb' HGR
          go_upto_region 16 with fail
          go_cut [16] from 21 (fun s16 W => s16 = .int .i64 1 ∧ Aside0 (Below W8.heap.size W8 W))
          case first =>
            have HD := Aside0.mk HB9.out.drew
            have d0 := pw_cell_below (below_alloc HB9.out (.cells #[.int .u64 0] 50)) HC8.out.1
            have d1 := pw_cell_below (below_alloc HB9.out (.cells #[.int .u64 0] 50)) HC8.out.2.1
            have d2 := pw_cell_below (below_alloc HB9.out (.cells #[.int .u64 0] 50)) HC8.out.2.2.1
            have d3 := pw_cell_below (below_alloc HB9.out (.cells #[.int .u64 0] 50)) HC8.out.2.2.2.1
            have d4 := pw_cell_below (below_alloc HB9.out (.cells #[.int .u64 0] 50)) HC8.out.2.2.2.2
            have HLK : Aside0 ((l ++ [0]).length = i1 + 1) := ⟨by rw [List.length_append, HLL.out.1]; rfl⟩
            have HG1 : Aside0 (grounS (i1 : Int) (j1 : Int) a (l ++ [0]) l2 = ([], 1)) := ⟨groun_one HR.out (.inl (by rw [HLK.out]; omega))⟩
            go_region_law (first | (refine step_append_R rfl (Kd.int .u64) W8.heap.size (.const (.slice none 0 0)) (.tmp 107) 41 41 50 50 (.int .u64 0) 8 rfl (by kernel_rfl) (by kernel_rfl) infoU rfl (by decide) (by decide) (.slice none 0 0) [] l A7 i1 c7 (fun _ => True) (fun _ => False) rfl rfl (Kd.R_nil _ _ _ _ _) (Kd.C_below HC12.out.1 ?_) (fun x cs h => h) (fun _ h => h.elim) (fun _ _ => trivial) ?_ ?_ ?_; (first | exact HD.out | exact below_alloc HD.out _); (first | exact HD.out.size | exact (below_alloc HD.out _).size); (simp only [List.length_nil]; omega); (intro v1 w1 HO1 hg1 hat; obtain ⟨A2, c2', rfl⟩ := Kd.R_slice HO1; simp only [List.nil_append, HLL.out.1] at HO1 ⊢; have HBn : Below _ _ w1 := (Below.refl _ _).grown hg1 (Nat.le_refl _) (fun k hk => by simp [Value.ownBlock] at hk); (first | (have HB1 := Aside0.mk (below_step HD.out HBn); have HLIT := Aside0.mk (And.intro trivial trivial)) | (have HB1 := Aside0.mk (below_step (below_alloc HD.out _) HBn); have HLIT := Aside0.mk (Kd.C_below (u64_C (World.drew _) 0) HBn))); have HO2 := Aside0.mk HO1; have k0 := pw_cell_below HB1.out HC8.out.1; have k1 := pw_cell_below HB1.out HC8.out.2.1; have k2 := pw_cell_below HB1.out HC8.out.2.2.1; have k3 := pw_cell_below HB1.out HC8.out.2.2.2.1; have k4 := pw_cell_below HB1.out HC8.out.2.2.2.2; have n0 := pw_cell_below (below_alloc HB1.out (.cells #[.int .u64 0] 50)) HC8.out.1; have n1 := pw_cell_below (below_alloc HB1.out (.cells #[.int .u64 0] 50)) HC8.out.2.1; have n2 := pw_cell_below (below_alloc HB1.out (.cells #[.int .u64 0] 50)) HC8.out.2.2.1; have n3 := pw_cell_below (below_alloc HB1.out (.cells #[.int .u64 0] 50)) HC8.out.2.2.2.1; have n4 := pw_cell_below (below_alloc HB1.out (.cells #[.int .u64 0] 50)) HC8.out.2.2.2.2; clear HO1 hg1 hat HBn)) | (refine step_append_R rfl (Kd.int .u64) W8.heap.size (.tmp 108) (.tmp 109) 41 41 50 50 (.int .u64 0) 8 rfl (by kernel_rfl) (by kernel_rfl) infoU rfl (by decide) (by decide) (.slice A2 i1 c2') l [0] (some ⟨w1.heap.size, 0, none⟩) 1 1 (fun _ => True) (fun _ => False) rfl rfl (Kd.R_below HO2.out (below_alloc (Below.refl _ _) _)) (u64_C w1 0) (fun x cs h => h) (fun _ h => h.elim) (fun _ _ => trivial) (below_alloc HB1.out _).size ?_ ?_; (rw [HLL.out.1]; omega); intro v2 w2 HO3 hg2 hat; obtain ⟨A3, c3', rfl⟩ := Kd.R_slice HO3; simp only [HLK.out] at HO3 ⊢; have HB2 := Aside0.mk ((below_alloc HB1.out _).grown hg2 (below_alloc HB1.out _).size (fun k hk => (Kd.R_bound HO2.out).1 k hk |>.2.1)); have h3 := (Kd.R_reads' HO3).2.2; rw [HLK.out] at h3; have HC3 := Aside0.mk h3; clear h3; have m0 := pw_cell_below HB2.out HC8.out.1; have m1 := pw_cell_below HB2.out HC8.out.2.1; have m2 := pw_cell_below HB2.out HC8.out.2.2.1; have m3 := pw_cell_below HB2.out HC8.out.2.2.2.1; have m4 := pw_cell_below HB2.out HC8.out.2.2.2.2; clear HO3 hg2 hat) | (refine step_append_R rfl (Kd.int .u64) W8.heap.size (.tmp 108) (.tmp 109) 41 41 50 50 (.int .u64 0) 8 rfl (by kernel_rfl) (by kernel_rfl) infoU rfl (by decide) (by decide) (.slice A2 i1 c2') l [0] _ 1 1 (fun _ => True) (fun _ => False) rfl rfl HO2.out HLIT.out (fun x cs h => h) (fun _ h => h.elim) (fun _ _ => trivial) HB1.out.size ?_ ?_; (rw [HLL.out.1]; omega); intro v2 w2 HO3 hg2 hat; obtain ⟨A3, c3', rfl⟩ := Kd.R_slice HO3; simp only [HLK.out] at HO3 ⊢; have HB2 := Aside0.mk ((HB1.out).grown hg2 (HB1.out).size (fun k hk => (Kd.R_bound HO2.out).1 k hk |>.2.1)); have h3 := (Kd.R_reads' HO3).2.2; rw [HLK.out] at h3; have HC3 := Aside0.mk h3; clear h3; have m0 := pw_cell_below HB2.out HC8.out.1; have m1 := pw_cell_below HB2.out HC8.out.2.1; have m2 := pw_cell_below HB2.out HC8.out.2.2.1; have m3 := pw_cell_below HB2.out HC8.out.2.2.2.1; have m4 := pw_cell_below HB2.out HC8.out.2.2.2.2; clear HO3 hg2 hat) | (go_simp; go_at_call 18; (with_reducible refine (groun_named2 _ i1 j1 A LA EA c lc ec n k m a L E HN.out.1 HN.out.2.1 HN.out.2.2.1 (HY8.out.kept HB2.out) A3 A9 (i1 + 1) j1 c3' c9 (l ++ [0]) l2 [] 1 0 HG1.out rfl HLK.out.symm HLL.out.2.symm HC3.out (Kd.C_below HC12.out.2 HB2.out)).mono ?_); rintro e W3 ⟨Ag2, cg2, rfl, kg, hb'⟩; have HB3 := Aside0.mk (below_step HB2.out hb'); clear kg hb'))
            all_goals (go_wp2_with fail; go_meet; exact ⟨rfl, HB3⟩)
          case rest =>
            obtain ⟨rfl, HBc⟩ := hcut
            clear c0 c1 c2 c3 c4
            have c0 := pw_cell_below HBc.out HC8.out.1
            have c1 := pw_cell_below HBc.out HC8.out.2.1
            have c2 := pw_cell_below HBc.out HC8.out.2.2.1
            have c3 := pw_cell_below HBc.out HC8.out.2.2.2.1
            have c4 := pw_cell_below HBc.out HC8.out.2.2.2.2
            clear HB9
            go_upto_region 17 with fail
            go_cut [18] from 21 (fun s18 W => s18 = .int .i64 1 ∧ Aside0 (Below W8.heap.size W8 W))
            case first =>
              have HD := Aside0.mk HBc.out.drew
              have d0 := pw_cell_below (below_alloc HBc.out (.cells #[.int .u64 0] 50)) HC8.out.1
              have d1 := pw_cell_below (below_alloc HBc.out (.cells #[.int .u64 0] 50)) HC8.out.2.1
              have d2 := pw_cell_below (below_alloc HBc.out (.cells #[.int .u64 0] 50)) HC8.out.2.2.1
              have d3 := pw_cell_below (below_alloc HBc.out (.cells #[.int .u64 0] 50)) HC8.out.2.2.2.1
              have d4 := pw_cell_below (below_alloc HBc.out (.cells #[.int .u64 0] 50)) HC8.out.2.2.2.2
              have HLK : Aside0 ((l2 ++ [0]).length = j1 + 1) := ⟨by rw [List.length_append, HLL.out.2]; rfl⟩
              have HG1 : Aside0 (grounS (i1 : Int) (j1 : Int) a l (l2 ++ [0]) = ([], 1)) := ⟨groun_one HR.out (.inr (by rw [HLK.out]; omega))⟩
              go_region_law (first | (refine step_append_R rfl (Kd.int .u64) W8.heap.size (.const (.slice none 0 0)) (.tmp 118) 41 41 50 50 (.int .u64 0) 8 rfl (by kernel_rfl) (by kernel_rfl) infoU rfl (by decide) (by decide) (.slice none 0 0) [] l2 A9 j1 c9 (fun _ => True) (fun _ => False) rfl rfl (Kd.R_nil _ _ _ _ _) (Kd.C_below HC12.out.2 ?_) (fun x cs h => h) (fun _ h => h.elim) (fun _ _ => trivial) ?_ ?_ ?_; (first | exact HD.out | exact below_alloc HD.out _); (first | exact HD.out.size | exact (below_alloc HD.out _).size); (simp only [List.length_nil]; omega); (intro v1 w1 HO1 hg1 hat; obtain ⟨A2, c2', rfl⟩ := Kd.R_slice HO1; simp only [List.nil_append, HLL.out.2] at HO1 ⊢; have HBn : Below _ _ w1 := (Below.refl _ _).grown hg1 (Nat.le_refl _) (fun k hk => by simp [Value.ownBlock] at hk); (first | (have HB1 := Aside0.mk (below_step HD.out HBn); have HLIT := Aside0.mk (And.intro trivial trivial)) | (have HB1 := Aside0.mk (below_step (below_alloc HD.out _) HBn); have HLIT := Aside0.mk (Kd.C_below (u64_C (World.drew _) 0) HBn))); have HO2 := Aside0.mk HO1; have k0 := pw_cell_below HB1.out HC8.out.1; have k1 := pw_cell_below HB1.out HC8.out.2.1; have k2 := pw_cell_below HB1.out HC8.out.2.2.1; have k3 := pw_cell_below HB1.out HC8.out.2.2.2.1; have k4 := pw_cell_below HB1.out HC8.out.2.2.2.2; have n0 := pw_cell_below (below_alloc HB1.out (.cells #[.int .u64 0] 50)) HC8.out.1; have n1 := pw_cell_below (below_alloc HB1.out (.cells #[.int .u64 0] 50)) HC8.out.2.1; have n2 := pw_cell_below (below_alloc HB1.out (.cells #[.int .u64 0] 50)) HC8.out.2.2.1; have n3 := pw_cell_below (below_alloc HB1.out (.cells #[.int .u64 0] 50)) HC8.out.2.2.2.1; have n4 := pw_cell_below (below_alloc HB1.out (.cells #[.int .u64 0] 50)) HC8.out.2.2.2.2; clear HO1 hg1 hat HBn)) | (refine step_append_R rfl (Kd.int .u64) W8.heap.size (.tmp 119) (.tmp 120) 41 41 50 50 (.int .u64 0) 8 rfl (by kernel_rfl) (by kernel_rfl) infoU rfl (by decide) (by decide) (.slice A2 j1 c2') l2 [0] (some ⟨w1.heap.size, 0, none⟩) 1 1 (fun _ => True) (fun _ => False) rfl rfl (Kd.R_below HO2.out (below_alloc (Below.refl _ _) _)) (u64_C w1 0) (fun x cs h => h) (fun _ h => h.elim) (fun _ _ => trivial) (below_alloc HB1.out _).size ?_ ?_; (rw [HLL.out.2]; omega); intro v2 w2 HO3 hg2 hat; obtain ⟨A3, c3', rfl⟩ := Kd.R_slice HO3; simp only [HLK.out] at HO3 ⊢; have HB2 := Aside0.mk ((below_alloc HB1.out _).grown hg2 (below_alloc HB1.out _).size (fun k hk => (Kd.R_bound HO2.out).1 k hk |>.2.1)); have h3 := (Kd.R_reads' HO3).2.2; rw [HLK.out] at h3; have HC3 := Aside0.mk h3; clear h3; have m0 := pw_cell_below HB2.out HC8.out.1; have m1 := pw_cell_below HB2.out HC8.out.2.1; have m2 := pw_cell_below HB2.out HC8.out.2.2.1; have m3 := pw_cell_below HB2.out HC8.out.2.2.2.1; have m4 := pw_cell_below HB2.out HC8.out.2.2.2.2; clear HO3 hg2 hat) | (refine step_append_R rfl (Kd.int .u64) W8.heap.size (.tmp 119) (.tmp 120) 41 41 50 50 (.int .u64 0) 8 rfl (by kernel_rfl) (by kernel_rfl) infoU rfl (by decide) (by decide) (.slice A2 j1 c2') l2 [0] _ 1 1 (fun _ => True) (fun _ => False) rfl rfl HO2.out HLIT.out (fun x cs h => h) (fun _ h => h.elim) (fun _ _ => trivial) HB1.out.size ?_ ?_; (rw [HLL.out.2]; omega); intro v2 w2 HO3 hg2 hat; obtain ⟨A3, c3', rfl⟩ := Kd.R_slice HO3; simp only [HLK.out] at HO3 ⊢; have HB2 := Aside0.mk ((HB1.out).grown hg2 (HB1.out).size (fun k hk => (Kd.R_bound HO2.out).1 k hk |>.2.1)); have h3 := (Kd.R_reads' HO3).2.2; rw [HLK.out] at h3; have HC3 := Aside0.mk h3; clear h3; have m0 := pw_cell_below HB2.out HC8.out.1; have m1 := pw_cell_below HB2.out HC8.out.2.1; have m2 := pw_cell_below HB2.out HC8.out.2.2.1; have m3 := pw_cell_below HB2.out HC8.out.2.2.2.1; have m4 := pw_cell_below HB2.out HC8.out.2.2.2.2; clear HO3 hg2 hat) | (go_simp; go_at_call 18; (with_reducible refine (groun_named2 _ i1 j1 A LA EA c lc ec n k m a L E HN.out.1 HN.out.2.1 HN.out.2.2.1 (HY8.out.kept HB2.out) A7 A3 i1 (j1 + 1) c7 c3' l (l2 ++ [0]) [] 1 0 HG1.out rfl HLL.out.1.symm HLK.out.symm (Kd.C_below HC12.out.1 HB2.out) HC3.out).mono ?_); rintro e W3 ⟨Ag2, cg2, rfl, kg, hb'⟩; have HB3 := Aside0.mk (below_step HB2.out hb'); clear kg hb'))
              all_goals (go_wp2_with fail; go_meet; exact ⟨rfl, HB3⟩)
            case rest =>
              obtain ⟨rfl, HBe⟩ := hcut
              clear c0 c1 c2 c3 c4 HBc
              have c0 := pw_cell_below HBe.out HC8.out.1
              have c1 := pw_cell_below HBe.out HC8.out.2.1
              have c2 := pw_cell_below HBe.out HC8.out.2.2.1
              have c3 := pw_cell_below HBe.out HC8.out.2.2.2.1
              have c4 := pw_cell_below HBe.out HC8.out.2.2.2.2
              have HBT := Aside0.mk (below_step HB1.out (hb18.out.trans (HBe.out.mono hb18.out.size)))
              have HAL : Aside0 (∀ W, Below w.heap.size w W → Calls Tryd.prog 17 #[] W fun e w' => e = .returned (.bool true) ∧ Below W.heap.size W w') := ⟨fun W hb => alive12_calls _ ⟨tab_below hb HT.out⟩⟩
              rcases Nat.eq_zero_or_pos i1 with hz | hz
              · subst hz
                go_wp2_with (go_at_call 17; (with_reducible refine (HAL.out _ HBT.out).mono ?_); rintro e W' ⟨rfl, hb'⟩; have HB' := Aside0.mk (below_step HBT.out hb'); clear hb')
                go_ret
                exact ⟨rfl, HB'.out⟩
              · have y0 : decide (0 < (i1 : Int)) = true := decide_eq_true (by omega)
                obtain ⟨ad, rfl, -⟩ := HC12.out.1.2.2 hz
                have hcap : i1 ≤ c7 := (Kd.R_reads' HO7.out.2).2.1
                obtain ⟨AS, hsl, hAS⟩ := slice_one ad i1 c7 hz hcap
                have hsl2 : ∀ W, (Instr.slice 41 (.slice (some ad) i1 c7) (some (.int .i64 1)) none none).run Tryd.prog W = .ok (.slice AS (i1 - 1) (c7 - 1)) W := fun W => by
                  rw [← hsl W]
                  exact (run_sliceAt_slice _ _ _ _ _ _ (by kernel_rfl)).symm
                have HCS := Aside0.mk (slice_one_C HC12.out.1 hz hAS)
                have HLS : Aside0 ((l.drop 1).length = i1 - 1) := ⟨by rw [List.length_drop, HLL.out.1]⟩
                have HGS : Aside0 (grounS (i1 : Int) (j1 : Int) a (l.drop 1) l2 = ([], 1)) := ⟨groun_one HR.out (.inl (by rw [HLS.out]; omega))⟩
                have HBF := Aside0.mk HBe.out.drew
                have HBT2 := Aside0.mk (below_step HB1.out (hb18.out.trans (HBF.out.mono hb18.out.size)))
                clear hAS hcap
                go_upto_region 21 with fail
                go_region_with (go_at_call 18; (with_reducible refine (groun_named2 _ i1 j1 A LA EA c lc ec n k m a L E HN.out.1 HN.out.2.1 HN.out.2.2.1 (HY8.out.kept HBF.out) AS A9 (i1 - 1) j1 (c7 - 1) c9 (l.drop 1) l2 [] 1 0 HGS.out rfl HLS.out.symm HLL.out.2.symm (Kd.C_below HCS.out HBF.out) (Kd.C_below HC12.out.2 HBF.out)).mono ?_); rintro e W3 ⟨Ag2, cg2, rfl, kg, hb'⟩; have HB3 := Aside0.mk (below_step HBT2.out hb'); clear kg hb')
                all_goals (go_wp2_with (go_at_call 17; (with_reducible refine (HAL.out _ HB3.out).mono ?_); rintro e W' ⟨rfl, hb'⟩; have HB' := Aside0.mk (below_step HB3.out hb'); clear hb'))
                all_goals (go_ret; exact ⟨rfl, HB'.out⟩)
end L12
end Go.Proofs.YtjndjmggilcngaaDoor
