/- The statements of layer 12: of, great, one, alive; their arguments. -/
import Derived.Test.YtjndjmggilcngaaGreatDoorL09A
import Derived.Test.YtjndjmggilcngaaGreatDoorSg

namespace Go.Proofs.YtjndjmggilcngaaGreatDoor
open Go.RowKit Go.Proofs.YtjndjmggilcngaaGreatDoorW.PrintWords Go.Proofs.YtjndjmggilcngaaGreatDoorW.PrintLast Go.Proofs.YtjndjmggilcngaaGreatDoorW.PrintMore
set_option linter.unusedVariables false
set_option linter.unusedSimpArgs false
namespace L12
open L09
/-! ### arguments -/
theorem arg_sorts12 {H : Type} {enc : TypeId × Value → H} {w : World} {v : Value} {x : DataW H} {ps : List MemPlace} (hs : ∃ cs, v = .agg cs) (hx : DataW.Trod enc Tryz.prog w 0 (fun _ => true) true 84 v x ps) (hL : Light Tryz.prog 84 x) : ∃ y : SortsY, v = y.v ∧ y.ok w := by
  obtain ⟨cs, y, rfl, hK, hw⟩ := arg_agg (d := Kd.pair (Kd.slice 0 (Kd.int .u64)) (Kd.int .i64)) (opens_struct (l := [(50, 0), (3, 1)]) (by kernel_rfl) (by kernel_rfl) (from_cons (by kernel_rfl) rfl (opens_slice 0 Tryz.underlying50 (by kernel_rfl) (opens_int Tryz.underlying119)) (from_last (by kernel_rfl) (opens_int Tryz.underlying3)))) hs hx hL
  obtain ⟨c1, c2, e, k1, k2⟩ := K_pair hK
  obtain ⟨A, c, rfl, hl, hC⟩ := K_slice k1
  have k3 : c2 = [.int .i64 y.2] := k2
  subst k3
  refine ⟨⟨A, c, y.1, y.2⟩, ?_, hl, hC, fun r hr => u64_wf (hw.1.1 r hr), hw.2⟩
  show Value.agg cs = _
  rw [← Array.toArray_toList (xs := cs), e]
  rfl
theorem opens_bound : Opens Tryz.prog 156 kBound Bound.wf :=
  Opens.imp (opens_iso (fun b : Bound => (b.f0, b.f1)) (fun p => ⟨p.1, p.2⟩) (fun _ => rfl)
    (opens_struct (l := [(121, 0), (121, 2)]) (by kernel_rfl) (by kernel_rfl) (from_cons (by kernel_rfl) rfl opens_term (from_last (by kernel_rfl) opens_term)))) fun x h => h
theorem opens_bounds : Opens Tryz.prog 78 (Kd.slice 0 kBound) (fun xs => (∀ x ∈ xs, Bound.wf x) ∧ xs.length * Tryz.prog.bytesOf 156 ≤ 140737488351232) := opens_slice 0 Tryz.underlying78 (by kernel_rfl) opens_bound
theorem arg_scheme {H : Type} {enc : TypeId × Value → H} {w : World} {v : Value} {x : DataW H} {ps : List MemPlace} (hs : ∃ cs, v = .agg cs) (hx : DataW.Trod enc Tryz.prog w 0 (fun _ => true) true 80 v x ps) (hL : Light Tryz.prog 80 x) : ∃ y : SchY, v = y.v ∧ y.ok w := by
  obtain ⟨cs, y, rfl, hK, hw⟩ := arg_agg (d := Kd.pair (Kd.int .i64) (Kd.pair (Kd.int .i64) (Kd.pair (Kd.slice 0 kNode) (Kd.pair (Kd.slice 0 kBound) (Kd.slice 0 kBound))))) (opens_struct (l := [(3, 0), (3, 1), (49, 2), (78, 3), (78, 4)]) (by kernel_rfl) (by kernel_rfl)
    (from_cons (by kernel_rfl) rfl (opens_int Tryz.underlying3) (from_cons (by kernel_rfl) rfl (opens_int Tryz.underlying3) (from_cons (by kernel_rfl) rfl opens_nodes (from_cons (by kernel_rfl) rfl opens_bounds (from_last (by kernel_rfl) opens_bounds)))))) hs hx hL
  obtain ⟨c1, c2, e, k1, k2⟩ := K_pair hK
  obtain ⟨c3, c4, rfl, k3, k4⟩ := K_pair k2
  obtain ⟨c5, c6, rfl, k5, k6⟩ := K_pair k4
  obtain ⟨c7, c8, rfl, k7, k8⟩ := K_pair k6
  have e1 : c1 = [.int .i64 y.1] := k1
  have e3 : c3 = [.int .i64 y.2.1] := k3
  subst e1 e3
  obtain ⟨A, a, rfl, ha, hA⟩ := K_slice k5
  obtain ⟨B, b, rfl, hb, hB⟩ := K_slice k7
  obtain ⟨C, c, rfl, hc, hC⟩ := K_slice k8
  refine ⟨⟨y.1, y.2.1, A, a, y.2.2.1, B, b, y.2.2.2.1, C, c, y.2.2.2.2⟩, ?_, ⟨hA, hw.2.2.1.1, hB, hw.2.2.2.1.1, hC, hw.2.2.2.2.1, hw.1, hw.2.1⟩⟩
  show Value.agg cs = _
  rw [← Array.toArray_toList (xs := cs), e]
  rfl
/-! ### of, great, one -/
set_option maxRecDepth 100000 in
set_option maxHeartbeats 4000000 in
theorem of12_calls (w : World) (A : Option Addr) (c n : Nat) (rows : List Int) (m : Int) (hn : n = rows.length) (hr : (Kd.int .u64).C w A n rows) (hU : U64s rows) (HT : Aside0 (TabAt 5 Lib.deBruijn64tab w)) :
    Calls Tryz.prog 37 #[.agg #[.slice A n c, .int .i64 m]] w fun e w' => Below w.heap.size w w' ∧ ∃ v1 v2, e = .returned (.tuple #[.iface 54 v1, .iface 55 v2]) ∧ LatV w' v1 (latO rows) ∧ EffV w' v2 (effO m) := by
  have HR := Aside0.mk hr
  have HU := Aside0.mk hU
  have HN := Aside0.mk hn
  obtain ⟨O, hO⟩ : ∃ O : Obj, O = .cells #[.slice A n c, .int .i64 m] 84 := ⟨_, rfl⟩
  have HB := Aside0.mk (below_alloc (Below.refl w.heap.size w) O)
  have hm : (w.alloc O).cell? ⟨w.heap.size, 1, none⟩ = some (.int .i64 m) := by rw [hO]; exact blk_cell (blk_new w _) 1
  have HM := Aside0.mk hm
  subst hO
  clear hr hU hn hm
  go_enter Tryz.func37, Tryz.ntmps37
  go_wp2_with fail
  refine (new_calls _ A c n rows HN.out (Kd.C_below HR.out HB.out) HU.out ⟨tab_below HB.out HT.out⟩).mono ?_
  rintro e W1 ⟨hb1, v1, z1, rfl, hl⟩
  have hm1 := pw_cell_below hb1 HM.out
  have HB1 := Aside0.mk (below_step HB.out hb1)
  have HL := Aside0.mk hl
  clear hb1 hl
  go_wp2_with fail
  refine (effNew_calls _ m).mono ?_
  rintro e W2 ⟨hb2, v2, z2, rfl, hx⟩
  have HB2 := Aside0.mk (below_step HB1.out hb2)
  have HL2 := Aside0.mk (HL.out.kept hb2)
  have HX := Aside0.mk hx
  clear hb2 hx
  go_wp2
  go_ret2
  exact ⟨HB2.out, _, _, rfl, HL2.out, HX.out⟩
/-- great, of a scheme's lengths. -/
theorem great12_calls (w : World) (lv ev : Int) (A B C D : Option Addr) (a b c f n k l q : Nat) (m : Int) : Calls Tryz.prog 32 #[.agg #[.int .i64 lv, .int .i64 ev, .slice A n a, .slice B k b, .slice C l c], .agg #[.slice D q f, .int .i64 m]] w fun e w' => e = .returned (.bool (decide (64 < q ∨ 200 < n ∨ 300 < k ∨ 300 < l))) ∧ Below w.heap.size w w' := by
  have HB := Aside0.mk (below_alloc (below_alloc (Below.refl w.heap.size w) (.cells #[.int .i64 lv, .int .i64 ev, .slice A n a, .slice B k b, .slice C l c] 80)) (.cells #[.slice D q f, .int .i64 m] 84))
  obtain ⟨r, hr⟩ : ∃ r, r = decide (64 < q ∨ 200 < n ∨ 300 < k ∨ 300 < l) := ⟨_, rfl⟩
  rw [← hr]
  have HR := Aside0.mk hr
  clear hr
  by_cases h1 : 64 < q
  · have z1 : decide (64 < (q : Int)) = true := decide_eq_true (by omega)
    have HE : Aside0 (r = true) := ⟨HR.out.trans (decide_eq_true (.inl h1))⟩
    clear h1
    go_enter Tryz.func32, Tryz.ntmps32
    go_wp2
    go_ret
    rw [HE.out]
    exact ⟨rfl, HB.out⟩
  have z1 : decide (64 < (q : Int)) = false := decide_eq_false (by omega)
  by_cases h2 : 200 < n
  · have z2 : decide (200 < (n : Int)) = true := decide_eq_true (by omega)
    have HE : Aside0 (r = true) := ⟨HR.out.trans (decide_eq_true (.inr (.inl h2)))⟩
    clear h1 h2
    go_enter Tryz.func32, Tryz.ntmps32
    go_wp2
    go_ret
    rw [HE.out]
    exact ⟨rfl, HB.out⟩
  have z2 : decide (200 < (n : Int)) = false := decide_eq_false (by omega)
  by_cases h3 : 300 < k
  · have z3 : decide (300 < (k : Int)) = true := decide_eq_true (by omega)
    have HE : Aside0 (r = true) := ⟨HR.out.trans (decide_eq_true (.inr (.inr (.inl h3))))⟩
    clear h1 h2 h3
    go_enter Tryz.func32, Tryz.ntmps32
    go_wp2
    go_ret
    rw [HE.out]
    exact ⟨rfl, HB.out⟩
  have z3 : decide (300 < (k : Int)) = false := decide_eq_false (by omega)
  have HE : Aside0 (r = decide (300 < (l : Int))) := ⟨HR.out.trans (decide_eq_decide.2 (by omega))⟩
  clear h1 h2 h3
  go_enter Tryz.func32, Tryz.ntmps32
  go_wp2
  go_ret
  rw [HE.out]
  exact ⟨rfl, HB.out⟩
def oneY (vars : Int) (A : Option Addr) (c : Nat) : SchY := ⟨vars, 0, A, c, [varN], none, 0, [], none, 0, []⟩
theorem one_calls (w : World) (vars : Int) (hv : (Lit.int .i64 vars).wf = true) : Calls Tryz.prog 118 #[.int .i64 vars] w fun e w' => ∃ A c, e = .returned (oneY vars A c).v ∧ (oneY vars A c).ok w' ∧ Below w.heap.size w w' := by
  obtain ⟨O, hO⟩ : ∃ O : Obj, O = .cells #[.int .i64 vars, .int .i64 0, .slice (some ⟨w.heap.size + 1, 0, none⟩) 1 1, .slice none 0 0, .slice none 0 0] 80 := ⟨_, rfl⟩
  have HC := Aside0.mk (lit_C (w.alloc O) [varN] (show 1 ≤ maxLen by decide))
  have HB := Aside0.mk (below_alloc (below_alloc (Below.refl w.heap.size w) O) (.cells ([varN].flatMap nodeC).toArray 123))
  rw [World.size_alloc] at HC
  subst hO
  go_enter Tryz.func118, Tryz.ntmps118
  go_wp2
  refine bodyPost_ret (v := (oneY vars (some ⟨w.heap.size + 1, 0, none⟩) 1).v) ?_ rfl ⟨_, _, rfl, ⟨HC.out, wf_all [varN] (by decide +kernel), Kd.C_nil _ _, (fun b hb => by cases hb), Kd.C_nil _ _, (fun b hb => by cases hb), hv, by show (Lit.int .i64 0).wf = true; decide +kernel⟩, HB.out⟩
  simp [results, Tryz.f118, go_sem, oneY, SchY.v]
theorem groun_named (w : World) (y : SchY) (hy : y.ok w) (B1 B2 : Option Addr) (m1 m2 f1 f2 : Nat) (ls xs : List Int) (r : List Node × Int) (hr : grounS y.lv y.ev y.body ls xs = r) (hm1 : m1 = ls.length) (hm2 : m2 = xs.length) (hl1 : (Kd.int .u64).C w B1 m1 ls) (hl2 : (Kd.int .u64).C w B2 m2 xs) :
    Calls Tryz.prog 34 #[y.v, .slice B1 m1 f1, .slice B2 m2 f2] w fun e w' => ∃ A' c', e = .returned (.tuple #[.slice A' r.1.length c', .int .i64 r.2]) ∧ kNode.C w' A' r.1.length r.1 ∧ Below w.heap.size w w' := by
  refine (groun_calls w y hy B1 B2 m1 m2 f1 f2 ls xs hm1 hm2 hl1 hl2).mono ?_
  rw [hr]
  rintro e w' ⟨A', n', c', rfl, rfl, hc, hb⟩
  exact ⟨A', c', rfl, hc, hb⟩
theorem g1 (A : Option Addr) (c : Nat) : grounS (oneY 1 A c).lv (oneY 1 A c).ev (oneY 1 A c).body [1] [] = ([wN 1], 0) := by kernel_rfl
theorem g2 (A : Option Addr) (c : Nat) : grounS (oneY 1 A c).lv (oneY 1 A c).ev (oneY 1 A c).body [] [] = ([], 1) := by kernel_rfl
theorem g3 (A : Option Addr) (c : Nat) : grounS (oneY 1 A c).lv (oneY 1 A c).ev (oneY 1 A c).body [7] [] = ([wN 7], 0) := by kernel_rfl
theorem s1 (A : Option Addr) (c : Nat) : sOf oL oX (oneY 1 A c) = 0 := by kernel_rfl
theorem s2 (A : Option Addr) (c : Nat) : sOf oL oX (oneY 0 A c) = 1 := by kernel_rfl
theorem check_one12 (w : World) (A : Option Addr) (c : Nat) (vars r : Int) (hs : sOf oL oX (oneY vars A c) = r) (hy : (oneY vars A c).ok w) (v1 v2 : Value) (hv1 : LatV w v1 oL) (hv2 : EffV w v2 oX) :
    Calls Tryz.prog 40 #[(oneY vars A c).v, .iface 54 v1, .iface 55 v2] w fun e w' => e = .returned (.int .i64 r) ∧ Below w.heap.size w w' := by
  rw [← hs]
  exact scheme_calls w _ hy v1 v2 oL oX hv1 hv2
attribute [local go_sem high] eqTerm
set_option maxRecDepth 100000 in
set_option maxHeartbeats 8000000 in
theorem alive12_calls (w : World) (HT : Aside0 (TabAt 5 Lib.deBruijn64tab w)) : Calls Tryz.prog 33 #[] w fun e w' => e = .returned (.bool true) ∧ Below w.heap.size w w' := by
  have HB0 := Aside0.mk (below_alloc (Below.refl w.heap.size w) (.cells ([3, 2].map (Value.int .u64)).toArray 119))
  have HC0 := Aside0.mk (litU w [3, 2] (by decide))
  have HU : Aside0 (U64s [3, 2]) := ⟨fun r hr => by simp at hr; rcases hr with rfl | rfl <;> decide⟩
  go_enter Tryz.func33, Tryz.ntmps33
  go_wp2_with fail
  refine (of12_calls _ _ 2 2 [3, 2] 0 rfl HC0.out HU.out ⟨tab_below HB0.out HT.out⟩).mono ?_
  rintro e W0 ⟨hb', v1, v2, rfl, hl, hx⟩
  rw [latO_two] at hl
  rw [effO_zero] at hx
  have HB := Aside0.mk (below_step HB0.out hb')
  have HL := Aside0.mk hl
  have HX := Aside0.mk hx
  clear hb' hl hx HB0 HC0 HU
  go_wp2_with fail
  refine (one_calls _ 1 (by decide +kernel)).mono ?_
  rintro e W1 ⟨B1, d1, rfl, y1, hb'⟩
  have HB' := Aside0.mk (below_step HB.out hb')
  have HL' := Aside0.mk (HL.out.kept hb')
  have HX' := Aside0.mk (HX.out.kept hb')
  clear HB HL HX
  have HB := HB'
  have HL := HL'
  have HX := HX'
  clear HB' HL' HX'
  clear hb'
  simp only [oneY, SchY.v]
  have kl := litU W1 [1] (by decide)
  have hba := below_alloc (Below.refl W1.heap.size W1) (.cells ([1].map (Value.int .u64)).toArray 119)
  have HB' := Aside0.mk (below_step HB.out hba)
  clear HB
  have HB := HB'
  clear HB'
  have HL' := Aside0.mk (HL.out.kept hba)
  have HX' := Aside0.mk (HX.out.kept hba)
  clear HL HX
  have HL := HL'
  have HX := HX'
  clear HL' HX'
  go_wp2_with fail
  refine (groun_named _ (oneY 1 B1 d1) (y1.kept hba) (some ⟨W1.heap.size, 0, none⟩) none 1 0 1 0 [1] [] _ (g1 B1 d1) rfl rfl kl (Kd.C_nil _ _)).mono ?_
  rintro e W2 ⟨A1, e1, rfl, ka, hb'⟩
  have HB' := Aside0.mk (below_step HB.out hb')
  have HL' := Aside0.mk (HL.out.kept hb')
  have HX' := Aside0.mk (HX.out.kept hb')
  clear HB HL HX
  have HB := HB'
  have HL := HL'
  have HX := HX'
  clear HB' HL' HX'
  clear hb' hba kl y1
  go_wp2_with fail
  refine (one_calls _ 1 (by decide +kernel)).mono ?_
  rintro e W3 ⟨B2, d2, rfl, y2, hb'⟩
  have HB' := Aside0.mk (below_step HB.out hb')
  have HL' := Aside0.mk (HL.out.kept hb')
  have HX' := Aside0.mk (HX.out.kept hb')
  clear HB HL HX
  have HB := HB'
  have HL := HL'
  have HX := HX'
  clear HB' HL' HX'
  replace ka := Kd.C_below ka hb'
  clear hb'
  simp only [oneY, SchY.v]
  go_wp2_with fail
  refine (groun_named _ (oneY 1 B2 d2) y2 none none 0 0 0 0 [] [] _ (g2 B2 d2) rfl rfl (Kd.C_nil _ _) (Kd.C_nil _ _)).mono ?_
  rintro e W4 ⟨A2, e2, rfl, kx, hb'⟩
  have HB' := Aside0.mk (below_step HB.out hb')
  have HL' := Aside0.mk (HL.out.kept hb')
  have HX' := Aside0.mk (HX.out.kept hb')
  clear HB HL HX
  have HB := HB'
  have HL := HL'
  have HX := HX'
  clear HB' HL' HX'
  replace ka := Kd.C_below ka hb'
  clear hb' kx y2
  go_wp2_with fail
  refine (one_calls _ 1 (by decide +kernel)).mono ?_
  rintro e W5 ⟨B3, d3, rfl, y3, hb'⟩
  have HB' := Aside0.mk (below_step HB.out hb')
  have HL' := Aside0.mk (HL.out.kept hb')
  have HX' := Aside0.mk (HX.out.kept hb')
  clear HB HL HX
  have HB := HB'
  have HL := HL'
  have HX := HX'
  clear HB' HL' HX'
  replace ka := Kd.C_below ka hb'
  clear hb'
  simp only [oneY, SchY.v]
  have kl := litU W5 [7] (by decide)
  have hba := below_alloc (Below.refl W5.heap.size W5) (.cells ([7].map (Value.int .u64)).toArray 119)
  have HB' := Aside0.mk (below_step HB.out hba)
  clear HB
  have HB := HB'
  clear HB'
  have HL' := Aside0.mk (HL.out.kept hba)
  have HX' := Aside0.mk (HX.out.kept hba)
  clear HL HX
  have HL := HL'
  have HX := HX'
  clear HL' HX'
  replace ka := Kd.C_below ka hba
  go_wp2_with fail
  refine (groun_named _ (oneY 1 B3 d3) (y3.kept hba) (some ⟨W5.heap.size, 0, none⟩) none 1 0 1 0 [7] [] _ (g3 B3 d3) rfl rfl kl (Kd.C_nil _ _)).mono ?_
  rintro e W6 ⟨A3, e3, rfl, kb, hb'⟩
  have HB' := Aside0.mk (below_step HB.out hb')
  have HL' := Aside0.mk (HL.out.kept hb')
  have HX' := Aside0.mk (HX.out.kept hb')
  clear HB HL HX
  have HB := HB'
  have HL := HL'
  have HX := HX'
  clear HB' HL' HX'
  replace ka := Kd.C_below ka hb'
  clear hb' hba kl y3
  go_wp2_with fail
  refine (one_calls _ 1 (by decide +kernel)).mono ?_
  rintro e W7 ⟨B7, d7, rfl, y7, hb'⟩
  have HB' := Aside0.mk (below_step HB.out hb')
  have HL' := Aside0.mk (HL.out.kept hb')
  have HX' := Aside0.mk (HX.out.kept hb')
  clear HB HL HX
  have HB := HB'
  have HL := HL'
  have HX := HX'
  clear HB' HL' HX'
  replace ka := Kd.C_below ka hb'
  replace kb := Kd.C_below kb hb'
  clear hb'
  simp only [oneY, SchY.v]
  go_wp2_with fail
  refine (check_one12 _ B7 d7 1 _ (s1 B7 d7) y7 v1 v2 HL.out HX.out).mono ?_
  rintro e W8 ⟨rfl, hb'⟩
  have HB' := Aside0.mk (below_step HB.out hb')
  have HL' := Aside0.mk (HL.out.kept hb')
  have HX' := Aside0.mk (HX.out.kept hb')
  clear HB HL HX
  have HB := HB'
  have HL := HL'
  have HX := HX'
  clear HB' HL' HX'
  replace ka := Kd.C_below ka hb'
  replace kb := Kd.C_below kb hb'
  clear hb' y7
  go_wp2_with fail
  refine (one_calls _ 0 (by decide +kernel)).mono ?_
  rintro e W9 ⟨B9, d9, rfl, y9, hb'⟩
  have HB' := Aside0.mk (below_step HB.out hb')
  have HL' := Aside0.mk (HL.out.kept hb')
  have HX' := Aside0.mk (HX.out.kept hb')
  clear HB HL HX
  have HB := HB'
  have HL := HL'
  have HX := HX'
  clear HB' HL' HX'
  replace ka := Kd.C_below ka hb'
  replace kb := Kd.C_below kb hb'
  clear hb'
  simp only [oneY, SchY.v]
  go_wp2_with fail
  refine (check_one12 _ B9 d9 0 _ (s2 B9 d9) y9 v1 v2 HL.out HX.out).mono ?_
  rintro e W10 ⟨rfl, hb'⟩
  have HB' := Aside0.mk (below_step HB.out hb')
  have HL' := Aside0.mk (HL.out.kept hb')
  have HX' := Aside0.mk (HX.out.kept hb')
  clear HB HL HX
  have HB := HB'
  have HL := HL'
  have HX := HX'
  clear HB' HL' HX'
  replace ka := Kd.C_below ka hb'
  replace kb := Kd.C_below kb hb'
  clear hb' y9
  obtain ⟨ad, rfl, -, -, -, -, a4, a5, -⟩ := C_nodeN ka 0 (by decide)
  obtain ⟨bd, rfl, -, -, -, -, b4, b5, -⟩ := C_nodeN kb 0 (by decide)
  rw [Nat.zero_mul, add_zero] at a4 a5 b4 b5
  clear ka kb
  simp only [wN, List.getElem_cons_zero] at a4 a5 b4 b5
  go_wp2
  go_ret
  exact ⟨rfl, HB.out⟩
end L12
end Go.Proofs.YtjndjmggilcngaaGreatDoor
