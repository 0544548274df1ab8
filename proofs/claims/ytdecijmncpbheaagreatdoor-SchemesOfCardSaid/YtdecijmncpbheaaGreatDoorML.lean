
/- Several texts as one: L12A, L12D, L12O. -/
import Derived.Test.YtdecijmncpbheaaGreatDoorM9
import Derived.Test.YtdecijmncpbheaaGreatDoorMS
import Derived.Test.YtdecijmncpbheaaGreatDoorMQ
import Derived.Test.YtdecijmncpbheaaGreatDoorMR
import Derived.Test.YtdecijmncpbheaaGreatDoorMT
import Derived.Test.YtdecijmncpbheaaGreatDoorMKK
import Derived.Test.YtdecijmncpbheaaGreatDoorM8
import Derived.LaidMore
import Derived.OpenShut
import Derived.Stop.LaidErr

namespace Go.Proofs.YtdecijmncpbheaaGreatDoor
open Go.RowKit Go.Proofs.YtdecijmncpbheaaGreatDoorW.PrintWords Go.Proofs.YtdecijmncpbheaaGreatDoorW.PrintLast Go.Proofs.YtdecijmncpbheaaGreatDoorW.PrintMore
set_option linter.unusedVariables false
set_option linter.unusedSimpArgs false
namespace L12
open L09
/-! ### arguments -/
theorem arg_sorts12 {H : Type} {enc : TypeId × Value → H} {w : World} {v : Value} {x : DataW H} {ps : List MemPlace} (hs : ∃ cs, v = .agg cs) (hx : DataW.Trod enc Tryz.prog w 0 (fun _ => true) true 28 v x ps) (hL : Light Tryz.prog 28 x) : ∃ y : SortsY, v = y.v ∧ y.ok w := by
  obtain ⟨cs, y, rfl, hK, hw⟩ := arg_agg (d := Kd.pair (Kd.slice 0 (Kd.int .u64)) (Kd.int .i64)) (opens_struct (l := [(26, 0), (3, 1)]) (by kernel_rfl) (by kernel_rfl) (from_cons (by kernel_rfl) rfl (opens_slice 0 Tryz.underlying26 (by kernel_rfl) (opens_int Tryz.underlying91)) (from_last (by kernel_rfl) (opens_int Tryz.underlying3)))) hs hx hL
  obtain ⟨c1, c2, e, k1, k2⟩ := K_pair hK
  obtain ⟨A, c, rfl, hl, hC⟩ := K_slice k1
  have k3 : c2 = [.int .i64 y.2] := k2
  subst k3
  refine ⟨⟨A, c, y.1, y.2⟩, ?_, hl, hC, fun r hr => u64_wf (hw.1.1 r hr), hw.2⟩
  show Value.agg cs = _
  rw [← Array.toArray_toList (xs := cs), e]
  rfl
theorem opens_bound : Opens Tryz.prog 104 kBound Bound.wf :=
  Opens.imp (opens_iso (fun b : Bound => (b.f0, b.f1)) (fun p => ⟨p.1, p.2⟩) (fun _ => rfl)
    (opens_struct (l := [(100, 0), (100, 2)]) (by kernel_rfl) (by kernel_rfl) (from_cons (by kernel_rfl) rfl opens_term (from_last (by kernel_rfl) opens_term)))) fun x h => h
theorem opens_bounds : Opens Tryz.prog 23 (Kd.slice 0 kBound) (fun xs => (∀ x ∈ xs, Bound.wf x) ∧ xs.length * Tryz.prog.bytesOf 104 ≤ 140737488351232) := opens_slice 0 Tryz.underlying23 (by kernel_rfl) opens_bound
theorem arg_scheme {H : Type} {enc : TypeId × Value → H} {w : World} {v : Value} {x : DataW H} {ps : List MemPlace} (hs : ∃ cs, v = .agg cs) (hx : DataW.Trod enc Tryz.prog w 0 (fun _ => true) true 25 v x ps) (hL : Light Tryz.prog 25 x) : ∃ y : SchY, v = y.v ∧ y.ok w := by
  obtain ⟨cs, y, rfl, hK, hw⟩ := arg_agg (d := Kd.pair (Kd.int .i64) (Kd.pair (Kd.int .i64) (Kd.pair (Kd.slice 0 kNode) (Kd.pair (Kd.slice 0 kBound) (Kd.slice 0 kBound))))) (opens_struct (l := [(3, 0), (3, 1), (22, 2), (23, 3), (23, 4)]) (by kernel_rfl) (by kernel_rfl)
    (from_cons (by kernel_rfl) rfl (opens_int Tryz.underlying3) (from_cons (by kernel_rfl) rfl (opens_int Tryz.underlying3) (from_cons (by kernel_rfl) rfl opens_nodes (from_cons (by kernel_rfl) rfl opens_bounds (from_last (by kernel_rfl) opens_bounds)))))) hs hx hL
  obtain ⟨c1, c2, e, k1, k2⟩ := K_pair hK
  obtain ⟨c3, c4, rfl, k3, k4⟩ := K_pair k2
  obtain ⟨c5, c6, rfl, k5, k6⟩ := K_pair k4
  obtain ⟨c7, c8, rfl, k7, k8⟩ := K_pair k6
  have e1 : c1 = [.int .i64 y.1] := k1
  have e3 : c3 = [.int .i64 y.2.1] := k3
  subst e1 e3
  obtain ⟨A, a, rfl, ha, hA⟩ := K_slice k5
  obtain ⟨B, b, rfl, hb, hB⟩ := K_slice k7
  obtain ⟨C, c, rfl, hc, hC⟩ := K_slice k8
  refine ⟨⟨y.1, y.2.1, A, a, y.2.2.1, B, b, y.2.2.2.1, C, c, y.2.2.2.2⟩, ?_, ⟨hA, hw.2.2.1.1, hB, hw.2.2.2.1.1, hC, hw.2.2.2.2.1, hw.1, hw.2.1⟩⟩
  show Value.agg cs = _
  rw [← Array.toArray_toList (xs := cs), e]
  rfl
/-! ### of, great, one -/
set_option maxRecDepth 100000 in
set_option maxHeartbeats 4000000 in
theorem of12_calls (w : World) (A : Option Addr) (c n : Nat) (rows : List Int) (m : Int) (hn : n = rows.length) (hr : (Kd.int .u64).C w A n rows) (hU : U64s rows) (HT : Aside0 (TabAt 1 Lib.deBruijn64tab w)) :
    Calls Tryz.prog 6 #[.agg #[.slice A n c, .int .i64 m]] w fun e w' => Below w.heap.size w w' ∧ ∃ v1 v2, e = .returned (.tuple #[.iface 83 v1, .iface 86 v2]) ∧ LatV w' v1 (latO rows) ∧ EffV w' v2 (effO m) := by
  have HR := Aside0.mk hr
  have HU := Aside0.mk hU
  have HN := Aside0.mk hn
  obtain ⟨O, hO⟩ : ∃ O : Obj, O = .cells #[.slice A n c, .int .i64 m] 28 := ⟨_, rfl⟩
  have HB := Aside0.mk (below_alloc (Below.refl w.heap.size w) O)
  have hm : (w.alloc O).cell? ⟨w.heap.size, 1, none⟩ = some (.int .i64 m) := by rw [hO]; exact blk_cell (blk_new w _) 1
  have HM := Aside0.mk hm
  subst hO
  clear hr hU hn hm
  go_enter Tryz.func6, Tryz.ntmps6
  go_wp2_with fail
  refine (new_calls _ A c n rows HN.out (Kd.C_below HR.out HB.out) HU.out ⟨tab_below HB.out HT.out⟩).mono ?_
  rintro e W1 ⟨hb1, v1, z1, rfl, hl⟩
  have hm1 := pw_cell_below hb1 HM.out
  have HB1 := Aside0.mk (below_step HB.out hb1)
  have HL := Aside0.mk hl
  clear hb1 hl
  go_wp2_with fail
  refine (effNew_calls _ m).mono ?_
  rintro e W2 ⟨hb2, v2, z2, rfl, hx⟩
  have HB2 := Aside0.mk (below_step HB1.out hb2)
  have HL2 := Aside0.mk (HL.out.kept hb2)
  have HX := Aside0.mk hx
  clear hb2 hx
  go_wp2
  go_ret2
  exact ⟨HB2.out, _, _, rfl, HL2.out, HX.out⟩
/-- great, of a scheme's lengths. -/
theorem great12_calls (w : World) (lv ev : Int) (A B C D : Option Addr) (a b c f n k l q : Nat) (m : Int) : Calls Tryz.prog 5 #[.agg #[.int .i64 lv, .int .i64 ev, .slice A n a, .slice B k b, .slice C l c], .agg #[.slice D q f, .int .i64 m]] w fun e w' => e = .returned (.bool (decide (64 < q ∨ 200 < n ∨ 300 < k ∨ 300 < l))) ∧ Below w.heap.size w w' := by
  have HB := Aside0.mk (below_alloc (below_alloc (Below.refl w.heap.size w) (.cells #[.int .i64 lv, .int .i64 ev, .slice A n a, .slice B k b, .slice C l c] 25)) (.cells #[.slice D q f, .int .i64 m] 28))
  obtain ⟨r, hr⟩ : ∃ r, r = decide (64 < q ∨ 200 < n ∨ 300 < k ∨ 300 < l) := ⟨_, rfl⟩
  rw [← hr]
  have HR := Aside0.mk hr
  clear hr
  by_cases h1 : 64 < q
  · have z1 : decide (64 < (q : Int)) = true := decide_eq_true (by omega)
    have HE : Aside0 (r = true) := ⟨HR.out.trans (decide_eq_true (.inl h1))⟩
    clear h1
    go_enter Tryz.func5, Tryz.ntmps5
    go_wp2
    go_ret
    rw [HE.out]
    exact ⟨rfl, HB.out⟩
  have z1 : decide (64 < (q : Int)) = false := decide_eq_false (by omega)
  by_cases h2 : 200 < n
  · have z2 : decide (200 < (n : Int)) = true := decide_eq_true (by omega)
    have HE : Aside0 (r = true) := ⟨HR.out.trans (decide_eq_true (.inr (.inl h2)))⟩
    clear h1 h2
    go_enter Tryz.func5, Tryz.ntmps5
    go_wp2
    go_ret
    rw [HE.out]
    exact ⟨rfl, HB.out⟩
  have z2 : decide (200 < (n : Int)) = false := decide_eq_false (by omega)
  by_cases h3 : 300 < k
  · have z3 : decide (300 < (k : Int)) = true := decide_eq_true (by omega)
    have HE : Aside0 (r = true) := ⟨HR.out.trans (decide_eq_true (.inr (.inr (.inl h3))))⟩
    clear h1 h2 h3
    go_enter Tryz.func5, Tryz.ntmps5
    go_wp2
    go_ret
    rw [HE.out]
    exact ⟨rfl, HB.out⟩
  have z3 : decide (300 < (k : Int)) = false := decide_eq_false (by omega)
  have HE : Aside0 (r = decide (300 < (l : Int))) := ⟨HR.out.trans (decide_eq_decide.2 (by omega))⟩
  clear h1 h2 h3
  go_enter Tryz.func5, Tryz.ntmps5
  go_wp2
  go_ret
  rw [HE.out]
  exact ⟨rfl, HB.out⟩
def oneY (vars : Int) (A : Option Addr) (c : Nat) : SchY := ⟨vars, 0, A, c, [varN], none, 0, [], none, 0, []⟩
theorem g1 (A : Option Addr) (c : Nat) : grounS (oneY 1 A c).lv (oneY 1 A c).ev (oneY 1 A c).body [1] [] = ([wN 1], 0) := by kernel_rfl
theorem g2 (A : Option Addr) (c : Nat) : grounS (oneY 1 A c).lv (oneY 1 A c).ev (oneY 1 A c).body [] [] = ([], 1) := by kernel_rfl
theorem g3 (A : Option Addr) (c : Nat) : grounS (oneY 1 A c).lv (oneY 1 A c).ev (oneY 1 A c).body [7] [] = ([wN 7], 0) := by kernel_rfl
theorem s1 (A : Option Addr) (c : Nat) : sOf oL oX (oneY 1 A c) = 0 := by kernel_rfl
theorem s2 (A : Option Addr) (c : Nat) : sOf oL oX (oneY 0 A c) = 1 := by kernel_rfl
attribute [local go_sem high] eqTerm
end L12
end Go.Proofs.YtdecijmncpbheaaGreatDoor

namespace Go.Proofs.YtdecijmncpbheaaGreatDoor
open Go.RowKit Go.Proofs.YtdecijmncpbheaaGreatDoorW.PrintWords Go.Proofs.YtdecijmncpbheaaGreatDoorW.PrintLast Go.Proofs.YtdecijmncpbheaaGreatDoorW.PrintMore
set_option linter.unusedVariables false
set_option linter.unusedSimpArgs false
namespace L12
open L09
structure ValsY where
  A : Option Addr
  c : Nat
  ls : List Int
  B : Option Addr
  d : Nat
  xs : List Int
def ValsY.ok (w : World) (y : ValsY) : Prop := (Kd.int .u64).C w y.A y.ls.length y.ls ∧ (∀ r ∈ y.ls, (Lit.int .u64 r).wf = true) ∧ (Kd.int .u64).C w y.B y.xs.length y.xs ∧ ∀ r ∈ y.xs, (Lit.int .u64 r).wf = true
def ValsY.v (y : ValsY) : Value := .agg #[.slice y.A y.ls.length y.c, .slice y.B y.xs.length y.d]
theorem arg_vals {H : Type} {enc : TypeId × Value → H} {w : World} {v : Value} {x : DataW H} {ps : List MemPlace} (hs : ∃ cs, v = .agg cs) (hx : DataW.Trod enc Tryz.prog w 0 (fun _ => true) true 30 v x ps) (hL : Light Tryz.prog 30 x) : ∃ y : ValsY, v = y.v ∧ y.ok w := by
  obtain ⟨cs, y, rfl, hK, hw⟩ := arg_agg (d := Kd.pair (Kd.slice 0 (Kd.int .u64)) (Kd.slice 0 (Kd.int .u64))) (opens_struct (l := [(26, 0), (26, 1)]) (by kernel_rfl) (by kernel_rfl) (from_cons (by kernel_rfl) rfl (opens_slice 0 Tryz.underlying26 (by kernel_rfl) (opens_int Tryz.underlying91)) (from_last (by kernel_rfl) (opens_slice 0 Tryz.underlying26 (by kernel_rfl) (opens_int Tryz.underlying91))))) hs hx hL
  obtain ⟨c1, c2, e, k1, k2⟩ := K_pair hK
  obtain ⟨A, a, rfl, ha, hA⟩ := K_slice k1
  obtain ⟨B, b, rfl, hb, hB⟩ := K_slice k2
  refine ⟨⟨A, a, y.1, B, b, y.2⟩, ?_, hA, hw.1.1, hB, hw.2.1⟩
  show Value.agg cs = _
  rw [← Array.toArray_toList (xs := cs), e]
  rfl
end L12
end Go.Proofs.YtdecijmncpbheaaGreatDoor

namespace Go.Proofs.YtdecijmncpbheaaGreatDoor
open Go.RowKit Go.Proofs.YtdecijmncpbheaaGreatDoorW.PrintWords Go.Proofs.YtdecijmncpbheaaGreatDoorW.PrintLast Go.Proofs.YtdecijmncpbheaaGreatDoorW.PrintMore
set_option linter.unusedVariables false
set_option linter.unusedSimpArgs false
open Go.Shelf
theorem tab_of5 {W : World} (h : laidMetH Tryz.prog [("math/bits.deBruijn32tab", Rows.laid_math_bits_deBruijn32tab), ("math/bits.deBruijn64tab", Rows.laid_math_bits_deBruijn64tab), ("internal/strconv.uint64pow10", Rows.laid_internal_strconv_uint64pow10), ("unicode/utf8.acceptRanges", Rows.laid_unicode_utf8_acceptRanges), ("unicode/utf8.first", Rows.laid_unicode_utf8_first)] W) : TabAt 1 Lib.deBruijn64tab W := fun r hr => by
  have hr : r < 64 := hr
  rw [MakeChecks.laidMetH_plain _ _ _ (by kernel_rfl)] at h
  obtain ⟨ps, ⟨g, t, cs, fuel, p, q, hg, ht, hv, hd, _, _⟩, _, _⟩ := h.tail
  obtain rfl := Option.some.inj ((show Tryz.prog.globalNamed "math/bits.deBruijn64tab" = some 1 by kernel_rfl).symm.trans hg)
  obtain rfl := Option.some.inj ((show (Tryz.prog.globals[1]?).map (·.type) = some 321 by kernel_rfl).symm.trans ht)
  obtain ⟨xs, m, _, ex, _, hl, hel⟩ := DataW.trod_array Tryz.underlying321 hd
  have c5 : Tryz.prog.cellsOf 5 = 1 := by kernel_rfl
  have hE := hel r hr
  rw [c5, Nat.mul_one, List.getElem?_eq_getElem (by omega)] at hE
  obtain ⟨z, e1, e2, _⟩ := DataW.trod_int Tryz.underlying5 hE
  have hlen : Lib.deBruijn64tab.length = 64 := by kernel_rfl
  have e0 : (Rows.laid_math_bits_deBruijn64tab : DataW Unit) = .agg (Lib.deBruijn64tab.map fun n : Nat => .lit (.int .u8 (n : Int))) := by kernel_rfl
  have e3 : (xs.map (·.1)) = Lib.deBruijn64tab.map fun n : Nat => .lit (.int .u8 (n : Int)) := (DataW.agg.inj (e0.symm.trans (Prod.mk.inj ex).1)).symm
  have e4 : (xs.map (·.1))[r]? = (Lib.deBruijn64tab.map fun n : Nat => (DataW.lit (.int .u8 (n : Int)) : DataW Unit))[r]? := by rw [e3]
  rw [List.getElem?_map, List.getElem?_map, List.getElem?_eq_getElem (by omega : r < xs.length), List.getElem?_eq_getElem (by omega : r < Lib.deBruijn64tab.length), e2] at e4
  have hz : z = ((Lib.deBruijn64tab.getD r 0 : Nat) : Int) := by
    simp only [Option.map_some, Option.some.injEq, DataW.lit.injEq, Lit.int.injEq, true_and] at e4
    rw [e4, List.getD, List.getElem?_eq_getElem (by omega : r < Lib.deBruijn64tab.length)]; rfl
  rw [World.var?_cell hg hv r, ← hz]
  have : cs.toList[r]? = some (.int .u8 z) := by
    have h0 : ((cs.toList.drop r).take 1)[0]? = some (.int .u8 z) := by rw [e1]; rfl
    simpa using h0
  simpa using this
theorem tab_aside5 {W : World} (h : laidMetH Tryz.prog [("math/bits.deBruijn32tab", Rows.laid_math_bits_deBruijn32tab), ("math/bits.deBruijn64tab", Rows.laid_math_bits_deBruijn64tab), ("internal/strconv.uint64pow10", Rows.laid_internal_strconv_uint64pow10), ("unicode/utf8.acceptRanges", Rows.laid_unicode_utf8_acceptRanges), ("unicode/utf8.first", Rows.laid_unicode_utf8_first)] W) : Aside0 (TabAt 1 Lib.deBruijn64tab W) := ⟨tab_of5 h⟩
namespace L12
open L09
theorem groun_len (lv ev : Int) (a : List Node) (ls xs : List Int) : (grounS lv ev a ls xs).1.length ≤ a.length := by
  unfold grounS
  split
  · simp
  · split
    · simp
    · exact Nat.le_of_eq (baseL_len (putB_base _ _ _)).symm
set_option maxRecDepth 200000 in
set_option maxHeartbeats 16000000 in
theorem schemesOf_walk (w : World) (HT : Aside0 (TabAt 1 Lib.deBruijn64tab w)) (y : SchY) (hy : y.ok w) (z : SortsY) (hz : z.ok w) (v : ValsY) (hv : v.ok w) :
    Calls Tryz.prog 3 #[y.v, z.v, v.v] w fun e w' => e = .returned (.bool true) ∧ Below w.heap.size w w' := by
  obtain ⟨lv, ev, A, c, a, LA, lc, L, EA, ec, E⟩ := y
  obtain ⟨ZA, zc, rows, zn⟩ := z
  obtain ⟨VA, vc, vl, XA, xc, vx⟩ := v
  obtain ⟨-, hz1, hz2, -⟩ := hz
  obtain ⟨hv1, -, hv2, -⟩ := hv
  simp only at hz1 hz2 hv1 hv2
  have HY := Aside0.mk hy
  obtain ⟨n, hn⟩ : ∃ n, n = a.length := ⟨_, rfl⟩
  obtain ⟨k, hk⟩ : ∃ n, n = L.length := ⟨_, rfl⟩
  obtain ⟨m, hm⟩ : ∃ n, n = E.length := ⟨_, rfl⟩
  obtain ⟨q, hq⟩ : ∃ n, n = rows.length := ⟨_, rfl⟩
  obtain ⟨m1, hm1⟩ : ∃ n, n = vl.length := ⟨_, rfl⟩
  obtain ⟨m2, hm2⟩ : ∃ n, n = vx.length := ⟨_, rfl⟩
  rw [← hq] at hz1
  rw [← hm1] at hv1
  rw [← hm2] at hv2
  simp only [SchY.v, SortsY.v, ValsY.v]
  rw [← hn, ← hk, ← hm, ← hq, ← hm1, ← hm2]
  have HN := Aside0.mk (And.intro hn (And.intro hk hm))
  have HM := Aside0.mk (And.intro hq (And.intro hm1 hm2))
  have HZ := Aside0.mk (And.intro hz1 hz2)
  have HV := Aside0.mk (And.intro hv1 hv2)
  obtain ⟨W0, hW0⟩ : ∃ W, W = ((w.alloc (.cells #[.int .i64 lv, .int .i64 ev, .slice A n c, .slice LA k lc, .slice EA m ec] 25)).alloc (.cells #[.slice ZA q zc, .int .i64 zn] 28)).alloc (.cells #[.slice VA m1 vc, .slice XA m2 xc] 30) := ⟨_, rfl⟩
  have HB : Aside0 (Below w.heap.size w W0) := ⟨by rw [hW0]; exact below_alloc (below_alloc (below_alloc (Below.refl _ _) _) _) _⟩
  have g0 : W0.heap[w.heap.size]? = some (.cells #[.int .i64 lv, .int .i64 ev, .slice A n c, .slice LA k lc, .slice EA m ec] 25 (0, 0)) := by rw [hW0]; exact blk_alloc (blk_alloc (blk_new w _) _) _
  have g1 : W0.heap[w.heap.size + 1]? = some (.cells #[.slice ZA q zc, .int .i64 zn] 28 (0, 0)) := by
    have h := blk_new (w.alloc (.cells #[.int .i64 lv, .int .i64 ev, .slice A n c, .slice LA k lc, .slice EA m ec] 25)) (.cells #[.slice ZA q zc, .int .i64 zn] 28)
    rw [World.size_alloc] at h
    rw [hW0]
    exact blk_alloc h _
  have g2 : W0.heap[w.heap.size + 1 + 1]? = some (.cells #[.slice VA m1 vc, .slice XA m2 xc] 30 (0, 0)) := by
    have h := blk_new ((w.alloc (.cells #[.int .i64 lv, .int .i64 ev, .slice A n c, .slice LA k lc, .slice EA m ec] 25)).alloc (.cells #[.slice ZA q zc, .int .i64 zn] 28)) (.cells #[.slice VA m1 vc, .slice XA m2 xc] 30)
    rw [World.size_alloc, World.size_alloc] at h
    rw [hW0]
    exact h
  have HX := Aside0.mk (And.intro g0 (And.intro g1 g2))
  have HW0 := Aside0.mk hW0
  clear hy hz1 hz2 hv1 hv2 hn hk hm hq hm1 hm2 g0 g1 g2 hW0
  go_enter Tryz.func3, Tryz.ntmps3
  go_upto_region 1 with fail
  rw [← HW0.out]
  clear HW0
  have c0 := (blk_cell HX.out.1 0).trans (show _ = some (Value.int .i64 lv) from rfl); have c1 := (blk_cell HX.out.1 1).trans (show _ = some (Value.int .i64 ev) from rfl); have c2 := (blk_cell HX.out.1 2).trans (show _ = some (Value.slice A n c) from rfl); have c3 := (blk_cell HX.out.1 3).trans (show _ = some (Value.slice LA k lc) from rfl); have c4 := (blk_cell HX.out.1 4).trans (show _ = some (Value.slice EA m ec) from rfl); have c5 := (blk_cell HX.out.2.1 0).trans (show _ = some (Value.slice ZA q zc) from rfl); have c6 := (blk_cell HX.out.2.1 1).trans (show _ = some (Value.int .i64 zn) from rfl); have c7 := (blk_cell HX.out.2.2 0).trans (show _ = some (Value.slice VA m1 vc) from rfl); have c8 := (blk_cell HX.out.2.2 1).trans (show _ = some (Value.slice XA m2 xc) from rfl)
  go_wp2_with fail
  refine (great12_calls _ _ _ _ _ _ _ _ _ _ _ _ _ _ _ _).mono ?_
  rintro e W1 ⟨rfl, hb'⟩
  have HX' := Aside0.mk (And.intro (blk_below HX.out.1 hb') (And.intro (blk_below HX.out.2.1 hb') (blk_below HX.out.2.2 hb'))); have HB' := Aside0.mk (below_step HB.out hb'); clear HX HB; have HX := HX'; have HB := HB'; clear HX' HB'
  obtain ⟨g, hg⟩ : ∃ g, g = decide (64 < q ∨ 200 < n ∨ 300 < k ∨ 300 < m) := ⟨_, rfl⟩
  rw [← hg]
  clear hb' c0 c1 c2 c3 c4 c5 c6 c7 c8
  have c0 := (blk_cell HX.out.1 0).trans (show _ = some (Value.int .i64 lv) from rfl); have c1 := (blk_cell HX.out.1 1).trans (show _ = some (Value.int .i64 ev) from rfl); have c2 := (blk_cell HX.out.1 2).trans (show _ = some (Value.slice A n c) from rfl); have c3 := (blk_cell HX.out.1 3).trans (show _ = some (Value.slice LA k lc) from rfl); have c4 := (blk_cell HX.out.1 4).trans (show _ = some (Value.slice EA m ec) from rfl); have c5 := (blk_cell HX.out.2.1 0).trans (show _ = some (Value.slice ZA q zc) from rfl); have c6 := (blk_cell HX.out.2.1 1).trans (show _ = some (Value.int .i64 zn) from rfl); have c7 := (blk_cell HX.out.2.2 0).trans (show _ = some (Value.slice VA m1 vc) from rfl); have c8 := (blk_cell HX.out.2.2 1).trans (show _ = some (Value.slice XA m2 xc) from rfl)
  cases g with
  | true =>
    clear hg
    go_wp2
    go_ret
    exact ⟨rfl, HB.out⟩
  | false =>
  have hgg := of_decide_eq_false hg.symm
  have b1 : n ≤ 200 := by omega
  have b2 : k ≤ 300 := by omega
  have b3 : m ≤ 300 := by omega
  clear hg hgg
  rcases Nat.lt_or_ge 100 m1 with h1 | h1
  · have z1 : decide ((m1 : Int) > 100) = true := decide_eq_true (by omega)
    go_wp2
    go_ret
    exact ⟨rfl, HB.out⟩
  have z1 : decide ((m1 : Int) > 100) = false := decide_eq_false (by omega)
  rcases Nat.lt_or_ge 100 m2 with h2 | h2
  · have z2 : decide ((m2 : Int) > 100) = true := decide_eq_true (by omega)
    go_wp2
    go_ret
    exact ⟨rfl, HB.out⟩
  have z2 : decide ((m2 : Int) > 100) = false := decide_eq_false (by omega)
  go_wp2_with fail
  refine (of12_calls _ ZA zc q rows zn HM.out.1 (Kd.C_below HZ.out.1 HB.out) HZ.out.2 ⟨tab_below HB.out HT.out⟩).mono ?_
  rintro e W2 ⟨hb', v1, v2, rfl, hl, hx⟩
  have HX' := Aside0.mk (And.intro (blk_below HX.out.1 hb') (And.intro (blk_below HX.out.2.1 hb') (blk_below HX.out.2.2 hb'))); have HB' := Aside0.mk (below_step HB.out hb'); clear HX HB; have HX := HX'; have HB := HB'; clear HX' HB'
  have HLV := Aside0.mk hl
  have HEV := Aside0.mk hx
  clear hb' hl hx c0 c1 c2 c3 c4 c5 c6 c7 c8
  have c0 := (blk_cell HX.out.1 0).trans (show _ = some (Value.int .i64 lv) from rfl); have c1 := (blk_cell HX.out.1 1).trans (show _ = some (Value.int .i64 ev) from rfl); have c2 := (blk_cell HX.out.1 2).trans (show _ = some (Value.slice A n c) from rfl); have c3 := (blk_cell HX.out.1 3).trans (show _ = some (Value.slice LA k lc) from rfl); have c4 := (blk_cell HX.out.1 4).trans (show _ = some (Value.slice EA m ec) from rfl); have c5 := (blk_cell HX.out.2.1 0).trans (show _ = some (Value.slice ZA q zc) from rfl); have c6 := (blk_cell HX.out.2.1 1).trans (show _ = some (Value.int .i64 zn) from rfl); have c7 := (blk_cell HX.out.2.2 0).trans (show _ = some (Value.slice VA m1 vc) from rfl); have c8 := (blk_cell HX.out.2.2 1).trans (show _ = some (Value.slice XA m2 xc) from rfl)
  have HWB2 := Aside0.mk HB.out.size
  have CT := Aside0.mk (Tw.twinScheme_calls W2 ⟨lv, ev, A, c, a, LA, lc, L, EA, ec, E⟩ (HY.out.kept HB.out) (by show a.length ≤ 300; rw [← HN.out.1]; omega) (by show L.length ≤ 1000; rw [← HN.out.2.1]; omega) (by show E.length ≤ 1000; rw [← HN.out.2.2]; omega))
  simp only [SchY.v] at CT
  rw [← HN.out.1, ← HN.out.2.1, ← HN.out.2.2] at CT
  go_wp2_with fail
  refine CT.out.mono ?_
  rintro e W3 ⟨⟨A1, x1, A2, x2, A3, x3, rfl, ⟨p1, p2, p3⟩, r1, r2, r3, hap⟩, hb'⟩
  simp only at p1 p2 p3 r1 r2 r3 ⊢
  rw [← HN.out.1] at p1
  rw [← HN.out.2.1] at p2
  rw [← HN.out.2.2] at p3
  rw [← HN.out.1, ← HN.out.2.1, ← HN.out.2.2]
  have HX' := Aside0.mk (And.intro (blk_below HX.out.1 hb') (And.intro (blk_below HX.out.2.1 hb') (blk_below HX.out.2.2 hb'))); have HB' := Aside0.mk (below_step HB.out hb'); clear HX HB; have HX := HX'; have HB := HB'; clear HX' HB'
  have H' := Aside0.mk (LatV.kept HLV.out hb'); clear HLV; have HLV := H'; clear H'; have H' := Aside0.mk (EffV.kept HEV.out hb'); clear HEV; have HEV := H'; clear H'
  have HSZ3 := Aside0.mk hb'.size
  have HR1 := Aside0.mk r1
  have HR2 := Aside0.mk r2
  have HR3 := Aside0.mk r3
  have HAP2 := Aside0.mk hap
  clear hb' r1 r2 r3 hap CT c0 c1 c2 c3 c4 c5 c6 c7 c8
  have HWB := Aside0.mk HB.out.size
  obtain ⟨W4, hW4⟩ : ∃ W, W = W3.alloc (.cells #[.int .i64 lv, .int .i64 ev, .slice A1 n x1, .slice A2 k x2, .slice A3 m x3] 25) := ⟨_, rfl⟩
  have hb' : Below W3.heap.size W3 W4 := by rw [hW4]; exact below_alloc (Below.refl _ _) _
  have HT0 : Aside0 (W4.heap[W3.heap.size]? = some (.cells #[.int .i64 lv, .int .i64 ev, .slice A1 n x1, .slice A2 k x2, .slice A3 m x3] 25 (0, 0))) := ⟨by rw [hW4]; exact blk_new W3 _⟩
  have HX' := Aside0.mk (And.intro (blk_below HX.out.1 hb') (And.intro (blk_below HX.out.2.1 hb') (blk_below HX.out.2.2 hb'))); have HB' := Aside0.mk (below_step HB.out hb'); clear HX HB; have HX := HX'; have HB := HB'; clear HX' HB'
  have H' := Aside0.mk (LatV.kept HLV.out hb'); clear HLV; have HLV := H'; clear H'; have H' := Aside0.mk (EffV.kept HEV.out hb'); clear HEV; have HEV := H'; clear H'; have H' := Aside0.mk (Kd.R_below HR1.out hb'); clear HR1; have HR1 := H'; clear H'; have H' := Aside0.mk (Kd.R_below HR2.out hb'); clear HR2; have HR2 := H'; clear H'; have H' := Aside0.mk (Kd.R_below HR3.out hb'); clear HR3; have HR3 := H'; clear H'
  have HW4 := Aside0.mk hW4
  clear hb' hW4
  have HBS4 := Aside0.mk HB.out.size
  have HTO : Aside0 (SchY.ok W4 ⟨lv, ev, A1, x1, a, A2, x2, L, A3, x3, E⟩) := ⟨by
    have h := HY.out
    exact ⟨by have := (Kd.R_reads' (Tw.takeNode0 rfl HR1.out)).2.2; exact this, h.wb, by have := (Kd.R_reads' (Tw.takeBound rfl HR2.out)).2.2; exact this, h.wl, by have := (Kd.R_reads' (Tw.takeBound rfl HR3.out)).2.2; exact this, h.we, h.lw, h.ew⟩⟩
  have HP1 := Aside0.mk (Tw.row_in HR1.out)
  have H3 := Aside0.mk (show W4.heap.size ≤ W4.heap.size from Nat.le_refl _)
  have C1 := Aside0.mk (Tw.twinNum_calls W4 VA vc vl (by rw [← HM.out.2.1]; omega) (by have h := Kd.C_below HV.out.1 HB.out; rw [HM.out.2.1] at h; exact h))
  rw [← HM.out.2.1] at C1
  go_upto_region 5 with fail
  rw [← HW4.out]
  clear HW4
  have c0 := (blk_cell HX.out.1 0).trans (show _ = some (Value.int .i64 lv) from rfl); have c1 := (blk_cell HX.out.1 1).trans (show _ = some (Value.int .i64 ev) from rfl); have c2 := (blk_cell HX.out.1 2).trans (show _ = some (Value.slice A n c) from rfl); have c3 := (blk_cell HX.out.1 3).trans (show _ = some (Value.slice LA k lc) from rfl); have c4 := (blk_cell HX.out.1 4).trans (show _ = some (Value.slice EA m ec) from rfl); have c5 := (blk_cell HX.out.2.1 0).trans (show _ = some (Value.slice ZA q zc) from rfl); have c6 := (blk_cell HX.out.2.1 1).trans (show _ = some (Value.int .i64 zn) from rfl); have c7 := (blk_cell HX.out.2.2 0).trans (show _ = some (Value.slice VA m1 vc) from rfl); have c8 := (blk_cell HX.out.2.2 1).trans (show _ = some (Value.slice XA m2 xc) from rfl)
  go_wp2_with fail
  refine C1.out.mono ?_
  rintro e W5 ⟨A4, x4, rfl, hb', p4, r4⟩
  have HX' := Aside0.mk (And.intro (blk_below HX.out.1 hb') (And.intro (blk_below HX.out.2.1 hb') (blk_below HX.out.2.2 hb'))); have HB' := Aside0.mk (below_step HB.out hb'); clear HX HB; have HX := HX'; have HB := HB'; clear HX' HB'
  have H' := Aside0.mk (LatV.kept HLV.out hb'); clear HLV; have HLV := H'; clear H'; have H' := Aside0.mk (EffV.kept HEV.out hb'); clear HEV; have HEV := H'; clear H'; have H' := Aside0.mk (Kd.R_below HR1.out hb'); clear HR1; have HR1 := H'; clear H'; have H' := Aside0.mk (Kd.R_below HR2.out hb'); clear HR2; have HR2 := H'; clear H'; have H' := Aside0.mk (Kd.R_below HR3.out hb'); clear HR3; have HR3 := H'; clear H'; have H' := Aside0.mk (blk_below HT0.out hb'); clear HT0; have HT0 := H'; clear H'; have H' := Aside0.mk (SchY.ok.kept HTO.out hb'); clear HTO; have HTO := H'; clear H'
  have H3' := Aside0.mk (Nat.le_trans H3.out hb'.size); clear H3; have H3 := H3'; clear H3'
  have HR4 := Aside0.mk r4
  have HP4 := Aside0.mk (Tw.row_in r4)
  have HBS5 := Aside0.mk HB.out.size
  clear hb' r4 C1 c0 c1 c2 c3 c4 c5 c6 c7 c8
  have c0 := (blk_cell HX.out.1 0).trans (show _ = some (Value.int .i64 lv) from rfl); have c1 := (blk_cell HX.out.1 1).trans (show _ = some (Value.int .i64 ev) from rfl); have c2 := (blk_cell HX.out.1 2).trans (show _ = some (Value.slice A n c) from rfl); have c3 := (blk_cell HX.out.1 3).trans (show _ = some (Value.slice LA k lc) from rfl); have c4 := (blk_cell HX.out.1 4).trans (show _ = some (Value.slice EA m ec) from rfl); have c5 := (blk_cell HX.out.2.1 0).trans (show _ = some (Value.slice ZA q zc) from rfl); have c6 := (blk_cell HX.out.2.1 1).trans (show _ = some (Value.int .i64 zn) from rfl); have c7 := (blk_cell HX.out.2.2 0).trans (show _ = some (Value.slice VA m1 vc) from rfl); have c8 := (blk_cell HX.out.2.2 1).trans (show _ = some (Value.slice XA m2 xc) from rfl)
  have C1 := Aside0.mk (Tw.twinNum_calls W5 XA xc vx (by rw [← HM.out.2.2]; omega) (by have h := Kd.C_below HV.out.2 HB.out; rw [HM.out.2.2] at h; exact h))
  rw [← HM.out.2.2] at C1
  go_wp2_with fail
  refine C1.out.mono ?_
  rintro e W6 ⟨A5, x5, rfl, hb', p5, r5⟩
  have HX' := Aside0.mk (And.intro (blk_below HX.out.1 hb') (And.intro (blk_below HX.out.2.1 hb') (blk_below HX.out.2.2 hb'))); have HB' := Aside0.mk (below_step HB.out hb'); clear HX HB; have HX := HX'; have HB := HB'; clear HX' HB'
  have H' := Aside0.mk (LatV.kept HLV.out hb'); clear HLV; have HLV := H'; clear H'; have H' := Aside0.mk (EffV.kept HEV.out hb'); clear HEV; have HEV := H'; clear H'; have H' := Aside0.mk (Kd.R_below HR1.out hb'); clear HR1; have HR1 := H'; clear H'; have H' := Aside0.mk (Kd.R_below HR2.out hb'); clear HR2; have HR2 := H'; clear H'; have H' := Aside0.mk (Kd.R_below HR3.out hb'); clear HR3; have HR3 := H'; clear H'; have H' := Aside0.mk (Kd.R_below HR4.out hb'); clear HR4; have HR4 := H'; clear H'; have H' := Aside0.mk (blk_below HT0.out hb'); clear HT0; have HT0 := H'; clear H'; have H' := Aside0.mk (SchY.ok.kept HTO.out hb'); clear HTO; have HTO := H'; clear H'
  have H3' := Aside0.mk (Nat.le_trans H3.out hb'.size); clear H3; have H3 := H3'; clear H3'
  have HR5 := Aside0.mk r5
  have HP5 := Aside0.mk (Tw.row_in r5)
  clear hb' r5 C1 c0 c1 c2 c3 c4 c5 c6 c7 c8
  obtain ⟨se, hse⟩ : ∃ z, z = schemeB (hasLat (latO rows)) (hasEff (effO zn)) lv ev a L E := ⟨_, rfl⟩
  have HSE := Aside0.mk hse
  have C1 := Aside0.mk (scheme_calls W6 ⟨lv, ev, A1, x1, a, A2, x2, L, A3, x3, E⟩ HTO.out v1 v2 _ _ HLV.out HEV.out)
  simp only [SchY.v, sOf] at C1
  rw [← HN.out.1, ← HN.out.2.1, ← HN.out.2.2, ← hse] at C1
  clear hse
  have c0 := (blk_cell HX.out.1 0).trans (show _ = some (Value.int .i64 lv) from rfl); have c1 := (blk_cell HX.out.1 1).trans (show _ = some (Value.int .i64 ev) from rfl); have c2 := (blk_cell HX.out.1 2).trans (show _ = some (Value.slice A n c) from rfl); have c3 := (blk_cell HX.out.1 3).trans (show _ = some (Value.slice LA k lc) from rfl); have c4 := (blk_cell HX.out.1 4).trans (show _ = some (Value.slice EA m ec) from rfl); have c5 := (blk_cell HX.out.2.1 0).trans (show _ = some (Value.slice ZA q zc) from rfl); have c6 := (blk_cell HX.out.2.1 1).trans (show _ = some (Value.int .i64 zn) from rfl); have c7 := (blk_cell HX.out.2.2 0).trans (show _ = some (Value.slice VA m1 vc) from rfl); have c8 := (blk_cell HX.out.2.2 1).trans (show _ = some (Value.slice XA m2 xc) from rfl)
  have t0 := (blk_cell HT0.out 0).trans (show _ = some (Value.int .i64 lv) from rfl); have t1 := (blk_cell HT0.out 1).trans (show _ = some (Value.int .i64 ev) from rfl); have t2 := (blk_cell HT0.out 2).trans (show _ = some (Value.slice A1 n x1) from rfl); have t3 := (blk_cell HT0.out 3).trans (show _ = some (Value.slice A2 k x2) from rfl); have t4 := (blk_cell HT0.out 4).trans (show _ = some (Value.slice A3 m x3) from rfl)
  go_wp2_with fail
  refine C1.out.mono ?_
  rintro e W7 ⟨rfl, hb'⟩
  have HX' := Aside0.mk (And.intro (blk_below HX.out.1 hb') (And.intro (blk_below HX.out.2.1 hb') (blk_below HX.out.2.2 hb'))); have HB' := Aside0.mk (below_step HB.out hb'); clear HX HB; have HX := HX'; have HB := HB'; clear HX' HB'
  have H' := Aside0.mk (LatV.kept HLV.out hb'); clear HLV; have HLV := H'; clear H'; have H' := Aside0.mk (EffV.kept HEV.out hb'); clear HEV; have HEV := H'; clear H'; have H' := Aside0.mk (Kd.R_below HR1.out hb'); clear HR1; have HR1 := H'; clear H'; have H' := Aside0.mk (Kd.R_below HR2.out hb'); clear HR2; have HR2 := H'; clear H'; have H' := Aside0.mk (Kd.R_below HR3.out hb'); clear HR3; have HR3 := H'; clear H'; have H' := Aside0.mk (Kd.R_below HR4.out hb'); clear HR4; have HR4 := H'; clear H'; have H' := Aside0.mk (Kd.R_below HR5.out hb'); clear HR5; have HR5 := H'; clear H'; have H' := Aside0.mk (blk_below HT0.out hb'); clear HT0; have HT0 := H'; clear H'; have H' := Aside0.mk (SchY.ok.kept HTO.out hb'); clear HTO; have HTO := H'; clear H'
  have H3' := Aside0.mk (Nat.le_trans H3.out hb'.size); clear H3; have H3 := H3'; clear H3'
  clear hb' C1 c0 c1 c2 c3 c4 c5 c6 c7 c8 t0 t1 t2 t3 t4
  obtain ⟨gs, hgs⟩ : ∃ r, r = grounS lv ev a vl vx := ⟨_, rfl⟩
  have hgl : gs.1.length ≤ n := by rw [hgs, HN.out.1]; exact groun_len _ _ _ _ _
  have HGS := Aside0.mk hgs
  have C1 := Aside0.mk (groun_own W7 ⟨lv, ev, A1, x1, a, A2, x2, L, A3, x3, E⟩ HTO.out A4 A5 m1 m2 x4 x5 vl vx HM.out.2.1 HM.out.2.2 (Tw.row_C (Tw.takeNum HM.out.2.1 HR4.out)) (Tw.row_C (Tw.takeNum HM.out.2.2 HR5.out)))
  simp only [SchY.v] at C1
  rw [← HN.out.1, ← HN.out.2.1, ← HN.out.2.2, ← hgs] at C1
  clear hgs
  obtain ⟨rn, rz⟩ := gs
  obtain ⟨p, hp⟩ : ∃ p, p = rn.length := ⟨_, rfl⟩
  simp only at hgl C1
  rw [← hp] at hgl C1
  have HPL := Aside0.mk hp
  clear hp
  have c0 := (blk_cell HX.out.1 0).trans (show _ = some (Value.int .i64 lv) from rfl); have c1 := (blk_cell HX.out.1 1).trans (show _ = some (Value.int .i64 ev) from rfl); have c2 := (blk_cell HX.out.1 2).trans (show _ = some (Value.slice A n c) from rfl); have c3 := (blk_cell HX.out.1 3).trans (show _ = some (Value.slice LA k lc) from rfl); have c4 := (blk_cell HX.out.1 4).trans (show _ = some (Value.slice EA m ec) from rfl); have c5 := (blk_cell HX.out.2.1 0).trans (show _ = some (Value.slice ZA q zc) from rfl); have c6 := (blk_cell HX.out.2.1 1).trans (show _ = some (Value.int .i64 zn) from rfl); have c7 := (blk_cell HX.out.2.2 0).trans (show _ = some (Value.slice VA m1 vc) from rfl); have c8 := (blk_cell HX.out.2.2 1).trans (show _ = some (Value.slice XA m2 xc) from rfl)
  have t0 := (blk_cell HT0.out 0).trans (show _ = some (Value.int .i64 lv) from rfl); have t1 := (blk_cell HT0.out 1).trans (show _ = some (Value.int .i64 ev) from rfl); have t2 := (blk_cell HT0.out 2).trans (show _ = some (Value.slice A1 n x1) from rfl); have t3 := (blk_cell HT0.out 3).trans (show _ = some (Value.slice A2 k x2) from rfl); have t4 := (blk_cell HT0.out 4).trans (show _ = some (Value.slice A3 m x3) from rfl)
  go_wp2_with fail
  refine C1.out.mono ?_
  rintro e W8 ⟨A6, n6, y6, rfl, hn6, r6, hb'⟩
  subst hn6
  have HX' := Aside0.mk (And.intro (blk_below HX.out.1 hb') (And.intro (blk_below HX.out.2.1 hb') (blk_below HX.out.2.2 hb'))); have HB' := Aside0.mk (below_step HB.out hb'); clear HX HB; have HX := HX'; have HB := HB'; clear HX' HB'
  have H' := Aside0.mk (Kd.R_below HR1.out hb'); clear HR1; have HR1 := H'; clear H'; have H' := Aside0.mk (Kd.R_below HR2.out hb'); clear HR2; have HR2 := H'; clear H'; have H' := Aside0.mk (Kd.R_below HR3.out hb'); clear HR3; have HR3 := H'; clear H'; have H' := Aside0.mk (Kd.R_below HR4.out hb'); clear HR4; have HR4 := H'; clear H'; have H' := Aside0.mk (Kd.R_below HR5.out hb'); clear HR5; have HR5 := H'; clear H'; have H' := Aside0.mk (blk_below HT0.out hb'); clear HT0; have HT0 := H'; clear H'; have H' := Aside0.mk (SchY.ok.kept HTO.out hb'); clear HTO; have HTO := H'; clear H'
  have HL6 : Aside0 (Bk.RC kNode 119 W8 W7.heap.size A6 n6 y6 rn) := ⟨r6⟩
  have HP6 : Aside0 (∀ b, A6 = some b → W4.heap.size ≤ b.block) := ⟨fun b hb => Nat.le_trans H3.out ((HL6.out.typed b hb).1)⟩
  have HB78 := Aside0.mk hb'
  have HBS7 := Aside0.mk (Nat.le_trans HBS4.out H3.out)
  clear hb' r6 C1 c0 c1 c2 c3 c4 c5 c6 c7 c8 t0 t1 t2 t3 t4 H3 HLV HEV
  have c0 := (blk_cell HX.out.1 0).trans (show _ = some (Value.int .i64 lv) from rfl); have c1 := (blk_cell HX.out.1 1).trans (show _ = some (Value.int .i64 ev) from rfl); have c2 := (blk_cell HX.out.1 2).trans (show _ = some (Value.slice A n c) from rfl); have c3 := (blk_cell HX.out.1 3).trans (show _ = some (Value.slice LA k lc) from rfl); have c4 := (blk_cell HX.out.1 4).trans (show _ = some (Value.slice EA m ec) from rfl); have c5 := (blk_cell HX.out.2.1 0).trans (show _ = some (Value.slice ZA q zc) from rfl); have c6 := (blk_cell HX.out.2.1 1).trans (show _ = some (Value.int .i64 zn) from rfl); have c7 := (blk_cell HX.out.2.2 0).trans (show _ = some (Value.slice VA m1 vc) from rfl); have c8 := (blk_cell HX.out.2.2 1).trans (show _ = some (Value.slice XA m2 xc) from rfl)
  have C1 := Aside0.mk (Ref12.ground12_calls W8 ⟨lv, ev, A, c, a, LA, lc, L, EA, ec, E⟩ (HY.out.kept HB.out) (by show a.length ≤ 300; rw [← HN.out.1]; omega) VA XA m1 m2 vc xc vl vx HM.out.2.1 HM.out.2.2 (Kd.C_below HV.out.1 HB.out) (Kd.C_below HV.out.2 HB.out))
  simp only [SchY.v] at C1
  rw [← HN.out.1, ← HN.out.2.1, ← HN.out.2.2, ← HGS.out] at C1
  simp only at C1
  rw [← HPL.out] at C1
  go_wp2_with fail
  refine C1.out.mono ?_
  rintro e W9 ⟨A7, n7, y7, rfl, hn7, r7, hb'⟩
  subst hn7
  have HX' := Aside0.mk (And.intro (blk_below HX.out.1 hb') (And.intro (blk_below HX.out.2.1 hb') (blk_below HX.out.2.2 hb'))); have HB' := Aside0.mk (below_step HB.out hb'); clear HX HB; have HX := HX'; have HB := HB'; clear HX' HB'
  have H' := Aside0.mk (Kd.R_below HR1.out hb'); clear HR1; have HR1 := H'; clear H'; have H' := Aside0.mk (Kd.R_below HR2.out hb'); clear HR2; have HR2 := H'; clear H'; have H' := Aside0.mk (Kd.R_below HR3.out hb'); clear HR3; have HR3 := H'; clear H'; have H' := Aside0.mk (Kd.R_below HR4.out hb'); clear HR4; have HR4 := H'; clear H'; have H' := Aside0.mk (Kd.R_below HR5.out hb'); clear HR5; have HR5 := H'; clear H'; have H' := Aside0.mk (blk_below HT0.out hb'); clear HT0; have HT0 := H'; clear H'; have H' := Aside0.mk (SchY.ok.kept HTO.out hb'); clear HTO; have HTO := H'; clear H'; have H' := Aside0.mk (Bk.RC.below HL6.out hb'); clear HL6; have HL6 := H'; clear H'
  have HR7 := Aside0.mk r7
  clear hb' r7 C1 c0 c1 c2 c3 c4 c5 c6 c7 c8
  obtain ⟨u1, hu1⟩ : ∃ u, u = Ref10.labV ZA q zc rows := ⟨_, rfl⟩
  obtain ⟨u2, hu2⟩ : ∃ u, u = Ref10.effV10 zn := ⟨_, rfl⟩
  have hW : ∀ e : Ext W9, Below w.heap.size w e.W := fun e => below_step HB.out e.below
  have K1 : Aside0 (∀ e : Ext W9, Calls Tryz.prog 13 #[.slice ZA q zc] e.W fun en W => en = .returned u1 ∧ Below e.W.heap.size e.W W) := ⟨fun e => by rw [hu1]; exact Ref10.labels10_calls e.W ZA zc q rows HM.out.1 (Kd.C_below HZ.out.1 (hW e)) HZ.out.2⟩
  have K2 : Aside0 (∀ e : Ext W9, Calls Tryz.prog 14 #[.int .i64 zn] e.W fun en W => en = .returned u2 ∧ Below e.W.heap.size e.W W) := ⟨fun e => by rw [hu2]; exact Ref10.effects10_calls e.W zn⟩
  have K3 : Aside0 (∀ e : Ext W9, Calls Tryz.prog 12 #[.agg #[.int .i64 lv, .int .i64 ev, .slice A n c, .slice LA k lc, .slice EA m ec], u1, u2] e.W fun en W => en = .returned (.int .i64 se) ∧ Below e.W.heap.size e.W W) := ⟨fun e => by
    have h := Ref12.check12_calls e.W ⟨lv, ev, A, c, a, LA, lc, L, EA, ec, E⟩ (HY.out.kept (hW e)) (by show a.length ≤ 300; rw [← HN.out.1]; omega) u1 u2 (hasLat (latO rows)) (hasEff (effO zn)) (by rw [hu1]; exact Ref10.labV_R ZA q zc rows HM.out.1 HZ.out.1.2.1) (by rw [hu2]; exact Ref10.effV10_R zn)
    simp only [SchY.v] at h
    rw [← HN.out.1, ← HN.out.2.1, ← HN.out.2.2, ← HSE.out] at h
    exact h⟩
  have K4 : Aside0 (∀ e : Ext W9, Calls Tryz.prog 15 #[.slice A6 n7 y6, .slice A7 n7 y7] e.W fun en W => en = .returned (.bool true) ∧ Below e.W.heap.size e.W W) := ⟨fun e => by
    have h1 := Kd.C_below HL6.out.reads.2 e.below
    have h2 := Kd.C_below HR7.out e.below
    rw [HPL.out] at h1 h2 ⊢
    exact sameNodes_calls e.W A6 A7 y6 y7 rn h1 h2⟩
  have K5 : Aside0 (∀ e : Ext W9, Calls Tryz.prog 16 #[.agg #[.int .i64 lv, .int .i64 ev, .slice A1 n x1, .slice A2 k x2, .slice A3 m x3], .agg #[.int .i64 lv, .int .i64 ev, .slice A n c, .slice LA k lc, .slice EA m ec]] e.W fun en W => en = .returned (.bool true) ∧ Below e.W.heap.size e.W W) := ⟨fun e => Tw.leftScheme_calls e.W lv ev A1 A2 A3 x1 x2 x3 A LA EA c lc ec n k m a L E HN.out.1 HN.out.2.1 HN.out.2.2 (by omega) (by omega) (by omega) p1 p2 p3
    (Kd.C_below (Kd.R_reads' HR1.out).2.2 e.below) (Kd.C_below (Kd.R_reads' HR2.out).2.2 e.below) (Kd.C_below (Kd.R_reads' HR3.out).2.2 e.below) (by have h := (HY.out.kept (hW e)).rb; rw [HN.out.1]; exact h) (by have h := (HY.out.kept (hW e)).rl; rw [HN.out.2.1]; exact h) (by have h := (HY.out.kept (hW e)).re; rw [HN.out.2.2]; exact h)⟩
  have K6 : Aside0 (∀ e : Ext W9, Calls Tryz.prog 17 #[.slice A4 m1 x4, .slice VA m1 vc] e.W fun en W => en = .returned (.bool true) ∧ Below e.W.heap.size e.W W) := ⟨fun e => by
    have h1 := Kd.C_below (Kd.R_reads' HR4.out).2.2 e.below
    have h2 := Kd.C_below HV.out.1 (hW e)
    have h3 := p4
    rw [HM.out.2.1] at h2 h3 ⊢
    exact Tw.leftNum_calls e.W A4 VA x4 vc vl (by rw [← HM.out.2.1]; omega) h3 h1 h2⟩
  have K7 : Aside0 (∀ e : Ext W9, Calls Tryz.prog 17 #[.slice A5 m2 x5, .slice XA m2 xc] e.W fun en W => en = .returned (.bool true) ∧ Below e.W.heap.size e.W W) := ⟨fun e => by
    have h1 := Kd.C_below (Kd.R_reads' HR5.out).2.2 e.below
    have h2 := Kd.C_below HV.out.2 (hW e)
    have h3 := p5
    rw [HM.out.2.2] at h2 h3 ⊢
    exact Tw.leftNum_calls e.W A5 XA x5 xc vx (by rw [← HM.out.2.2]; omega) h3 h1 h2⟩
  clear hu1 hu2 hW
  have c0 := (blk_cell HX.out.1 0).trans (show _ = some (Value.int .i64 lv) from rfl); have c1 := (blk_cell HX.out.1 1).trans (show _ = some (Value.int .i64 ev) from rfl); have c2 := (blk_cell HX.out.1 2).trans (show _ = some (Value.slice A n c) from rfl); have c3 := (blk_cell HX.out.1 3).trans (show _ = some (Value.slice LA k lc) from rfl); have c4 := (blk_cell HX.out.1 4).trans (show _ = some (Value.slice EA m ec) from rfl); have c5 := (blk_cell HX.out.2.1 0).trans (show _ = some (Value.slice ZA q zc) from rfl); have c6 := (blk_cell HX.out.2.1 1).trans (show _ = some (Value.int .i64 zn) from rfl); have c7 := (blk_cell HX.out.2.2 0).trans (show _ = some (Value.slice VA m1 vc) from rfl); have c8 := (blk_cell HX.out.2.2 1).trans (show _ = some (Value.slice XA m2 xc) from rfl)
  have t0 := (blk_cell HT0.out 0).trans (show _ = some (Value.int .i64 lv) from rfl); have t1 := (blk_cell HT0.out 1).trans (show _ = some (Value.int .i64 ev) from rfl); have t2 := (blk_cell HT0.out 2).trans (show _ = some (Value.slice A1 n x1) from rfl); have t3 := (blk_cell HT0.out 3).trans (show _ = some (Value.slice A2 k x2) from rfl); have t4 := (blk_cell HT0.out 4).trans (show _ = some (Value.slice A3 m x3) from rfl)
  have c0' := Ext.cell c0
  have c1' := Ext.cell c1
  have c2' := Ext.cell c2
  have c3' := Ext.cell c3
  have c4' := Ext.cell c4
  have c5' := Ext.cell c5
  have c6' := Ext.cell c6
  have c7' := Ext.cell c7
  have c8' := Ext.cell c8
  have t0' := Ext.cell t0
  have t1' := Ext.cell t1
  have t2' := Ext.cell t2
  have t3' := Ext.cell t3
  have t4' := Ext.cell t4
  clear c0 c1 c2 c3 c4 c5 c6 c7 c8 t0 t1 t2 t3 t4
  have zz1 : (se != se) = false := bne_self_eq_false _
  have zz2 : (rz != rz) = false := bne_self_eq_false _
  go_wp2_with fail
  (refine region_ext (by kernel_rfl) (by kernel_rfl) ?_; (repeat (go_big_quiet_step ((first | (go_at_call 13; with_reducible exact ext_of (K1.out _)) | (go_at_call 14; with_reducible exact ext_of (K2.out _)) | (go_at_call 12; with_reducible exact ext_of (K3.out _)) | (go_at_call 15; with_reducible exact ext_of (K4.out _)) | (go_at_call 16; with_reducible exact ext_of (K5.out _)) | (go_at_call 17; with_reducible exact ext_of (K6.out _)) | (go_at_call 17; with_reducible exact ext_of (K7.out _)))))); with_reducible refine wpQuiet_end ?_; rintro e0)
  clear c0' c1' c2' c3' c4' c5' c6' c7' c8' t0' t1' t2' t3' t4' K1 K2 K3 K4 K5 K6 K7
  have hb' := e0.below
  generalize e0.W = W10 at *
  clear e0
  have HBN := Aside0.mk (below_step HB.out hb')
  have H' := Aside0.mk (Kd.R_below HR1.out hb'); clear HR1; have HR1 := H'; clear H'; have H' := Aside0.mk (Kd.R_below HR2.out hb'); clear HR2; have HR2 := H'; clear H'; have H' := Aside0.mk (Kd.R_below HR3.out hb'); clear HR3; have HR3 := H'; clear H'; have H' := Aside0.mk (Kd.R_below HR4.out hb'); clear HR4; have HR4 := H'; clear H'; have H' := Aside0.mk (Kd.R_below HR5.out hb'); clear HR5; have HR5 := H'; clear H'; have H' := Aside0.mk (blk_below HT0.out hb'); clear HT0; have HT0 := H'; clear H'; have H' := Aside0.mk (Bk.RC.below HL6.out hb'); clear HL6; have HL6 := H'; clear H'
  have HL1 := Aside0.mk (Bk.RC.lower (Bk.RC.of (Tw.takeNode0 HN.out.1 HR1.out)) HWB2.out)
  have HL2 := Aside0.mk (Bk.RC.lower (Bk.RC.of (Tw.takeBound HN.out.2.1 HR2.out)) HWB2.out)
  have HL3 := Aside0.mk (Bk.RC.lower (Bk.RC.of (Tw.takeBound HN.out.2.2 HR3.out)) HWB2.out)
  have HL4 := Aside0.mk (Bk.RC.lower (Bk.RC.of (Tw.takeNum HM.out.2.1 HR4.out)) HBS4.out)
  have HL5 := Aside0.mk (Bk.RC.lower (Bk.RC.of (Tw.takeNum HM.out.2.2 HR5.out)) HBS5.out)
  have HL6' := Aside0.mk (Bk.RC.lower HL6.out HBS7.out)
  clear HL6
  have HL6 := HL6'
  clear HL6'
  have HAP1 : Aside0 (∀ a b, A1 = some a → A6 = some b → a.block ≠ b.block) := ⟨fun a b ha hb he => by
    have h1 := (HP1.out a ha).2
    have h2 := HP6.out b hb
    omega⟩
  have HAP3 : Aside0 (∀ a b, A4 = some a → A5 = some b → a.block ≠ b.block) := ⟨fun a b ha hb he => by
    have h1 := (HP4.out a ha).2
    have h2 := (HP5.out b hb).1
    omega⟩
  have hbs := HBN.out.size
  have t0 := (blk_cell (blk_alloc HT0.out (.cells #[.int .i64 0, .slice none 0 0, .slice none 0 0, .slice none 0 0, .slice none 0 0, .slice none 0 0, .slice none 0 0, .slice none 0 0, .slice none 0 0, .slice none 0 0, .slice none 0 0, .slice none 0 0, .slice none 0 0, .slice none 0 0, .slice none 0 0, .slice none 0 0] 66)) 0).trans (show _ = some (Value.int .i64 lv) from rfl)
  have t1 := (blk_cell (blk_alloc HT0.out (.cells #[.int .i64 0, .slice none 0 0, .slice none 0 0, .slice none 0 0, .slice none 0 0, .slice none 0 0, .slice none 0 0, .slice none 0 0, .slice none 0 0, .slice none 0 0, .slice none 0 0, .slice none 0 0, .slice none 0 0, .slice none 0 0, .slice none 0 0, .slice none 0 0] 66)) 1).trans (show _ = some (Value.int .i64 ev) from rfl)
  have t2 := (blk_cell (blk_alloc HT0.out (.cells #[.int .i64 0, .slice none 0 0, .slice none 0 0, .slice none 0 0, .slice none 0 0, .slice none 0 0, .slice none 0 0, .slice none 0 0, .slice none 0 0, .slice none 0 0, .slice none 0 0, .slice none 0 0, .slice none 0 0, .slice none 0 0, .slice none 0 0, .slice none 0 0] 66)) 2).trans (show _ = some (Value.slice A1 n x1) from rfl)
  have t3 := (blk_cell (blk_alloc HT0.out (.cells #[.int .i64 0, .slice none 0 0, .slice none 0 0, .slice none 0 0, .slice none 0 0, .slice none 0 0, .slice none 0 0, .slice none 0 0, .slice none 0 0, .slice none 0 0, .slice none 0 0, .slice none 0 0, .slice none 0 0, .slice none 0 0, .slice none 0 0, .slice none 0 0] 66)) 3).trans (show _ = some (Value.slice A2 k x2) from rfl)
  have t4 := (blk_cell (blk_alloc HT0.out (.cells #[.int .i64 0, .slice none 0 0, .slice none 0 0, .slice none 0 0, .slice none 0 0, .slice none 0 0, .slice none 0 0, .slice none 0 0, .slice none 0 0, .slice none 0 0, .slice none 0 0, .slice none 0 0, .slice none 0 0, .slice none 0 0, .slice none 0 0, .slice none 0 0] 66)) 4).trans (show _ = some (Value.slice A3 m x3) from rfl)
  clear hb' HR1 HR2 HR3 HR4 HR5 HR7 HT0 HTO HX HB HSE HGS HP1 HP4 HP5 HP6 HY HZ HV HSZ3 HBS4 HBS5 HBS7 HB78 HWB HWB2 zz1 zz2 z1 z2
  go_upto_region 13 with fail
  have HBOX : Aside0 ((W10.alloc (.cells #[.int .i64 0, .slice none 0 0, .slice none 0 0, .slice none 0 0, .slice none 0 0, .slice none 0 0, .slice none 0 0, .slice none 0 0, .slice none 0 0, .slice none 0 0, .slice none 0 0, .slice none 0 0, .slice none 0 0, .slice none 0 0, .slice none 0 0, .slice none 0 0] 66)).heap[W10.heap.size]? = some (.cells #[.int .i64 ((0 : Nat) : Int), .slice none 0 0, .slice none 0 0, .slice none 0 0, .slice none 0 0, .slice none 0 0, .slice none 0 0, .slice none 0 0, .slice none 0 0, .slice none 0 0, .slice none 0 0, .slice none 0 0, .slice none 0 0, .slice none 0 0, .slice none 0 0, .slice none 0 0] 66 (0, 0))) := ⟨blk_new W10 _⟩
  have BR0 := Aside0.mk (Bk.RC.below HL1.out (below_alloc (Below.refl W10.heap.size W10) (.cells #[.int .i64 0, .slice none 0 0, .slice none 0 0, .slice none 0 0, .slice none 0 0, .slice none 0 0, .slice none 0 0, .slice none 0 0, .slice none 0 0, .slice none 0 0, .slice none 0 0, .slice none 0 0, .slice none 0 0, .slice none 0 0, .slice none 0 0, .slice none 0 0] 66)))
  have BR1 := Aside0.mk (Bk.RC.below HL2.out (below_alloc (Below.refl W10.heap.size W10) (.cells #[.int .i64 0, .slice none 0 0, .slice none 0 0, .slice none 0 0, .slice none 0 0, .slice none 0 0, .slice none 0 0, .slice none 0 0, .slice none 0 0, .slice none 0 0, .slice none 0 0, .slice none 0 0, .slice none 0 0, .slice none 0 0, .slice none 0 0, .slice none 0 0] 66)))
  have BR2 := Aside0.mk (Bk.RC.below HL3.out (below_alloc (Below.refl W10.heap.size W10) (.cells #[.int .i64 0, .slice none 0 0, .slice none 0 0, .slice none 0 0, .slice none 0 0, .slice none 0 0, .slice none 0 0, .slice none 0 0, .slice none 0 0, .slice none 0 0, .slice none 0 0, .slice none 0 0, .slice none 0 0, .slice none 0 0, .slice none 0 0, .slice none 0 0] 66)))
  have BR3 := Aside0.mk (Bk.RC.below HL4.out (below_alloc (Below.refl W10.heap.size W10) (.cells #[.int .i64 0, .slice none 0 0, .slice none 0 0, .slice none 0 0, .slice none 0 0, .slice none 0 0, .slice none 0 0, .slice none 0 0, .slice none 0 0, .slice none 0 0, .slice none 0 0, .slice none 0 0, .slice none 0 0, .slice none 0 0, .slice none 0 0, .slice none 0 0] 66)))
  have BR4 := Aside0.mk (Bk.RC.below HL5.out (below_alloc (Below.refl W10.heap.size W10) (.cells #[.int .i64 0, .slice none 0 0, .slice none 0 0, .slice none 0 0, .slice none 0 0, .slice none 0 0, .slice none 0 0, .slice none 0 0, .slice none 0 0, .slice none 0 0, .slice none 0 0, .slice none 0 0, .slice none 0 0, .slice none 0 0, .slice none 0 0, .slice none 0 0] 66)))
  have BR5 := Aside0.mk (Bk.RC.below HL6.out (below_alloc (Below.refl W10.heap.size W10) (.cells #[.int .i64 0, .slice none 0 0, .slice none 0 0, .slice none 0 0, .slice none 0 0, .slice none 0 0, .slice none 0 0, .slice none 0 0, .slice none 0 0, .slice none 0 0, .slice none 0 0, .slice none 0 0, .slice none 0 0, .slice none 0 0, .slice none 0 0, .slice none 0 0] 66)))
  have BB := Aside0.mk (below_alloc HBN.out (.cells #[.int .i64 0, .slice none 0 0, .slice none 0 0, .slice none 0 0, .slice none 0 0, .slice none 0 0, .slice none 0 0, .slice none 0 0, .slice none 0 0, .slice none 0 0, .slice none 0 0, .slice none 0 0, .slice none 0 0, .slice none 0 0, .slice none 0 0, .slice none 0 0] 66))
  obtain ⟨bx, hbx⟩ : ∃ b, b = W10.heap.size := ⟨_, rfl⟩
  have hbx0 : w.heap.size ≤ bx := by rw [hbx]; exact hbs
  rw [← hbx] at HBOX ⊢
  clear hbx
  generalize World.alloc W10 (.cells #[.int .i64 0, .slice none 0 0, .slice none 0 0, .slice none 0 0, .slice none 0 0, .slice none 0 0, .slice none 0 0, .slice none 0 0, .slice none 0 0, .slice none 0 0, .slice none 0 0, .slice none 0 0, .slice none 0 0, .slice none 0 0, .slice none 0 0, .slice none 0 0] 66) = wk at *
  go_wp2_with fail
  try (clear t0 t1 t2 t3 t4)
  go_enter Tryz.func18, Tryz.ntmps18
  have hbs := below_alloc (Below.refl wk.heap.size wk) (.cells #[.int .i64 lv, .int .i64 ev, .slice A1 n x1, .slice A2 k x2, .slice A3 m x3] 25)
  have HBOX2 := Aside0.mk (blk_below HBOX.out hbs); clear HBOX; have HBOX := HBOX2; clear HBOX2
  have BRt := Aside0.mk (Bk.RC.below BR0.out hbs); clear BR0; have BR0 := BRt; clear BRt
  have BRt := Aside0.mk (Bk.RC.below BR1.out hbs); clear BR1; have BR1 := BRt; clear BRt
  have BRt := Aside0.mk (Bk.RC.below BR2.out hbs); clear BR2; have BR2 := BRt; clear BRt
  have BRt := Aside0.mk (Bk.RC.below BR3.out hbs); clear BR3; have BR3 := BRt; clear BRt
  have BRt := Aside0.mk (Bk.RC.below BR4.out hbs); clear BR4; have BR4 := BRt; clear BRt
  have BRt := Aside0.mk (Bk.RC.below BR5.out hbs); clear BR5; have BR5 := BRt; clear BRt
  have BB2 := Aside0.mk (below_step BB.out hbs); clear BB; have BB := BB2; clear BB2
  have HCS := Aside0.mk (blk_new wk (.cells #[.int .i64 lv, .int .i64 ev, .slice A1 n x1, .slice A2 k x2, .slice A3 m x3] 25))
  go_upto_region 1 with fail
  generalize World.alloc wk (.cells #[.int .i64 lv, .int .i64 ev, .slice A1 n x1, .slice A2 k x2, .slice A3 m x3] 25) = wks at *
  obtain ⟨bs, hbs0⟩ : ∃ b, b = wk.heap.size := ⟨_, rfl⟩
  rw [← hbs0] at HCS ⊢
  clear hbs hbs0
  have s2 := blk_cell HCS.out 2; have s3 := blk_cell HCS.out 3; have s4 := blk_cell HCS.out 4; simp at s2 s3 s4
  go_wp2_with fail
  refine (Bk.Nodes_calls wks w.heap.size bx 0 0 0 none A1 n x1 ([] : List Bk.Hd) #[.int .i64 ((0 : Nat) : Int), .slice none 0 0, .slice none 0 0, .slice none 0 0, .slice none 0 0, .slice none 0 0, .slice none 0 0, .slice none 0 0, .slice none 0 0, .slice none 0 0, .slice none 0 0, .slice none 0 0, .slice none 0 0, .slice none 0 0, .slice none 0 0, .slice none 0 0] (by first | rfl | simp) HBOX.out rfl rfl (Kd.R_nil _ _ _ _ _) hbx0 (by decide) (by decide)).mono ?_
  rintro e wk0 ⟨rfl, hA0, hc0, hg, hh, hk⟩
  have HBOX2 : Aside0 (wk0.heap[bx]? = some (.cells #[.int .i64 ((1 : Nat) : Int), .slice none 0 0, .slice none 0 0, .slice none 0 0, .slice none 0 0, .slice none 0 0, .slice none 0 0, .slice none 0 0, .slice hA0 (0 + 1) hc0, .slice none 0 0, .slice none 0 0, .slice none 0 0, .slice none 0 0, .slice none 0 0, .slice none 0 0, .slice none 0 0] 66 (0, 0))) := ⟨hg⟩
  clear HBOX; have HBOX := HBOX2; clear HBOX2
  have BRt := Aside0.mk (Bk.RC.keep2 BR0.out rfl (by decide) (by decide) hk); clear BR0; have BR0 := BRt; clear BRt
  have BRt := Aside0.mk (Bk.RC.keep2 BR1.out rfl (by decide) (by decide) hk); clear BR1; have BR1 := BRt; clear BRt
  have BRt := Aside0.mk (Bk.RC.keep2 BR2.out rfl (by decide) (by decide) hk); clear BR2; have BR2 := BRt; clear BRt
  have BRt := Aside0.mk (Bk.RC.keep2 BR3.out rfl (by decide) (by decide) hk); clear BR3; have BR3 := BRt; clear BRt
  have BRt := Aside0.mk (Bk.RC.keep2 BR4.out rfl (by decide) (by decide) hk); clear BR4; have BR4 := BRt; clear BRt
  have BRt := Aside0.mk (Bk.RC.keep2 BR5.out rfl (by decide) (by decide) hk); clear BR5; have BR5 := BRt; clear BRt
  have BX2 := Aside0.mk (Bk.Kept2.box hk HCS.out (by decide) (by decide)); clear HCS; have HCS := BX2; clear BX2
  have BHNode := Aside0.mk hh
  have BB2 := Aside0.mk (BB.out.trans hk.below); clear BB; have BB := BB2; clear BB2
  clear hg hh hk
  clear s2 s3 s4
  have s2 := blk_cell HCS.out 2; have s3 := blk_cell HCS.out 3; have s4 := blk_cell HCS.out 4; simp at s2 s3 s4
  go_wp2_with fail
  refine (Bk.Bounds_calls wk0 w.heap.size bx 0 0 1 none A2 k x2 ([] : List Bk.Hd) #[.int .i64 ((1 : Nat) : Int), .slice none 0 0, .slice none 0 0, .slice none 0 0, .slice none 0 0, .slice none 0 0, .slice none 0 0, .slice none 0 0, .slice hA0 (0 + 1) hc0, .slice none 0 0, .slice none 0 0, .slice none 0 0, .slice none 0 0, .slice none 0 0, .slice none 0 0, .slice none 0 0] (by first | rfl | simp) HBOX.out rfl rfl (Kd.R_nil _ _ _ _ _) hbx0 (by decide) (by decide)).mono ?_
  rintro e wk1 ⟨rfl, hA1, hc1, hg, hh, hk⟩
  have HBOX2 : Aside0 (wk1.heap[bx]? = some (.cells #[.int .i64 ((2 : Nat) : Int), .slice none 0 0, .slice none 0 0, .slice none 0 0, .slice none 0 0, .slice none 0 0, .slice none 0 0, .slice none 0 0, .slice hA0 (0 + 1) hc0, .slice hA1 (0 + 1) hc1, .slice none 0 0, .slice none 0 0, .slice none 0 0, .slice none 0 0, .slice none 0 0, .slice none 0 0] 66 (0, 0))) := ⟨hg⟩
  clear HBOX; have HBOX := HBOX2; clear HBOX2
  have BRt := Aside0.mk (Bk.RC.keep2 BR0.out rfl (by decide) (by decide) hk); clear BR0; have BR0 := BRt; clear BRt
  have BRt := Aside0.mk (Bk.RC.keep2 BR1.out rfl (by decide) (by decide) hk); clear BR1; have BR1 := BRt; clear BRt
  have BRt := Aside0.mk (Bk.RC.keep2 BR2.out rfl (by decide) (by decide) hk); clear BR2; have BR2 := BRt; clear BRt
  have BRt := Aside0.mk (Bk.RC.keep2 BR3.out rfl (by decide) (by decide) hk); clear BR3; have BR3 := BRt; clear BRt
  have BRt := Aside0.mk (Bk.RC.keep2 BR4.out rfl (by decide) (by decide) hk); clear BR4; have BR4 := BRt; clear BRt
  have BRt := Aside0.mk (Bk.RC.keep2 BR5.out rfl (by decide) (by decide) hk); clear BR5; have BR5 := BRt; clear BRt
  have BH2 := Aside0.mk (Bk.R_keep2 BHNode.out rfl (by decide) (by decide) hk); clear BHNode; have BHNode := BH2; clear BH2
  have BX2 := Aside0.mk (Bk.Kept2.box hk HCS.out (by decide) (by decide)); clear HCS; have HCS := BX2; clear BX2
  have BHBound := Aside0.mk hh
  have BB2 := Aside0.mk (BB.out.trans hk.below); clear BB; have BB := BB2; clear BB2
  clear hg hh hk
  clear s2 s3 s4
  have s2 := blk_cell HCS.out 2; have s3 := blk_cell HCS.out 3; have s4 := blk_cell HCS.out 4; simp at s2 s3 s4
  go_wp2_with fail
  refine (Bk.Bounds_calls wk1 w.heap.size bx (0 + 1) hc1 2 hA1 A3 m x3 (([] : List Bk.Hd) ++ [⟨A2, k, x2, none, 0, 0, 1 + 1⟩]) #[.int .i64 ((2 : Nat) : Int), .slice none 0 0, .slice none 0 0, .slice none 0 0, .slice none 0 0, .slice none 0 0, .slice none 0 0, .slice none 0 0, .slice hA0 (0 + 1) hc0, .slice hA1 (0 + 1) hc1, .slice none 0 0, .slice none 0 0, .slice none 0 0, .slice none 0 0, .slice none 0 0, .slice none 0 0] (by first | rfl | simp) HBOX.out rfl rfl BHBound.out hbx0 (by decide) (by decide)).mono ?_
  rintro e wk2 ⟨rfl, hA2, hc2, hg, hh, hk⟩
  have HBOX2 : Aside0 (wk2.heap[bx]? = some (.cells #[.int .i64 ((3 : Nat) : Int), .slice none 0 0, .slice none 0 0, .slice none 0 0, .slice none 0 0, .slice none 0 0, .slice none 0 0, .slice none 0 0, .slice hA0 (0 + 1) hc0, .slice hA2 ((0 + 1) + 1) hc2, .slice none 0 0, .slice none 0 0, .slice none 0 0, .slice none 0 0, .slice none 0 0, .slice none 0 0] 66 (0, 0))) := ⟨hg⟩
  clear HBOX; have HBOX := HBOX2; clear HBOX2
  have BRt := Aside0.mk (Bk.RC.keep2 BR0.out rfl (by decide) (by decide) hk); clear BR0; have BR0 := BRt; clear BRt
  have BRt := Aside0.mk (Bk.RC.keep2 BR1.out rfl (by decide) (by decide) hk); clear BR1; have BR1 := BRt; clear BRt
  have BRt := Aside0.mk (Bk.RC.keep2 BR2.out rfl (by decide) (by decide) hk); clear BR2; have BR2 := BRt; clear BRt
  have BRt := Aside0.mk (Bk.RC.keep2 BR3.out rfl (by decide) (by decide) hk); clear BR3; have BR3 := BRt; clear BRt
  have BRt := Aside0.mk (Bk.RC.keep2 BR4.out rfl (by decide) (by decide) hk); clear BR4; have BR4 := BRt; clear BRt
  have BRt := Aside0.mk (Bk.RC.keep2 BR5.out rfl (by decide) (by decide) hk); clear BR5; have BR5 := BRt; clear BRt
  have BH2 := Aside0.mk (Bk.R_keep2 BHNode.out rfl (by decide) (by decide) hk); clear BHNode; have BHNode := BH2; clear BH2
  have BX2 := Aside0.mk (Bk.Kept2.box hk HCS.out (by decide) (by decide)); clear HCS; have HCS := BX2; clear BX2
  clear BHBound
  have BHBound := Aside0.mk hh
  have BB2 := Aside0.mk (BB.out.trans hk.below); clear BB; have BB := BB2; clear BB2
  clear hg hh hk
  go_wp2
  go_end0
  clear s2 s3 s4 HCS
  go_wp2_with fail
  refine (Bk.Nums_calls wk2 w.heap.size bx 0 0 3 none A4 m1 x4 ([] : List Bk.Hd) #[.int .i64 ((3 : Nat) : Int), .slice none 0 0, .slice none 0 0, .slice none 0 0, .slice none 0 0, .slice none 0 0, .slice none 0 0, .slice none 0 0, .slice hA0 (0 + 1) hc0, .slice hA2 ((0 + 1) + 1) hc2, .slice none 0 0, .slice none 0 0, .slice none 0 0, .slice none 0 0, .slice none 0 0, .slice none 0 0] (by first | rfl | simp) HBOX.out rfl rfl (Kd.R_nil _ _ _ _ _) hbx0 (by decide) (by decide)).mono ?_
  rintro e wk3 ⟨rfl, hA3, hc3, hg, hh, hk⟩
  have HBOX2 : Aside0 (wk3.heap[bx]? = some (.cells #[.int .i64 ((4 : Nat) : Int), .slice none 0 0, .slice none 0 0, .slice none 0 0, .slice hA3 (0 + 1) hc3, .slice none 0 0, .slice none 0 0, .slice none 0 0, .slice hA0 (0 + 1) hc0, .slice hA2 ((0 + 1) + 1) hc2, .slice none 0 0, .slice none 0 0, .slice none 0 0, .slice none 0 0, .slice none 0 0, .slice none 0 0] 66 (0, 0))) := ⟨hg⟩
  clear HBOX; have HBOX := HBOX2; clear HBOX2
  have BRt := Aside0.mk (Bk.RC.keep2 BR0.out rfl (by decide) (by decide) hk); clear BR0; have BR0 := BRt; clear BRt
  have BRt := Aside0.mk (Bk.RC.keep2 BR1.out rfl (by decide) (by decide) hk); clear BR1; have BR1 := BRt; clear BRt
  have BRt := Aside0.mk (Bk.RC.keep2 BR2.out rfl (by decide) (by decide) hk); clear BR2; have BR2 := BRt; clear BRt
  have BRt := Aside0.mk (Bk.RC.keep2 BR3.out rfl (by decide) (by decide) hk); clear BR3; have BR3 := BRt; clear BRt
  have BRt := Aside0.mk (Bk.RC.keep2 BR4.out rfl (by decide) (by decide) hk); clear BR4; have BR4 := BRt; clear BRt
  have BRt := Aside0.mk (Bk.RC.keep2 BR5.out rfl (by decide) (by decide) hk); clear BR5; have BR5 := BRt; clear BRt
  have BH2 := Aside0.mk (Bk.R_keep2 BHNode.out rfl (by decide) (by decide) hk); clear BHNode; have BHNode := BH2; clear BH2
  have BH2 := Aside0.mk (Bk.R_keep2 BHBound.out rfl (by decide) (by decide) hk); clear BHBound; have BHBound := BH2; clear BH2
  have BHNum := Aside0.mk hh
  have BB2 := Aside0.mk (BB.out.trans hk.below); clear BB; have BB := BB2; clear BB2
  clear hg hh hk
  go_wp2_with fail
  refine (Bk.Nums_calls wk3 w.heap.size bx (0 + 1) hc3 4 hA3 A5 m2 x5 (([] : List Bk.Hd) ++ [⟨A4, m1, x4, none, 0, 0, 3 + 1⟩]) #[.int .i64 ((4 : Nat) : Int), .slice none 0 0, .slice none 0 0, .slice none 0 0, .slice hA3 (0 + 1) hc3, .slice none 0 0, .slice none 0 0, .slice none 0 0, .slice hA0 (0 + 1) hc0, .slice hA2 ((0 + 1) + 1) hc2, .slice none 0 0, .slice none 0 0, .slice none 0 0, .slice none 0 0, .slice none 0 0, .slice none 0 0] (by first | rfl | simp) HBOX.out rfl rfl BHNum.out hbx0 (by decide) (by decide)).mono ?_
  rintro e wk4 ⟨rfl, hA4, hc4, hg, hh, hk⟩
  have HBOX2 : Aside0 (wk4.heap[bx]? = some (.cells #[.int .i64 ((5 : Nat) : Int), .slice none 0 0, .slice none 0 0, .slice none 0 0, .slice hA4 ((0 + 1) + 1) hc4, .slice none 0 0, .slice none 0 0, .slice none 0 0, .slice hA0 (0 + 1) hc0, .slice hA2 ((0 + 1) + 1) hc2, .slice none 0 0, .slice none 0 0, .slice none 0 0, .slice none 0 0, .slice none 0 0, .slice none 0 0] 66 (0, 0))) := ⟨hg⟩
  clear HBOX; have HBOX := HBOX2; clear HBOX2
  have BRt := Aside0.mk (Bk.RC.keep2 BR0.out rfl (by decide) (by decide) hk); clear BR0; have BR0 := BRt; clear BRt
  have BRt := Aside0.mk (Bk.RC.keep2 BR1.out rfl (by decide) (by decide) hk); clear BR1; have BR1 := BRt; clear BRt
  have BRt := Aside0.mk (Bk.RC.keep2 BR2.out rfl (by decide) (by decide) hk); clear BR2; have BR2 := BRt; clear BRt
  have BRt := Aside0.mk (Bk.RC.keep2 BR3.out rfl (by decide) (by decide) hk); clear BR3; have BR3 := BRt; clear BRt
  have BRt := Aside0.mk (Bk.RC.keep2 BR4.out rfl (by decide) (by decide) hk); clear BR4; have BR4 := BRt; clear BRt
  have BRt := Aside0.mk (Bk.RC.keep2 BR5.out rfl (by decide) (by decide) hk); clear BR5; have BR5 := BRt; clear BRt
  have BH2 := Aside0.mk (Bk.R_keep2 BHNode.out rfl (by decide) (by decide) hk); clear BHNode; have BHNode := BH2; clear BH2
  have BH2 := Aside0.mk (Bk.R_keep2 BHBound.out rfl (by decide) (by decide) hk); clear BHBound; have BHBound := BH2; clear BH2
  clear BHNum
  have BHNum := Aside0.mk hh
  have BB2 := Aside0.mk (BB.out.trans hk.below); clear BB; have BB := BB2; clear BB2
  clear hg hh hk
  go_wp2_with fail
  refine (Bk.Nodes_calls wk4 w.heap.size bx (0 + 1) hc0 5 hA0 A6 n7 y6 (([] : List Bk.Hd) ++ [⟨A1, n, x1, none, 0, 0, 0 + 1⟩]) #[.int .i64 ((5 : Nat) : Int), .slice none 0 0, .slice none 0 0, .slice none 0 0, .slice hA4 ((0 + 1) + 1) hc4, .slice none 0 0, .slice none 0 0, .slice none 0 0, .slice hA0 (0 + 1) hc0, .slice hA2 ((0 + 1) + 1) hc2, .slice none 0 0, .slice none 0 0, .slice none 0 0, .slice none 0 0, .slice none 0 0, .slice none 0 0] (by first | rfl | simp) HBOX.out rfl rfl BHNode.out hbx0 (by decide) (by decide)).mono ?_
  rintro e wk5 ⟨rfl, hA5, hc5, hg, hh, hk⟩
  have HBOX2 : Aside0 (wk5.heap[bx]? = some (.cells #[.int .i64 ((6 : Nat) : Int), .slice none 0 0, .slice none 0 0, .slice none 0 0, .slice hA4 ((0 + 1) + 1) hc4, .slice none 0 0, .slice none 0 0, .slice none 0 0, .slice hA5 ((0 + 1) + 1) hc5, .slice hA2 ((0 + 1) + 1) hc2, .slice none 0 0, .slice none 0 0, .slice none 0 0, .slice none 0 0, .slice none 0 0, .slice none 0 0] 66 (0, 0))) := ⟨hg⟩
  clear HBOX; have HBOX := HBOX2; clear HBOX2
  have BRt := Aside0.mk (Bk.RC.keep2 BR0.out rfl (by decide) (by decide) hk); clear BR0; have BR0 := BRt; clear BRt
  have BRt := Aside0.mk (Bk.RC.keep2 BR1.out rfl (by decide) (by decide) hk); clear BR1; have BR1 := BRt; clear BRt
  have BRt := Aside0.mk (Bk.RC.keep2 BR2.out rfl (by decide) (by decide) hk); clear BR2; have BR2 := BRt; clear BRt
  have BRt := Aside0.mk (Bk.RC.keep2 BR3.out rfl (by decide) (by decide) hk); clear BR3; have BR3 := BRt; clear BRt
  have BRt := Aside0.mk (Bk.RC.keep2 BR4.out rfl (by decide) (by decide) hk); clear BR4; have BR4 := BRt; clear BRt
  have BRt := Aside0.mk (Bk.RC.keep2 BR5.out rfl (by decide) (by decide) hk); clear BR5; have BR5 := BRt; clear BRt
  have BH2 := Aside0.mk (Bk.R_keep2 BHBound.out rfl (by decide) (by decide) hk); clear BHBound; have BHBound := BH2; clear BH2
  have BH2 := Aside0.mk (Bk.R_keep2 BHNum.out rfl (by decide) (by decide) hk); clear BHNum; have BHNum := BH2; clear BH2
  clear BHNode
  have BHNode := Aside0.mk hh
  have BB2 := Aside0.mk (BB.out.trans hk.below); clear BB; have BB := BB2; clear BB2
  clear hg hh hk
  go_wp2_with fail
  refine (Bk.apartNBU wk5 w.heap.size bx #[.int .i64 ((6 : Nat) : Int), .slice none 0 0, .slice none 0 0, .slice none 0 0, .slice hA4 ((0 + 1) + 1) hc4, .slice none 0 0, .slice none 0 0, .slice none 0 0, .slice hA5 ((0 + 1) + 1) hc5, .slice hA2 ((0 + 1) + 1) hc2, .slice none 0 0, .slice none 0 0, .slice none 0 0, .slice none 0 0, .slice none 0 0, .slice none 0 0] HBOX.out BB.out.size rfl rfl rfl rfl rfl rfl rfl rfl rfl rfl rfl rfl ((0 + 1) + 1) hc4 hA4 ((([] : List Bk.Hd) ++ [⟨A4, m1, x4, none, 0, 0, 3 + 1⟩]) ++ [⟨A5, m2, x5, none, 0, 0, 4 + 1⟩]) _ rfl ⟨BHNum.out, (Bk.Lists.add (Bk.Lists.add Bk.Lists.nil BR3.out) BR4.out)⟩ (by first | rfl | simp) (by intro x hx; simp only [List.nil_append, List.mem_append, List.mem_singleton, List.cons_append, List.mem_cons, List.not_mem_nil, or_false] at hx; rcases hx with rfl | rfl; all_goals exact ⟨by dsimp only; omega, by dsimp only; omega⟩) (Bk.Apart.add (Bk.Apart.add Bk.Apart.nil ⟨A4, m1, x4, none, 0, 0, 3 + 1⟩ (fun y hy => by simp at hy)) ⟨A5, m2, x5, none, 0, 0, 4 + 1⟩ (fun y hy a b ha hb => by simp only [List.nil_append, List.mem_append, List.mem_singleton, List.cons_append, List.mem_cons, List.not_mem_nil, or_false] at hy; rcases hy with rfl; exact HAP3.out a b ha hb)) (by decide) ((0 + 1) + 1) hc5 hA5 ((([] : List Bk.Hd) ++ [⟨A1, n, x1, none, 0, 0, 0 + 1⟩]) ++ [⟨A6, n7, y6, none, 0, 0, 5 + 1⟩]) _ rfl ⟨BHNode.out, (Bk.Lists.add (Bk.Lists.add Bk.Lists.nil BR0.out) BR5.out)⟩ (by first | rfl | simp) (by intro x hx; simp only [List.nil_append, List.mem_append, List.mem_singleton, List.cons_append, List.mem_cons, List.not_mem_nil, or_false] at hx; rcases hx with rfl | rfl; all_goals exact ⟨by dsimp only; omega, by dsimp only; omega⟩) (Bk.Apart.add (Bk.Apart.add Bk.Apart.nil ⟨A1, n, x1, none, 0, 0, 0 + 1⟩ (fun y hy => by simp at hy)) ⟨A6, n7, y6, none, 0, 0, 5 + 1⟩ (fun y hy a b ha hb => by simp only [List.nil_append, List.mem_append, List.mem_singleton, List.cons_append, List.mem_cons, List.not_mem_nil, or_false] at hy; rcases hy with rfl; exact HAP1.out a b ha hb)) (by decide) ((0 + 1) + 1) hc2 hA2 ((([] : List Bk.Hd) ++ [⟨A2, k, x2, none, 0, 0, 1 + 1⟩]) ++ [⟨A3, m, x3, none, 0, 0, 2 + 1⟩]) _ rfl ⟨BHBound.out, (Bk.Lists.add (Bk.Lists.add Bk.Lists.nil BR1.out) BR2.out)⟩ (by first | rfl | simp) (by intro x hx; simp only [List.nil_append, List.mem_append, List.mem_singleton, List.cons_append, List.mem_cons, List.not_mem_nil, or_false] at hx; rcases hx with rfl | rfl; all_goals exact ⟨by dsimp only; omega, by dsimp only; omega⟩) (Bk.Apart.add (Bk.Apart.add Bk.Apart.nil ⟨A2, k, x2, none, 0, 0, 1 + 1⟩ (fun y hy => by simp at hy)) ⟨A3, m, x3, none, 0, 0, 2 + 1⟩ (fun y hy a b ha hb => by simp only [List.nil_append, List.mem_append, List.mem_singleton, List.cons_append, List.mem_cons, List.not_mem_nil, or_false] at hy; rcases hy with rfl; exact HAP2.out a b ha hb)) (by decide)).mono ?_
  rintro e wz ⟨rfl, hbz⟩
  have BZ := Aside0.mk (BB.out.trans hbz)
  clear hbz
  go_wp2
  go_ret
  exact ⟨rfl, BZ.out⟩
end L12
end Go.Proofs.YtdecijmncpbheaaGreatDoor
