/- The law SchemesHold: a walk through its code at every input. -/
import Derived.Test.YtjndjmggilcngaaGreatDoorL12A
import Derived.Test.YtjndjmggilcngaaGreatDoorHd
import Derived.Test.YtjndjmggilcngaaGreatDoorQt

namespace Go.Proofs.YtjndjmggilcngaaGreatDoor
open Go.RowKit Go.Proofs.YtjndjmggilcngaaGreatDoorW.PrintWords Go.Proofs.YtjndjmggilcngaaGreatDoorW.PrintLast Go.Proofs.YtjndjmggilcngaaGreatDoorW.PrintMore
set_option linter.unusedVariables false
set_option linter.unusedSimpArgs false
namespace L12
open L09
structure ValsY where
  A : Option Addr
  c : Nat
  ls : List Int
  B : Option Addr
  d : Nat
  xs : List Int
def ValsY.ok (w : World) (y : ValsY) : Prop := (Kd.int .u64).C w y.A y.ls.length y.ls ∧ (∀ r ∈ y.ls, (Lit.int .u64 r).wf = true) ∧ (Kd.int .u64).C w y.B y.xs.length y.xs ∧ ∀ r ∈ y.xs, (Lit.int .u64 r).wf = true
def ValsY.v (y : ValsY) : Value := .agg #[.slice y.A y.ls.length y.c, .slice y.B y.xs.length y.d]
theorem arg_vals {H : Type} {enc : TypeId × Value → H} {w : World} {v : Value} {x : DataW H} {ps : List MemPlace} (hs : ∃ cs, v = .agg cs) (hx : DataW.Trod enc Tryz.prog w 0 (fun _ => true) true 82 v x ps) (hL : Light Tryz.prog 82 x) : ∃ y : ValsY, v = y.v ∧ y.ok w := by
  obtain ⟨cs, y, rfl, hK, hw⟩ := arg_agg (d := Kd.pair (Kd.slice 0 (Kd.int .u64)) (Kd.slice 0 (Kd.int .u64))) (opens_struct (l := [(50, 0), (50, 1)]) (by kernel_rfl) (by kernel_rfl) (from_cons (by kernel_rfl) rfl (opens_slice 0 Tryz.underlying50 (by kernel_rfl) (opens_int Tryz.underlying119)) (from_last (by kernel_rfl) (opens_slice 0 Tryz.underlying50 (by kernel_rfl) (opens_int Tryz.underlying119))))) hs hx hL
  obtain ⟨c1, c2, e, k1, k2⟩ := K_pair hK
  obtain ⟨A, a, rfl, ha, hA⟩ := K_slice k1
  obtain ⟨B, b, rfl, hb, hB⟩ := K_slice k2
  refine ⟨⟨A, a, y.1, B, b, y.2⟩, ?_, hA, hw.1.1, hB, hw.2.1⟩
  show Value.agg cs = _
  rw [← Array.toArray_toList (xs := cs), e]
  rfl
theorem nilHasL (k : Nat) (v : Value) (w : World) : (nilAhead (k + 1) 54 v "Has").run Tryz.prog w = .ok (some false) w := by kernel_rfl
theorem nilHasE (k : Nat) (v : Value) (w : World) : (nilAhead (k + 1) 55 v "Has").run Tryz.prog w = .ok (some false) w := by kernel_rfl
theorem scheme_named (w : World) (lv ev : Int) (A LA EA : Option Addr) (c lc ec n k m : Nat) (a : List Node) (L E : List Bound) (v1 v2 : Value) (o : Option (List Int)) (p : Option Int) (r : Int) (hr : schemeB (hasLat o) (hasEff p) lv ev a L E = r) (hn : n = a.length) (hk : k = L.length) (hm : m = E.length) (hy : SchY.ok w ⟨lv, ev, A, c, a, LA, lc, L, EA, ec, E⟩) (hv1 : LatV w v1 o) (hv2 : EffV w v2 p) :
    Calls Tryz.prog 40 #[.agg #[.int .i64 lv, .int .i64 ev, .slice A n c, .slice LA k lc, .slice EA m ec], .iface 54 v1, .iface 55 v2] w fun e w' => e = .returned (.int .i64 r) ∧ Below w.heap.size w w' := by
  rw [← hr]
  subst hn hk hm
  exact scheme_calls w ⟨lv, ev, A, c, a, LA, lc, L, EA, ec, E⟩ hy v1 v2 o p hv1 hv2
theorem groun_named2 (w : World) (lv ev : Int) (A LA EA : Option Addr) (c lc ec n k m : Nat) (a : List Node) (L E : List Bound) (hn : n = a.length) (hk : k = L.length) (hm : m = E.length) (hy : SchY.ok w ⟨lv, ev, A, c, a, LA, lc, L, EA, ec, E⟩) (B1 B2 : Option Addr) (m1 m2 f1 f2 : Nat) (ls xs : List Int) (gb : List Node) (er : Int) (gn : Nat) (hr : grounS lv ev a ls xs = (gb, er)) (hg : gn = gb.length) (hm1 : m1 = ls.length) (hm2 : m2 = xs.length) (hl1 : (Kd.int .u64).C w B1 m1 ls) (hl2 : (Kd.int .u64).C w B2 m2 xs) :
    Calls Tryz.prog 34 #[.agg #[.int .i64 lv, .int .i64 ev, .slice A n c, .slice LA k lc, .slice EA m ec], .slice B1 m1 f1, .slice B2 m2 f2] w fun e w' => ∃ A' c', e = .returned (.tuple #[.slice A' gn c', .int .i64 er]) ∧ kNode.C w' A' gn gb ∧ Below w.heap.size w w' := by
  subst hn hk hm hg
  exact groun_named w ⟨lv, ev, A, c, a, LA, lc, L, EA, ec, E⟩ hy B1 B2 m1 m2 f1 f2 ls xs (gb, er) hr hm1 hm2 hl1 hl2
end L12
end Go.Proofs.YtjndjmggilcngaaGreatDoor
