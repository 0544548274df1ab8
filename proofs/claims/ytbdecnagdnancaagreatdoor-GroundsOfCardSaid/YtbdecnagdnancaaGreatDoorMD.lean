/- Several texts as one: GrB, GrC, GrD, GrE, GrF, GrT, GrG. -/
import Derived.Test.YtbdecnagdnancaaGreatDoorME
import Derived.Test.YtbdecnagdnancaaGreatDoorMC
import Derived.Test.YtbdecnagdnancaaGreatDoorMB
import Derived.RangeFuncNested
import Derived.RangeFuncCalls
import Derived.RangeFuncLeaves
import Derived.Shelf.Abstract
import Derived.Shelf.RegionOpen
import Derived.WalkKit
import Derived.OwnWalkIn
import Derived.TacticsInMore
import Derived.LoopNIn
import Derived.LoopIn
import Derived.Stop.RegionWithIn
import Derived.Test.YtbdecnagdnancaaGreatDoorMO

namespace Go.Proofs.YtbdecnagdnancaaGreatDoor
open Go.RowKit Go.Shelf Go.Proofs.YtbdecnagdnancaaGreatDoorW.PrintWords Go.Proofs.YtbdecnagdnancaaGreatDoorW.PrintLast Go.Proofs.YtbdecnagdnancaaGreatDoorW.PrintMore
set_option linter.unusedVariables false
set_option linter.unusedSimpArgs false
/-- The values that stand at the same spots, by a way of the sides. -/
def holdsS (le : Int → Int → Bool) (s p q : Int) : Bool := if s = 0 then le p q else if s = 1 then le q p else le p q && le q p
def belowL (le : Int → Int → Bool) : List Spot → List Spot → Bool
  | x :: xs, y :: ys => holdsS le x.f2 x.f3.f1 y.f3.f1 && belowL le xs ys
  | _, _ => true
/-- Are all terms values of a sort? -/
def termsB (has : Int → Bool) (l : List Spot) : Bool := l.all fun x => !x.f3.f0 && has x.f3.f1
/-- What grounds.Below answers. -/
def groundB (hasL hasX : Int → Bool) (leL leX : Int → Int → Bool) (a b : List Node) : Bool × Int :=
  if checkB a ≠ 0 ∨ checkB b ≠ 0 then (false, 4)
  else if (termsB hasL (labB a) && termsB hasX (effB a) && termsB hasL (labB b) && termsB hasX (effB b)) = false then (false, 1)
  else if sameL a b = false then (false, 0)
  else (belowL leL (labB a) (labB b) && belowL leX (effB a) (effB b), 0)
end Go.Proofs.YtbdecnagdnancaaGreatDoor

namespace Go.Proofs.YtbdecnagdnancaaGreatDoor
open Go.RowKit Go.Proofs.YtbdecnagdnancaaGreatDoorW.PrintWords Go.Proofs.YtbdecnagdnancaaGreatDoorW.PrintLast Go.Proofs.YtbdecnagdnancaaGreatDoorW.PrintMore
set_option linter.unusedVariables false
set_option linter.unusedSimpArgs false
theorem hasLb_calls (w : World) (v : Value) (o : Option (List Int)) (a : Int) (ha : 0 ≤ a) (hv : LatV w v o) :
    Calls Tryz.prog 300 #[v, .int .u64 a] w fun e w' => e = .returned (.bool (hasLat o a)) ∧ Below w.heap.size w w' := by
  refine (has_calls w v o a ha hv).mono ?_
  rintro e w' ⟨rfl, rfl⟩
  exact ⟨rfl, Below.refl _ _⟩
theorem leLb_calls (w : World) (v : Value) (o : Option (List Int)) (a b : Int) (ha : 0 ≤ a) (hb : 0 ≤ b) (hv : LatV w v o) :
    Calls Tryz.prog 298 #[v, .int .u64 a, .int .u64 b] w fun e w' => e = .returned (.bool (leLat o a b)) ∧ Below w.heap.size w w' := by
  refine (le_calls w v o a b ha hb hv).mono ?_
  rintro e w' ⟨rfl, rfl⟩
  exact ⟨rfl, Below.refl _ _⟩
theorem mHasL (k : Nat) (v : Value) (w : World) : (method (k + 1) 54 v "Has").run Tryz.prog w = .ok (300, v) w := by kernel_rfl
set_option maxRecDepth 100000 in
set_option maxHeartbeats 4000000 in
theorem termsL_calls (w : World) (A : Option Addr) (c : Nat) (l : List Spot) (v : Value) (o : Option (List Int)) (hu : ∀ x ∈ l, 0 ≤ x.f3.f1) (hr : kSpot.C w A l.length l) (hv : LatV w v o) :
    Calls Tryz.prog 98 #[.slice A l.length c, .iface 54 v] w fun e w' => e = .returned (.bool (termsB (hasLat o) l)) ∧ Below w.heap.size w w' := by
  have hmax : l.length ≤ 9223372036854775807 := hr.2.1
  have HR := Aside0.mk hr
  have HV := Aside0.mk hv
  have HU := Aside0.mk hu
  clear hr hv hu
  obtain ⟨n, hn⟩ : ∃ n, n = l.length := ⟨_, rfl⟩
  rw [← hn] at hmax ⊢
  have HN := Aside0.mk hn
  clear hn
  have mh := mHasL
  go_enter Tryz.func98, Tryz.ntmps98
  go_wp2
  go_loopg [9] (n + 1) (fun gk i W => ∃ k : Nat, i = .int .i64 (k : Int) ∧ k ≤ n ∧ n + 1 - k ≤ gk ∧ Aside0 (Below w.heap.size w W) ∧ Aside0 (∀ i (h : i < l.length), i < k → (!l[i].f3.f0 && hasLat o l[i].f3.f1) = true))
  case atStart => exact ⟨0, rfl, by omega, by omega, ⟨Below.refl _ _⟩, ⟨fun i h hi => by omega⟩⟩
  case round =>
    obtain ⟨k, rfl, hk, hkg, HB, HK⟩ := hrel
    rcases Nat.lt_or_ge k n with hlt | hge
    · have hd : decide (k < n) = true := decide_eq_true hlt
      have hkl : k < l.length := by rw [← HN.out]; exact hlt
      obtain ⟨ad, rfl, c0, c1, c2, c3, c4⟩ := C_spotN (Kd.C_below HR.out HB.out) k hkl
      obtain ⟨x, hx⟩ : ∃ x, x = l[k] := ⟨_, rfl⟩
      rw [← hx] at c0 c1 c2 c3 c4
      have HX := Aside0.mk hx
      have HU1 : Aside0 (0 ≤ x.f3.f1) := ⟨by rw [hx]; exact HU.out _ (List.getElem_mem _)⟩
      clear hx
      have hbad : (!x.f3.f0 && hasLat o x.f3.f1) = false → Aside0 (termsB (hasLat o) l = false) := fun h => ⟨by
        unfold termsB
        rw [List.all_eq_false]
        exact ⟨x, by rw [HX.out]; exact List.getElem_mem _, by rw [h]; simp⟩⟩
      have HBa : Aside0 (∀ cs, Below w.heap.size w (wr.alloc (.cells cs 130))) := ⟨fun cs => below_alloc HB.out _⟩
      cases hv0 : x.f3.f0 with
      | true =>
        rw [hv0] at c3
        have HE := hbad (by rw [hv0]; rfl)
        clear hbad hv0
        go_wp2
        go_ret
        rw [HE.out]
        exact ⟨rfl, HBa.out _⟩
      | false =>
        rw [hv0] at c3
        cases hh : hasLat o x.f3.f1 with
        | false =>
          have HE := hbad (by rw [hv0, hh]; rfl)
          have HH := Aside0.mk hh
          clear hbad hv0 hh
          go_wp2_with (go_at_call 300; (with_reducible refine (hasLb_calls _ _ o _ HU1.out (HV.out.kept (HBa.out _))).mono ?_); rintro e W1 ⟨rfl, hb1⟩; rw [HH.out]; have HB1 := Aside0.mk ((HBa.out _).trans (hb1.mono (HBa.out _).size)); clear hb1)
          go_ret
          rw [HE.out]
          exact ⟨rfl, HB1.out⟩
        | true =>
          have HK2 : Aside0 (∀ i (h : i < l.length), i < k + 1 → (!l[i].f3.f0 && hasLat o l[i].f3.f1) = true) := ⟨by
            intro i h hi
            rcases Nat.lt_or_ge i k with g | g
            · exact HK.out i h g
            · obtain rfl : i = k := by omega
              rw [← HX.out, hv0, hh]
              rfl⟩
          have HH := Aside0.mk hh
          clear hbad hv0 hh
          go_wp2_with (go_at_call 300; (with_reducible refine (hasLb_calls _ _ o _ HU1.out (HV.out.kept (HBa.out _))).mono ?_); rintro e W1 ⟨rfl, hb1⟩; rw [HH.out]; have HB1 := Aside0.mk ((HBa.out _).trans (hb1.mono (HBa.out _).size)); clear hb1)
          go_roundg (gk - 1)
          case measure => omega
          case rel => exact ⟨k + 1, by go_num, by omega, by omega, HB1, HK2⟩
    · have hd : decide (k < n) = false := decide_eq_false (by omega)
      have HE : Aside0 (termsB (hasLat o) l = true) := ⟨by
        unfold termsB
        rw [List.all_eq_true]
        intro x hx
        obtain ⟨i, hi, rfl⟩ := List.getElem_of_mem hx
        exact HK.out i hi (by have := HN.out; omega)⟩
      go_wp2
      go_ret
      rw [HE.out]
      exact ⟨rfl, HB.out⟩
theorem mHasE (k : Nat) (v : Value) (w : World) : (method (k + 1) 55 v "Has").run Tryz.prog w = .ok (304, v) w := by kernel_rfl
set_option maxRecDepth 100000 in
set_option maxHeartbeats 4000000 in
theorem termsE_calls (w : World) (A : Option Addr) (c : Nat) (l : List Spot) (v : Value) (o : Option Int) (hu : ∀ x ∈ l, 0 ≤ x.f3.f1) (hr : kSpot.C w A l.length l) (hv : EffV w v o) :
    Calls Tryz.prog 98 #[.slice A l.length c, .iface 55 v] w fun e w' => e = .returned (.bool (termsB (hasEff o) l)) ∧ Below w.heap.size w w' := by
  have hmax : l.length ≤ 9223372036854775807 := hr.2.1
  have HR := Aside0.mk hr
  have HV := Aside0.mk hv
  have HU := Aside0.mk hu
  clear hr hv hu
  obtain ⟨n, hn⟩ : ∃ n, n = l.length := ⟨_, rfl⟩
  rw [← hn] at hmax ⊢
  have HN := Aside0.mk hn
  clear hn
  have mh := mHasE
  go_enter Tryz.func98, Tryz.ntmps98
  go_wp2
  go_loopg [9] (n + 1) (fun gk i W => ∃ k : Nat, i = .int .i64 (k : Int) ∧ k ≤ n ∧ n + 1 - k ≤ gk ∧ Aside0 (Below w.heap.size w W) ∧ Aside0 (∀ i (h : i < l.length), i < k → (!l[i].f3.f0 && hasEff o l[i].f3.f1) = true))
  case atStart => exact ⟨0, rfl, by omega, by omega, ⟨Below.refl _ _⟩, ⟨fun i h hi => by omega⟩⟩
  case round =>
    obtain ⟨k, rfl, hk, hkg, HB, HK⟩ := hrel
    rcases Nat.lt_or_ge k n with hlt | hge
    · have hd : decide (k < n) = true := decide_eq_true hlt
      have hkl : k < l.length := by rw [← HN.out]; exact hlt
      obtain ⟨ad, rfl, c0, c1, c2, c3, c4⟩ := C_spotN (Kd.C_below HR.out HB.out) k hkl
      obtain ⟨x, hx⟩ : ∃ x, x = l[k] := ⟨_, rfl⟩
      rw [← hx] at c0 c1 c2 c3 c4
      have HX := Aside0.mk hx
      have HU1 : Aside0 (0 ≤ x.f3.f1) := ⟨by rw [hx]; exact HU.out _ (List.getElem_mem _)⟩
      clear hx
      have hbad : (!x.f3.f0 && hasEff o x.f3.f1) = false → Aside0 (termsB (hasEff o) l = false) := fun h => ⟨by
        unfold termsB
        rw [List.all_eq_false]
        exact ⟨x, by rw [HX.out]; exact List.getElem_mem _, by rw [h]; simp⟩⟩
      have HBa : Aside0 (∀ cs, Below w.heap.size w (wr.alloc (.cells cs 130))) := ⟨fun cs => below_alloc HB.out _⟩
      cases hv0 : x.f3.f0 with
      | true =>
        rw [hv0] at c3
        have HE := hbad (by rw [hv0]; rfl)
        clear hbad hv0
        go_wp2
        go_ret
        rw [HE.out]
        exact ⟨rfl, HBa.out _⟩
      | false =>
        rw [hv0] at c3
        cases hh : hasEff o x.f3.f1 with
        | false =>
          have HE := hbad (by rw [hv0, hh]; rfl)
          have HH := Aside0.mk hh
          clear hbad hv0 hh
          go_wp2_with (go_at_call 304; (with_reducible refine (hasE_calls _ _ o _ (HV.out.kept (HBa.out _))).mono ?_); rintro e W1 ⟨rfl, hb1⟩; rw [HH.out]; have HB1 := Aside0.mk ((HBa.out _).trans (hb1.mono (HBa.out _).size)); clear hb1)
          go_ret
          rw [HE.out]
          exact ⟨rfl, HB1.out⟩
        | true =>
          have HK2 : Aside0 (∀ i (h : i < l.length), i < k + 1 → (!l[i].f3.f0 && hasEff o l[i].f3.f1) = true) := ⟨by
            intro i h hi
            rcases Nat.lt_or_ge i k with g | g
            · exact HK.out i h g
            · obtain rfl : i = k := by omega
              rw [← HX.out, hv0, hh]
              rfl⟩
          have HH := Aside0.mk hh
          clear hbad hv0 hh
          go_wp2_with (go_at_call 304; (with_reducible refine (hasE_calls _ _ o _ (HV.out.kept (HBa.out _))).mono ?_); rintro e W1 ⟨rfl, hb1⟩; rw [HH.out]; have HB1 := Aside0.mk ((HBa.out _).trans (hb1.mono (HBa.out _).size)); clear hb1)
          go_roundg (gk - 1)
          case measure => omega
          case rel => exact ⟨k + 1, by go_num, by omega, by omega, HB1, HK2⟩
    · have hd : decide (k < n) = false := decide_eq_false (by omega)
      have HE : Aside0 (termsB (hasEff o) l = true) := ⟨by
        unfold termsB
        rw [List.all_eq_true]
        intro x hx
        obtain ⟨i, hi, rfl⟩ := List.getElem_of_mem hx
        exact HK.out i hi (by have := HN.out; omega)⟩
      go_wp2
      go_ret
      rw [HE.out]
      exact ⟨rfl, HB.out⟩
end Go.Proofs.YtbdecnagdnancaaGreatDoor

namespace Go.Proofs.YtbdecnagdnancaaGreatDoor
open Go.RowKit Go.Proofs.YtbdecnagdnancaaGreatDoorW.PrintWords Go.Proofs.YtbdecnagdnancaaGreatDoorW.PrintLast Go.Proofs.YtbdecnagdnancaaGreatDoorW.PrintMore
set_option linter.unusedVariables false
set_option linter.unusedSimpArgs false
theorem mLeL (k : Nat) (v : Value) (w : World) : (method (k + 1) 54 v "Below").run Tryz.prog w = .ok (298, v) w := by kernel_rfl
set_option maxRecDepth 100000 in
set_option maxHeartbeats 4000000 in
theorem upL_calls (w : World) (g5 x y : Nat) (v : Value) (o : Option (List Int)) (hc : w.cell? ⟨g5, 0, none⟩ = some (.iface 54 v)) (hv : LatV w v o) :
    Calls Tryz.prog 218 #[.agg #[.int .u64 (x : Int), .int .u64 (y : Int)], .pointer (some ⟨g5, 0, none⟩)] w fun e w' => e = .returned (.bool (leLat o x y)) ∧ Below w.heap.size w w' := by
  have HV := Aside0.mk hv
  clear hv
  have hl5 := World.block_lt_of_cell? w _ hc
  have hm := mLeL
  go_enter Tryz.func218, Tryz.ntmps218
  go_wp2_with (go_at_call 298; (with_reducible refine (leLb_calls _ _ o (x : Int) (y : Int) (Int.natCast_nonneg _) (Int.natCast_nonneg _) (HV.out.kept (below_alloc (Below.refl w.heap.size w) _))).mono ?_); rintro e W1 ⟨rfl, hb1⟩; have HB1 := Aside0.mk ((below_alloc (Below.refl w.heap.size w) _).trans (hb1.mono (below_alloc (Below.refl w.heap.size w) _).size)); clear hb1)
  go_ret
  exact ⟨rfl, HB1.out⟩
set_option maxRecDepth 100000 in
set_option maxHeartbeats 4000000 in
theorem downL_calls (w : World) (g5 x y : Nat) (v : Value) (o : Option (List Int)) (hc : w.cell? ⟨g5, 0, none⟩ = some (.iface 54 v)) (hv : LatV w v o) :
    Calls Tryz.prog 219 #[.agg #[.int .u64 (x : Int), .int .u64 (y : Int)], .pointer (some ⟨g5, 0, none⟩)] w fun e w' => e = .returned (.bool (leLat o y x)) ∧ Below w.heap.size w w' := by
  have HV := Aside0.mk hv
  clear hv
  have hl5 := World.block_lt_of_cell? w _ hc
  have hm := mLeL
  go_enter Tryz.func219, Tryz.ntmps219
  go_wp2_with (go_at_call 298; (with_reducible refine (leLb_calls _ _ o (y : Int) (x : Int) (Int.natCast_nonneg _) (Int.natCast_nonneg _) (HV.out.kept (below_alloc (Below.refl w.heap.size w) _))).mono ?_); rintro e W1 ⟨rfl, hb1⟩; have HB1 := Aside0.mk ((below_alloc (Below.refl w.heap.size w) _).trans (hb1.mono (below_alloc (Below.refl w.heap.size w) _).size)); clear hb1)
  go_ret
  exact ⟨rfl, HB1.out⟩
set_option maxRecDepth 100000 in
set_option maxHeartbeats 4000000 in
theorem bothL_calls (w : World) (g5 g7 g8 x y : Nat) (v : Value) (o : Option (List Int)) (hc : w.cell? ⟨g5, 0, none⟩ = some (.iface 54 v)) (h7 : w.cell? ⟨g7, 0, none⟩ = some (.func (.func 218) #[] #[.pointer (some ⟨g5, 0, none⟩)])) (h8 : w.cell? ⟨g8, 0, none⟩ = some (.func (.func 219) #[] #[.pointer (some ⟨g5, 0, none⟩)])) (hv : LatV w v o) :
    Calls Tryz.prog 220 #[.agg #[.int .u64 (x : Int), .int .u64 (y : Int)], .pointer (some ⟨g7, 0, none⟩), .pointer (some ⟨g8, 0, none⟩)] w fun e w' => e = .returned (.bool (leLat o x y && leLat o y x)) ∧ Below w.heap.size w w' := by
  have hl7 := World.block_lt_of_cell? w _ h7
  have hl8 := World.block_lt_of_cell? w _ h8
  have HV := Aside0.mk hv
  have HC := Aside0.mk hc
  have H8 := Aside0.mk h8
  clear hv hc h8
  cases e1 : leLat o x y with
  | false =>
    have E1 := Aside0.mk e1
    clear e1
    go_enter Tryz.func220, Tryz.ntmps220
    go_wp2_with (go_at_call 218; (with_reducible refine (upL_calls _ g5 x y v o (pw_cell_below (below_alloc (Below.refl w.heap.size w) _) HC.out) (HV.out.kept (below_alloc (Below.refl w.heap.size w) _))).mono ?_); rintro e W1 ⟨rfl, hb1⟩; rw [E1.out]; have HB1 := Aside0.mk ((below_alloc (Below.refl w.heap.size w) _).trans (hb1.mono (below_alloc (Below.refl w.heap.size w) _).size)); clear hb1)
    go_ret
    exact ⟨rfl, HB1.out⟩
  | true =>
    have E1 := Aside0.mk e1
    clear e1
    go_enter Tryz.func220, Tryz.ntmps220
    go_wp2_with (go_at_call 218; (with_reducible refine (upL_calls _ g5 x y v o (pw_cell_below (below_alloc (Below.refl w.heap.size w) _) HC.out) (HV.out.kept (below_alloc (Below.refl w.heap.size w) _))).mono ?_); rintro e W1 ⟨rfl, hb1⟩; rw [E1.out]; have HB1 := Aside0.mk ((below_alloc (Below.refl w.heap.size w) _).trans (hb1.mono (below_alloc (Below.refl w.heap.size w) _).size)); have c8 := pw_cell_below HB1.out H8.out; have cl : W1.cell? ⟨w.heap.size, 0, none⟩ = some (.int .u64 (x : Int)) ∧ W1.cell? ⟨w.heap.size, 1, none⟩ = some (.int .u64 (y : Int)) := ⟨pw_cell_below hb1 (blk_cell (blk_new w _) 0), pw_cell_below hb1 (blk_cell (blk_new w _) 1)⟩; obtain ⟨cl0, cl1⟩ := cl; clear hb1)
    go_wp2_with (go_at_call 219; (with_reducible refine (downL_calls _ g5 x y v o (pw_cell_below HB1.out HC.out) (HV.out.kept HB1.out)).mono ?_); rintro e W2 ⟨rfl, hb2⟩; have HB2 := Aside0.mk (HB1.out.trans (hb2.mono HB1.out.size)); clear hb2)
    go_ret
    exact ⟨rfl, HB2.out⟩
theorem mLeE (k : Nat) (v : Value) (w : World) : (method (k + 1) 55 v "Below").run Tryz.prog w = .ok (302, v) w := by kernel_rfl
set_option maxRecDepth 100000 in
set_option maxHeartbeats 4000000 in
theorem upE_calls (w : World) (g5 x y : Nat) (v : Value) (o : Option Int) (hc : w.cell? ⟨g5, 0, none⟩ = some (.iface 55 v)) (hv : EffV w v o) :
    Calls Tryz.prog 218 #[.agg #[.int .u64 (x : Int), .int .u64 (y : Int)], .pointer (some ⟨g5, 0, none⟩)] w fun e w' => e = .returned (.bool (leEff o x y)) ∧ Below w.heap.size w w' := by
  have HV := Aside0.mk hv
  clear hv
  have hl5 := World.block_lt_of_cell? w _ hc
  have hm := mLeE
  go_enter Tryz.func218, Tryz.ntmps218
  go_wp2_with (go_at_call 302; (with_reducible refine (leE_calls _ _ o (x : Int) (y : Int) (HV.out.kept (below_alloc (Below.refl w.heap.size w) _))).mono ?_); rintro e W1 ⟨rfl, hb1⟩; have HB1 := Aside0.mk ((below_alloc (Below.refl w.heap.size w) _).trans (hb1.mono (below_alloc (Below.refl w.heap.size w) _).size)); clear hb1)
  go_ret
  exact ⟨rfl, HB1.out⟩
set_option maxRecDepth 100000 in
set_option maxHeartbeats 4000000 in
theorem downE_calls (w : World) (g5 x y : Nat) (v : Value) (o : Option Int) (hc : w.cell? ⟨g5, 0, none⟩ = some (.iface 55 v)) (hv : EffV w v o) :
    Calls Tryz.prog 219 #[.agg #[.int .u64 (x : Int), .int .u64 (y : Int)], .pointer (some ⟨g5, 0, none⟩)] w fun e w' => e = .returned (.bool (leEff o y x)) ∧ Below w.heap.size w w' := by
  have HV := Aside0.mk hv
  clear hv
  have hl5 := World.block_lt_of_cell? w _ hc
  have hm := mLeE
  go_enter Tryz.func219, Tryz.ntmps219
  go_wp2_with (go_at_call 302; (with_reducible refine (leE_calls _ _ o (y : Int) (x : Int) (HV.out.kept (below_alloc (Below.refl w.heap.size w) _))).mono ?_); rintro e W1 ⟨rfl, hb1⟩; have HB1 := Aside0.mk ((below_alloc (Below.refl w.heap.size w) _).trans (hb1.mono (below_alloc (Below.refl w.heap.size w) _).size)); clear hb1)
  go_ret
  exact ⟨rfl, HB1.out⟩
set_option maxRecDepth 100000 in
set_option maxHeartbeats 4000000 in
theorem bothE_calls (w : World) (g5 g7 g8 x y : Nat) (v : Value) (o : Option Int) (hc : w.cell? ⟨g5, 0, none⟩ = some (.iface 55 v)) (h7 : w.cell? ⟨g7, 0, none⟩ = some (.func (.func 218) #[] #[.pointer (some ⟨g5, 0, none⟩)])) (h8 : w.cell? ⟨g8, 0, none⟩ = some (.func (.func 219) #[] #[.pointer (some ⟨g5, 0, none⟩)])) (hv : EffV w v o) :
    Calls Tryz.prog 220 #[.agg #[.int .u64 (x : Int), .int .u64 (y : Int)], .pointer (some ⟨g7, 0, none⟩), .pointer (some ⟨g8, 0, none⟩)] w fun e w' => e = .returned (.bool (leEff o x y && leEff o y x)) ∧ Below w.heap.size w w' := by
  have hl7 := World.block_lt_of_cell? w _ h7
  have hl8 := World.block_lt_of_cell? w _ h8
  have HV := Aside0.mk hv
  have HC := Aside0.mk hc
  have H8 := Aside0.mk h8
  clear hv hc h8
  cases e1 : leEff o x y with
  | false =>
    have E1 := Aside0.mk e1
    clear e1
    go_enter Tryz.func220, Tryz.ntmps220
    go_wp2_with (go_at_call 218; (with_reducible refine (upE_calls _ g5 x y v o (pw_cell_below (below_alloc (Below.refl w.heap.size w) _) HC.out) (HV.out.kept (below_alloc (Below.refl w.heap.size w) _))).mono ?_); rintro e W1 ⟨rfl, hb1⟩; rw [E1.out]; have HB1 := Aside0.mk ((below_alloc (Below.refl w.heap.size w) _).trans (hb1.mono (below_alloc (Below.refl w.heap.size w) _).size)); clear hb1)
    go_ret
    exact ⟨rfl, HB1.out⟩
  | true =>
    have E1 := Aside0.mk e1
    clear e1
    go_enter Tryz.func220, Tryz.ntmps220
    go_wp2_with (go_at_call 218; (with_reducible refine (upE_calls _ g5 x y v o (pw_cell_below (below_alloc (Below.refl w.heap.size w) _) HC.out) (HV.out.kept (below_alloc (Below.refl w.heap.size w) _))).mono ?_); rintro e W1 ⟨rfl, hb1⟩; rw [E1.out]; have HB1 := Aside0.mk ((below_alloc (Below.refl w.heap.size w) _).trans (hb1.mono (below_alloc (Below.refl w.heap.size w) _).size)); have c8 := pw_cell_below HB1.out H8.out; have cl : W1.cell? ⟨w.heap.size, 0, none⟩ = some (.int .u64 (x : Int)) ∧ W1.cell? ⟨w.heap.size, 1, none⟩ = some (.int .u64 (y : Int)) := ⟨pw_cell_below hb1 (blk_cell (blk_new w _) 0), pw_cell_below hb1 (blk_cell (blk_new w _) 1)⟩; obtain ⟨cl0, cl1⟩ := cl; clear hb1)
    go_wp2_with (go_at_call 219; (with_reducible refine (downE_calls _ g5 x y v o (pw_cell_below HB1.out HC.out) (HV.out.kept HB1.out)).mono ?_); rintro e W2 ⟨rfl, hb2⟩; have HB2 := Aside0.mk (HB1.out.trans (hb2.mono HB1.out.size)); clear hb2)
    go_ret
    exact ⟨rfl, HB2.out⟩
end Go.Proofs.YtbdecnagdnancaaGreatDoor

namespace Go.Proofs.YtbdecnagdnancaaGreatDoor
open Go.RowKit Go.Proofs.YtbdecnagdnancaaGreatDoorW.PrintWords Go.Proofs.YtbdecnagdnancaaGreatDoorW.PrintLast Go.Proofs.YtbdecnagdnancaaGreatDoorW.PrintMore
set_option linter.unusedVariables false
set_option linter.unusedSimpArgs false
attribute [local go_sem] Oper.semAt_some
/-- Two terms, and the way in which they are held against one another: up, down, or both. -/
abbrev Pr := Nat × Nat × Option Bool
def wayOf (s : Int) : Option Bool := if s = 0 then some true else if s = 1 then some false else none
def prOf (x y : Spot) : Pr := (x.f3.f1.toNat, y.f3.f1.toNat, wayOf x.f2)
def prsOf (la lb : List Spot) : List Pr := List.zipWith prOf la lb
def mustV (g5 g7 g8 : Nat) : Option Bool → Value
  | some true => .func (.func 218) #[] #[.pointer (some ⟨g5, 0, none⟩)]
  | some false => .func (.func 219) #[] #[.pointer (some ⟨g5, 0, none⟩)]
  | none => .func (.func 220) #[] #[.pointer (some ⟨g7, 0, none⟩), .pointer (some ⟨g8, 0, none⟩)]
def encP (g5 g7 g8 : Nat) (p : Pr) : Array Value := #[.agg #[.int .u64 (p.1 : Int), .int .u64 (p.2.1 : Int)], mustV g5 g7 g8 p.2.2]
def U8s (l : List Spot) : Prop := ∀ x ∈ l, 0 ≤ x.f3.f1 ∧ 0 ≤ x.f2 ∧ x.f2 < 256
set_option maxRecDepth 100000 in
set_option maxHeartbeats 8000000 in
theorem pairs4_stops (n : Nat) (hn1 : 2 ≤ n) (w : World) (A B : Option Addr) (c d : Nat) (la lb : List Spot) (g3 g4 g5 g7 g8 g9 : Nat) (hl : la.length = lb.length) (hua : U8s la) (hub : U8s lb) (hmax : la.length ≤ 9223372036854775807)
    (h3 : w.cell? ⟨g3, 0, none⟩ = some (.slice A la.length c)) (h4 : w.cell? ⟨g4, 0, none⟩ = some (.slice B lb.length d)) (h7 : w.cell? ⟨g7, 0, none⟩ = some (mustV g5 g7 g8 (some true))) (h8 : w.cell? ⟨g8, 0, none⟩ = some (mustV g5 g7 g8 (some false))) (h9 : w.cell? ⟨g9, 0, none⟩ = some (mustV g5 g7 g8 none))
    (ha : kSpot.C w A la.length la) (hb : kSpot.C w B lb.length lb) :
    SeqStopsK Fence.wide n Tryz.prog 221 #[.pointer (some ⟨g3, 0, none⟩), .pointer (some ⟨g9, 0, none⟩), .pointer (some ⟨g7, 0, none⟩), .pointer (some ⟨g8, 0, none⟩), .pointer (some ⟨g4, 0, none⟩)] (encP g5 g7 g8) (Below w.heap.size) (fun ys => ys = prsOf la lb) (fun pre => pre <+: prsOf la lb) la.length w := by
  intro l J Jx W hW hJ hJx hY h0
  have hn2 : 1 ≤ n := by omega
  have hn3 : 1 ≤ n - 1 := by omega
  have HA := Aside0.mk ha
  have HB := Aside0.mk hb
  have HUA := Aside0.mk hua
  have HUB := Aside0.mk hub
  have HJ := Aside0.mk hJ
  have HY := Aside0.mk hY
  have H0 := Aside0.mk h0
  have H3 := Aside0.mk h3
  have H4 := Aside0.mk h4
  have H7 := Aside0.mk h7
  have H8 := Aside0.mk h8
  have H9 := Aside0.mk h9
  have HW := Aside0.mk hW
  have c3 := pw_cell_below hW h3
  obtain ⟨N, hN⟩ : ∃ N, N = la.length := ⟨_, rfl⟩
  have HN := Aside0.mk hN
  have HL := Aside0.mk hl
  rw [← hN] at c3 hmax
  clear hJ hJx hY h0 ha hb hua hub h3 h4 h7 h8 h9 hW hN hl
  refine callsIn_of_wp Tryz.func221 rfl trivial ?_ rfl
  simp only [Tryz.ntmps221, List.size_toArray, List.length_cons, List.length_nil, Nat.reduceAdd, Nat.reduceSub, Array.replicate_succ, Array.replicate_zero, List.push_toArray, List.append_toArray, List.nil_append, List.cons_append]
  gi_wp2
  gi_loopw [12] (fun i wr => ∃ k : Nat, i = .int .i64 (k : Int) ∧ k ≤ N ∧ Aside0 (J ((prsOf la lb).take k) wr ∧ Below w.heap.size w wr ∧ W.heap.size ≤ wr.heap.size))
    (fun i wr => N - (intOf i).toNat)
  case atStart => exact ⟨0, rfl, Nat.zero_le _, ⟨H0.out, HW.out, Nat.le_refl _⟩⟩
  case round =>
    obtain ⟨k, rfl, hkN, HI⟩ := hrel
    rcases Nat.lt_or_ge k N with hlt | hge
    · have hd : decide (k < N) = true := decide_eq_true hlt
      have hka : k < la.length := by rw [← HN.out]; exact hlt
      have hkb : k < lb.length := by rw [← HL.out]; exact hka
      obtain ⟨ad, rfl, a0, a1, a2, a3, a4⟩ := C_spotN (Kd.C_below HA.out HI.out.2.1) k hka
      obtain ⟨bd, rfl, b0, b1, b2, b3, b4⟩ := C_spotN (Kd.C_below HB.out HI.out.2.1) k hkb
      have c4 := pw_cell_below HI.out.2.1 H4.out
      have c7 := pw_cell_below HI.out.2.1 H7.out
      have c8 := pw_cell_below HI.out.2.1 H8.out
      have c9 := pw_cell_below HI.out.2.1 H9.out
      obtain ⟨x, hx⟩ : ∃ x, x = la[k] := ⟨_, rfl⟩
      obtain ⟨y, hy⟩ : ∃ y, y = lb[k] := ⟨_, rfl⟩
      rw [← hx] at a0 a1 a2 a3 a4
      rw [← hy] at b0 b1 b2 b3 b4
      have HX := Aside0.mk hx
      have HYY := Aside0.mk hy
      have lbb := World.block_lt_of_cell? _ _ b0
      have b5 : wr.cell? ⟨(bd.add (k * 5)).block, (bd.add (k * 5)).off + 3 + 1, none⟩ = some (.int .u64 y.f3.f1) := b4
      have b6 : ∀ o, (wr.alloc o).cell? ⟨(bd.add (k * 5)).block, (bd.add (k * 5)).off + 3 + 1, none⟩ = some (.int .u64 y.f3.f1) := fun o => pw_cell_below (below_alloc (Below.refl _ _) _) b5
      have l4 := World.block_lt_of_cell? _ _ c4
      have l7 := World.block_lt_of_cell? _ _ c7
      have l8 := World.block_lt_of_cell? _ _ c8
      have l9 := World.block_lt_of_cell? _ _ c9
      rw [← HL.out, ← HN.out] at c4
      simp only [mustV] at c7 c8 c9
      obtain ⟨O, hO⟩ : ∃ O : Obj, O = .cells #[.int .i64 x.f0, .int .u8 x.f1, .int .u8 x.f2, .bool x.f3.f0, .int .u64 x.f3.f1] 130 := ⟨_, rfl⟩
      have HBW : Aside0 (Below wr.heap.size wr (wr.alloc O).drew) := ⟨(below_alloc (Below.refl _ _) _).drew⟩
      have HJ2 : Aside0 (J ((prsOf la lb).take k) (wr.alloc O).drew) := ⟨HJ.out _ _ _ none HI.out.1 (grown_none HBW.out) (fun r e => by cases e)⟩
      have hlen : (prsOf la lb).length = la.length := by simp [prsOf, List.length_zipWith, HL.out]
      have hpk : (prsOf la lb).take (k + 1) = (prsOf la lb).take k ++ [prOf x y] := by rw [List.take_succ_eq_append_getElem (by rw [hlen]; exact hka)]; simp [prsOf, HX.out, HYY.out]
      obtain ⟨fn, tmps, assign, bod, hyy, hR⟩ := HY.out ((prsOf la lb).take k) (prOf x y) _ HJ2.out (by rw [List.length_take, hlen]; omega)
      have HRR := Aside0.mk (hR.mono (R' := fun e W' => ∃ b : Bool, e = .returned (.bool b) ∧ Aside0 ((b = true ∧ J ((prsOf la lb).take k ++ [prOf x y]) W' ∧ Below w.heap.size (wr.alloc O).drew W') ∨ (b = false ∧ Jx ((prsOf la lb).take k ++ [prOf x y]) W'))) (by
        rintro e W' (⟨rfl, h1, h2⟩ | ⟨rfl, h1⟩)
        · exact ⟨true, rfl, ⟨.inl ⟨rfl, h1, h2⟩⟩⟩
        · exact ⟨false, rfl, ⟨.inr ⟨rfl, h1⟩⟩⟩))
      have HPK := Aside0.mk hpk
      have HLP := Aside0.mk hlen
      have hx1 : ((x.f3.f1.toNat : Nat) : Int) = x.f3.f1 := Int.toNat_of_nonneg (HUA.out x (by rw [HX.out]; exact List.getElem_mem _)).1
      have hy1 : ((y.f3.f1.toNat : Nat) : Int) = y.f3.f1 := Int.toNat_of_nonneg (HUB.out y (by rw [HYY.out]; exact List.getElem_mem _)).1
      simp only [encP, prOf, hx1, hy1] at hyy
      clear hR hpk hlen hx hy hx1 hy1
      subst hO
      rcases (by omega : x.f2 = 0 ∨ x.f2 = 1 ∨ (x.f2 ≠ 0 ∧ x.f2 ≠ 1)) with s0 | s0 | s0
      · have z0 : (x.f2 == 0) = true := beq_iff_eq.mpr s0
        rw [show wayOf x.f2 = some true by unfold wayOf; rw [if_pos s0]] at hyy
        simp only [mustV] at hyy
        clear s0
        gi_wp2
        gi_region_with (refine HRR.out.mono ?_; rintro e W3 ⟨b, rfl, HZ⟩)
        all_goals
          rcases HZ.out with ⟨rfl, hJ3, hk3⟩ | ⟨rfl, hJx3⟩
          · have HJ3 := Aside0.mk hJ3
            have HK3 := Aside0.mk hk3
            clear hJ3 hk3 HZ
            gi_wp2
            go_roundw
            case rel =>
              refine ⟨k + 1, by go_num, by omega, ⟨?_, ?_, ?_⟩⟩
              · rw [HPK.out]; exact HJ3.out
              · exact (HI.out.2.1.trans (HBW.out.mono HI.out.2.1.size)).trans HK3.out
              · exact Nat.le_trans HI.out.2.2 (Nat.le_trans HBW.out.size (HK3.out.size))
            case measure => simp [intOf]; omega
          · gi_wp2
            refine bodyPost_ret (results_none rfl _ _ _) rfl ?_
            exact ⟨⟨_, rfl⟩, .inr ⟨_, ⟨(prsOf la lb).drop (k + 1), by rw [← HPK.out, List.take_append_drop]⟩, hJx3⟩⟩
      · have z0 : (x.f2 == 0) = false := beq_eq_false_iff_ne.mpr (by omega)
        have z1 : (x.f2 == 1) = true := beq_iff_eq.mpr s0
        rw [show wayOf x.f2 = some false by unfold wayOf; rw [if_neg (by omega), if_pos s0]] at hyy
        simp only [mustV] at hyy
        clear s0
        gi_wp2
        gi_region_with (refine HRR.out.mono ?_; rintro e W3 ⟨b, rfl, HZ⟩)
        all_goals
          rcases HZ.out with ⟨rfl, hJ3, hk3⟩ | ⟨rfl, hJx3⟩
          · have HJ3 := Aside0.mk hJ3
            have HK3 := Aside0.mk hk3
            clear hJ3 hk3 HZ
            gi_wp2
            go_roundw
            case rel =>
              refine ⟨k + 1, by go_num, by omega, ⟨?_, ?_, ?_⟩⟩
              · rw [HPK.out]; exact HJ3.out
              · exact (HI.out.2.1.trans (HBW.out.mono HI.out.2.1.size)).trans HK3.out
              · exact Nat.le_trans HI.out.2.2 (Nat.le_trans HBW.out.size (HK3.out.size))
            case measure => simp [intOf]; omega
          · gi_wp2
            refine bodyPost_ret (results_none rfl _ _ _) rfl ?_
            exact ⟨⟨_, rfl⟩, .inr ⟨_, ⟨(prsOf la lb).drop (k + 1), by rw [← HPK.out, List.take_append_drop]⟩, hJx3⟩⟩
      · have z0 : (x.f2 == 0) = false := beq_eq_false_iff_ne.mpr s0.1
        have z1 : (x.f2 == 1) = false := beq_eq_false_iff_ne.mpr s0.2
        rw [show wayOf x.f2 = none by unfold wayOf; rw [if_neg s0.1, if_neg s0.2]] at hyy
        simp only [mustV] at hyy
        clear s0
        gi_wp2
        gi_region_with (refine HRR.out.mono ?_; rintro e W3 ⟨b, rfl, HZ⟩)
        all_goals
          rcases HZ.out with ⟨rfl, hJ3, hk3⟩ | ⟨rfl, hJx3⟩
          · have HJ3 := Aside0.mk hJ3
            have HK3 := Aside0.mk hk3
            clear hJ3 hk3 HZ
            gi_wp2
            go_roundw
            case rel =>
              refine ⟨k + 1, by go_num, by omega, ⟨?_, ?_, ?_⟩⟩
              · rw [HPK.out]; exact HJ3.out
              · exact (HI.out.2.1.trans (HBW.out.mono HI.out.2.1.size)).trans HK3.out
              · exact Nat.le_trans HI.out.2.2 (Nat.le_trans HBW.out.size (HK3.out.size))
            case measure => simp [intOf]; omega
          · gi_wp2
            refine bodyPost_ret (results_none rfl _ _ _) rfl ?_
            exact ⟨⟨_, rfl⟩, .inr ⟨_, ⟨(prsOf la lb).drop (k + 1), by rw [← HPK.out, List.take_append_drop]⟩, hJx3⟩⟩
    · have hd : decide (k < N) = false := decide_eq_false (by omega)
      gi_wp2
      go_end0
      refine ⟨⟨_, rfl⟩, .inl ⟨_, rfl, ?_⟩⟩
      have := HI.out.1
      rwa [List.take_of_length_le (by simp [prsOf, List.length_zipWith, HL.out]; have := HN.out; have := HL.out; omega)] at this
end Go.Proofs.YtbdecnagdnancaaGreatDoor

namespace Go.Proofs.YtbdecnagdnancaaGreatDoor
open Go.RowKit Go.Proofs.YtbdecnagdnancaaGreatDoorW.PrintWords Go.Proofs.YtbdecnagdnancaaGreatDoorW.PrintLast Go.Proofs.YtbdecnagdnancaaGreatDoorW.PrintMore
set_option linter.unusedVariables false
set_option linter.unusedSimpArgs false
attribute [local go_sem] Oper.semAt_some
set_option maxRecDepth 100000 in
set_option maxHeartbeats 4000000 in
theorem pairs_calls (w : World) (A B : Option Addr) (n c m d : Nat) (ty : TypeId) (v : Value) :
    Calls Tryz.prog 181 #[.slice A n c, .slice B m d, .iface ty v] w fun e w' => ∃ g3 g4 g5 g7 g8 g9, e = .returned (.func (.func 221) #[] #[.pointer (some ⟨g3, 0, none⟩), .pointer (some ⟨g9, 0, none⟩), .pointer (some ⟨g7, 0, none⟩), .pointer (some ⟨g8, 0, none⟩), .pointer (some ⟨g4, 0, none⟩)]) ∧
      Below w.heap.size w w' ∧ w'.cell? ⟨g3, 0, none⟩ = some (.slice A n c) ∧ w'.cell? ⟨g4, 0, none⟩ = some (.slice B m d) ∧ w'.cell? ⟨g5, 0, none⟩ = some (.iface ty v) ∧
      w'.cell? ⟨g7, 0, none⟩ = some (mustV g5 g7 g8 (some true)) ∧ w'.cell? ⟨g8, 0, none⟩ = some (mustV g5 g7 g8 (some false)) ∧ w'.cell? ⟨g9, 0, none⟩ = some (mustV g5 g7 g8 none) := by
  go_enter Tryz.func181, Tryz.ntmps181
  go_wp2
  go_ret
  refine ⟨w.heap.size, w.heap.size + 1, w.heap.size + 1 + 1, w.heap.size + 1 + 1 + 1, w.heap.size + 1 + 1 + 1 + 1, w.heap.size + 1 + 1 + 1 + 1 + 1, rfl, ?_, ?_, ?_, ?_, ?_, ?_, ?_⟩
  · repeat (first | exact Below.refl _ _ | apply below_alloc)
  all_goals
    try simp only [mustV]
    go_simp
def okPL (o : Option (List Int)) (p : Pr) : Bool := match p.2.2 with
  | some true => leLat o (p.1 : Int) (p.2.1 : Int)
  | some false => leLat o (p.2.1 : Int) (p.1 : Int)
  | none => leLat o (p.1 : Int) (p.2.1 : Int) && leLat o (p.2.1 : Int) (p.1 : Int)
theorem belowL_allL (o : Option (List Int)) : ∀ la lb : List Spot, U8s la → U8s lb → belowL (leLat o) la lb = (prsOf la lb).all (okPL o)
  | [], lb, _, _ => rfl
  | _ :: _, [], _, _ => rfl
  | x :: xs, y :: ys, ha, hb => by
    have h1 : ((x.f3.f1.toNat : Nat) : Int) = x.f3.f1 := Int.toNat_of_nonneg (ha x List.mem_cons_self).1
    have h2 : ((y.f3.f1.toNat : Nat) : Int) = y.f3.f1 := Int.toNat_of_nonneg (hb y List.mem_cons_self).1
    have ih := belowL_allL o xs ys (fun z hz => ha z (List.mem_cons_of_mem _ hz)) (fun z hz => hb z (List.mem_cons_of_mem _ hz))
    have e : prsOf (x :: xs) (y :: ys) = prOf x y :: prsOf xs ys := rfl
    rw [belowL, e, List.all_cons, ← ih]
    congr 1
    simp only [okPL, prOf, wayOf, h1, h2, holdsS]
    by_cases h0 : x.f2 = 0
    · simp [h0]
    · by_cases h3 : x.f2 = 1
      · simp [h3]
      · simp [h0, h3]
set_option maxRecDepth 100000 in
set_option maxHeartbeats 8000000 in
theorem belowL_calls (w : World) (A B : Option Addr) (c d : Nat) (la lb : List Spot) (v : Value) (o : Option (List Int)) (hl : la.length = lb.length) (hua : U8s la) (hub : U8s lb) (hmax : la.length ≤ 9223372036854775807)
    (ha : kSpot.C w A la.length la) (hb : kSpot.C w B lb.length lb) (hv : LatV w v o) :
    Calls Tryz.prog 100 #[.slice A la.length c, .slice B lb.length d, .iface 54 v] w fun e w' => e = .returned (.bool (belowL (leLat o) la lb)) ∧ Below w.heap.size w w' := by
  rw [belowL_allL o la lb hua hub]
  refine (callsIn_wide (n := 8)).1 ?_
  have HA := Aside0.mk ha
  have HB := Aside0.mk hb
  have HV := Aside0.mk hv
  have HUA := Aside0.mk hua
  have HUB := Aside0.mk hub
  have HL := Aside0.mk hl
  have HM := Aside0.mk hmax
  obtain ⟨N, hN⟩ : ∃ N, N = la.length := ⟨_, rfl⟩
  have HN := Aside0.mk hN
  rw [← hl, ← hN]
  clear ha hb hv hua hub hl hN hmax
  refine callsIn_of_wp_marks Tryz.func100 rfl trivial ?_ rfl
  simp only [Tryz.ntmps100, List.size_toArray, List.length_cons, List.length_nil, Nat.reduceAdd, Nat.reduceSub, Array.replicate_succ, Array.replicate_zero, List.push_toArray, List.append_toArray, List.nil_append, List.cons_append]
  have HR0 := Aside0.mk (blk_new w (.cells #[.bool false] 4))
  have HB0 := Aside0.mk (below_alloc (Below.refl w.heap.size w) (.cells #[.bool false] 4))
  gi_wp2_with (refine ⟨trivial, ?_⟩; gi_at_call 181; refine (callsIn_wide.2 (pairs_calls _ _ _ _ _ _ _ _ _)).mono ?_; rintro e w1 ⟨g3, g4, g5, g7, g8, g9, rfl, hb1, c3, c4, c5, c7, c8, c9⟩)
  have hsz := hb1.size
  simp only [World.size_alloc] at hsz
  have bR : Boxed w1 w.heap.size 4 (.bool false) := (hb1.block w.heap.size (by simp)).trans HR0.out
  have hB1 : Below w.heap.size w w1 := HB0.out.trans (hb1.mono (by simp))
  have HB1 := Aside0.mk hB1
  have C5 := Aside0.mk c5
  have C7 := Aside0.mk c7
  have C8 := Aside0.mk c8
  refine wpIn_rangeFunc_ownH (n := 8) rfl (by decide) (gf := 221) (lb := #[.pointer (some ⟨g3, 0, none⟩), .pointer (some ⟨g9, 0, none⟩), .pointer (some ⟨g7, 0, none⟩), .pointer (some ⟨g8, 0, none⟩), .pointer (some ⟨g4, 0, none⟩)]) rfl trivial (enters_of Tryz.func221 (by kernel_rfl) rfl)
    (pairs4_stops 7 (by decide) w1 A B c d la lb g3 g4 g5 g7 g8 g9 HL.out HUA.out HUB.out HM.out (by rw [← HN.out]; exact c3) (by rw [← HL.out, ← HN.out]; exact c4) c7 c8 c9 (Kd.C_below HA.out hB1) (Kd.C_below HB.out hB1)) belowK_t (belowK_b (Nat.le_refl _)) (Below.refl _ _) (fun _ => rfl)
    (fun pre W => ((∀ p ∈ pre, okPL o p = true) ∧ Boxed W w.heap.size 4 (.bool false)) ∧ Below w1.heap.size w1 W)
    (fun c pre W => ((c = .ret ∧ ∃ p ∈ pre, okPL o p = false) ∧ Boxed W w.heap.size 4 (.bool false)) ∧ Below w.heap.size w W)
    (OwnFrom.and (OwnFrom.and (ownFrom_pure _ _) (Own.from (boxed_own _ _ _) _)) (ownFrom_below (Nat.le_refl _) (Nat.le_refl _)))
    (fun c => OwnFrom.and (OwnFrom.and (ownFrom_pure _ _) (Own.from (boxed_own _ _ _) _)) (ownFrom_below (Nat.le_refl _) (by omega)))
    ⟨⟨by simp, bR⟩, Below.refl _ _⟩
    (fun p a' W => ∃ Bx, w1.heap.size ≤ Bx ∧ W.heap[Bx]? = some (.cells #[.int .u64 (p.1 : Int), .int .u64 (p.2.1 : Int)] 270 (0, 0)) ∧ a' = { tmps := #[.slice A N c, .slice B N d, .iface 54 v, undef, undef, undef, .pointer (some ⟨w.heap.size, 0, none⟩), .pointer (some ⟨Bx, 0, none⟩), mustV g5 g7 g8 p.2.2, .slice A N c, .slice B N d, .iface 54 v,
      .func (.func 221) #[] #[.pointer (some ⟨g3, 0, none⟩), .pointer (some ⟨g9, 0, none⟩), .pointer (some ⟨g7, 0, none⟩), .pointer (some ⟨g8, 0, none⟩), .pointer (some ⟨g4, 0, none⟩)], .agg #[.int .u64 (p.1 : Int), .int .u64 (p.2.1 : Int)], mustV g5 g7 g8 p.2.2, undef, undef, undef, undef], defers := [] })
    (fun p a' _ X Y row hs hg hr => by
      obtain ⟨Bx, e1, e2, e3⟩ := hs
      refine ⟨Bx, e1, (hg.block Bx (blk_lt e2) (fun e => ?_)).trans e2, e3⟩
      obtain ⟨_, o', ho, hc⟩ := hr Bx e.symm
      rw [e2] at ho
      cases ho
      cases hc)
    ?assign ?body ?done ?stop
  case assign =>
    rintro l pre p W K ⟨⟨hp, bR1⟩, hBW⟩ hK
    simp only [encP]
    gi_wp2
    refine hK _ _ ((KeepsOthers.alloc _ _).from _) ((Below.refl _ W).alloc hBW.size _) ⟨⟨hp, bR1.alloc _⟩, hBW.alloc hBW.size _⟩ ⟨W.heap.size, hBW.size, blk_new W _, rfl⟩
  case body =>
    rintro l pre ⟨x, y, m⟩ a' W hl ⟨r, hr⟩ ⟨⟨hp, bR1⟩, hBW⟩ ⟨Bx, hBx, bX, rfl⟩ hlt
    have x0 : W.cell? ⟨Bx, 0, none⟩ = some (.int .u64 (x : Int)) := blk_cell bX 0
    have x1 : W.cell? ⟨Bx, 1, none⟩ = some (.int .u64 (y : Int)) := blk_cell bX 1
    have cR := bR1.cell
    have fR := bR1.frozen
    have hd : 1 ≤ 8 - 1 - 1 := by decide
    have d5 := pw_cell_below hBW C5.out
    have d7 := pw_cell_below hBW C7.out
    have d8 := pw_cell_below hBW C8.out
    have HVW := Aside0.mk ((HV.out.kept HB1.out).kept hBW)
    have HLT : Aside0 (w.heap.size < W.heap.size) := ⟨bR1.lt⟩
    have HR1 := Aside0.mk bR1
    have HBW := Aside0.mk hBW
    have HP := Aside0.mk hp
    have HHR := Aside0.mk hr
    clear bR1 hBW hp hr bX
    cases m with
    | none =>
      have MC : Aside0 (Calls Tryz.prog 220 #[.agg #[.int .u64 (x : Int), .int .u64 (y : Int)], .pointer (some ⟨g7, 0, none⟩), .pointer (some ⟨g8, 0, none⟩)] W fun e w' => e = .returned (.bool (okPL o (x, y, none))) ∧ Below W.heap.size W w') := ⟨bothL_calls W g5 g7 g8 x y v o d5 d7 d8 HVW.out⟩
      obtain ⟨z, hz⟩ : ∃ z, z = okPL o (x, y, none) := ⟨_, rfl⟩
      rw [← hz] at MC
      have HZ := Aside0.mk hz
      clear hz
      simp only [mustV]
      simp only [mustV] at d7 d8
      clear c3 c4 c5 c7 c8 c9 hb1 bR hB1
      cases z with
      | false =>
        gi_wp2_with (refine ⟨trivial, ?_⟩; gi_at_call 220; refine (CallsIn.inRound l (callsIn_wide.2 MC.out)).mono ?_; rintro e W2 ⟨rfl, hb2⟩; have HB2 := Aside0.mk hb2; have cR2 := (hb2.cell (p := ⟨w.heap.size, 0, none⟩) HLT.out).trans cR; have fR2 := (hb2.frozen (p := ⟨w.heap.size, 0, none⟩) HLT.out).trans fR; clear hb2)
        have bR2 : Boxed W2 w.heap.size 4 (.bool false) := (HB2.out.block w.heap.size HLT.out).trans HR1.out
        exact ⟨(KeepsFrom.of_grownBy (row := none) (grown_none HB2.out) (fun j e => by cases e)).trans ((KeepsOthers.setCell _ _ _).from _), ⟨⟨rfl, _, List.mem_append.2 (.inr (List.mem_singleton.2 rfl)), HZ.out.symm⟩, bR2.set _⟩, (HB1.out.trans ((HBW.out.trans (HB2.out.mono HBW.out.size)).mono HB1.out.size)).setCell (p := ⟨w.heap.size, 0, none⟩) (Nat.le_refl _) _⟩
      | true =>
        gi_wp2_with (refine ⟨trivial, ?_⟩; gi_at_call 220; refine (CallsIn.inRound l (callsIn_wide.2 MC.out)).mono ?_; rintro e W2 ⟨rfl, hb2⟩; have HB2 := Aside0.mk hb2; clear hb2)
        have bR2 : Boxed W2 w.heap.size 4 (.bool false) := (HB2.out.block w.heap.size HLT.out).trans HR1.out
        refine ⟨KeepsFrom.of_grownBy (row := none) (grown_none HB2.out) (fun j e => by cases e), HB2.out.mono HBW.out.size, ⟨fun p hp => ?_, bR2⟩, HBW.out.trans (HB2.out.mono HBW.out.size)⟩
        rcases List.mem_append.1 hp with h | h
        · exact HP.out p h
        · rw [List.mem_singleton.1 h]
          exact HZ.out.symm
    | some q =>
      cases q with
      | true =>
        have MC : Aside0 (Calls Tryz.prog 218 #[.agg #[.int .u64 (x : Int), .int .u64 (y : Int)], .pointer (some ⟨g5, 0, none⟩)] W fun e w' => e = .returned (.bool (okPL o (x, y, some true))) ∧ Below W.heap.size W w') := ⟨upL_calls W g5 x y v o d5 HVW.out⟩
        obtain ⟨z, hz⟩ : ∃ z, z = okPL o (x, y, some true) := ⟨_, rfl⟩
        rw [← hz] at MC
        have HZ := Aside0.mk hz
        clear hz
        simp only [mustV]
        simp only [mustV] at d7 d8
        clear c3 c4 c5 c7 c8 c9 hb1 bR hB1
        cases z with
        | false =>
          gi_wp2_with (refine ⟨trivial, ?_⟩; gi_at_call 218; refine (CallsIn.inRound l (callsIn_wide.2 MC.out)).mono ?_; rintro e W2 ⟨rfl, hb2⟩; have HB2 := Aside0.mk hb2; have cR2 := (hb2.cell (p := ⟨w.heap.size, 0, none⟩) HLT.out).trans cR; have fR2 := (hb2.frozen (p := ⟨w.heap.size, 0, none⟩) HLT.out).trans fR; clear hb2)
          have bR2 : Boxed W2 w.heap.size 4 (.bool false) := (HB2.out.block w.heap.size HLT.out).trans HR1.out
          exact ⟨(KeepsFrom.of_grownBy (row := none) (grown_none HB2.out) (fun j e => by cases e)).trans ((KeepsOthers.setCell _ _ _).from _), ⟨⟨rfl, _, List.mem_append.2 (.inr (List.mem_singleton.2 rfl)), HZ.out.symm⟩, bR2.set _⟩, (HB1.out.trans ((HBW.out.trans (HB2.out.mono HBW.out.size)).mono HB1.out.size)).setCell (p := ⟨w.heap.size, 0, none⟩) (Nat.le_refl _) _⟩
        | true =>
          gi_wp2_with (refine ⟨trivial, ?_⟩; gi_at_call 218; refine (CallsIn.inRound l (callsIn_wide.2 MC.out)).mono ?_; rintro e W2 ⟨rfl, hb2⟩; have HB2 := Aside0.mk hb2; clear hb2)
          have bR2 : Boxed W2 w.heap.size 4 (.bool false) := (HB2.out.block w.heap.size HLT.out).trans HR1.out
          refine ⟨KeepsFrom.of_grownBy (row := none) (grown_none HB2.out) (fun j e => by cases e), HB2.out.mono HBW.out.size, ⟨fun p hp => ?_, bR2⟩, HBW.out.trans (HB2.out.mono HBW.out.size)⟩
          rcases List.mem_append.1 hp with h | h
          · exact HP.out p h
          · rw [List.mem_singleton.1 h]
            exact HZ.out.symm
      | false =>
        have MC : Aside0 (Calls Tryz.prog 219 #[.agg #[.int .u64 (x : Int), .int .u64 (y : Int)], .pointer (some ⟨g5, 0, none⟩)] W fun e w' => e = .returned (.bool (okPL o (x, y, some false))) ∧ Below W.heap.size W w') := ⟨downL_calls W g5 x y v o d5 HVW.out⟩
        obtain ⟨z, hz⟩ : ∃ z, z = okPL o (x, y, some false) := ⟨_, rfl⟩
        rw [← hz] at MC
        have HZ := Aside0.mk hz
        clear hz
        simp only [mustV]
        simp only [mustV] at d7 d8
        clear c3 c4 c5 c7 c8 c9 hb1 bR hB1
        cases z with
        | false =>
          gi_wp2_with (refine ⟨trivial, ?_⟩; gi_at_call 219; refine (CallsIn.inRound l (callsIn_wide.2 MC.out)).mono ?_; rintro e W2 ⟨rfl, hb2⟩; have HB2 := Aside0.mk hb2; have cR2 := (hb2.cell (p := ⟨w.heap.size, 0, none⟩) HLT.out).trans cR; have fR2 := (hb2.frozen (p := ⟨w.heap.size, 0, none⟩) HLT.out).trans fR; clear hb2)
          have bR2 : Boxed W2 w.heap.size 4 (.bool false) := (HB2.out.block w.heap.size HLT.out).trans HR1.out
          exact ⟨(KeepsFrom.of_grownBy (row := none) (grown_none HB2.out) (fun j e => by cases e)).trans ((KeepsOthers.setCell _ _ _).from _), ⟨⟨rfl, _, List.mem_append.2 (.inr (List.mem_singleton.2 rfl)), HZ.out.symm⟩, bR2.set _⟩, (HB1.out.trans ((HBW.out.trans (HB2.out.mono HBW.out.size)).mono HB1.out.size)).setCell (p := ⟨w.heap.size, 0, none⟩) (Nat.le_refl _) _⟩
        | true =>
          gi_wp2_with (refine ⟨trivial, ?_⟩; gi_at_call 219; refine (CallsIn.inRound l (callsIn_wide.2 MC.out)).mono ?_; rintro e W2 ⟨rfl, hb2⟩; have HB2 := Aside0.mk hb2; clear hb2)
          have bR2 : Boxed W2 w.heap.size 4 (.bool false) := (HB2.out.block w.heap.size HLT.out).trans HR1.out
          refine ⟨KeepsFrom.of_grownBy (row := none) (grown_none HB2.out) (fun j e => by cases e), HB2.out.mono HBW.out.size, ⟨fun p hp => ?_, bR2⟩, HBW.out.trans (HB2.out.mono HBW.out.size)⟩
          rcases List.mem_append.1 hp with h | h
          · exact HP.out p h
          · rw [List.mem_singleton.1 h]
            exact HZ.out.symm
  case done =>
    rintro D zs W hD rfl ⟨⟨hp, bR1⟩, hBW⟩ hK
    have cR := bR1.cell
    have fR := bR1.frozen
    gi_wp2
    have hK' := (KeepsOthers.setCell W ⟨w.heap.size, 0, none⟩ (.bool true)).same D _ hK rfl
    refine ⟨by simp, .inl ⟨_, _, rfl, run_takeDeferred hK', ?_⟩⟩
    have hc5 := cell_kept (bR1.set (.bool true)).cell (grownBy_putObj' _ D (.deferred none)) (fun r e => by cases e; exact ⟨_, hK', rfl⟩)
    refine ⟨.bool true, ?_, by rw [List.all_eq_true.2 hp], ((HB1.out.trans (hBW.mono HB1.out.size)).setCell (p := ⟨w.heap.size, 0, none⟩) (Nat.le_refl _) _).trans (belowK_b (w := w) (Nat.le_refl _) _ D _ _ (by omega) hK' rfl rfl)⟩
    simp [results, Tryz.f100, go_sem, hc5]
  case stop =>
    rintro D c pre W hD hpre ⟨⟨⟨rfl, p, hin, hbad⟩, bR1⟩, hB2⟩ hK
    gi_wp2
    refine ⟨by simp, .inl ⟨_, _, rfl, run_takeDeferred hK, ?_⟩⟩
    have hc5 := cell_kept bR1.cell (grownBy_putObj' _ D (.deferred none)) (fun r e => by cases e; exact ⟨_, hK, rfl⟩)
    refine ⟨.bool false, ?_, by rw [List.all_eq_false.2 ⟨p, hpre.subset hin, by rw [hbad]; simp⟩], hB2.trans (belowK_b (w := w) (Nat.le_refl _) W D _ _ (by omega) hK rfl rfl)⟩
    simp [results, Tryz.f100, go_sem, hc5]
def okPE (o : Option Int) (p : Pr) : Bool := match p.2.2 with
  | some true => leEff o (p.1 : Int) (p.2.1 : Int)
  | some false => leEff o (p.2.1 : Int) (p.1 : Int)
  | none => leEff o (p.1 : Int) (p.2.1 : Int) && leEff o (p.2.1 : Int) (p.1 : Int)
theorem belowL_allE (o : Option Int) : ∀ la lb : List Spot, U8s la → U8s lb → belowL (leEff o) la lb = (prsOf la lb).all (okPE o)
  | [], lb, _, _ => rfl
  | _ :: _, [], _, _ => rfl
  | x :: xs, y :: ys, ha, hb => by
    have h1 : ((x.f3.f1.toNat : Nat) : Int) = x.f3.f1 := Int.toNat_of_nonneg (ha x List.mem_cons_self).1
    have h2 : ((y.f3.f1.toNat : Nat) : Int) = y.f3.f1 := Int.toNat_of_nonneg (hb y List.mem_cons_self).1
    have ih := belowL_allE o xs ys (fun z hz => ha z (List.mem_cons_of_mem _ hz)) (fun z hz => hb z (List.mem_cons_of_mem _ hz))
    have e : prsOf (x :: xs) (y :: ys) = prOf x y :: prsOf xs ys := rfl
    rw [belowL, e, List.all_cons, ← ih]
    congr 1
    simp only [okPE, prOf, wayOf, h1, h2, holdsS]
    by_cases h0 : x.f2 = 0
    · simp [h0]
    · by_cases h3 : x.f2 = 1
      · simp [h3]
      · simp [h0, h3]
set_option maxRecDepth 100000 in
set_option maxHeartbeats 8000000 in
theorem belowE_calls (w : World) (A B : Option Addr) (c d : Nat) (la lb : List Spot) (v : Value) (o : Option Int) (hl : la.length = lb.length) (hua : U8s la) (hub : U8s lb) (hmax : la.length ≤ 9223372036854775807)
    (ha : kSpot.C w A la.length la) (hb : kSpot.C w B lb.length lb) (hv : EffV w v o) :
    Calls Tryz.prog 100 #[.slice A la.length c, .slice B lb.length d, .iface 55 v] w fun e w' => e = .returned (.bool (belowL (leEff o) la lb)) ∧ Below w.heap.size w w' := by
  rw [belowL_allE o la lb hua hub]
  refine (callsIn_wide (n := 8)).1 ?_
  have HA := Aside0.mk ha
  have HB := Aside0.mk hb
  have HV := Aside0.mk hv
  have HUA := Aside0.mk hua
  have HUB := Aside0.mk hub
  have HL := Aside0.mk hl
  have HM := Aside0.mk hmax
  obtain ⟨N, hN⟩ : ∃ N, N = la.length := ⟨_, rfl⟩
  have HN := Aside0.mk hN
  rw [← hl, ← hN]
  clear ha hb hv hua hub hl hN hmax
  refine callsIn_of_wp_marks Tryz.func100 rfl trivial ?_ rfl
  simp only [Tryz.ntmps100, List.size_toArray, List.length_cons, List.length_nil, Nat.reduceAdd, Nat.reduceSub, Array.replicate_succ, Array.replicate_zero, List.push_toArray, List.append_toArray, List.nil_append, List.cons_append]
  have HR0 := Aside0.mk (blk_new w (.cells #[.bool false] 4))
  have HB0 := Aside0.mk (below_alloc (Below.refl w.heap.size w) (.cells #[.bool false] 4))
  gi_wp2_with (refine ⟨trivial, ?_⟩; gi_at_call 181; refine (callsIn_wide.2 (pairs_calls _ _ _ _ _ _ _ _ _)).mono ?_; rintro e w1 ⟨g3, g4, g5, g7, g8, g9, rfl, hb1, c3, c4, c5, c7, c8, c9⟩)
  have hsz := hb1.size
  simp only [World.size_alloc] at hsz
  have bR : Boxed w1 w.heap.size 4 (.bool false) := (hb1.block w.heap.size (by simp)).trans HR0.out
  have hB1 : Below w.heap.size w w1 := HB0.out.trans (hb1.mono (by simp))
  have HB1 := Aside0.mk hB1
  have C5 := Aside0.mk c5
  have C7 := Aside0.mk c7
  have C8 := Aside0.mk c8
  refine wpIn_rangeFunc_ownH (n := 8) rfl (by decide) (gf := 221) (lb := #[.pointer (some ⟨g3, 0, none⟩), .pointer (some ⟨g9, 0, none⟩), .pointer (some ⟨g7, 0, none⟩), .pointer (some ⟨g8, 0, none⟩), .pointer (some ⟨g4, 0, none⟩)]) rfl trivial (enters_of Tryz.func221 (by kernel_rfl) rfl)
    (pairs4_stops 7 (by decide) w1 A B c d la lb g3 g4 g5 g7 g8 g9 HL.out HUA.out HUB.out HM.out (by rw [← HN.out]; exact c3) (by rw [← HL.out, ← HN.out]; exact c4) c7 c8 c9 (Kd.C_below HA.out hB1) (Kd.C_below HB.out hB1)) belowK_t (belowK_b (Nat.le_refl _)) (Below.refl _ _) (fun _ => rfl)
    (fun pre W => ((∀ p ∈ pre, okPE o p = true) ∧ Boxed W w.heap.size 4 (.bool false)) ∧ Below w1.heap.size w1 W)
    (fun c pre W => ((c = .ret ∧ ∃ p ∈ pre, okPE o p = false) ∧ Boxed W w.heap.size 4 (.bool false)) ∧ Below w.heap.size w W)
    (OwnFrom.and (OwnFrom.and (ownFrom_pure _ _) (Own.from (boxed_own _ _ _) _)) (ownFrom_below (Nat.le_refl _) (Nat.le_refl _)))
    (fun c => OwnFrom.and (OwnFrom.and (ownFrom_pure _ _) (Own.from (boxed_own _ _ _) _)) (ownFrom_below (Nat.le_refl _) (by omega)))
    ⟨⟨by simp, bR⟩, Below.refl _ _⟩
    (fun p a' W => ∃ Bx, w1.heap.size ≤ Bx ∧ W.heap[Bx]? = some (.cells #[.int .u64 (p.1 : Int), .int .u64 (p.2.1 : Int)] 270 (0, 0)) ∧ a' = { tmps := #[.slice A N c, .slice B N d, .iface 55 v, undef, undef, undef, .pointer (some ⟨w.heap.size, 0, none⟩), .pointer (some ⟨Bx, 0, none⟩), mustV g5 g7 g8 p.2.2, .slice A N c, .slice B N d, .iface 55 v,
      .func (.func 221) #[] #[.pointer (some ⟨g3, 0, none⟩), .pointer (some ⟨g9, 0, none⟩), .pointer (some ⟨g7, 0, none⟩), .pointer (some ⟨g8, 0, none⟩), .pointer (some ⟨g4, 0, none⟩)], .agg #[.int .u64 (p.1 : Int), .int .u64 (p.2.1 : Int)], mustV g5 g7 g8 p.2.2, undef, undef, undef, undef], defers := [] })
    (fun p a' _ X Y row hs hg hr => by
      obtain ⟨Bx, e1, e2, e3⟩ := hs
      refine ⟨Bx, e1, (hg.block Bx (blk_lt e2) (fun e => ?_)).trans e2, e3⟩
      obtain ⟨_, o', ho, hc⟩ := hr Bx e.symm
      rw [e2] at ho
      cases ho
      cases hc)
    ?assign ?body ?done ?stop
  case assign =>
    rintro l pre p W K ⟨⟨hp, bR1⟩, hBW⟩ hK
    simp only [encP]
    gi_wp2
    refine hK _ _ ((KeepsOthers.alloc _ _).from _) ((Below.refl _ W).alloc hBW.size _) ⟨⟨hp, bR1.alloc _⟩, hBW.alloc hBW.size _⟩ ⟨W.heap.size, hBW.size, blk_new W _, rfl⟩
  case body =>
    rintro l pre ⟨x, y, m⟩ a' W hl ⟨r, hr⟩ ⟨⟨hp, bR1⟩, hBW⟩ ⟨Bx, hBx, bX, rfl⟩ hlt
    have x0 : W.cell? ⟨Bx, 0, none⟩ = some (.int .u64 (x : Int)) := blk_cell bX 0
    have x1 : W.cell? ⟨Bx, 1, none⟩ = some (.int .u64 (y : Int)) := blk_cell bX 1
    have cR := bR1.cell
    have fR := bR1.frozen
    have hd : 1 ≤ 8 - 1 - 1 := by decide
    have d5 := pw_cell_below hBW C5.out
    have d7 := pw_cell_below hBW C7.out
    have d8 := pw_cell_below hBW C8.out
    have HVW := Aside0.mk ((HV.out.kept HB1.out).kept hBW)
    have HLT : Aside0 (w.heap.size < W.heap.size) := ⟨bR1.lt⟩
    have HR1 := Aside0.mk bR1
    have HBW := Aside0.mk hBW
    have HP := Aside0.mk hp
    have HHR := Aside0.mk hr
    clear bR1 hBW hp hr bX
    cases m with
    | none =>
      have MC : Aside0 (Calls Tryz.prog 220 #[.agg #[.int .u64 (x : Int), .int .u64 (y : Int)], .pointer (some ⟨g7, 0, none⟩), .pointer (some ⟨g8, 0, none⟩)] W fun e w' => e = .returned (.bool (okPE o (x, y, none))) ∧ Below W.heap.size W w') := ⟨bothE_calls W g5 g7 g8 x y v o d5 d7 d8 HVW.out⟩
      obtain ⟨z, hz⟩ : ∃ z, z = okPE o (x, y, none) := ⟨_, rfl⟩
      rw [← hz] at MC
      have HZ := Aside0.mk hz
      clear hz
      simp only [mustV]
      simp only [mustV] at d7 d8
      clear c3 c4 c5 c7 c8 c9 hb1 bR hB1
      cases z with
      | false =>
        gi_wp2_with (refine ⟨trivial, ?_⟩; gi_at_call 220; refine (CallsIn.inRound l (callsIn_wide.2 MC.out)).mono ?_; rintro e W2 ⟨rfl, hb2⟩; have HB2 := Aside0.mk hb2; have cR2 := (hb2.cell (p := ⟨w.heap.size, 0, none⟩) HLT.out).trans cR; have fR2 := (hb2.frozen (p := ⟨w.heap.size, 0, none⟩) HLT.out).trans fR; clear hb2)
        have bR2 : Boxed W2 w.heap.size 4 (.bool false) := (HB2.out.block w.heap.size HLT.out).trans HR1.out
        exact ⟨(KeepsFrom.of_grownBy (row := none) (grown_none HB2.out) (fun j e => by cases e)).trans ((KeepsOthers.setCell _ _ _).from _), ⟨⟨rfl, _, List.mem_append.2 (.inr (List.mem_singleton.2 rfl)), HZ.out.symm⟩, bR2.set _⟩, (HB1.out.trans ((HBW.out.trans (HB2.out.mono HBW.out.size)).mono HB1.out.size)).setCell (p := ⟨w.heap.size, 0, none⟩) (Nat.le_refl _) _⟩
      | true =>
        gi_wp2_with (refine ⟨trivial, ?_⟩; gi_at_call 220; refine (CallsIn.inRound l (callsIn_wide.2 MC.out)).mono ?_; rintro e W2 ⟨rfl, hb2⟩; have HB2 := Aside0.mk hb2; clear hb2)
        have bR2 : Boxed W2 w.heap.size 4 (.bool false) := (HB2.out.block w.heap.size HLT.out).trans HR1.out
        refine ⟨KeepsFrom.of_grownBy (row := none) (grown_none HB2.out) (fun j e => by cases e), HB2.out.mono HBW.out.size, ⟨fun p hp => ?_, bR2⟩, HBW.out.trans (HB2.out.mono HBW.out.size)⟩
        rcases List.mem_append.1 hp with h | h
        · exact HP.out p h
        · rw [List.mem_singleton.1 h]
          exact HZ.out.symm
    | some q =>
      cases q with
      | true =>
        have MC : Aside0 (Calls Tryz.prog 218 #[.agg #[.int .u64 (x : Int), .int .u64 (y : Int)], .pointer (some ⟨g5, 0, none⟩)] W fun e w' => e = .returned (.bool (okPE o (x, y, some true))) ∧ Below W.heap.size W w') := ⟨upE_calls W g5 x y v o d5 HVW.out⟩
        obtain ⟨z, hz⟩ : ∃ z, z = okPE o (x, y, some true) := ⟨_, rfl⟩
        rw [← hz] at MC
        have HZ := Aside0.mk hz
        clear hz
        simp only [mustV]
        simp only [mustV] at d7 d8
        clear c3 c4 c5 c7 c8 c9 hb1 bR hB1
        cases z with
        | false =>
          gi_wp2_with (refine ⟨trivial, ?_⟩; gi_at_call 218; refine (CallsIn.inRound l (callsIn_wide.2 MC.out)).mono ?_; rintro e W2 ⟨rfl, hb2⟩; have HB2 := Aside0.mk hb2; have cR2 := (hb2.cell (p := ⟨w.heap.size, 0, none⟩) HLT.out).trans cR; have fR2 := (hb2.frozen (p := ⟨w.heap.size, 0, none⟩) HLT.out).trans fR; clear hb2)
          have bR2 : Boxed W2 w.heap.size 4 (.bool false) := (HB2.out.block w.heap.size HLT.out).trans HR1.out
          exact ⟨(KeepsFrom.of_grownBy (row := none) (grown_none HB2.out) (fun j e => by cases e)).trans ((KeepsOthers.setCell _ _ _).from _), ⟨⟨rfl, _, List.mem_append.2 (.inr (List.mem_singleton.2 rfl)), HZ.out.symm⟩, bR2.set _⟩, (HB1.out.trans ((HBW.out.trans (HB2.out.mono HBW.out.size)).mono HB1.out.size)).setCell (p := ⟨w.heap.size, 0, none⟩) (Nat.le_refl _) _⟩
        | true =>
          gi_wp2_with (refine ⟨trivial, ?_⟩; gi_at_call 218; refine (CallsIn.inRound l (callsIn_wide.2 MC.out)).mono ?_; rintro e W2 ⟨rfl, hb2⟩; have HB2 := Aside0.mk hb2; clear hb2)
          have bR2 : Boxed W2 w.heap.size 4 (.bool false) := (HB2.out.block w.heap.size HLT.out).trans HR1.out
          refine ⟨KeepsFrom.of_grownBy (row := none) (grown_none HB2.out) (fun j e => by cases e), HB2.out.mono HBW.out.size, ⟨fun p hp => ?_, bR2⟩, HBW.out.trans (HB2.out.mono HBW.out.size)⟩
          rcases List.mem_append.1 hp with h | h
          · exact HP.out p h
          · rw [List.mem_singleton.1 h]
            exact HZ.out.symm
      | false =>
        have MC : Aside0 (Calls Tryz.prog 219 #[.agg #[.int .u64 (x : Int), .int .u64 (y : Int)], .pointer (some ⟨g5, 0, none⟩)] W fun e w' => e = .returned (.bool (okPE o (x, y, some false))) ∧ Below W.heap.size W w') := ⟨downE_calls W g5 x y v o d5 HVW.out⟩
        obtain ⟨z, hz⟩ : ∃ z, z = okPE o (x, y, some false) := ⟨_, rfl⟩
        rw [← hz] at MC
        have HZ := Aside0.mk hz
        clear hz
        simp only [mustV]
        simp only [mustV] at d7 d8
        clear c3 c4 c5 c7 c8 c9 hb1 bR hB1
        cases z with
        | false =>
          gi_wp2_with (refine ⟨trivial, ?_⟩; gi_at_call 219; refine (CallsIn.inRound l (callsIn_wide.2 MC.out)).mono ?_; rintro e W2 ⟨rfl, hb2⟩; have HB2 := Aside0.mk hb2; have cR2 := (hb2.cell (p := ⟨w.heap.size, 0, none⟩) HLT.out).trans cR; have fR2 := (hb2.frozen (p := ⟨w.heap.size, 0, none⟩) HLT.out).trans fR; clear hb2)
          have bR2 : Boxed W2 w.heap.size 4 (.bool false) := (HB2.out.block w.heap.size HLT.out).trans HR1.out
          exact ⟨(KeepsFrom.of_grownBy (row := none) (grown_none HB2.out) (fun j e => by cases e)).trans ((KeepsOthers.setCell _ _ _).from _), ⟨⟨rfl, _, List.mem_append.2 (.inr (List.mem_singleton.2 rfl)), HZ.out.symm⟩, bR2.set _⟩, (HB1.out.trans ((HBW.out.trans (HB2.out.mono HBW.out.size)).mono HB1.out.size)).setCell (p := ⟨w.heap.size, 0, none⟩) (Nat.le_refl _) _⟩
        | true =>
          gi_wp2_with (refine ⟨trivial, ?_⟩; gi_at_call 219; refine (CallsIn.inRound l (callsIn_wide.2 MC.out)).mono ?_; rintro e W2 ⟨rfl, hb2⟩; have HB2 := Aside0.mk hb2; clear hb2)
          have bR2 : Boxed W2 w.heap.size 4 (.bool false) := (HB2.out.block w.heap.size HLT.out).trans HR1.out
          refine ⟨KeepsFrom.of_grownBy (row := none) (grown_none HB2.out) (fun j e => by cases e), HB2.out.mono HBW.out.size, ⟨fun p hp => ?_, bR2⟩, HBW.out.trans (HB2.out.mono HBW.out.size)⟩
          rcases List.mem_append.1 hp with h | h
          · exact HP.out p h
          · rw [List.mem_singleton.1 h]
            exact HZ.out.symm
  case done =>
    rintro D zs W hD rfl ⟨⟨hp, bR1⟩, hBW⟩ hK
    have cR := bR1.cell
    have fR := bR1.frozen
    gi_wp2
    have hK' := (KeepsOthers.setCell W ⟨w.heap.size, 0, none⟩ (.bool true)).same D _ hK rfl
    refine ⟨by simp, .inl ⟨_, _, rfl, run_takeDeferred hK', ?_⟩⟩
    have hc5 := cell_kept (bR1.set (.bool true)).cell (grownBy_putObj' _ D (.deferred none)) (fun r e => by cases e; exact ⟨_, hK', rfl⟩)
    refine ⟨.bool true, ?_, by rw [List.all_eq_true.2 hp], ((HB1.out.trans (hBW.mono HB1.out.size)).setCell (p := ⟨w.heap.size, 0, none⟩) (Nat.le_refl _) _).trans (belowK_b (w := w) (Nat.le_refl _) _ D _ _ (by omega) hK' rfl rfl)⟩
    simp [results, Tryz.f100, go_sem, hc5]
  case stop =>
    rintro D c pre W hD hpre ⟨⟨⟨rfl, p, hin, hbad⟩, bR1⟩, hB2⟩ hK
    gi_wp2
    refine ⟨by simp, .inl ⟨_, _, rfl, run_takeDeferred hK, ?_⟩⟩
    have hc5 := cell_kept bR1.cell (grownBy_putObj' _ D (.deferred none)) (fun r e => by cases e; exact ⟨_, hK, rfl⟩)
    refine ⟨.bool false, ?_, by rw [List.all_eq_false.2 ⟨p, hpre.subset hin, by rw [hbad]; simp⟩], hB2.trans (belowK_b (w := w) (Nat.le_refl _) W D _ _ (by omega) hK rfl rfl)⟩
    simp [results, Tryz.f100, go_sem, hc5]
end Go.Proofs.YtbdecnagdnancaaGreatDoor

namespace Go.Proofs.YtbdecnagdnancaaGreatDoor
open Go.RowKit Go.Proofs.YtbdecnagdnancaaGreatDoorW.PrintWords Go.Proofs.YtbdecnagdnancaaGreatDoorW.PrintLast Go.Proofs.YtbdecnagdnancaaGreatDoorW.PrintMore
set_option linter.unusedVariables false
set_option linter.unusedSimpArgs false
/-- A value of a sort: a word of 64 bits. -/
def DU (a : Int) : Prop := 0 ≤ a ∧ a < 2 ^ 64
/-- What is asked of a sort. -/
structure SortOk (has : Int → Bool) (le : Int → Int → Bool) : Prop where
  refl : ∀ a, DU a → has a = true → le a a = true
  trans : ∀ a b c, DU a → DU b → DU c → le a b = true → le b c = true → le a c = true
  anti : ∀ a b, DU a → DU b → le a b = true → le b a = true → a = b
/-! ### spots: whose they are -/
theorem labL_all : ∀ (i : Nat) (l : List Node) (ss : List Int), ∀ x ∈ labL i l ss, (∃ n ∈ l, x.f3 = n.f4 ∨ x.f3 = n.f5) ∧ ∃ s ∈ ss, x.f2 = s ∨ x.f2 = turnI s
  | i, [], ss, x, h => by cases ss <;> simp [labL] at h
  | i, n :: t, [], x, h => by simp [labL] at h
  | i, n :: t, s :: ss, x, h => by
    rw [labL] at h
    rcases List.mem_append.1 h with h | h
    · unfold labN at h
      split at h
      · simp at h
        rcases h with rfl | rfl
        · exact ⟨⟨n, by simp, .inl rfl⟩, s, by simp, .inl rfl⟩
        · exact ⟨⟨n, by simp, .inr rfl⟩, s, by simp, .inr rfl⟩
      · simp at h
        subst h
        exact ⟨⟨n, by simp, .inl rfl⟩, s, by simp, .inl rfl⟩
    · obtain ⟨⟨m, hm, e⟩, q, hq, e2⟩ := labL_all (i + 1) t ss x h
      exact ⟨⟨m, List.mem_cons_of_mem _ hm, e⟩, q, List.mem_cons_of_mem _ hq, e2⟩
theorem effL_all : ∀ (i : Nat) (l : List Node) (ss : List Int), ∀ x ∈ effL i l ss, (∃ n ∈ l, x.f3 = n.f6) ∧ ∃ s ∈ ss, x.f2 = s
  | i, [], ss, x, h => by cases ss <;> simp [effL] at h
  | i, n :: t, [], x, h => by simp [effL] at h
  | i, n :: t, s :: ss, x, h => by
    rw [effL] at h
    rcases List.mem_append.1 h with h | h
    · unfold effN at h
      split at h
      · simp at h
        subst h
        exact ⟨⟨n, by simp, rfl⟩, s, by simp, rfl⟩
      · simp at h
    · obtain ⟨⟨m, hm, e⟩, q, hq, e2⟩ := effL_all (i + 1) t ss x h
      exact ⟨⟨m, List.mem_cons_of_mem _ hm, e⟩, q, List.mem_cons_of_mem _ hq, e2⟩
theorem turn_range {s : Int} (h : 0 ≤ s ∧ s ≤ 2) : 0 ≤ turnI s ∧ turnI s ≤ 2 := by unfold turnI; split <;> first | omega | (split <;> omega)
theorem wf_DU {t : Term} (h : Term.wf t) : DU t.f1 := by
  have := wf_u64 h
  exact ⟨this.1, by have := this.2; omega⟩
/-- Each spot of a body that came in: its value is a word, its side one of three. -/
def SpW (l : List Spot) : Prop := ∀ x ∈ l, DU x.f3.f1 ∧ 0 ≤ x.f2 ∧ x.f2 ≤ 2
theorem labB_W {a : List Node} (hw : ∀ n ∈ a, Node.wf n) : SpW (labB a) := fun x hx => by
  unfold labB at hx
  split at hx
  · obtain ⟨⟨n, hn, e⟩, s, hs, e2⟩ := labL_all _ _ _ x hx
    have h1 := sides_mem a [0] (by simp) s hs
    have h2 := hw n hn
    refine ⟨?_, ?_⟩
    · rcases e with e | e <;> rw [e]
      · exact wf_DU h2.2.2.2.2.1
      · exact wf_DU h2.2.2.2.2.2.1
    · rcases e2 with e2 | e2 <;> rw [e2]
      · exact h1
      · exact turn_range h1
  · cases hx
theorem effB_W {a : List Node} (hw : ∀ n ∈ a, Node.wf n) : SpW (effB a) := fun x hx => by
  unfold effB at hx
  split at hx
  · obtain ⟨⟨n, hn, e⟩, s, hs, e2⟩ := effL_all _ _ _ x hx
    have h1 := sides_mem a [0] (by simp) s hs
    have h2 := hw n hn
    rw [e, e2]
    exact ⟨wf_DU h2.2.2.2.2.2.2, h1⟩
  · cases hx
/-! ### two bodies that are the same but for their terms -/
theorem bytes_ext {s t : ByteArray} (h : s.toList = t.toList) : s = t := by
  rw [ByteArray.toList_eq, ByteArray.toList_eq] at h
  cases s
  cases t
  congr 1
  exact Array.toList_inj.1 h
theorem zero_of_may {n : Node} (h : mayB n = true) (h5 : n.f0 ≠ 5) : n.f5 = ⟨false, 0⟩ ∧ n.f6 = ⟨false, 0⟩ := by
  have e : (n.f5.f0 = false ∧ n.f5.f1 = 0) ∧ n.f6.f0 = false ∧ n.f6.f1 = 0 := by
    simp only [mayB, mayV, if_neg h5] at h
    split at h
    · simp at h; exact ⟨h.1.2, h.2⟩
    · split at h
      · simp at h; exact ⟨h.1.2, h.2⟩
      · split at h
        · simp at h; exact ⟨h.1.2, h.2⟩
        · split at h
          · simp at h; exact ⟨h.1.2, h.2⟩
          · cases h
  obtain ⟨⟨e1, e2⟩, e3, e4⟩ := e
  refine ⟨?_, ?_⟩
  · cases hx : n.f5
    rw [hx] at e1 e2
    simp only at e1 e2
    rw [e1, e2]
  · cases hx : n.f6
    rw [hx] at e3 e4
    simp only at e3 e4
    rw [e3, e4]
theorem base_of_same : ∀ {a b : List Node}, (∀ n ∈ a, mayB n = true) → (∀ n ∈ b, mayB n = true) → sameL a b = true → baseL a b
  | [], [], _, _, _ => trivial
  | [], _ :: _, _, _, h => by simp [sameL] at h
  | _ :: _, [], _, _, h => by simp [sameL] at h
  | x :: xs, y :: ys, ha, hb, h => by
    simp only [sameL, Bool.and_eq_true] at h
    obtain ⟨h1, h2⟩ := h
    refine ⟨?_, base_of_same (fun n hn => ha n (List.mem_cons_of_mem _ hn)) (fun n hn => hb n (List.mem_cons_of_mem _ hn)) h2⟩
    simp only [sameN, Bool.and_eq_true, beq_iff_eq] at h1
    obtain ⟨⟨⟨e0, e1⟩, e2⟩, e3⟩ := h1
    refine ⟨e0, e1, bytes_ext e2, e3, fun hne => ?_⟩
    have m1 := zero_of_may (ha x List.mem_cons_self) hne
    have m2 := zero_of_may (hb y List.mem_cons_self) (by rw [← e0]; exact hne)
    exact ⟨m1.1.trans m2.1.symm, m1.2.trans m2.2.symm⟩
theorem base_symm : ∀ {a b : List Node}, baseL a b → baseL b a
  | [], [], _ => trivial
  | [], _ :: _, h => h.elim
  | _ :: _, [], h => h.elim
  | x :: xs, y :: ys, ⟨⟨e0, e1, e2, e3, e4⟩, h⟩ => ⟨⟨e0.symm, e1.symm, e2.symm, e3.symm, fun hn => ⟨(e4 (by rw [e0]; exact hn)).1.symm, (e4 (by rw [e0]; exact hn)).2.symm⟩⟩, base_symm h⟩
theorem eq_of_spots : ∀ (i : Nat) (a b : List Node) (ss : List Int), baseL a b → ss.length = a.length → (labL i a ss).map (·.f3) = (labL i b ss).map (·.f3) → (effL i a ss).map (·.f3) = (effL i b ss).map (·.f3) → a = b
  | i, [], [], _, _, _, _, _ => rfl
  | i, [], _ :: _, _, h, _, _, _ => h.elim
  | i, _ :: _, [], _, h, _, _, _ => h.elim
  | i, x :: xs, y :: ys, [], _, h, _, _ => by simp at h
  | i, x :: xs, y :: ys, s :: ss, ⟨⟨e0, e1, e2, e3, e4⟩, hb⟩, hl, h1, h2 => by
    rw [labL, labL, List.map_append, List.map_append] at h1
    rw [effL, effL, List.map_append, List.map_append] at h2
    have l1 : ((labN i x s).map (·.f3)).length = ((labN i y s).map (·.f3)).length := by unfold labN; rw [e0]; split <;> rfl
    have l2 : ((effN i x s).map (·.f3)).length = ((effN i y s).map (·.f3)).length := by unfold effN; rw [e0]; split <;> rfl
    obtain ⟨p1, q1⟩ := List.append_inj h1 l1
    obtain ⟨p2, q2⟩ := List.append_inj h2 l2
    rw [eq_of_spots (i + 1) xs ys ss hb (by simpa using hl) q1 q2]
    congr 1
    by_cases h5 : x.f0 = 5
    · unfold labN at p1
      unfold effN at p2
      rw [if_pos h5, if_pos (e0 ▸ h5)] at p1 p2
      simp only [List.map_cons, List.map_nil, List.cons.injEq, and_true] at p1 p2
      cases x
      cases y
      simp only at e0 e1 e2 e3 p1 p2
      rw [e0, e1, e2, e3, p1.1, p1.2, p2]
    · unfold labN at p1
      rw [if_neg h5, if_neg (e0 ▸ h5)] at p1
      simp only [List.map_cons, List.map_nil, List.cons.injEq, and_true] at p1
      have e5 := e4 h5
      cases x
      cases y
      simp only at e0 e1 e2 e3 p1 e5
      rw [e0, e1, e2, e3, p1, e5.1, e5.2]
theorem lab_sides : ∀ (i : Nat) (a b : List Node) (ss : List Int), baseL a b → (labL i a ss).map (·.f2) = (labL i b ss).map (·.f2)
  | i, [], [], ss, _ => rfl
  | i, [], _ :: _, _, h => h.elim
  | i, _ :: _, [], _, h => h.elim
  | i, x :: xs, y :: ys, [], _ => rfl
  | i, x :: xs, y :: ys, s :: ss, ⟨⟨e0, _⟩, hb⟩ => by
    rw [labL, labL, List.map_append, List.map_append, lab_sides (i + 1) xs ys ss hb]
    congr 1
    unfold labN
    rw [e0]
    split <;> rfl
theorem eff_sides : ∀ (i : Nat) (a b : List Node) (ss : List Int), baseL a b → (effL i a ss).map (·.f2) = (effL i b ss).map (·.f2)
  | i, [], [], ss, _ => rfl
  | i, [], _ :: _, _, h => h.elim
  | i, _ :: _, [], _, h => h.elim
  | i, x :: xs, y :: ys, [], _ => rfl
  | i, x :: xs, y :: ys, s :: ss, ⟨⟨e0, _⟩, hb⟩ => by
    rw [effL, effL, List.map_append, List.map_append, eff_sides (i + 1) xs ys ss hb]
    congr 1
    unfold effN
    rw [e0]
    split <;> rfl
/-! ### the values of a sort, spot by spot -/
section
variable {has : Int → Bool} {le : Int → Int → Bool}
theorem holds_refl (h : SortOk has le) {s p : Int} (hp : DU p) (hh : has p = true) : holdsS le s p p = true := by
  have := h.refl p hp hh
  unfold holdsS
  split
  · exact this
  · split
    · exact this
    · rw [this]; rfl
theorem belowL_refl (h : SortOk has le) : ∀ l : List Spot, SpW l → termsB has l = true → belowL le l l = true
  | [], _, _ => rfl
  | x :: xs, hw, ht => by
    simp only [termsB, List.all_cons, Bool.and_eq_true] at ht
    rw [belowL, holds_refl h (hw x List.mem_cons_self).1 ht.1.2, belowL_refl h xs (fun y hy => hw y (List.mem_cons_of_mem _ hy)) ht.2]
    rfl
theorem holds_trans (h : SortOk has le) {s p q r : Int} (hp : DU p) (hq : DU q) (hr : DU r) (h1 : holdsS le s p q = true) (h2 : holdsS le s q r = true) : holdsS le s p r = true := by
  unfold holdsS at h1 h2 ⊢
  split
  · rename_i e
    rw [if_pos e] at h1 h2
    exact h.trans p q r hp hq hr h1 h2
  · rename_i e
    rw [if_neg e] at h1 h2
    split
    · rename_i e2
      rw [if_pos e2] at h1 h2
      exact h.trans r q p hr hq hp h2 h1
    · rename_i e2
      rw [if_neg e2, Bool.and_eq_true] at h1 h2
      rw [h.trans p q r hp hq hr h1.1 h2.1, h.trans r q p hr hq hp h2.2 h1.2]
      rfl
theorem belowL_trans (h : SortOk has le) : ∀ a b c : List Spot, SpW a → SpW b → SpW c → a.map (·.f2) = b.map (·.f2) → b.map (·.f2) = c.map (·.f2) → belowL le a b = true → belowL le b c = true → belowL le a c = true
  | [], _, c, _, _, _, _, _, _, _ => by cases c <;> rfl
  | x :: xs, [], _, _, _, _, e, _, _, _ => by simp at e
  | x :: xs, y :: ys, [], _, _, _, _, e, _, _ => by simp at e
  | x :: xs, y :: ys, z :: zs, ha, hb, hc, e1, e2, h1, h2 => by
    simp only [List.map_cons, List.cons.injEq] at e1 e2
    simp only [belowL, Bool.and_eq_true] at h1 h2 ⊢
    refine ⟨holds_trans h (ha x List.mem_cons_self).1 (hb y List.mem_cons_self).1 (hc z List.mem_cons_self).1 h1.1 (by rw [e1.1]; exact h2.1), ?_⟩
    exact belowL_trans h xs ys zs (fun q hq => ha q (List.mem_cons_of_mem _ hq)) (fun q hq => hb q (List.mem_cons_of_mem _ hq)) (fun q hq => hc q (List.mem_cons_of_mem _ hq)) e1.2 e2.2 h1.2 h2.2
theorem holds_anti (h : SortOk has le) {s p q : Int} (hp : DU p) (hq : DU q) (h1 : holdsS le s p q = true) (h2 : holdsS le s q p = true) : p = q := by
  unfold holdsS at h1 h2
  split at h1
  · rename_i e
    rw [if_pos e] at h2
    exact h.anti p q hp hq h1 h2
  · rename_i e
    rw [if_neg e] at h2
    split at h1
    · rename_i e2
      rw [if_pos e2] at h2
      exact h.anti p q hp hq h2 h1
    · rw [Bool.and_eq_true] at h1
      exact h.anti p q hp hq h1.1 h1.2
theorem belowL_anti (h : SortOk has le) : ∀ a b : List Spot, SpW a → SpW b → a.map (·.f2) = b.map (·.f2) → termsB has a = true → termsB has b = true → belowL le a b = true → belowL le b a = true → a.map (·.f3) = b.map (·.f3)
  | [], [], _, _, _, _, _, _, _ => rfl
  | [], _ :: _, _, _, e, _, _, _, _ => by simp at e
  | x :: xs, [], _, _, e, _, _, _, _ => by simp at e
  | x :: xs, y :: ys, ha, hb, e, t1, t2, h1, h2 => by
    simp only [List.map_cons, List.cons.injEq] at e
    simp only [termsB, List.all_cons, Bool.and_eq_true] at t1 t2
    simp only [belowL, Bool.and_eq_true] at h1 h2
    have hv := holds_anti h (ha x List.mem_cons_self).1 (hb y List.mem_cons_self).1 h1.1 (by rw [e.1]; exact h2.1)
    have ih := belowL_anti h xs ys (fun q hq => ha q (List.mem_cons_of_mem _ hq)) (fun q hq => hb q (List.mem_cons_of_mem _ hq)) e.2 t1.2 t2.2 h1.2 h2.2
    rw [List.map_cons, List.map_cons, ih]
    congr 1
    have f1 : x.f3.f0 = false := by simpa using t1.1.1
    have f2 : y.f3.f0 = false := by simpa using t2.1.1
    cases hx : x.f3
    cases hy : y.f3
    rw [hx] at f1 hv
    rw [hy] at f2 hv
    simp only at f1 f2 hv
    rw [f1, f2, hv]
end
/-! ### the two sorts -/
theorem leLat_leB (rows : List Int) (a b : Nat) : leLat (some rows) (a : Int) (b : Int) = leB rows a b := by
  simp only [leLat, leB, Int.toNat_natCast]
  congr 1
  congr 1
  · exact decide_eq_decide.2 (by omega)
  · exact decide_eq_decide.2 (by omega)
theorem lat_ok (o : Option (List Int)) (h : ∀ rows, o = some rows → U64s rows ∧ orderedB rows = true) : SortOk (hasLat o) (leLat o) := by
  cases o with
  | none => exact ⟨fun _ _ h => by simp [hasLat] at h, fun _ _ _ _ _ _ h => by simp [leLat] at h, fun _ _ _ _ h => by simp [leLat] at h⟩
  | some rows =>
    obtain ⟨hU, ho⟩ := h rows rfl
    refine ⟨fun a ha hh => ?_, fun a b c ha hb hc h1 h2 => ?_, fun a b ha hb h1 h2 => ?_⟩
    · obtain ⟨k, rfl⟩ := Int.eq_ofNat_of_zero_le ha.1
      rw [leLat_leB]
      refine ordered_refl hU ho k ?_
      have h3 : decide ((k : Int) < (rows.length : Int)) = true := hh
      have := of_decide_eq_true h3
      omega
    · obtain ⟨k, rfl⟩ := Int.eq_ofNat_of_zero_le ha.1
      obtain ⟨l, rfl⟩ := Int.eq_ofNat_of_zero_le hb.1
      obtain ⟨m, rfl⟩ := Int.eq_ofNat_of_zero_le hc.1
      rw [leLat_leB] at h1 h2 ⊢
      exact ordered_trans hU ho k l m h1 h2
    · obtain ⟨k, rfl⟩ := Int.eq_ofNat_of_zero_le ha.1
      obtain ⟨l, rfl⟩ := Int.eq_ofNat_of_zero_le hb.1
      rw [leLat_leB] at h1 h2
      rw [ordered_anti hU ho k l h1 h2]
theorem less_self {a : Int} (h : DU a) : lessI a a = 0 := (lessI_zero a a h.1 h.2 h.1 h.2).2 fun j h => h
theorem less_trans {a b c : Int} (ha : DU a) (hb : DU b) (hc : DU c) (h1 : lessI a b = 0) (h2 : lessI b c = 0) : lessI a c = 0 :=
  (lessI_zero a c ha.1 ha.2 hc.1 hc.2).2 fun j hj => (lessI_zero b c hb.1 hb.2 hc.1 hc.2).1 h2 j ((lessI_zero a b ha.1 ha.2 hb.1 hb.2).1 h1 j hj)
theorem less_anti {a b : Int} (ha : DU a) (hb : DU b) (h1 : lessI a b = 0) (h2 : lessI b a = 0) : a = b := by
  have g1 := (lessI_zero a b ha.1 ha.2 hb.1 hb.2).1 h1
  have g2 := (lessI_zero b a hb.1 hb.2 ha.1 ha.2).1 h2
  have : a.toNat = b.toNat := Nat.eq_of_testBit_eq fun j => by
    cases h3 : a.toNat.testBit j with
    | true => exact (g1 j h3).symm
    | false =>
      cases h4 : b.toNat.testBit j with
      | true => rw [g2 j h4] at h3; cases h3
      | false => rfl
  have := ha.1
  have := hb.1
  omega
theorem eff_ok (o : Option Int) : SortOk (hasEff o) (leEff o) := by
  cases o with
  | none => exact ⟨fun _ _ h => by simp [hasEff] at h, fun _ _ _ _ _ _ h => by simp [leEff] at h, fun _ _ _ _ h => by simp [leEff] at h⟩
  | some t =>
    refine ⟨fun a ha hh => ?_, fun a b c ha hb hc h1 h2 => ?_, fun a b ha hb h1 h2 => ?_⟩
    · have h1 : (lessI a t == 0) = true := hh
      simp only [leEff, h1, less_self ha]
      rfl
    · simp only [leEff, Bool.and_eq_true, beq_iff_eq] at h1 h2 ⊢
      exact ⟨⟨h1.1.1, h2.1.2⟩, less_trans ha hb hc h1.2 h2.2⟩
    · simp only [leEff, Bool.and_eq_true, beq_iff_eq] at h1 h2
      exact less_anti ha hb h1.2 h2.2
/-! ### what grounds.Below answers -/
section
variable {hasL hasX : Int → Bool} {leL leX : Int → Int → Bool}
def okT (hasL hasX : Int → Bool) (a : List Node) : Bool := termsB hasL (labB a) && termsB hasX (effB a)
theorem ground_eq (a b : List Node) : groundB hasL hasX leL leX a b = if checkB a ≠ 0 ∨ checkB b ≠ 0 then (false, 4) else if (okT hasL hasX a && okT hasL hasX b) = false then (false, 1) else (sameL a b && (belowL leL (labB a) (labB b) && belowL leX (effB a) (effB b)), 0) := by
  unfold groundB okT
  rw [← Bool.and_assoc]
  split
  · rfl
  · split
    · rfl
    · split
      · rename_i h
        rw [h]
        rfl
      · rename_i h
        rw [Bool.not_eq_false] at h
        rw [h]
        rfl
theorem ground_ok {a b : List Node} (h : (groundB hasL hasX leL leX a b).2 = 0) : checkB a = 0 ∧ checkB b = 0 ∧ okT hasL hasX a = true ∧ okT hasL hasX b = true ∧ (groundB hasL hasX leL leX a b).1 = (sameL a b && (belowL leL (labB a) (labB b) && belowL leX (effB a) (effB b))) := by
  rw [ground_eq] at h ⊢
  split at h
  · simp at h
  · rename_i h1
    rw [if_neg h1]
    split at h
    · simp at h
    · rename_i h2
      rw [if_neg h2]
      rw [Bool.not_eq_false, Bool.and_eq_true] at h2
      exact ⟨Decidable.not_not.1 fun h => h1 (.inl h), Decidable.not_not.1 fun h => h1 (.inr h), h2.1, h2.2, rfl⟩
theorem ground_bad {a b : List Node} (h : (groundB hasL hasX leL leX a b).2 ≠ 0) : (groundB hasL hasX leL leX a b).1 = false := by
  rw [ground_eq] at h ⊢
  split
  · rfl
  · split
    · rfl
    · rename_i h1 h2
      rw [if_neg h1, if_neg h2] at h
      exact absurd rfl h
theorem ground_zero {a b : List Node} (h1 : checkB a = 0) (h2 : checkB b = 0) (h3 : okT hasL hasX a = true) (h4 : okT hasL hasX b = true) : groundB hasL hasX leL leX a b = (sameL a b && (belowL leL (labB a) (labB b) && belowL leX (effB a) (effB b)), 0) := by
  rw [ground_eq, if_neg (by simp [h1, h2]), if_neg (by simp [h3, h4])]
theorem sameL_refl (a : List Node) : sameL a a = true := baseL_same (baseL_refl a)
/-- GroundsSelf, in plain Lean. -/
theorem ground_self (hL : SortOk hasL leL) (hX : SortOk hasX leX) (a b : List Node) (hw : ∀ n ∈ a, Node.wf n) :
    ((groundB hasL hasX leL leX a a).2 ≠ 0 → (groundB hasL hasX leL leX a a).1 = false ∧ (groundB hasL hasX leL leX a b).2 ≠ 0 ∧ (groundB hasL hasX leL leX b a).2 ≠ 0) ∧
    ((groundB hasL hasX leL leX a a).2 = 0 → (groundB hasL hasX leL leX a a).1 = true ∧ (groundB hasL hasX leL leX a b).2 = (groundB hasL hasX leL leX b a).2) := by
  refine ⟨fun h => ⟨ground_bad h, fun h2 => h ?_, fun h2 => h ?_⟩, fun h => ?_⟩
  · obtain ⟨c1, c2, o1, o2, _⟩ := ground_ok h2
    rw [ground_zero c1 c1 o1 o1]
  · obtain ⟨c1, c2, o1, o2, _⟩ := ground_ok h2
    rw [ground_zero c2 c2 o2 o2]
  · obtain ⟨c1, c2, o1, o2, he⟩ := ground_ok h
    have o1' := o1
    rw [okT, Bool.and_eq_true] at o1'
    refine ⟨?_, ?_⟩
    · rw [he, sameL_refl, belowL_refl hL _ (labB_W hw) o1'.1, belowL_refl hX _ (effB_W hw) o1'.2]
      rfl
    · rw [ground_eq, ground_eq]
      by_cases hb : checkB b = 0
      · have n1 : ¬ (checkB a ≠ 0 ∨ checkB b ≠ 0) := by simp [c1, hb]
        have n2 : ¬ (checkB b ≠ 0 ∨ checkB a ≠ 0) := by simp [c1, hb]
        rw [if_neg n1, if_neg n2, Bool.and_comm (okT hasL hasX b)]
        split <;> rfl
      · have n1 : checkB a ≠ 0 ∨ checkB b ≠ 0 := .inr hb
        have n2 : checkB b ≠ 0 ∨ checkB a ≠ 0 := .inl hb
        rw [if_pos n1, if_pos n2]
theorem labB_base {a b : List Node} (ca : checkB a = 0) (cb : checkB b = 0) (h : baseL a b) : (labB a).map (·.f2) = (labB b).map (·.f2) := by
  unfold labB
  rw [if_pos ca, if_pos cb, show sidesB a = sidesB b from baseL_sides [0] h]
  exact lab_sides 0 a b _ h
theorem effB_base {a b : List Node} (ca : checkB a = 0) (cb : checkB b = 0) (h : baseL a b) : (effB a).map (·.f2) = (effB b).map (·.f2) := by
  unfold effB
  rw [if_pos ca, if_pos cb, show sidesB a = sidesB b from baseL_sides [0] h]
  exact eff_sides 0 a b _ h
/-- GroundsChain, in plain Lean. -/
theorem ground_chain (hL : SortOk hasL leL) (hX : SortOk hasX leX) (a b c : List Node) (hwa : ∀ n ∈ a, Node.wf n) (hwb : ∀ n ∈ b, Node.wf n) (hwc : ∀ n ∈ c, Node.wf n)
    (e : (groundB hasL hasX leL leX a b).2 = 0) (f : (groundB hasL hasX leL leX b c).2 = 0) (g : (groundB hasL hasX leL leX a c).2 = 0) (h : (groundB hasL hasX leL leX b a).2 = 0) :
    ((groundB hasL hasX leL leX a b).1 = true → (groundB hasL hasX leL leX b c).1 = true → (groundB hasL hasX leL leX a c).1 = true) ∧
    ((groundB hasL hasX leL leX a b).1 = true → (groundB hasL hasX leL leX b a).1 = true → a = b) ∧ ((groundB hasL hasX leL leX a b).1 = true → sameL a b = true) := by
  obtain ⟨ca, cb, oa, ob, e1⟩ := ground_ok e
  obtain ⟨_, cc, _, oc, f1⟩ := ground_ok f
  obtain ⟨_, _, _, _, g1⟩ := ground_ok g
  obtain ⟨_, _, _, _, h1⟩ := ground_ok h
  rw [e1, f1, g1, h1]
  simp only [Bool.and_eq_true]
  refine ⟨fun ⟨s1, l1, x1⟩ ⟨s2, l2, x2⟩ => ?_, fun ⟨s1, l1, x1⟩ ⟨s2, l2, x2⟩ => ?_, fun h => h.1⟩
  · have b1 := base_of_same (check_may ca) (check_may cb) s1
    have b2 := base_of_same (check_may cb) (check_may cc) s2
    exact ⟨baseL_same (baseL_trans b1 b2), belowL_trans hL _ _ _ (labB_W hwa) (labB_W hwb) (labB_W hwc) (labB_base ca cb b1) (labB_base cb cc b2) l1 l2, belowL_trans hX _ _ _ (effB_W hwa) (effB_W hwb) (effB_W hwc) (effB_base ca cb b1) (effB_base cb cc b2) x1 x2⟩
  · have b1 := base_of_same (check_may ca) (check_may cb) s1
    rw [okT, Bool.and_eq_true] at oa ob
    have k1 := belowL_anti hL _ _ (labB_W hwa) (labB_W hwb) (labB_base ca cb b1) oa.1 ob.1 l1 l2
    have k2 := belowL_anti hX _ _ (effB_W hwa) (effB_W hwb) (effB_base ca cb b1) oa.2 ob.2 x1 x2
    unfold labB at k1
    unfold effB at k2
    rw [if_pos ca, if_pos cb, show sidesB b = sidesB a from (baseL_sides [0] b1).symm] at k1 k2
    exact eq_of_spots 0 a b _ b1 (sidesB_len ca 0) k1 k2
end
end Go.Proofs.YtbdecnagdnancaaGreatDoor

namespace Go.Proofs.YtbdecnagdnancaaGreatDoor
open Go.RowKit Go.Proofs.YtbdecnagdnancaaGreatDoorW.PrintWords Go.Proofs.YtbdecnagdnancaaGreatDoorW.PrintLast Go.Proofs.YtbdecnagdnancaaGreatDoorW.PrintMore
set_option linter.unusedVariables false
set_option linter.unusedSimpArgs false
theorem labB_U8 {a : List Node} (hw : ∀ n ∈ a, Node.wf n) : U8s (labB a) := fun x hx => by
  have := labB_W hw x hx
  exact ⟨this.1.1, this.2.1, by have := this.2.2; omega⟩
theorem effB_U8 {a : List Node} (hw : ∀ n ∈ a, Node.wf n) : U8s (effB a) := fun x hx => by
  have := effB_W hw x hx
  exact ⟨this.1.1, this.2.1, by have := this.2.2; omega⟩
theorem labB_nonneg {a : List Node} (hw : ∀ n ∈ a, Node.wf n) : ∀ x ∈ labB a, 0 ≤ x.f3.f1 := fun x hx => (labB_W hw x hx).1.1
theorem effB_nonneg {a : List Node} (hw : ∀ n ∈ a, Node.wf n) : ∀ x ∈ effB a, 0 ≤ x.f3.f1 := fun x hx => (effB_W hw x hx).1.1
theorem labB_max (a : List Node) : (labB a).length ≤ 256 := by
  unfold labB
  split
  · rename_i h
    have := labL_len 0 a (sidesB a)
    have := (checkB_L h).2.1
    omega
  · simp
theorem effB_max (a : List Node) : (effB a).length ≤ 256 := by
  unfold effB
  split
  · rename_i h
    have := effL_len 0 a (sidesB a)
    have := (checkB_L h).2.1
    omega
  · simp
theorem same_labs {a b : List Node} (ca : checkB a = 0) (cb : checkB b = 0) (h : sameL a b = true) : (labB a).length = (labB b).length ∧ (effB a).length = (effB b).length := by
  have hb := base_of_same (check_may ca) (check_may cb) h
  have h1 := congrArg List.length (labB_base ca cb hb)
  have h2 := congrArg List.length (effB_base ca cb hb)
  simp only [List.length_map] at h1 h2
  exact ⟨h1, h2⟩
set_option maxRecDepth 100000 in
set_option maxHeartbeats 8000000 in
theorem ground_calls (w : World) (A B : Option Addr) (c d : Nat) (a b : List Node) (v1 v2 : Value) (o : Option (List Int)) (p : Option Int) (hr : kNode.C w A a.length a) (hr2 : kNode.C w B b.length b) (hwa : ∀ n ∈ a, Node.wf n) (hwb : ∀ n ∈ b, Node.wf n) (hv1 : LatV w v1 o) (hv2 : EffV w v2 p) :
    Calls Tryz.prog 17 #[.slice A a.length c, .slice B b.length d, v1, v2] w fun e w' => e = .returned (.tuple #[.bool (groundB (hasLat o) (hasEff p) (leLat o) (leEff p) a b).1, .int .i64 (groundB (hasLat o) (hasEff p) (leLat o) (leEff p) a b).2]) ∧ Below w.heap.size w w' := by
  have HB := Aside0.mk (Below.refl w.heap.size w)
  obtain ⟨r, hr0⟩ : ∃ r, r = groundB (hasLat o) (hasEff p) (leLat o) (leEff p) a b := ⟨_, rfl⟩
  rw [← hr0]
  have HG := Aside0.mk (hr0.trans (ground_eq a b))
  clear hr0
  have CK : ∀ q1, q1 = checkB a → Aside0 (∀ W, Below w.heap.size w W → Calls Tryz.prog 97 #[.slice A a.length c] W fun e w' => e = .returned (.int .i64 q1) ∧ Below W.heap.size W w') := fun q1 h => ⟨fun W hb => by rw [h]; exact check_calls W A c a (Kd.C_below hr hb)⟩
  have CK2 : ∀ q1, q1 = checkB b → Aside0 (∀ W, Below w.heap.size w W → Calls Tryz.prog 97 #[.slice B b.length d] W fun e w' => e = .returned (.int .i64 q1) ∧ Below W.heap.size W w') := fun q1 h => ⟨fun W hb => by rw [h]; exact check_calls W B d b (Kd.C_below hr2 hb)⟩
  obtain ⟨n, hn⟩ : ∃ n, n = a.length := ⟨_, rfl⟩
  obtain ⟨m, hm⟩ : ∃ m, m = b.length := ⟨_, rfl⟩
  have HR := Aside0.mk hr
  have HR2 := Aside0.mk hr2
  have HN := Aside0.mk hn
  have HM := Aside0.mk hm
  have HV1 := Aside0.mk hv1
  have HV2 := Aside0.mk hv2
  have HWA := Aside0.mk hwa
  have HWB := Aside0.mk hwb
  rw [← hn] at CK
  rw [← hm] at CK2
  rw [← hn, ← hm]
  clear hr hr2 hn hm hv1 hv2 hwa hwb
  by_cases ca : checkB a = 0
  rotate_left
  · obtain ⟨q, hq⟩ : ∃ q, q = checkB a := ⟨_, rfl⟩
    have K1 := CK q hq
    have e0 : (q != 0) = true := bne_iff_ne.mpr (by rw [hq]; exact ca)
    have HE : Aside0 (r = (false, 4)) := ⟨by rw [HG.out, if_pos (.inl ca)]⟩
    clear CK CK2 hq ca HG
    go_enter Tryz.func17, Tryz.ntmps17
    go_wp2_with (go_at_call 97; (with_reducible refine (K1.out _ HB.out).mono ?_); rintro e W' ⟨rfl, hb'⟩; have HB' := Aside0.mk (below_step HB.out hb'); clear HB hb'; have HB := HB'; clear HB')
    go_ret2
    rw [HE.out]
    exact ⟨rfl, HB.out⟩
  have K1 := CK 0 ca.symm
  by_cases cb : checkB b = 0
  rotate_left
  · obtain ⟨q, hq⟩ : ∃ q, q = checkB b := ⟨_, rfl⟩
    have K2 := CK2 q hq
    have e0 : (q != 0) = true := bne_iff_ne.mpr (by rw [hq]; exact cb)
    have HE : Aside0 (r = (false, 4)) := ⟨by rw [HG.out, if_pos (.inr cb)]⟩
    clear CK CK2 hq ca cb HG
    go_enter Tryz.func17, Tryz.ntmps17
    go_wp2_with (first | (go_at_call 97; (with_reducible refine (K1.out _ HB.out).mono ?_); rintro e W' ⟨rfl, hb'⟩; have HB' := Aside0.mk (below_step HB.out hb'); clear HB hb'; have HB := HB'; clear HB') | (go_at_call 97; (with_reducible refine (K2.out _ HB.out).mono ?_); rintro e W' ⟨rfl, hb'⟩; have HB' := Aside0.mk (below_step HB.out hb'); clear HB hb'; have HB := HB'; clear HB'))
    go_ret2
    rw [HE.out]
    exact ⟨rfl, HB.out⟩
  have K2 := CK2 0 cb.symm
  have HG2 : Aside0 (r = if (okT (hasLat o) (hasEff p) a && okT (hasLat o) (hasEff p) b) = false then (false, 1) else (sameL a b && (belowL (leLat o) (labB a) (labB b) && belowL (leEff p) (effB a) (effB b)), 0)) := ⟨by rw [HG.out, if_neg (by simp [ca, cb])]⟩
  have HCA := Aside0.mk ca
  have HCB := Aside0.mk cb
  have OF : Aside0 (∀ (A : Option Addr) (c : Nat) (x : List Node), kNode.C w A x.length x → ∀ W, Below w.heap.size w W → Calls Tryz.prog 20 #[.slice A x.length c] W fun e w' => ∃ A1 c1 A2 c2, e = .returned (.tuple #[.slice A1 (labB x).length c1, .slice A2 (effB x).length c2]) ∧ kSpot.C w' A1 (labB x).length (labB x) ∧ kSpot.C w' A2 (effB x).length (effB x) ∧ Below W.heap.size W w') := ⟨fun A c x hx W hb => by
    refine (of_calls W A c x (Kd.C_below hx hb)).mono ?_
    rintro e w' ⟨u1, u2, rfl, r1, r2, hb'⟩
    obtain ⟨A1, c1, rfl⟩ := Kd.R_slice r1
    obtain ⟨A2, c2, rfl⟩ := Kd.R_slice r2
    exact ⟨A1, c1, A2, c2, rfl, (Kd.R_reads' r1).2.2, (Kd.R_reads' r2).2.2, hb'⟩⟩
  have OF1 := Aside0.mk (OF.out A c a HR.out)
  have OF2 := Aside0.mk (OF.out B d b HR2.out)
  rw [← HN.out] at OF1
  rw [← HM.out] at OF2
  obtain ⟨la, hla⟩ : ∃ l, l = labB a := ⟨_, rfl⟩
  obtain ⟨xa, hxa⟩ : ∃ l, l = effB a := ⟨_, rfl⟩
  obtain ⟨lb, hlb⟩ : ∃ l, l = labB b := ⟨_, rfl⟩
  obtain ⟨xb, hxb⟩ : ∃ l, l = effB b := ⟨_, rfl⟩
  have u1 : U8s la := by rw [hla]; exact labB_U8 HWA.out
  have u2 : U8s xa := by rw [hxa]; exact effB_U8 HWA.out
  have u3 : U8s lb := by rw [hlb]; exact labB_U8 HWB.out
  have u4 : U8s xb := by rw [hxb]; exact effB_U8 HWB.out
  have q1 : la.length ≤ 9223372036854775807 := by rw [hla]; have := labB_max a; omega
  have q2 : xa.length ≤ 9223372036854775807 := by rw [hxa]; have := effB_max a; omega
  have hsl : sameL a b = true → la.length = lb.length ∧ xa.length = xb.length := fun h => by rw [hla, hlb, hxa, hxb]; exact same_labs HCA.out HCB.out h
  have HSL := Aside0.mk hsl
  have HG3 : Aside0 (r = if (termsB (hasLat o) la && termsB (hasEff p) xa && (termsB (hasLat o) lb && termsB (hasEff p) xb)) = false then (false, 1) else (sameL a b && (belowL (leLat o) la lb && belowL (leEff p) xa xb), 0)) := ⟨by rw [HG2.out, okT, okT, hla, hlb, hxa, hxb]⟩
  rw [← hla, ← hxa] at OF1
  rw [← hlb, ← hxb] at OF2
  have HU := Aside0.mk (And.intro u1 (And.intro u2 (And.intro u3 u4)))
  have HQ := Aside0.mk (And.intro q1 q2)
  clear CK CK2 ca cb HG HG2 OF hla hxa hlb hxb u1 u2 u3 u4 q1 q2 hsl
  go_enter Tryz.func17, Tryz.ntmps17
  go_wp2_with (first | (go_at_call 97; (with_reducible refine (K1.out _ HB.out).mono ?_); rintro e W' ⟨rfl, hb'⟩; have HB' := Aside0.mk (below_step HB.out hb'); clear HB hb'; have HB := HB'; clear HB') | (go_at_call 97; (with_reducible refine (K2.out _ HB.out).mono ?_); rintro e W' ⟨rfl, hb'⟩; have HB' := Aside0.mk (below_step HB.out hb'); clear HB hb'; have HB := HB'; clear HB'))
  refine (OF1.out _ HB.out).mono ?_
  rintro e W1 ⟨A1, c1, A2, c2, rfl, k1, k2, hb1⟩
  have HB1 := Aside0.mk (below_step HB.out hb1)
  have KK := Aside0.mk (And.intro k1 k2)
  clear hb1 k1 k2 OF1
  go_wp2_with fail
  refine (OF2.out _ HB1.out).mono ?_
  rintro e W2 ⟨A3, c3, A4, c4, rfl, k3, k4, hb2⟩
  have HB2 := Aside0.mk (below_step HB1.out hb2)
  have k1 := Kd.C_below KK.out.1 hb2
  have k2 := Kd.C_below KK.out.2 hb2
  have HV1' := Aside0.mk (HV1.out.kept HB2.out)
  have HV2' := Aside0.mk (HV2.out.kept HB2.out)
  obtain ⟨t1, ht1⟩ : ∃ t, t = termsB (hasLat o) la := ⟨_, rfl⟩
  obtain ⟨t2, ht2⟩ : ∃ t, t = termsB (hasEff p) xa := ⟨_, rfl⟩
  obtain ⟨t3, ht3⟩ : ∃ t, t = termsB (hasLat o) lb := ⟨_, rfl⟩
  obtain ⟨t4, ht4⟩ : ∃ t, t = termsB (hasEff p) xb := ⟨_, rfl⟩
  have T1 : Aside0 (∀ W, Below W2.heap.size W2 W → Calls Tryz.prog 98 #[.slice A1 la.length c1, .iface 54 v1] W fun e w' => e = .returned (.bool t1) ∧ Below W.heap.size W w') := ⟨fun W hb => by rw [ht1]; exact termsL_calls W A1 c1 la v1 o (fun x hx => (HU.out.1 x hx).1) (Kd.C_below k1 hb) (HV1'.out.kept hb)⟩
  have T2 : Aside0 (∀ W, Below W2.heap.size W2 W → Calls Tryz.prog 98 #[.slice A2 xa.length c2, .iface 55 v2] W fun e w' => e = .returned (.bool t2) ∧ Below W.heap.size W w') := ⟨fun W hb => by rw [ht2]; exact termsE_calls W A2 c2 xa v2 p (fun x hx => (HU.out.2.1 x hx).1) (Kd.C_below k2 hb) (HV2'.out.kept hb)⟩
  have T3 : Aside0 (∀ W, Below W2.heap.size W2 W → Calls Tryz.prog 98 #[.slice A3 lb.length c3, .iface 54 v1] W fun e w' => e = .returned (.bool t3) ∧ Below W.heap.size W w') := ⟨fun W hb => by rw [ht3]; exact termsL_calls W A3 c3 lb v1 o (fun x hx => (HU.out.2.2.1 x hx).1) (Kd.C_below k3 hb) (HV1'.out.kept hb)⟩
  have T4 : Aside0 (∀ W, Below W2.heap.size W2 W → Calls Tryz.prog 98 #[.slice A4 xb.length c4, .iface 55 v2] W fun e w' => e = .returned (.bool t4) ∧ Below W.heap.size W w') := ⟨fun W hb => by rw [ht4]; exact termsE_calls W A4 c4 xb v2 p (fun x hx => (HU.out.2.2.2 x hx).1) (Kd.C_below k4 hb) (HV2'.out.kept hb)⟩
  have SM : ∀ z, z = sameL a b → Aside0 (∀ W, Below w.heap.size w W → Calls Tryz.prog 99 #[.slice A n c, .slice B m d] W fun e w' => e = .returned (.bool z) ∧ Below W.heap.size W w') := fun z hz => ⟨fun W hb => by rw [hz, HN.out, HM.out]; exact same_calls W A B c d a b (Kd.C_below HR.out hb) (Kd.C_below HR2.out hb)⟩
  have HG4 : r = if (t1 && t2 && (t3 && t4)) = false then (false, 1) else (sameL a b && (belowL (leLat o) la lb && belowL (leEff p) xa xb), 0) := by rw [HG3.out, ht1, ht2, ht3, ht4]
  have KK2 := Aside0.mk (And.intro k1 (And.intro k2 (And.intro k3 k4)))
  have HBB := Aside0.mk (Below.refl W2.heap.size W2)
  clear ht1 ht2 ht3 ht4 k1 k2 k3 k4 HG3 KK HB HB1 hb2 OF2
  have hbad : (t1 && t2 && (t3 && t4)) = false → Aside0 (r = (false, 1)) := fun h => ⟨by rw [HG4, if_pos h]⟩
  cases t1 with
  | false =>
    have HE := hbad rfl
    clear hbad HG4 SM T2 T3 T4
    have HB := HBB
    clear HBB
    go_wp2_with (go_at_call 98; (with_reducible refine (T1.out _ HB.out).mono ?_); rintro e W' ⟨rfl, hb'⟩; have HB' := Aside0.mk (below_step HB.out hb'); clear HB hb'; have HB := HB'; clear HB')
    go_ret2
    rw [HE.out]
    exact ⟨rfl, below_step HB2.out HB.out⟩
  | true =>
    cases t2 with
    | false =>
      have HE := hbad rfl
      clear hbad HG4 SM T3 T4
      have HB := HBB
      clear HBB
      go_wp2_with (first | (go_at_call 98; (with_reducible refine (T1.out _ HB.out).mono ?_); rintro e W' ⟨rfl, hb'⟩; have HB' := Aside0.mk (below_step HB.out hb'); clear HB hb'; have HB := HB'; clear HB') | (go_at_call 98; (with_reducible refine (T2.out _ HB.out).mono ?_); rintro e W' ⟨rfl, hb'⟩; have HB' := Aside0.mk (below_step HB.out hb'); clear HB hb'; have HB := HB'; clear HB'))
      go_ret2
      rw [HE.out]
      exact ⟨rfl, below_step HB2.out HB.out⟩
    | true =>
      cases t3 with
      | false =>
        have HE := hbad rfl
        clear hbad HG4 SM T4
        have HB := HBB
        clear HBB
        go_wp2_with (first | (go_at_call 98; (with_reducible refine (T1.out _ HB.out).mono ?_); rintro e W' ⟨rfl, hb'⟩; have HB' := Aside0.mk (below_step HB.out hb'); clear HB hb'; have HB := HB'; clear HB') | (go_at_call 98; (with_reducible refine (T2.out _ HB.out).mono ?_); rintro e W' ⟨rfl, hb'⟩; have HB' := Aside0.mk (below_step HB.out hb'); clear HB hb'; have HB := HB'; clear HB') | (go_at_call 98; (with_reducible refine (T3.out _ HB.out).mono ?_); rintro e W' ⟨rfl, hb'⟩; have HB' := Aside0.mk (below_step HB.out hb'); clear HB hb'; have HB := HB'; clear HB'))
        go_ret2
        rw [HE.out]
        exact ⟨rfl, below_step HB2.out HB.out⟩
      | true =>
        cases t4 with
        | false =>
          have HE := hbad rfl
          clear hbad HG4 SM HV1'
          have HB := HBB
          clear HBB
          go_wp2_with (first | (go_at_call 98; (with_reducible refine (T1.out _ HB.out).mono ?_); rintro e W' ⟨rfl, hb'⟩; have HB' := Aside0.mk (below_step HB.out hb'); clear HB hb'; have HB := HB'; clear HB') | (go_at_call 98; (with_reducible refine (T2.out _ HB.out).mono ?_); rintro e W' ⟨rfl, hb'⟩; have HB' := Aside0.mk (below_step HB.out hb'); clear HB hb'; have HB := HB'; clear HB') | (go_at_call 98; (with_reducible refine (T3.out _ HB.out).mono ?_); rintro e W' ⟨rfl, hb'⟩; have HB' := Aside0.mk (below_step HB.out hb'); clear HB hb'; have HB := HB'; clear HB') | (go_at_call 98; (with_reducible refine (T4.out _ HB.out).mono ?_); rintro e W' ⟨rfl, hb'⟩; have HB' := Aside0.mk (below_step HB.out hb'); clear HB hb'; have HB := HB'; clear HB'))
          go_ret2
          rw [HE.out]
          exact ⟨rfl, below_step HB2.out HB.out⟩
        | true =>
          have HG5 : r = (sameL a b && (belowL (leLat o) la lb && belowL (leEff p) xa xb), 0) := by rw [HG4, if_neg (by simp)]
          clear hbad HG4
          cases hs : sameL a b with
          | false =>
            have S1 := SM false hs.symm
            have HE : Aside0 (r = (false, 0)) := ⟨by rw [HG5, hs]; rfl⟩
            have HB := HBB
            clear HBB SM HG5 hs
            go_wp2_with (first | (go_at_call 98; (with_reducible refine (T1.out _ HB.out).mono ?_); rintro e W' ⟨rfl, hb'⟩; have HB' := Aside0.mk (below_step HB.out hb'); clear HB hb'; have HB := HB'; clear HB') | (go_at_call 98; (with_reducible refine (T2.out _ HB.out).mono ?_); rintro e W' ⟨rfl, hb'⟩; have HB' := Aside0.mk (below_step HB.out hb'); clear HB hb'; have HB := HB'; clear HB') | (go_at_call 98; (with_reducible refine (T3.out _ HB.out).mono ?_); rintro e W' ⟨rfl, hb'⟩; have HB' := Aside0.mk (below_step HB.out hb'); clear HB hb'; have HB := HB'; clear HB') | (go_at_call 98; (with_reducible refine (T4.out _ HB.out).mono ?_); rintro e W' ⟨rfl, hb'⟩; have HB' := Aside0.mk (below_step HB.out hb'); clear HB hb'; have HB := HB'; clear HB') | (go_at_call 99; (with_reducible refine (S1.out _ (below_step HB2.out HB.out)).mono ?_); rintro e W' ⟨rfl, hb'⟩; have HB' := Aside0.mk (below_step HB.out hb'); clear HB hb'; have HB := HB'; clear HB'))
            go_ret2
            rw [HE.out]
            exact ⟨rfl, below_step HB2.out HB.out⟩
          | true =>
            have S1 := SM true hs.symm
            obtain ⟨h1, h2⟩ := HSL.out hs
            have BL : ∀ z, z = belowL (leLat o) la lb → Aside0 (∀ W, Below W2.heap.size W2 W → Calls Tryz.prog 100 #[.slice A1 la.length c1, .slice A3 lb.length c3, .iface 54 v1] W fun e w' => e = .returned (.bool z) ∧ Below W.heap.size W w') := fun z hz => ⟨fun W hb => by
              rw [hz]
              exact belowL_calls W A1 A3 c1 c3 la lb v1 o h1 HU.out.1 HU.out.2.2.1 HQ.out.1 (Kd.C_below KK2.out.1 hb) (Kd.C_below KK2.out.2.2.1 hb) (HV1'.out.kept hb)⟩
            obtain ⟨z2, hz2⟩ : ∃ z, z = belowL (leEff p) xa xb := ⟨_, rfl⟩
            have BE : Aside0 (∀ W, Below W2.heap.size W2 W → Calls Tryz.prog 100 #[.slice A2 xa.length c2, .slice A4 xb.length c4, .iface 55 v2] W fun e w' => e = .returned (.bool z2) ∧ Below W.heap.size W w') := ⟨fun W hb => by
              rw [hz2]
              exact belowE_calls W A2 A4 c2 c4 xa xb v2 p h2 HU.out.2.1 HU.out.2.2.2 HQ.out.2 (Kd.C_below KK2.out.2.1 hb) (Kd.C_below KK2.out.2.2.2 hb) (HV2'.out.kept hb)⟩
            have HG6 : r = (belowL (leLat o) la lb && z2, 0) := by rw [HG5, hs, hz2]; rfl
            have HB := HBB
            clear HBB SM HG5 hs hz2 h1 h2
            cases hz : belowL (leLat o) la lb with
            | false =>
              have B1 := BL false hz.symm
              have HE : Aside0 (r = (false, 0)) := ⟨by rw [HG6, hz]; rfl⟩
              clear HG6 hz BL BE
              go_wp2_with (first | (go_at_call 98; (with_reducible refine (T1.out _ HB.out).mono ?_); rintro e W' ⟨rfl, hb'⟩; have HB' := Aside0.mk (below_step HB.out hb'); clear HB hb'; have HB := HB'; clear HB') | (go_at_call 98; (with_reducible refine (T2.out _ HB.out).mono ?_); rintro e W' ⟨rfl, hb'⟩; have HB' := Aside0.mk (below_step HB.out hb'); clear HB hb'; have HB := HB'; clear HB') | (go_at_call 98; (with_reducible refine (T3.out _ HB.out).mono ?_); rintro e W' ⟨rfl, hb'⟩; have HB' := Aside0.mk (below_step HB.out hb'); clear HB hb'; have HB := HB'; clear HB') | (go_at_call 98; (with_reducible refine (T4.out _ HB.out).mono ?_); rintro e W' ⟨rfl, hb'⟩; have HB' := Aside0.mk (below_step HB.out hb'); clear HB hb'; have HB := HB'; clear HB') | (go_at_call 99; (with_reducible refine (S1.out _ (below_step HB2.out HB.out)).mono ?_); rintro e W' ⟨rfl, hb'⟩; have HB' := Aside0.mk (below_step HB.out hb'); clear HB hb'; have HB := HB'; clear HB') | (go_at_call 100; (with_reducible refine (B1.out _ HB.out).mono ?_); rintro e W' ⟨rfl, hb'⟩; have HB' := Aside0.mk (below_step HB.out hb'); clear HB hb'; have HB := HB'; clear HB'))
              go_ret2
              rw [HE.out]
              exact ⟨rfl, below_step HB2.out HB.out⟩
            | true =>
              have B1 := BL true hz.symm
              have HE : Aside0 (r = (z2, 0)) := ⟨by rw [HG6, hz]; rfl⟩
              clear HG6 hz BL
              go_wp2_with (first | (go_at_call 98; (with_reducible refine (T1.out _ HB.out).mono ?_); rintro e W' ⟨rfl, hb'⟩; have HB' := Aside0.mk (below_step HB.out hb'); clear HB hb'; have HB := HB'; clear HB') | (go_at_call 98; (with_reducible refine (T2.out _ HB.out).mono ?_); rintro e W' ⟨rfl, hb'⟩; have HB' := Aside0.mk (below_step HB.out hb'); clear HB hb'; have HB := HB'; clear HB') | (go_at_call 98; (with_reducible refine (T3.out _ HB.out).mono ?_); rintro e W' ⟨rfl, hb'⟩; have HB' := Aside0.mk (below_step HB.out hb'); clear HB hb'; have HB := HB'; clear HB') | (go_at_call 98; (with_reducible refine (T4.out _ HB.out).mono ?_); rintro e W' ⟨rfl, hb'⟩; have HB' := Aside0.mk (below_step HB.out hb'); clear HB hb'; have HB := HB'; clear HB') | (go_at_call 99; (with_reducible refine (S1.out _ (below_step HB2.out HB.out)).mono ?_); rintro e W' ⟨rfl, hb'⟩; have HB' := Aside0.mk (below_step HB.out hb'); clear HB hb'; have HB := HB'; clear HB') | (go_at_call 100; (with_reducible refine (B1.out _ HB.out).mono ?_); rintro e W' ⟨rfl, hb'⟩; have HB' := Aside0.mk (below_step HB.out hb'); clear HB hb'; have HB := HB'; clear HB') | (go_at_call 100; (with_reducible refine (BE.out _ HB.out).mono ?_); rintro e W' ⟨rfl, hb'⟩; have HB' := Aside0.mk (below_step HB.out hb'); clear HB hb'; have HB := HB'; clear HB'))
              go_ret2
              rw [HE.out]
              exact ⟨rfl, below_step HB2.out HB.out⟩
end Go.Proofs.YtbdecnagdnancaaGreatDoor
