/- bounds.Check: may bounds be, of so many variables. -/
import Derived.Test.YtjndjmggilcngaaGreatDoorMC
import Derived.Test.YtjndjmggilcngaaGreatDoorME

namespace Go.Proofs.YtjndjmggilcngaaGreatDoor
open Go.RowKit Go.Proofs.YtjndjmggilcngaaGreatDoorW.PrintWords Go.Proofs.YtjndjmggilcngaaGreatDoorW.PrintLast Go.Proofs.YtjndjmggilcngaaGreatDoorW.PrintMore
set_option linter.unusedVariables false
set_option linter.unusedSimpArgs false
/-- May a term be, of so many variables, of a sort? -/
def termOk (has : Int → Bool) (vars : Int) (t : Term) : Bool := if t.f0 then decide (t.f1 < vars) else has t.f1
def boundsB (has : Int → Bool) (vars : Int) (l : List Bound) : Int :=
  if vars < 0 ∨ 64 < vars ∨ 256 < l.length then 3 else if (l.all fun b => termOk has vars b.f0 && termOk has vars b.f1) = true then 0 else 1
theorem C_boundN {w : World} {A : Option Addr} {xs : List Bound} (h : Kd.C kBound w A xs.length xs) (j : Nat) (hj : j < xs.length) : ∃ ad, A = some ad ∧
    w.cell? (ad.add (j * 4)) = some (.bool xs[j].f0.f0) ∧ w.cell? ⟨(ad.add (j * 4)).block, (ad.add (j * 4)).off + 1, none⟩ = some (.int .u64 xs[j].f0.f1) ∧
    w.cell? ⟨(ad.add (j * 4)).block, (ad.add (j * 4)).off + 2, none⟩ = some (.bool xs[j].f1.f0) ∧ w.cell? ⟨(ad.add (j * 4)).block, (ad.add (j * 4)).off + 3, none⟩ = some (.int .u64 xs[j].f1.f1) := by
  obtain ⟨ad, e, hc⟩ := at_T156 h (j : Int) (by omega) (by omega)
  refine ⟨ad, e, ?_⟩
  have e2 : rd_T156 xs (j : Int) = xs[j] := by
    rw [rd_T156, Int.toNat_natCast, List.getD_eq_getElem?_getD, List.getElem?_eq_getElem hj]
    rfl
  rw [e2, Int.toNat_natCast] at hc
  exact hc
theorem idx0 (a0 : Bool) (a1 : Int) (b0 : Bool) (b1 : Int) (w : World) : (Instr.index 284 (.agg #[.bool a0, .int .u64 a1, .bool b0, .int .u64 b1]) (.int .i64 0)).run Tryz.prog w = .ok (.agg #[.bool a0, .int .u64 a1]) w := by kernel_rfl
theorem idx1 (a0 : Bool) (a1 : Int) (b0 : Bool) (b1 : Int) (w : World) : (Instr.index 284 (.agg #[.bool a0, .int .u64 a1, .bool b0, .int .u64 b1]) (.int .i64 1)).run Tryz.prog w = .ok (.agg #[.bool b0, .int .u64 b1]) w := by kernel_rfl
theorem hasLbd_calls (w : World) (v : Value) (o : Option (List Int)) (a : Int) (ha : 0 ≤ a) (hv : LatV w v o) :
    Calls Tryz.prog 304 #[v, .int .u64 a] w fun e w' => e = .returned (.bool (hasLat o a)) ∧ Below w.heap.size w w' := by
  refine (has_calls w v o a ha hv).mono ?_
  rintro e w' ⟨rfl, rfl⟩
  exact ⟨rfl, Below.refl _ _⟩
theorem mHasBdL (k : Nat) (v : Value) (w : World) : (method (k + 1) 54 v "Has").run Tryz.prog w = .ok (304, v) w := by kernel_rfl
theorem thereL_calls (w : World) (v : Value) : Calls Tryz.prog 196 #[.iface 54 v] w fun e w' => e = .returned (.iface 54 v) ∧ w = w' := by
  go_enter Tryz.func196, Tryz.ntmps196
  go_wp2
  go_ret
  exact ⟨rfl, rfl⟩
set_option maxRecDepth 100000 in
set_option maxHeartbeats 8000000 in
theorem bchkL_calls (w : World) (A : Option Addr) (c n : Nat) (l : List Bound) (vars : Int) (v : Value) (o : Option (List Int)) (hn : n = l.length) (hu : ∀ b ∈ l, 0 ≤ b.f0.f1 ∧ 0 ≤ b.f1.f1) (hr : kBound.C w A n l) (hv : LatV w v o) :
    Calls Tryz.prog 126 #[.iface 54 v, .int .i64 vars, .slice A n c] w fun e w' => e = .returned (.int .i64 (boundsB (hasLat o) vars l)) ∧ Below w.heap.size w w' := by
  have hmax : n ≤ 9223372036854775807 := hr.2.1
  have HR := Aside0.mk hr
  have HN := Aside0.mk hn
  have HU := Aside0.mk hu
  have HV := Aside0.mk hv
  obtain ⟨r, hr0⟩ : ∃ r, r = boundsB (hasLat o) vars l := ⟨_, rfl⟩
  rw [← hr0]
  have HRE : Aside0 (r = if vars < 0 ∨ 64 < vars ∨ 256 < n then 3 else if (l.all fun b => termOk (hasLat o) vars b.f0 && termOk (hasLat o) vars b.f1) = true then 0 else 1) := ⟨by rw [hr0, boundsB, hn]⟩
  clear hr hn hu hv hr0
  by_cases h1 : vars < 0
  · have z1 : decide (vars < 0) = true := decide_eq_true h1
    have HE : Aside0 (r = 3) := ⟨by rw [HRE.out, if_pos (.inl h1)]⟩
    clear HRE h1
    go_enter Tryz.func126, Tryz.ntmps126
    go_wp2_with (go_at_call 196; (with_reducible refine (thereL_calls _ _).mono ?_); rintro e W1 ⟨rfl, rfl⟩)
    go_ret
    rw [HE.out]
    exact ⟨rfl, Below.refl _ _⟩
  have z1 : decide (vars < 0) = false := decide_eq_false h1
  by_cases h2 : 64 < vars
  · have z2 : decide (64 < vars) = true := decide_eq_true h2
    have HE : Aside0 (r = 3) := ⟨by rw [HRE.out, if_pos (.inr (.inl h2))]⟩
    clear HRE h1 h2
    go_enter Tryz.func126, Tryz.ntmps126
    go_wp2_with (go_at_call 196; (with_reducible refine (thereL_calls _ _).mono ?_); rintro e W1 ⟨rfl, rfl⟩)
    go_ret
    rw [HE.out]
    exact ⟨rfl, Below.refl _ _⟩
  have z2 : decide (64 < vars) = false := decide_eq_false h2
  by_cases h3 : 256 < n
  · have z3 : decide (256 < (n : Int)) = true := decide_eq_true (by omega)
    have HE : Aside0 (r = 3) := ⟨by rw [HRE.out, if_pos (.inr (.inr h3))]⟩
    clear HRE h1 h2 h3
    go_enter Tryz.func126, Tryz.ntmps126
    go_wp2_with (go_at_call 196; (with_reducible refine (thereL_calls _ _).mono ?_); rintro e W1 ⟨rfl, rfl⟩)
    go_ret
    rw [HE.out]
    exact ⟨rfl, Below.refl _ _⟩
  have z3 : decide (256 < (n : Int)) = false := decide_eq_false (by omega)
  have HRE2 : Aside0 (r = if (l.all fun b => termOk (hasLat o) vars b.f0 && termOk (hasLat o) vars b.f1) = true then 0 else 1) := ⟨by rw [HRE.out, if_neg (by omega)]⟩
  obtain ⟨m, rfl⟩ := Int.eq_ofNat_of_zero_le (by omega : 0 ≤ vars)
  have hw : IntKind.u64.wrap (m : Int) = (m : Int) := wrap_u64 _ (by omega) (by omega)
  have mh := mHasBdL
  clear HRE h1 h2 h3
  have hbad : ∀ (t : Term) (k : Nat) (hk : k < l.length), termOk (hasLat o) (m : Int) t = false → (t = l[k].f0 ∨ t = l[k].f1) → Aside0 (r = 1) := fun t k hk h e => ⟨by
    rw [HRE2.out, if_neg]
    intro hall
    have := List.all_eq_true.1 hall l[k] (List.getElem_mem _)
    rw [Bool.and_eq_true] at this
    rcases e with e | e
    · rw [← e, h] at this
      cases this.1
    · rw [← e, h] at this
      cases this.2⟩
  have HBAD := Aside0.mk hbad
  clear hbad
  go_enter Tryz.func126, Tryz.ntmps126
  go_wp2_with (go_at_call 196; (with_reducible refine (thereL_calls _ _).mono ?_); rintro e W1 ⟨rfl, rfl⟩)
  go_loopg [26] (n + 1) (fun gk i W => ∃ k : Nat, i = .int .i64 (k : Int) ∧ k ≤ n ∧ n + 1 - k ≤ gk ∧ Aside0 (Below w.heap.size w W) ∧ Aside0 (∀ i (h : i < l.length), i < k → (termOk (hasLat o) (m : Int) l[i].f0 && termOk (hasLat o) (m : Int) l[i].f1) = true))
  case atStart => exact ⟨0, rfl, by omega, by omega, ⟨Below.refl _ _⟩, ⟨fun i h hi => by omega⟩⟩
  case round =>
    obtain ⟨k, rfl, hk, hkg, HB, HK⟩ := hrel
    rcases Nat.lt_or_ge k n with hlt | hge
    · have hd : decide (k < n) = true := decide_eq_true hlt
      have hkl : k < l.length := by rw [← HN.out]; exact hlt
      obtain ⟨ad, rfl, c0, c1, c2, c3⟩ := C_boundN (by rw [← HN.out]; exact Kd.C_below HR.out HB.out) k hkl
      obtain ⟨x, hx⟩ : ∃ x, x = l[k] := ⟨_, rfl⟩
      rw [← hx] at c0 c1 c2 c3
      have HX := Aside0.mk hx
      have HUx : Aside0 (0 ≤ x.f0.f1 ∧ 0 ≤ x.f1.f1) := ⟨by rw [hx]; exact HU.out _ (List.getElem_mem _)⟩
      have HBAD2 : Aside0 (∀ t : Term, termOk (hasLat o) (m : Int) t = false → (t = x.f0 ∨ t = x.f1) → Aside0 (r = 1)) := ⟨fun t h e => HBAD.out t k hkl h (by rw [← hx]; exact e)⟩
      clear hx
      obtain ⟨x0, x1⟩ := x
      obtain ⟨a0, a1⟩ := x0
      obtain ⟨b0, b1⟩ := x1
      simp only at c0 c1 c2 c3
      obtain ⟨g0, hg1, hg2⟩ : ∃ g0, g0 < gk ∧ n + 1 - (k + 1) ≤ g0 := ⟨gk - 1, by omega, by omega⟩
      obtain ⟨O, hO⟩ : ∃ O : Obj, O = .cells #[.bool a0, .int .u64 a1, .bool b0, .int .u64 b1] 156 := ⟨_, rfl⟩
      have HB0 := Aside0.mk (below_alloc HB.out O)
      subst hO
      clear HB
      go_wp2
      go_loopg [35] 3 (fun gk i W => ∃ j : Nat, i = .int .i64 (j : Int) ∧ j ≤ 2 ∧ 3 - j ≤ gk ∧ Aside0 (Below w.heap.size w W) ∧ Aside0 ((0 < j → termOk (hasLat o) (m : Int) ⟨a0, a1⟩ = true) ∧ (1 < j → termOk (hasLat o) (m : Int) ⟨b0, b1⟩ = true)))
      case atStart => exact ⟨0, rfl, by omega, by omega, HB0, ⟨fun h => by omega, fun h => by omega⟩⟩
      case round =>
        obtain ⟨j, rfl, hj, hjg, HB, HJ⟩ := hrel
        clear HB0 c0 c1 c2 c3
        rcases (by omega : j = 0 ∨ j = 1 ∨ j = 2) with rfl | rfl | rfl
        · have ix := idx0 a0 a1 b0 b1
          cases a0 with
          | true =>
            cases hto : decide (a1 < (m : Int)) with
            | false =>
              have hge2 : decide ((m : Int) ≤ a1) = true := decide_eq_true (by have := of_decide_eq_false hto; omega)
              have HE := HBAD2.out ⟨true, a1⟩ (show termOk _ _ _ = false from hto) (.inl rfl)
              have HBb := Aside0.mk (below_alloc HB.out (.cells #[.bool true, .int .u64 a1] 121))
              clear hto
              go_wp2
              go_ret
              rw [HE.out]
              exact ⟨rfl, HBb.out⟩
            | true =>
              have hge2 : decide ((m : Int) ≤ a1) = false := decide_eq_false (by have := of_decide_eq_true hto; omega)
              have HT : Aside0 (termOk (hasLat o) (m : Int) ⟨true, a1⟩ = true) := ⟨hto⟩
              have HBb := Aside0.mk (below_alloc HB.out (.cells #[.bool true, .int .u64 a1] 121))
              clear hto
              go_wp2
              go_roundg (gk - 1)
              case measure => omega
              case rel => exact ⟨1, by go_num, by omega, by omega, HBb, ⟨fun _ => HT.out, fun h => by omega⟩⟩
          | false =>
            have HU1 : Aside0 (0 ≤ a1) := ⟨HUx.out.1⟩
            have HBa := Aside0.mk (below_alloc HB.out (.cells #[.bool false, .int .u64 a1] 121))
            cases hh : hasLat o a1 with
            | false =>
              have HE := HBAD2.out ⟨false, a1⟩ (show termOk _ _ _ = false from hh) (.inl rfl)
              have HH := Aside0.mk hh
              clear hh
              go_wp2_with (go_at_call 304; (with_reducible refine (hasLbd_calls _ _ o _ HU1.out (HV.out.kept HBa.out)).mono ?_); rintro e W1 ⟨rfl, hb1⟩; rw [HH.out]; have HB1 := Aside0.mk (below_step HBa.out hb1); clear hb1)
              go_ret
              rw [HE.out]
              exact ⟨rfl, HB1.out⟩
            | true =>
              have HT : Aside0 (termOk (hasLat o) (m : Int) ⟨false, a1⟩ = true) := ⟨hh⟩
              have HH := Aside0.mk hh
              clear hh
              go_wp2_with (go_at_call 304; (with_reducible refine (hasLbd_calls _ _ o _ HU1.out (HV.out.kept HBa.out)).mono ?_); rintro e W1 ⟨rfl, hb1⟩; rw [HH.out]; have HB1 := Aside0.mk (below_step HBa.out hb1); clear hb1)
              go_roundg (gk - 1)
              case measure => omega
              case rel => exact ⟨1, by go_num, by omega, by omega, HB1, ⟨fun _ => HT.out, fun h => by omega⟩⟩
        · have ix := idx1 a0 a1 b0 b1
          cases b0 with
          | true =>
            cases hto : decide (b1 < (m : Int)) with
            | false =>
              have hge2 : decide ((m : Int) ≤ b1) = true := decide_eq_true (by have := of_decide_eq_false hto; omega)
              have HE := HBAD2.out ⟨true, b1⟩ (show termOk _ _ _ = false from hto) (.inr rfl)
              have HBb := Aside0.mk (below_alloc HB.out (.cells #[.bool true, .int .u64 b1] 121))
              clear hto
              go_wp2
              go_ret
              rw [HE.out]
              exact ⟨rfl, HBb.out⟩
            | true =>
              have hge2 : decide ((m : Int) ≤ b1) = false := decide_eq_false (by have := of_decide_eq_true hto; omega)
              have HT : Aside0 (termOk (hasLat o) (m : Int) ⟨true, b1⟩ = true) := ⟨hto⟩
              have HBb := Aside0.mk (below_alloc HB.out (.cells #[.bool true, .int .u64 b1] 121))
              clear hto
              go_wp2
              go_roundg (gk - 1)
              case measure => omega
              case rel => exact ⟨2, by go_num, by omega, by omega, HBb, ⟨fun _ => HJ.out.1 (by omega), fun _ => HT.out⟩⟩
          | false =>
            have HU1 : Aside0 (0 ≤ b1) := ⟨HUx.out.2⟩
            have HBa := Aside0.mk (below_alloc HB.out (.cells #[.bool false, .int .u64 b1] 121))
            cases hh : hasLat o b1 with
            | false =>
              have HE := HBAD2.out ⟨false, b1⟩ (show termOk _ _ _ = false from hh) (.inr rfl)
              have HH := Aside0.mk hh
              clear hh
              go_wp2_with (go_at_call 304; (with_reducible refine (hasLbd_calls _ _ o _ HU1.out (HV.out.kept HBa.out)).mono ?_); rintro e W1 ⟨rfl, hb1⟩; rw [HH.out]; have HB1 := Aside0.mk (below_step HBa.out hb1); clear hb1)
              go_ret
              rw [HE.out]
              exact ⟨rfl, HB1.out⟩
            | true =>
              have HT : Aside0 (termOk (hasLat o) (m : Int) ⟨false, b1⟩ = true) := ⟨hh⟩
              have HH := Aside0.mk hh
              clear hh
              go_wp2_with (go_at_call 304; (with_reducible refine (hasLbd_calls _ _ o _ HU1.out (HV.out.kept HBa.out)).mono ?_); rintro e W1 ⟨rfl, hb1⟩; rw [HH.out]; have HB1 := Aside0.mk (below_step HBa.out hb1); clear hb1)
              go_roundg (gk - 1)
              case measure => omega
              case rel => exact ⟨2, by go_num, by omega, by omega, HB1, ⟨fun _ => HJ.out.1 (by omega), fun _ => HT.out⟩⟩
        · have HK2 : Aside0 (∀ i (h : i < l.length), i < k + 1 → (termOk (hasLat o) (m : Int) l[i].f0 && termOk (hasLat o) (m : Int) l[i].f1) = true) := ⟨by
            intro i h hi
            rcases Nat.lt_or_ge i k with q | q
            · exact HK.out i h q
            · obtain rfl : i = k := by omega
              rw [← HX.out, Bool.and_eq_true]
              exact ⟨HJ.out.1 (by omega), HJ.out.2 (by omega)⟩⟩
          go_wp2
          go_roundg g0
          case measure => omega
          case rel => exact ⟨k + 1, by go_num, by omega, by omega, HB, HK2⟩
    · have hd : decide (k < n) = false := decide_eq_false (by omega)
      obtain rfl : k = n := by omega
      have HE : Aside0 (r = 0) := ⟨by
        rw [HRE2.out, if_pos]
        rw [List.all_eq_true]
        intro b hb
        obtain ⟨i, hi, rfl⟩ := List.getElem_of_mem hb
        exact HK.out i hi (by rw [HN.out]; exact hi)⟩
      go_wp2
      go_ret
      rw [HE.out]
      exact ⟨rfl, HB.out⟩
theorem mHasBdE (k : Nat) (v : Value) (w : World) : (method (k + 1) 55 v "Has").run Tryz.prog w = .ok (308, v) w := by kernel_rfl
theorem thereE_calls (w : World) (v : Value) : Calls Tryz.prog 196 #[.iface 55 v] w fun e w' => e = .returned (.iface 55 v) ∧ w = w' := by
  go_enter Tryz.func196, Tryz.ntmps196
  go_wp2
  go_ret
  exact ⟨rfl, rfl⟩
set_option maxRecDepth 100000 in
set_option maxHeartbeats 8000000 in
theorem bchkE_calls (w : World) (A : Option Addr) (c n : Nat) (l : List Bound) (vars : Int) (v : Value) (o : Option Int) (hn : n = l.length) (hu : ∀ b ∈ l, 0 ≤ b.f0.f1 ∧ 0 ≤ b.f1.f1) (hr : kBound.C w A n l) (hv : EffV w v o) :
    Calls Tryz.prog 126 #[.iface 55 v, .int .i64 vars, .slice A n c] w fun e w' => e = .returned (.int .i64 (boundsB (hasEff o) vars l)) ∧ Below w.heap.size w w' := by
  have hmax : n ≤ 9223372036854775807 := hr.2.1
  have HR := Aside0.mk hr
  have HN := Aside0.mk hn
  have HU := Aside0.mk hu
  have HV := Aside0.mk hv
  obtain ⟨r, hr0⟩ : ∃ r, r = boundsB (hasEff o) vars l := ⟨_, rfl⟩
  rw [← hr0]
  have HRE : Aside0 (r = if vars < 0 ∨ 64 < vars ∨ 256 < n then 3 else if (l.all fun b => termOk (hasEff o) vars b.f0 && termOk (hasEff o) vars b.f1) = true then 0 else 1) := ⟨by rw [hr0, boundsB, hn]⟩
  clear hr hn hu hv hr0
  by_cases h1 : vars < 0
  · have z1 : decide (vars < 0) = true := decide_eq_true h1
    have HE : Aside0 (r = 3) := ⟨by rw [HRE.out, if_pos (.inl h1)]⟩
    clear HRE h1
    go_enter Tryz.func126, Tryz.ntmps126
    go_wp2_with (go_at_call 196; (with_reducible refine (thereE_calls _ _).mono ?_); rintro e W1 ⟨rfl, rfl⟩)
    go_ret
    rw [HE.out]
    exact ⟨rfl, Below.refl _ _⟩
  have z1 : decide (vars < 0) = false := decide_eq_false h1
  by_cases h2 : 64 < vars
  · have z2 : decide (64 < vars) = true := decide_eq_true h2
    have HE : Aside0 (r = 3) := ⟨by rw [HRE.out, if_pos (.inr (.inl h2))]⟩
    clear HRE h1 h2
    go_enter Tryz.func126, Tryz.ntmps126
    go_wp2_with (go_at_call 196; (with_reducible refine (thereE_calls _ _).mono ?_); rintro e W1 ⟨rfl, rfl⟩)
    go_ret
    rw [HE.out]
    exact ⟨rfl, Below.refl _ _⟩
  have z2 : decide (64 < vars) = false := decide_eq_false h2
  by_cases h3 : 256 < n
  · have z3 : decide (256 < (n : Int)) = true := decide_eq_true (by omega)
    have HE : Aside0 (r = 3) := ⟨by rw [HRE.out, if_pos (.inr (.inr h3))]⟩
    clear HRE h1 h2 h3
    go_enter Tryz.func126, Tryz.ntmps126
    go_wp2_with (go_at_call 196; (with_reducible refine (thereE_calls _ _).mono ?_); rintro e W1 ⟨rfl, rfl⟩)
    go_ret
    rw [HE.out]
    exact ⟨rfl, Below.refl _ _⟩
  have z3 : decide (256 < (n : Int)) = false := decide_eq_false (by omega)
  have HRE2 : Aside0 (r = if (l.all fun b => termOk (hasEff o) vars b.f0 && termOk (hasEff o) vars b.f1) = true then 0 else 1) := ⟨by rw [HRE.out, if_neg (by omega)]⟩
  obtain ⟨m, rfl⟩ := Int.eq_ofNat_of_zero_le (by omega : 0 ≤ vars)
  have hw : IntKind.u64.wrap (m : Int) = (m : Int) := wrap_u64 _ (by omega) (by omega)
  have mh := mHasBdE
  clear HRE h1 h2 h3
  have hbad : ∀ (t : Term) (k : Nat) (hk : k < l.length), termOk (hasEff o) (m : Int) t = false → (t = l[k].f0 ∨ t = l[k].f1) → Aside0 (r = 1) := fun t k hk h e => ⟨by
    rw [HRE2.out, if_neg]
    intro hall
    have := List.all_eq_true.1 hall l[k] (List.getElem_mem _)
    rw [Bool.and_eq_true] at this
    rcases e with e | e
    · rw [← e, h] at this
      cases this.1
    · rw [← e, h] at this
      cases this.2⟩
  have HBAD := Aside0.mk hbad
  clear hbad
  go_enter Tryz.func126, Tryz.ntmps126
  go_wp2_with (go_at_call 196; (with_reducible refine (thereE_calls _ _).mono ?_); rintro e W1 ⟨rfl, rfl⟩)
  go_loopg [26] (n + 1) (fun gk i W => ∃ k : Nat, i = .int .i64 (k : Int) ∧ k ≤ n ∧ n + 1 - k ≤ gk ∧ Aside0 (Below w.heap.size w W) ∧ Aside0 (∀ i (h : i < l.length), i < k → (termOk (hasEff o) (m : Int) l[i].f0 && termOk (hasEff o) (m : Int) l[i].f1) = true))
  case atStart => exact ⟨0, rfl, by omega, by omega, ⟨Below.refl _ _⟩, ⟨fun i h hi => by omega⟩⟩
  case round =>
    obtain ⟨k, rfl, hk, hkg, HB, HK⟩ := hrel
    rcases Nat.lt_or_ge k n with hlt | hge
    · have hd : decide (k < n) = true := decide_eq_true hlt
      have hkl : k < l.length := by rw [← HN.out]; exact hlt
      obtain ⟨ad, rfl, c0, c1, c2, c3⟩ := C_boundN (by rw [← HN.out]; exact Kd.C_below HR.out HB.out) k hkl
      obtain ⟨x, hx⟩ : ∃ x, x = l[k] := ⟨_, rfl⟩
      rw [← hx] at c0 c1 c2 c3
      have HX := Aside0.mk hx
      have HUx : Aside0 (0 ≤ x.f0.f1 ∧ 0 ≤ x.f1.f1) := ⟨by rw [hx]; exact HU.out _ (List.getElem_mem _)⟩
      have HBAD2 : Aside0 (∀ t : Term, termOk (hasEff o) (m : Int) t = false → (t = x.f0 ∨ t = x.f1) → Aside0 (r = 1)) := ⟨fun t h e => HBAD.out t k hkl h (by rw [← hx]; exact e)⟩
      clear hx
      obtain ⟨x0, x1⟩ := x
      obtain ⟨a0, a1⟩ := x0
      obtain ⟨b0, b1⟩ := x1
      simp only at c0 c1 c2 c3
      obtain ⟨g0, hg1, hg2⟩ : ∃ g0, g0 < gk ∧ n + 1 - (k + 1) ≤ g0 := ⟨gk - 1, by omega, by omega⟩
      obtain ⟨O, hO⟩ : ∃ O : Obj, O = .cells #[.bool a0, .int .u64 a1, .bool b0, .int .u64 b1] 156 := ⟨_, rfl⟩
      have HB0 := Aside0.mk (below_alloc HB.out O)
      subst hO
      clear HB
      go_wp2
      go_loopg [35] 3 (fun gk i W => ∃ j : Nat, i = .int .i64 (j : Int) ∧ j ≤ 2 ∧ 3 - j ≤ gk ∧ Aside0 (Below w.heap.size w W) ∧ Aside0 ((0 < j → termOk (hasEff o) (m : Int) ⟨a0, a1⟩ = true) ∧ (1 < j → termOk (hasEff o) (m : Int) ⟨b0, b1⟩ = true)))
      case atStart => exact ⟨0, rfl, by omega, by omega, HB0, ⟨fun h => by omega, fun h => by omega⟩⟩
      case round =>
        obtain ⟨j, rfl, hj, hjg, HB, HJ⟩ := hrel
        clear HB0 c0 c1 c2 c3
        rcases (by omega : j = 0 ∨ j = 1 ∨ j = 2) with rfl | rfl | rfl
        · have ix := idx0 a0 a1 b0 b1
          cases a0 with
          | true =>
            cases hto : decide (a1 < (m : Int)) with
            | false =>
              have hge2 : decide ((m : Int) ≤ a1) = true := decide_eq_true (by have := of_decide_eq_false hto; omega)
              have HE := HBAD2.out ⟨true, a1⟩ (show termOk _ _ _ = false from hto) (.inl rfl)
              have HBb := Aside0.mk (below_alloc HB.out (.cells #[.bool true, .int .u64 a1] 121))
              clear hto
              go_wp2
              go_ret
              rw [HE.out]
              exact ⟨rfl, HBb.out⟩
            | true =>
              have hge2 : decide ((m : Int) ≤ a1) = false := decide_eq_false (by have := of_decide_eq_true hto; omega)
              have HT : Aside0 (termOk (hasEff o) (m : Int) ⟨true, a1⟩ = true) := ⟨hto⟩
              have HBb := Aside0.mk (below_alloc HB.out (.cells #[.bool true, .int .u64 a1] 121))
              clear hto
              go_wp2
              go_roundg (gk - 1)
              case measure => omega
              case rel => exact ⟨1, by go_num, by omega, by omega, HBb, ⟨fun _ => HT.out, fun h => by omega⟩⟩
          | false =>
            have HU1 : Aside0 (0 ≤ a1) := ⟨HUx.out.1⟩
            have HBa := Aside0.mk (below_alloc HB.out (.cells #[.bool false, .int .u64 a1] 121))
            cases hh : hasEff o a1 with
            | false =>
              have HE := HBAD2.out ⟨false, a1⟩ (show termOk _ _ _ = false from hh) (.inl rfl)
              have HH := Aside0.mk hh
              clear hh
              go_wp2_with (go_at_call 308; (with_reducible refine (hasE_calls _ _ o _ (HV.out.kept HBa.out)).mono ?_); rintro e W1 ⟨rfl, hb1⟩; rw [HH.out]; have HB1 := Aside0.mk (below_step HBa.out hb1); clear hb1)
              go_ret
              rw [HE.out]
              exact ⟨rfl, HB1.out⟩
            | true =>
              have HT : Aside0 (termOk (hasEff o) (m : Int) ⟨false, a1⟩ = true) := ⟨hh⟩
              have HH := Aside0.mk hh
              clear hh
              go_wp2_with (go_at_call 308; (with_reducible refine (hasE_calls _ _ o _ (HV.out.kept HBa.out)).mono ?_); rintro e W1 ⟨rfl, hb1⟩; rw [HH.out]; have HB1 := Aside0.mk (below_step HBa.out hb1); clear hb1)
              go_roundg (gk - 1)
              case measure => omega
              case rel => exact ⟨1, by go_num, by omega, by omega, HB1, ⟨fun _ => HT.out, fun h => by omega⟩⟩
        · have ix := idx1 a0 a1 b0 b1
          cases b0 with
          | true =>
            cases hto : decide (b1 < (m : Int)) with
            | false =>
              have hge2 : decide ((m : Int) ≤ b1) = true := decide_eq_true (by have := of_decide_eq_false hto; omega)
              have HE := HBAD2.out ⟨true, b1⟩ (show termOk _ _ _ = false from hto) (.inr rfl)
              have HBb := Aside0.mk (below_alloc HB.out (.cells #[.bool true, .int .u64 b1] 121))
              clear hto
              go_wp2
              go_ret
              rw [HE.out]
              exact ⟨rfl, HBb.out⟩
            | true =>
              have hge2 : decide ((m : Int) ≤ b1) = false := decide_eq_false (by have := of_decide_eq_true hto; omega)
              have HT : Aside0 (termOk (hasEff o) (m : Int) ⟨true, b1⟩ = true) := ⟨hto⟩
              have HBb := Aside0.mk (below_alloc HB.out (.cells #[.bool true, .int .u64 b1] 121))
              clear hto
              go_wp2
              go_roundg (gk - 1)
              case measure => omega
              case rel => exact ⟨2, by go_num, by omega, by omega, HBb, ⟨fun _ => HJ.out.1 (by omega), fun _ => HT.out⟩⟩
          | false =>
            have HU1 : Aside0 (0 ≤ b1) := ⟨HUx.out.2⟩
            have HBa := Aside0.mk (below_alloc HB.out (.cells #[.bool false, .int .u64 b1] 121))
            cases hh : hasEff o b1 with
            | false =>
              have HE := HBAD2.out ⟨false, b1⟩ (show termOk _ _ _ = false from hh) (.inr rfl)
              have HH := Aside0.mk hh
              clear hh
              go_wp2_with (go_at_call 308; (with_reducible refine (hasE_calls _ _ o _ (HV.out.kept HBa.out)).mono ?_); rintro e W1 ⟨rfl, hb1⟩; rw [HH.out]; have HB1 := Aside0.mk (below_step HBa.out hb1); clear hb1)
              go_ret
              rw [HE.out]
              exact ⟨rfl, HB1.out⟩
            | true =>
              have HT : Aside0 (termOk (hasEff o) (m : Int) ⟨false, b1⟩ = true) := ⟨hh⟩
              have HH := Aside0.mk hh
              clear hh
              go_wp2_with (go_at_call 308; (with_reducible refine (hasE_calls _ _ o _ (HV.out.kept HBa.out)).mono ?_); rintro e W1 ⟨rfl, hb1⟩; rw [HH.out]; have HB1 := Aside0.mk (below_step HBa.out hb1); clear hb1)
              go_roundg (gk - 1)
              case measure => omega
              case rel => exact ⟨2, by go_num, by omega, by omega, HB1, ⟨fun _ => HJ.out.1 (by omega), fun _ => HT.out⟩⟩
        · have HK2 : Aside0 (∀ i (h : i < l.length), i < k + 1 → (termOk (hasEff o) (m : Int) l[i].f0 && termOk (hasEff o) (m : Int) l[i].f1) = true) := ⟨by
            intro i h hi
            rcases Nat.lt_or_ge i k with q | q
            · exact HK.out i h q
            · obtain rfl : i = k := by omega
              rw [← HX.out, Bool.and_eq_true]
              exact ⟨HJ.out.1 (by omega), HJ.out.2 (by omega)⟩⟩
          go_wp2
          go_roundg g0
          case measure => omega
          case rel => exact ⟨k + 1, by go_num, by omega, by omega, HB, HK2⟩
    · have hd : decide (k < n) = false := decide_eq_false (by omega)
      obtain rfl : k = n := by omega
      have HE : Aside0 (r = 0) := ⟨by
        rw [HRE2.out, if_pos]
        rw [List.all_eq_true]
        intro b hb
        obtain ⟨i, hi, rfl⟩ := List.getElem_of_mem hb
        exact HK.out i hi (by rw [HN.out]; exact hi)⟩
      go_wp2
      go_ret
      rw [HE.out]
      exact ⟨rfl, HB.out⟩
end Go.Proofs.YtjndjmggilcngaaGreatDoor
