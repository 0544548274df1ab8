
/- Several texts as one: Bd, Ev, Sc, Tm, Sg, ScT, Hd. -/
import Derived.Test.YtdecijmncpbheaaGreatDoorMC
import Derived.Test.YtdecijmncpbheaaGreatDoorME
import Derived.Test.YtdecijmncpbheaaGreatDoorMD

namespace Go.Proofs.YtdecijmncpbheaaGreatDoor
open Go.RowKit Go.Proofs.YtdecijmncpbheaaGreatDoorW.PrintWords Go.Proofs.YtdecijmncpbheaaGreatDoorW.PrintLast Go.Proofs.YtdecijmncpbheaaGreatDoorW.PrintMore
set_option linter.unusedVariables false
set_option linter.unusedSimpArgs false
/-- May a term be, of so many variables, of a sort? -/
def termOk (has : Int → Bool) (vars : Int) (t : Term) : Bool := if t.f0 then decide (t.f1 < vars) else has t.f1
def boundsB (has : Int → Bool) (vars : Int) (l : List Bound) : Int :=
  if vars < 0 ∨ 64 < vars ∨ 256 < l.length then 3 else if (l.all fun b => termOk has vars b.f0 && termOk has vars b.f1) = true then 0 else 1
theorem C_boundN {w : World} {A : Option Addr} {xs : List Bound} (h : Kd.C kBound w A xs.length xs) (j : Nat) (hj : j < xs.length) : ∃ ad, A = some ad ∧
    w.cell? (ad.add (j * 4)) = some (.bool xs[j].f0.f0) ∧ w.cell? ⟨(ad.add (j * 4)).block, (ad.add (j * 4)).off + 1, none⟩ = some (.int .u64 xs[j].f0.f1) ∧
    w.cell? ⟨(ad.add (j * 4)).block, (ad.add (j * 4)).off + 2, none⟩ = some (.bool xs[j].f1.f0) ∧ w.cell? ⟨(ad.add (j * 4)).block, (ad.add (j * 4)).off + 3, none⟩ = some (.int .u64 xs[j].f1.f1) := by
  obtain ⟨ad, e, hc⟩ := at_T104 h (j : Int) (by omega) (by omega)
  refine ⟨ad, e, ?_⟩
  have e2 : rd_T104 xs (j : Int) = xs[j] := by
    rw [rd_T104, Int.toNat_natCast, List.getD_eq_getElem?_getD, List.getElem?_eq_getElem hj]
    rfl
  rw [e2, Int.toNat_natCast] at hc
  exact hc
theorem idx0 (a0 : Bool) (a1 : Int) (b0 : Bool) (b1 : Int) (w : World) : (Instr.index 146 (.agg #[.bool a0, .int .u64 a1, .bool b0, .int .u64 b1]) (.int .i64 0)).run Tryz.prog w = .ok (.agg #[.bool a0, .int .u64 a1]) w := by kernel_rfl
theorem idx1 (a0 : Bool) (a1 : Int) (b0 : Bool) (b1 : Int) (w : World) : (Instr.index 146 (.agg #[.bool a0, .int .u64 a1, .bool b0, .int .u64 b1]) (.int .i64 1)).run Tryz.prog w = .ok (.agg #[.bool b0, .int .u64 b1]) w := by kernel_rfl
theorem hasLbd_calls (w : World) (v : Value) (o : Option (List Int)) (a : Int) (ha : 0 ≤ a) (hv : LatV w v o) :
    Calls Tryz.prog 301 #[v, .int .u64 a] w fun e w' => e = .returned (.bool (hasLat o a)) ∧ Below w.heap.size w w' := by
  refine (has_calls w v o a ha hv).mono ?_
  rintro e w' ⟨rfl, rfl⟩
  exact ⟨rfl, Below.refl _ _⟩
theorem mHasBdL (k : Nat) (v : Value) (w : World) : (method (k + 1) 83 v "Has").run Tryz.prog w = .ok (301, v) w := by kernel_rfl
theorem thereL_calls (w : World) (v : Value) : Calls Tryz.prog 105 #[.iface 83 v] w fun e w' => e = .returned (.iface 83 v) ∧ w = w' := by
  go_enter Tryz.func105, Tryz.ntmps105
  go_wp2
  go_ret
  exact ⟨rfl, rfl⟩
set_option maxRecDepth 100000 in
set_option maxHeartbeats 8000000 in
theorem bchkL_calls (w : World) (A : Option Addr) (c n : Nat) (l : List Bound) (vars : Int) (v : Value) (o : Option (List Int)) (hn : n = l.length) (hu : ∀ b ∈ l, 0 ≤ b.f0.f1 ∧ 0 ≤ b.f1.f1) (hr : kBound.C w A n l) (hv : LatV w v o) :
    Calls Tryz.prog 31 #[.iface 83 v, .int .i64 vars, .slice A n c] w fun e w' => e = .returned (.int .i64 (boundsB (hasLat o) vars l)) ∧ Below w.heap.size w w' := by
  have hmax : n ≤ 9223372036854775807 := hr.2.1
  have HR := Aside0.mk hr
  have HN := Aside0.mk hn
  have HU := Aside0.mk hu
  have HV := Aside0.mk hv
  obtain ⟨r, hr0⟩ : ∃ r, r = boundsB (hasLat o) vars l := ⟨_, rfl⟩
  rw [← hr0]
  have HRE : Aside0 (r = if vars < 0 ∨ 64 < vars ∨ 256 < n then 3 else if (l.all fun b => termOk (hasLat o) vars b.f0 && termOk (hasLat o) vars b.f1) = true then 0 else 1) := ⟨by rw [hr0, boundsB, hn]⟩
  clear hr hn hu hv hr0
  by_cases h1 : vars < 0
  · have z1 : decide (vars < 0) = true := decide_eq_true h1
    have HE : Aside0 (r = 3) := ⟨by rw [HRE.out, if_pos (.inl h1)]⟩
    clear HRE h1
    go_enter Tryz.func31, Tryz.ntmps31
    go_wp2_with (go_at_call 105; (with_reducible refine (thereL_calls _ _).mono ?_); rintro e W1 ⟨rfl, rfl⟩)
    go_ret
    rw [HE.out]
    exact ⟨rfl, Below.refl _ _⟩
  have z1 : decide (vars < 0) = false := decide_eq_false h1
  by_cases h2 : 64 < vars
  · have z2 : decide (64 < vars) = true := decide_eq_true h2
    have HE : Aside0 (r = 3) := ⟨by rw [HRE.out, if_pos (.inr (.inl h2))]⟩
    clear HRE h1 h2
    go_enter Tryz.func31, Tryz.ntmps31
    go_wp2_with (go_at_call 105; (with_reducible refine (thereL_calls _ _).mono ?_); rintro e W1 ⟨rfl, rfl⟩)
    go_ret
    rw [HE.out]
    exact ⟨rfl, Below.refl _ _⟩
  have z2 : decide (64 < vars) = false := decide_eq_false h2
  by_cases h3 : 256 < n
  · have z3 : decide (256 < (n : Int)) = true := decide_eq_true (by omega)
    have HE : Aside0 (r = 3) := ⟨by rw [HRE.out, if_pos (.inr (.inr h3))]⟩
    clear HRE h1 h2 h3
    go_enter Tryz.func31, Tryz.ntmps31
    go_wp2_with (go_at_call 105; (with_reducible refine (thereL_calls _ _).mono ?_); rintro e W1 ⟨rfl, rfl⟩)
    go_ret
    rw [HE.out]
    exact ⟨rfl, Below.refl _ _⟩
  have z3 : decide (256 < (n : Int)) = false := decide_eq_false (by omega)
  have HRE2 : Aside0 (r = if (l.all fun b => termOk (hasLat o) vars b.f0 && termOk (hasLat o) vars b.f1) = true then 0 else 1) := ⟨by rw [HRE.out, if_neg (by omega)]⟩
  obtain ⟨m, rfl⟩ := Int.eq_ofNat_of_zero_le (by omega : 0 ≤ vars)
  have hw : IntKind.u64.wrap (m : Int) = (m : Int) := wrap_u64 _ (by omega) (by omega)
  have mh := mHasBdL
  clear HRE h1 h2 h3
  have hbad : ∀ (t : Term) (k : Nat) (hk : k < l.length), termOk (hasLat o) (m : Int) t = false → (t = l[k].f0 ∨ t = l[k].f1) → Aside0 (r = 1) := fun t k hk h e => ⟨by
    rw [HRE2.out, if_neg]
    intro hall
    have := List.all_eq_true.1 hall l[k] (List.getElem_mem _)
    rw [Bool.and_eq_true] at this
    rcases e with e | e
    · rw [← e, h] at this
      cases this.1
    · rw [← e, h] at this
      cases this.2⟩
  have HBAD := Aside0.mk hbad
  clear hbad
  go_enter Tryz.func31, Tryz.ntmps31
  go_wp2_with (go_at_call 105; (with_reducible refine (thereL_calls _ _).mono ?_); rintro e W1 ⟨rfl, rfl⟩)
  go_loopg [26] (n + 1) (fun gk i W => ∃ k : Nat, i = .int .i64 (k : Int) ∧ k ≤ n ∧ n + 1 - k ≤ gk ∧ Aside0 (Below w.heap.size w W) ∧ Aside0 (∀ i (h : i < l.length), i < k → (termOk (hasLat o) (m : Int) l[i].f0 && termOk (hasLat o) (m : Int) l[i].f1) = true))
  case atStart => exact ⟨0, rfl, by omega, by omega, ⟨Below.refl _ _⟩, ⟨fun i h hi => by omega⟩⟩
  case round =>
    obtain ⟨k, rfl, hk, hkg, HB, HK⟩ := hrel
    rcases Nat.lt_or_ge k n with hlt | hge
    · have hd : decide (k < n) = true := decide_eq_true hlt
      have hkl : k < l.length := by rw [← HN.out]; exact hlt
      obtain ⟨ad, rfl, c0, c1, c2, c3⟩ := C_boundN (by rw [← HN.out]; exact Kd.C_below HR.out HB.out) k hkl
      obtain ⟨x, hx⟩ : ∃ x, x = l[k] := ⟨_, rfl⟩
      rw [← hx] at c0 c1 c2 c3
      have HX := Aside0.mk hx
      have HUx : Aside0 (0 ≤ x.f0.f1 ∧ 0 ≤ x.f1.f1) := ⟨by rw [hx]; exact HU.out _ (List.getElem_mem _)⟩
      have HBAD2 : Aside0 (∀ t : Term, termOk (hasLat o) (m : Int) t = false → (t = x.f0 ∨ t = x.f1) → Aside0 (r = 1)) := ⟨fun t h e => HBAD.out t k hkl h (by rw [← hx]; exact e)⟩
      clear hx
      obtain ⟨x0, x1⟩ := x
      obtain ⟨a0, a1⟩ := x0
      obtain ⟨b0, b1⟩ := x1
      simp only at c0 c1 c2 c3
      obtain ⟨g0, hg1, hg2⟩ : ∃ g0, g0 < gk ∧ n + 1 - (k + 1) ≤ g0 := ⟨gk - 1, by omega, by omega⟩
      obtain ⟨O, hO⟩ : ∃ O : Obj, O = .cells #[.bool a0, .int .u64 a1, .bool b0, .int .u64 b1] 104 := ⟨_, rfl⟩
      have HB0 := Aside0.mk (below_alloc HB.out O)
      subst hO
      clear HB
      go_wp2
      go_loopg [35] 3 (fun gk i W => ∃ j : Nat, i = .int .i64 (j : Int) ∧ j ≤ 2 ∧ 3 - j ≤ gk ∧ Aside0 (Below w.heap.size w W) ∧ Aside0 ((0 < j → termOk (hasLat o) (m : Int) ⟨a0, a1⟩ = true) ∧ (1 < j → termOk (hasLat o) (m : Int) ⟨b0, b1⟩ = true)))
      case atStart => exact ⟨0, rfl, by omega, by omega, HB0, ⟨fun h => by omega, fun h => by omega⟩⟩
      case round =>
        obtain ⟨j, rfl, hj, hjg, HB, HJ⟩ := hrel
        clear HB0 c0 c1 c2 c3
        rcases (by omega : j = 0 ∨ j = 1 ∨ j = 2) with rfl | rfl | rfl
        · have ix := idx0 a0 a1 b0 b1
          cases a0 with
          | true =>
            cases hto : decide (a1 < (m : Int)) with
            | false =>
              have hge2 : decide ((m : Int) ≤ a1) = true := decide_eq_true (by have := of_decide_eq_false hto; omega)
              have HE := HBAD2.out ⟨true, a1⟩ (show termOk _ _ _ = false from hto) (.inl rfl)
              have HBb := Aside0.mk (below_alloc HB.out (.cells #[.bool true, .int .u64 a1] 100))
              clear hto
              go_wp2
              go_ret
              rw [HE.out]
              exact ⟨rfl, HBb.out⟩
            | true =>
              have hge2 : decide ((m : Int) ≤ a1) = false := decide_eq_false (by have := of_decide_eq_true hto; omega)
              have HT : Aside0 (termOk (hasLat o) (m : Int) ⟨true, a1⟩ = true) := ⟨hto⟩
              have HBb := Aside0.mk (below_alloc HB.out (.cells #[.bool true, .int .u64 a1] 100))
              clear hto
              go_wp2
              go_roundg (gk - 1)
              case measure => omega
              case rel => exact ⟨1, by go_num, by omega, by omega, HBb, ⟨fun _ => HT.out, fun h => by omega⟩⟩
          | false =>
            have HU1 : Aside0 (0 ≤ a1) := ⟨HUx.out.1⟩
            have HBa := Aside0.mk (below_alloc HB.out (.cells #[.bool false, .int .u64 a1] 100))
            cases hh : hasLat o a1 with
            | false =>
              have HE := HBAD2.out ⟨false, a1⟩ (show termOk _ _ _ = false from hh) (.inl rfl)
              have HH := Aside0.mk hh
              clear hh
              go_wp2_with (go_at_call 301; (with_reducible refine (hasLbd_calls _ _ o _ HU1.out (HV.out.kept HBa.out)).mono ?_); rintro e W1 ⟨rfl, hb1⟩; rw [HH.out]; have HB1 := Aside0.mk (below_step HBa.out hb1); clear hb1)
              go_ret
              rw [HE.out]
              exact ⟨rfl, HB1.out⟩
            | true =>
              have HT : Aside0 (termOk (hasLat o) (m : Int) ⟨false, a1⟩ = true) := ⟨hh⟩
              have HH := Aside0.mk hh
              clear hh
              go_wp2_with (go_at_call 301; (with_reducible refine (hasLbd_calls _ _ o _ HU1.out (HV.out.kept HBa.out)).mono ?_); rintro e W1 ⟨rfl, hb1⟩; rw [HH.out]; have HB1 := Aside0.mk (below_step HBa.out hb1); clear hb1)
              go_roundg (gk - 1)
              case measure => omega
              case rel => exact ⟨1, by go_num, by omega, by omega, HB1, ⟨fun _ => HT.out, fun h => by omega⟩⟩
        · have ix := idx1 a0 a1 b0 b1
          cases b0 with
          | true =>
            cases hto : decide (b1 < (m : Int)) with
            | false =>
              have hge2 : decide ((m : Int) ≤ b1) = true := decide_eq_true (by have := of_decide_eq_false hto; omega)
              have HE := HBAD2.out ⟨true, b1⟩ (show termOk _ _ _ = false from hto) (.inr rfl)
              have HBb := Aside0.mk (below_alloc HB.out (.cells #[.bool true, .int .u64 b1] 100))
              clear hto
              go_wp2
              go_ret
              rw [HE.out]
              exact ⟨rfl, HBb.out⟩
            | true =>
              have hge2 : decide ((m : Int) ≤ b1) = false := decide_eq_false (by have := of_decide_eq_true hto; omega)
              have HT : Aside0 (termOk (hasLat o) (m : Int) ⟨true, b1⟩ = true) := ⟨hto⟩
              have HBb := Aside0.mk (below_alloc HB.out (.cells #[.bool true, .int .u64 b1] 100))
              clear hto
              go_wp2
              go_roundg (gk - 1)
              case measure => omega
              case rel => exact ⟨2, by go_num, by omega, by omega, HBb, ⟨fun _ => HJ.out.1 (by omega), fun _ => HT.out⟩⟩
          | false =>
            have HU1 : Aside0 (0 ≤ b1) := ⟨HUx.out.2⟩
            have HBa := Aside0.mk (below_alloc HB.out (.cells #[.bool false, .int .u64 b1] 100))
            cases hh : hasLat o b1 with
            | false =>
              have HE := HBAD2.out ⟨false, b1⟩ (show termOk _ _ _ = false from hh) (.inr rfl)
              have HH := Aside0.mk hh
              clear hh
              go_wp2_with (go_at_call 301; (with_reducible refine (hasLbd_calls _ _ o _ HU1.out (HV.out.kept HBa.out)).mono ?_); rintro e W1 ⟨rfl, hb1⟩; rw [HH.out]; have HB1 := Aside0.mk (below_step HBa.out hb1); clear hb1)
              go_ret
              rw [HE.out]
              exact ⟨rfl, HB1.out⟩
            | true =>
              have HT : Aside0 (termOk (hasLat o) (m : Int) ⟨false, b1⟩ = true) := ⟨hh⟩
              have HH := Aside0.mk hh
              clear hh
              go_wp2_with (go_at_call 301; (with_reducible refine (hasLbd_calls _ _ o _ HU1.out (HV.out.kept HBa.out)).mono ?_); rintro e W1 ⟨rfl, hb1⟩; rw [HH.out]; have HB1 := Aside0.mk (below_step HBa.out hb1); clear hb1)
              go_roundg (gk - 1)
              case measure => omega
              case rel => exact ⟨2, by go_num, by omega, by omega, HB1, ⟨fun _ => HJ.out.1 (by omega), fun _ => HT.out⟩⟩
        · have HK2 : Aside0 (∀ i (h : i < l.length), i < k + 1 → (termOk (hasLat o) (m : Int) l[i].f0 && termOk (hasLat o) (m : Int) l[i].f1) = true) := ⟨by
            intro i h hi
            rcases Nat.lt_or_ge i k with q | q
            · exact HK.out i h q
            · obtain rfl : i = k := by omega
              rw [← HX.out, Bool.and_eq_true]
              exact ⟨HJ.out.1 (by omega), HJ.out.2 (by omega)⟩⟩
          go_wp2
          go_roundg g0
          case measure => omega
          case rel => exact ⟨k + 1, by go_num, by omega, by omega, HB, HK2⟩
    · have hd : decide (k < n) = false := decide_eq_false (by omega)
      obtain rfl : k = n := by omega
      have HE : Aside0 (r = 0) := ⟨by
        rw [HRE2.out, if_pos]
        rw [List.all_eq_true]
        intro b hb
        obtain ⟨i, hi, rfl⟩ := List.getElem_of_mem hb
        exact HK.out i hi (by rw [HN.out]; exact hi)⟩
      go_wp2
      go_ret
      rw [HE.out]
      exact ⟨rfl, HB.out⟩
theorem mHasBdE (k : Nat) (v : Value) (w : World) : (method (k + 1) 86 v "Has").run Tryz.prog w = .ok (307, v) w := by kernel_rfl
theorem thereE_calls (w : World) (v : Value) : Calls Tryz.prog 105 #[.iface 86 v] w fun e w' => e = .returned (.iface 86 v) ∧ w = w' := by
  go_enter Tryz.func105, Tryz.ntmps105
  go_wp2
  go_ret
  exact ⟨rfl, rfl⟩
set_option maxRecDepth 100000 in
set_option maxHeartbeats 8000000 in
theorem bchkE_calls (w : World) (A : Option Addr) (c n : Nat) (l : List Bound) (vars : Int) (v : Value) (o : Option Int) (hn : n = l.length) (hu : ∀ b ∈ l, 0 ≤ b.f0.f1 ∧ 0 ≤ b.f1.f1) (hr : kBound.C w A n l) (hv : EffV w v o) :
    Calls Tryz.prog 31 #[.iface 86 v, .int .i64 vars, .slice A n c] w fun e w' => e = .returned (.int .i64 (boundsB (hasEff o) vars l)) ∧ Below w.heap.size w w' := by
  have hmax : n ≤ 9223372036854775807 := hr.2.1
  have HR := Aside0.mk hr
  have HN := Aside0.mk hn
  have HU := Aside0.mk hu
  have HV := Aside0.mk hv
  obtain ⟨r, hr0⟩ : ∃ r, r = boundsB (hasEff o) vars l := ⟨_, rfl⟩
  rw [← hr0]
  have HRE : Aside0 (r = if vars < 0 ∨ 64 < vars ∨ 256 < n then 3 else if (l.all fun b => termOk (hasEff o) vars b.f0 && termOk (hasEff o) vars b.f1) = true then 0 else 1) := ⟨by rw [hr0, boundsB, hn]⟩
  clear hr hn hu hv hr0
  by_cases h1 : vars < 0
  · have z1 : decide (vars < 0) = true := decide_eq_true h1
    have HE : Aside0 (r = 3) := ⟨by rw [HRE.out, if_pos (.inl h1)]⟩
    clear HRE h1
    go_enter Tryz.func31, Tryz.ntmps31
    go_wp2_with (go_at_call 105; (with_reducible refine (thereE_calls _ _).mono ?_); rintro e W1 ⟨rfl, rfl⟩)
    go_ret
    rw [HE.out]
    exact ⟨rfl, Below.refl _ _⟩
  have z1 : decide (vars < 0) = false := decide_eq_false h1
  by_cases h2 : 64 < vars
  · have z2 : decide (64 < vars) = true := decide_eq_true h2
    have HE : Aside0 (r = 3) := ⟨by rw [HRE.out, if_pos (.inr (.inl h2))]⟩
    clear HRE h1 h2
    go_enter Tryz.func31, Tryz.ntmps31
    go_wp2_with (go_at_call 105; (with_reducible refine (thereE_calls _ _).mono ?_); rintro e W1 ⟨rfl, rfl⟩)
    go_ret
    rw [HE.out]
    exact ⟨rfl, Below.refl _ _⟩
  have z2 : decide (64 < vars) = false := decide_eq_false h2
  by_cases h3 : 256 < n
  · have z3 : decide (256 < (n : Int)) = true := decide_eq_true (by omega)
    have HE : Aside0 (r = 3) := ⟨by rw [HRE.out, if_pos (.inr (.inr h3))]⟩
    clear HRE h1 h2 h3
    go_enter Tryz.func31, Tryz.ntmps31
    go_wp2_with (go_at_call 105; (with_reducible refine (thereE_calls _ _).mono ?_); rintro e W1 ⟨rfl, rfl⟩)
    go_ret
    rw [HE.out]
    exact ⟨rfl, Below.refl _ _⟩
  have z3 : decide (256 < (n : Int)) = false := decide_eq_false (by omega)
  have HRE2 : Aside0 (r = if (l.all fun b => termOk (hasEff o) vars b.f0 && termOk (hasEff o) vars b.f1) = true then 0 else 1) := ⟨by rw [HRE.out, if_neg (by omega)]⟩
  obtain ⟨m, rfl⟩ := Int.eq_ofNat_of_zero_le (by omega : 0 ≤ vars)
  have hw : IntKind.u64.wrap (m : Int) = (m : Int) := wrap_u64 _ (by omega) (by omega)
  have mh := mHasBdE
  clear HRE h1 h2 h3
  have hbad : ∀ (t : Term) (k : Nat) (hk : k < l.length), termOk (hasEff o) (m : Int) t = false → (t = l[k].f0 ∨ t = l[k].f1) → Aside0 (r = 1) := fun t k hk h e => ⟨by
    rw [HRE2.out, if_neg]
    intro hall
    have := List.all_eq_true.1 hall l[k] (List.getElem_mem _)
    rw [Bool.and_eq_true] at this
    rcases e with e | e
    · rw [← e, h] at this
      cases this.1
    · rw [← e, h] at this
      cases this.2⟩
  have HBAD := Aside0.mk hbad
  clear hbad
  go_enter Tryz.func31, Tryz.ntmps31
  go_wp2_with (go_at_call 105; (with_reducible refine (thereE_calls _ _).mono ?_); rintro e W1 ⟨rfl, rfl⟩)
  go_loopg [26] (n + 1) (fun gk i W => ∃ k : Nat, i = .int .i64 (k : Int) ∧ k ≤ n ∧ n + 1 - k ≤ gk ∧ Aside0 (Below w.heap.size w W) ∧ Aside0 (∀ i (h : i < l.length), i < k → (termOk (hasEff o) (m : Int) l[i].f0 && termOk (hasEff o) (m : Int) l[i].f1) = true))
  case atStart => exact ⟨0, rfl, by omega, by omega, ⟨Below.refl _ _⟩, ⟨fun i h hi => by omega⟩⟩
  case round =>
    obtain ⟨k, rfl, hk, hkg, HB, HK⟩ := hrel
    rcases Nat.lt_or_ge k n with hlt | hge
    · have hd : decide (k < n) = true := decide_eq_true hlt
      have hkl : k < l.length := by rw [← HN.out]; exact hlt
      obtain ⟨ad, rfl, c0, c1, c2, c3⟩ := C_boundN (by rw [← HN.out]; exact Kd.C_below HR.out HB.out) k hkl
      obtain ⟨x, hx⟩ : ∃ x, x = l[k] := ⟨_, rfl⟩
      rw [← hx] at c0 c1 c2 c3
      have HX := Aside0.mk hx
      have HUx : Aside0 (0 ≤ x.f0.f1 ∧ 0 ≤ x.f1.f1) := ⟨by rw [hx]; exact HU.out _ (List.getElem_mem _)⟩
      have HBAD2 : Aside0 (∀ t : Term, termOk (hasEff o) (m : Int) t = false → (t = x.f0 ∨ t = x.f1) → Aside0 (r = 1)) := ⟨fun t h e => HBAD.out t k hkl h (by rw [← hx]; exact e)⟩
      clear hx
      obtain ⟨x0, x1⟩ := x
      obtain ⟨a0, a1⟩ := x0
      obtain ⟨b0, b1⟩ := x1
      simp only at c0 c1 c2 c3
      obtain ⟨g0, hg1, hg2⟩ : ∃ g0, g0 < gk ∧ n + 1 - (k + 1) ≤ g0 := ⟨gk - 1, by omega, by omega⟩
      obtain ⟨O, hO⟩ : ∃ O : Obj, O = .cells #[.bool a0, .int .u64 a1, .bool b0, .int .u64 b1] 104 := ⟨_, rfl⟩
      have HB0 := Aside0.mk (below_alloc HB.out O)
      subst hO
      clear HB
      go_wp2
      go_loopg [35] 3 (fun gk i W => ∃ j : Nat, i = .int .i64 (j : Int) ∧ j ≤ 2 ∧ 3 - j ≤ gk ∧ Aside0 (Below w.heap.size w W) ∧ Aside0 ((0 < j → termOk (hasEff o) (m : Int) ⟨a0, a1⟩ = true) ∧ (1 < j → termOk (hasEff o) (m : Int) ⟨b0, b1⟩ = true)))
      case atStart => exact ⟨0, rfl, by omega, by omega, HB0, ⟨fun h => by omega, fun h => by omega⟩⟩
      case round =>
        obtain ⟨j, rfl, hj, hjg, HB, HJ⟩ := hrel
        clear HB0 c0 c1 c2 c3
        rcases (by omega : j = 0 ∨ j = 1 ∨ j = 2) with rfl | rfl | rfl
        · have ix := idx0 a0 a1 b0 b1
          cases a0 with
          | true =>
            cases hto : decide (a1 < (m : Int)) with
            | false =>
              have hge2 : decide ((m : Int) ≤ a1) = true := decide_eq_true (by have := of_decide_eq_false hto; omega)
              have HE := HBAD2.out ⟨true, a1⟩ (show termOk _ _ _ = false from hto) (.inl rfl)
              have HBb := Aside0.mk (below_alloc HB.out (.cells #[.bool true, .int .u64 a1] 100))
              clear hto
              go_wp2
              go_ret
              rw [HE.out]
              exact ⟨rfl, HBb.out⟩
            | true =>
              have hge2 : decide ((m : Int) ≤ a1) = false := decide_eq_false (by have := of_decide_eq_true hto; omega)
              have HT : Aside0 (termOk (hasEff o) (m : Int) ⟨true, a1⟩ = true) := ⟨hto⟩
              have HBb := Aside0.mk (below_alloc HB.out (.cells #[.bool true, .int .u64 a1] 100))
              clear hto
              go_wp2
              go_roundg (gk - 1)
              case measure => omega
              case rel => exact ⟨1, by go_num, by omega, by omega, HBb, ⟨fun _ => HT.out, fun h => by omega⟩⟩
          | false =>
            have HU1 : Aside0 (0 ≤ a1) := ⟨HUx.out.1⟩
            have HBa := Aside0.mk (below_alloc HB.out (.cells #[.bool false, .int .u64 a1] 100))
            cases hh : hasEff o a1 with
            | false =>
              have HE := HBAD2.out ⟨false, a1⟩ (show termOk _ _ _ = false from hh) (.inl rfl)
              have HH := Aside0.mk hh
              clear hh
              go_wp2_with (go_at_call 307; (with_reducible refine (hasE_calls _ _ o _ (HV.out.kept HBa.out)).mono ?_); rintro e W1 ⟨rfl, hb1⟩; rw [HH.out]; have HB1 := Aside0.mk (below_step HBa.out hb1); clear hb1)
              go_ret
              rw [HE.out]
              exact ⟨rfl, HB1.out⟩
            | true =>
              have HT : Aside0 (termOk (hasEff o) (m : Int) ⟨false, a1⟩ = true) := ⟨hh⟩
              have HH := Aside0.mk hh
              clear hh
              go_wp2_with (go_at_call 307; (with_reducible refine (hasE_calls _ _ o _ (HV.out.kept HBa.out)).mono ?_); rintro e W1 ⟨rfl, hb1⟩; rw [HH.out]; have HB1 := Aside0.mk (below_step HBa.out hb1); clear hb1)
              go_roundg (gk - 1)
              case measure => omega
              case rel => exact ⟨1, by go_num, by omega, by omega, HB1, ⟨fun _ => HT.out, fun h => by omega⟩⟩
        · have ix := idx1 a0 a1 b0 b1
          cases b0 with
          | true =>
            cases hto : decide (b1 < (m : Int)) with
            | false =>
              have hge2 : decide ((m : Int) ≤ b1) = true := decide_eq_true (by have := of_decide_eq_false hto; omega)
              have HE := HBAD2.out ⟨true, b1⟩ (show termOk _ _ _ = false from hto) (.inr rfl)
              have HBb := Aside0.mk (below_alloc HB.out (.cells #[.bool true, .int .u64 b1] 100))
              clear hto
              go_wp2
              go_ret
              rw [HE.out]
              exact ⟨rfl, HBb.out⟩
            | true =>
              have hge2 : decide ((m : Int) ≤ b1) = false := decide_eq_false (by have := of_decide_eq_true hto; omega)
              have HT : Aside0 (termOk (hasEff o) (m : Int) ⟨true, b1⟩ = true) := ⟨hto⟩
              have HBb := Aside0.mk (below_alloc HB.out (.cells #[.bool true, .int .u64 b1] 100))
              clear hto
              go_wp2
              go_roundg (gk - 1)
              case measure => omega
              case rel => exact ⟨2, by go_num, by omega, by omega, HBb, ⟨fun _ => HJ.out.1 (by omega), fun _ => HT.out⟩⟩
          | false =>
            have HU1 : Aside0 (0 ≤ b1) := ⟨HUx.out.2⟩
            have HBa := Aside0.mk (below_alloc HB.out (.cells #[.bool false, .int .u64 b1] 100))
            cases hh : hasEff o b1 with
            | false =>
              have HE := HBAD2.out ⟨false, b1⟩ (show termOk _ _ _ = false from hh) (.inr rfl)
              have HH := Aside0.mk hh
              clear hh
              go_wp2_with (go_at_call 307; (with_reducible refine (hasE_calls _ _ o _ (HV.out.kept HBa.out)).mono ?_); rintro e W1 ⟨rfl, hb1⟩; rw [HH.out]; have HB1 := Aside0.mk (below_step HBa.out hb1); clear hb1)
              go_ret
              rw [HE.out]
              exact ⟨rfl, HB1.out⟩
            | true =>
              have HT : Aside0 (termOk (hasEff o) (m : Int) ⟨false, b1⟩ = true) := ⟨hh⟩
              have HH := Aside0.mk hh
              clear hh
              go_wp2_with (go_at_call 307; (with_reducible refine (hasE_calls _ _ o _ (HV.out.kept HBa.out)).mono ?_); rintro e W1 ⟨rfl, hb1⟩; rw [HH.out]; have HB1 := Aside0.mk (below_step HBa.out hb1); clear hb1)
              go_roundg (gk - 1)
              case measure => omega
              case rel => exact ⟨2, by go_num, by omega, by omega, HB1, ⟨fun _ => HJ.out.1 (by omega), fun _ => HT.out⟩⟩
        · have HK2 : Aside0 (∀ i (h : i < l.length), i < k + 1 → (termOk (hasEff o) (m : Int) l[i].f0 && termOk (hasEff o) (m : Int) l[i].f1) = true) := ⟨by
            intro i h hi
            rcases Nat.lt_or_ge i k with q | q
            · exact HK.out i h q
            · obtain rfl : i = k := by omega
              rw [← HX.out, Bool.and_eq_true]
              exact ⟨HJ.out.1 (by omega), HJ.out.2 (by omega)⟩⟩
          go_wp2
          go_roundg g0
          case measure => omega
          case rel => exact ⟨k + 1, by go_num, by omega, by omega, HB, HK2⟩
    · have hd : decide (k < n) = false := decide_eq_false (by omega)
      obtain rfl : k = n := by omega
      have HE : Aside0 (r = 0) := ⟨by
        rw [HRE2.out, if_pos]
        rw [List.all_eq_true]
        intro b hb
        obtain ⟨i, hi, rfl⟩ := List.getElem_of_mem hb
        exact HK.out i hi (by rw [HN.out]; exact hi)⟩
      go_wp2
      go_ret
      rw [HE.out]
      exact ⟨rfl, HB.out⟩
end Go.Proofs.YtdecijmncpbheaaGreatDoor

namespace Go.Proofs.YtdecijmncpbheaaGreatDoor
open Go.RowKit Go.Proofs.YtdecijmncpbheaaGreatDoorW.PrintWords Go.Proofs.YtdecijmncpbheaaGreatDoorW.PrintLast Go.Proofs.YtdecijmncpbheaaGreatDoorW.PrintMore
set_option linter.unusedVariables false
set_option linter.unusedSimpArgs false
def spotV (x : Spot) : Value := .agg #[.int .i64 x.f0, .int .u8 x.f1, .int .u8 x.f2, .bool x.f3.f0, .int .u64 x.f3.f1]
theorem ev1C_calls (w : World) (b : Nat) (p1 p2 : Addr) (x : Spot) (z : Bool) (hc : w.cell? ⟨b, 0, none⟩ = some (.func (.func 34) #[] #[.pointer (some p1), .pointer (some p2)])) (hg : ∀ W, Below w.heap.size w W → Calls Tryz.prog 34 #[spotV x, .pointer (some p1), .pointer (some p2)] W fun e w' => e = .returned (.bool z) ∧ Below W.heap.size W w') :
    Calls Tryz.prog 109 #[spotV x, .pointer (some ⟨b, 0, none⟩)] w fun e w' => e = .returned (.bool (!z)) ∧ Below w.heap.size w w' := by
  have HG := Aside0.mk hg
  have hl := World.block_lt_of_cell? w _ hc
  obtain ⟨O, hO⟩ : ∃ O : Obj, O = .cells #[.int .i64 x.f0, .int .u8 x.f1, .int .u8 x.f2, .bool x.f3.f0, .int .u64 x.f3.f1] 102 := ⟨_, rfl⟩
  have HB := Aside0.mk (below_alloc (Below.refl w.heap.size w) O)
  subst hO
  simp only [spotV] at hg ⊢
  have HG := Aside0.mk hg
  clear hg
  go_enter Tryz.func109, Tryz.ntmps109
  go_wp2_with (go_at_call 34; (with_reducible refine (HG.out _ HB.out).mono ?_); rintro e W' ⟨rfl, hb'⟩; have HB' := Aside0.mk (below_step HB.out hb'); clear HB hb'; have HB := HB'; clear HB')
  go_ret
  exact ⟨rfl, HB.out⟩
set_option maxRecDepth 100000 in
set_option maxHeartbeats 4000000 in
theorem ev2C_calls (w : World) (A : Option Addr) (c n : Nat) (l : List Spot) (b : Nat) (p1 p2 : Addr) (P : Spot → Bool) (hn : n = l.length) (hmax : n ≤ 9223372036854775807) (hr : kSpot.C w A n l) (hc : w.cell? ⟨b, 0, none⟩ = some (.func (.func 34) #[] #[.pointer (some p1), .pointer (some p2)])) (hg : ∀ W, Below w.heap.size w W → ∀ x ∈ l, Calls Tryz.prog 34 #[spotV x, .pointer (some p1), .pointer (some p2)] W fun e w' => e = .returned (.bool (P x)) ∧ Below W.heap.size W w') :
    Calls Tryz.prog 174 #[.slice A n c, .func (.func 109) #[] #[.pointer (some ⟨b, 0, none⟩)]] w fun e w' => ∃ i : Int, e = .returned (.int .i64 i) ∧ decide (0 ≤ i) = (!l.all P) ∧ Below w.heap.size w w' := by
  have HR := Aside0.mk hr
  have HN := Aside0.mk hn
  have HC := Aside0.mk hc
  have HG := Aside0.mk hg
  clear hr hn hc hg
  go_enter Tryz.func174, Tryz.ntmps174
  go_wp2
  go_loopg [8] (n + 1) (fun gk i W => ∃ k : Nat, i = .int .i64 (k : Int) ∧ k ≤ n ∧ n + 1 - k ≤ gk ∧ Aside0 (Below w.heap.size w W) ∧ Aside0 (∀ i (h : i < l.length), i < k → P l[i] = true))
  case atStart => exact ⟨0, rfl, by omega, by omega, ⟨Below.refl _ _⟩, ⟨fun i h hi => by omega⟩⟩
  case round =>
    obtain ⟨k, rfl, hk, hkg, HB, HK⟩ := hrel
    rcases Nat.lt_or_ge k n with hlt | hge
    · have hd : decide (k < n) = true := decide_eq_true hlt
      have hkl : k < l.length := by rw [← HN.out]; exact hlt
      obtain ⟨ad, rfl, c0, c1, c2, c3, c4⟩ := C_spotN (by rw [← HN.out]; exact Kd.C_below HR.out HB.out) k hkl
      obtain ⟨x, hx⟩ : ∃ x, x = l[k] := ⟨_, rfl⟩
      rw [← hx] at c0 c1 c2 c3 c4
      obtain ⟨z, hz⟩ : ∃ z, z = P x := ⟨_, rfl⟩
      have E1 : Aside0 (Calls Tryz.prog 109 #[.agg #[.int .i64 x.f0, .int .u8 x.f1, .int .u8 x.f2, .bool x.f3.f0, .int .u64 x.f3.f1], .pointer (some ⟨b, 0, none⟩)] wr fun e w' => e = .returned (.bool (!z)) ∧ Below wr.heap.size wr w') := ⟨ev1C_calls wr b p1 p2 x z (pw_cell_below HB.out HC.out) (fun W hb => by rw [hz]; exact HG.out W (HB.out.trans (hb.mono HB.out.size)) x (by rw [hx]; exact List.getElem_mem _))⟩
      have HX := Aside0.mk (And.intro hx hz)
      clear hx hz
      cases z with
      | false =>
        have HE : Aside0 (true = (!l.all P)) := ⟨by
          have : l.all P = false := List.all_eq_false.2 ⟨l[k], List.getElem_mem _, by rw [← HX.out.1, ← HX.out.2]; simp⟩
          rw [this]; rfl⟩
        go_wp2_with (go_at_call 109; (with_reducible refine E1.out.mono ?_); rintro e W1 ⟨rfl, hb1⟩; have HB1 := Aside0.mk (HB.out.trans (hb1.mono HB.out.size)); clear hb1)
        go_ret
        exact ⟨_, rfl, by rw [← HE.out]; exact decide_eq_true (by omega), HB1.out⟩
      | true =>
        have HK2 : Aside0 (∀ i (h : i < l.length), i < k + 1 → P l[i] = true) := ⟨by
          intro i h hi
          rcases Nat.lt_or_ge i k with q | q
          · exact HK.out i h q
          · obtain rfl : i = k := by omega
            rw [← HX.out.1, ← HX.out.2]⟩
        go_wp2_with (go_at_call 109; (with_reducible refine E1.out.mono ?_); rintro e W1 ⟨rfl, hb1⟩; have HB1 := Aside0.mk (HB.out.trans (hb1.mono HB.out.size)); clear hb1)
        go_roundg (gk - 1)
        case measure => omega
        case rel => exact ⟨k + 1, by go_num, by omega, by omega, HB1, HK2⟩
    · have hd : decide (k < n) = false := decide_eq_false (by omega)
      have HE : Aside0 (false = (!l.all P)) := ⟨by
        have : l.all P = true := by
          rw [List.all_eq_true]
          intro x hx
          obtain ⟨i, hi, rfl⟩ := List.getElem_of_mem hx
          exact HK.out i hi (by have := HN.out; omega)
        rw [this]; rfl⟩
      go_wp2
      go_ret
      exact ⟨_, rfl, by rw [← HE.out]; rfl, HB.out⟩
theorem ev3C_calls (w : World) (A : Option Addr) (c n : Nat) (l : List Spot) (b : Nat) (p1 p2 : Addr) (P : Spot → Bool) (hn : n = l.length) (hmax : n ≤ 9223372036854775807) (hr : kSpot.C w A n l) (hc : w.cell? ⟨b, 0, none⟩ = some (.func (.func 34) #[] #[.pointer (some p1), .pointer (some p2)])) (hg : ∀ W, Below w.heap.size w W → ∀ x ∈ l, Calls Tryz.prog 34 #[spotV x, .pointer (some p1), .pointer (some p2)] W fun e w' => e = .returned (.bool (P x)) ∧ Below W.heap.size W w') :
    Calls Tryz.prog 108 #[.slice A n c, .func (.func 109) #[] #[.pointer (some ⟨b, 0, none⟩)]] w fun e w' => e = .returned (.bool (!l.all P)) ∧ Below w.heap.size w w' := by
  have HG := Aside0.mk (ev2C_calls w A c n l b p1 p2 P hn hmax hr hc hg)
  clear hr hc hg hn
  go_enter Tryz.func108, Tryz.ntmps108
  go_wp2_with (go_at_call 174; (with_reducible refine HG.out.mono ?_); rintro e W1 ⟨i, rfl, hi, hb1⟩; have HI := Aside0.mk hi; have HB1 := Aside0.mk hb1; clear hi hb1)
  go_ret
  rw [← HI.out]
  exact ⟨rfl, HB1.out⟩
theorem everyC_calls (w : World) (A : Option Addr) (c n : Nat) (l : List Spot) (p1 p2 : Addr) (P : Spot → Bool) (hn : n = l.length) (hmax : n ≤ 9223372036854775807) (hr : kSpot.C w A n l) (hg : ∀ W, Below w.heap.size w W → ∀ x ∈ l, Calls Tryz.prog 34 #[spotV x, .pointer (some p1), .pointer (some p2)] W fun e w' => e = .returned (.bool (P x)) ∧ Below W.heap.size W w') :
    Calls Tryz.prog 35 #[.slice A n c, .func (.func 34) #[] #[.pointer (some p1), .pointer (some p2)]] w fun e w' => e = .returned (.bool (l.all P)) ∧ Below w.heap.size w w' := by
  have HB := Aside0.mk (below_alloc (Below.refl w.heap.size w) (.cells #[.func (.func 34) #[] #[.pointer (some p1), .pointer (some p2)]] 96))
  have HG := Aside0.mk (ev3C_calls (w.alloc (.cells #[.func (.func 34) #[] #[.pointer (some p1), .pointer (some p2)]] 96)) A c n l w.heap.size p1 p2 P hn hmax (Kd.C_below hr HB.out) (blk_cell (blk_new w _) 0) (fun W hb => hg W (below_step HB.out hb)))
  clear hr hg hn
  obtain ⟨z, hz⟩ : ∃ z, z = l.all P := ⟨_, rfl⟩
  rw [← hz] at HG ⊢
  clear hz
  go_enter Tryz.func35, Tryz.ntmps35
  go_wp2_with (go_at_call 108; (with_reducible refine (HG.out).mono ?_); rintro e W' ⟨rfl, hb'⟩; have HB' := Aside0.mk (below_step HB.out hb'); clear HB hb'; have HB := HB'; clear HB')
  go_ret
  exact ⟨by cases z <;> rfl, HB.out⟩
theorem ev1H_calls (w : World) (b : Nat) (B : Option Addr) (m d : Nat) (x : Spot) (z : Bool) (hc : w.cell? ⟨b, 0, none⟩ = some (.func (.func 36) #[.slice B m d] #[])) (hg : ∀ W, Below w.heap.size w W → Calls Tryz.prog 36 #[.slice B m d, spotV x] W fun e w' => e = .returned (.bool z) ∧ Below W.heap.size W w') :
    Calls Tryz.prog 109 #[spotV x, .pointer (some ⟨b, 0, none⟩)] w fun e w' => e = .returned (.bool (!z)) ∧ Below w.heap.size w w' := by
  have HG := Aside0.mk hg
  have hl := World.block_lt_of_cell? w _ hc
  obtain ⟨O, hO⟩ : ∃ O : Obj, O = .cells #[.int .i64 x.f0, .int .u8 x.f1, .int .u8 x.f2, .bool x.f3.f0, .int .u64 x.f3.f1] 102 := ⟨_, rfl⟩
  have HB := Aside0.mk (below_alloc (Below.refl w.heap.size w) O)
  subst hO
  simp only [spotV] at hg ⊢
  have HG := Aside0.mk hg
  clear hg
  go_enter Tryz.func109, Tryz.ntmps109
  go_wp2_with (go_at_call 36; (with_reducible refine (HG.out _ HB.out).mono ?_); rintro e W' ⟨rfl, hb'⟩; have HB' := Aside0.mk (below_step HB.out hb'); clear HB hb'; have HB := HB'; clear HB')
  go_ret
  exact ⟨rfl, HB.out⟩
set_option maxRecDepth 100000 in
set_option maxHeartbeats 4000000 in
theorem ev2H_calls (w : World) (A : Option Addr) (c n : Nat) (l : List Spot) (b : Nat) (B : Option Addr) (m d : Nat) (P : Spot → Bool) (hn : n = l.length) (hmax : n ≤ 9223372036854775807) (hr : kSpot.C w A n l) (hc : w.cell? ⟨b, 0, none⟩ = some (.func (.func 36) #[.slice B m d] #[])) (hg : ∀ W, Below w.heap.size w W → ∀ x ∈ l, Calls Tryz.prog 36 #[.slice B m d, spotV x] W fun e w' => e = .returned (.bool (P x)) ∧ Below W.heap.size W w') :
    Calls Tryz.prog 174 #[.slice A n c, .func (.func 109) #[] #[.pointer (some ⟨b, 0, none⟩)]] w fun e w' => ∃ i : Int, e = .returned (.int .i64 i) ∧ decide (0 ≤ i) = (!l.all P) ∧ Below w.heap.size w w' := by
  have HR := Aside0.mk hr
  have HN := Aside0.mk hn
  have HC := Aside0.mk hc
  have HG := Aside0.mk hg
  clear hr hn hc hg
  go_enter Tryz.func174, Tryz.ntmps174
  go_wp2
  go_loopg [8] (n + 1) (fun gk i W => ∃ k : Nat, i = .int .i64 (k : Int) ∧ k ≤ n ∧ n + 1 - k ≤ gk ∧ Aside0 (Below w.heap.size w W) ∧ Aside0 (∀ i (h : i < l.length), i < k → P l[i] = true))
  case atStart => exact ⟨0, rfl, by omega, by omega, ⟨Below.refl _ _⟩, ⟨fun i h hi => by omega⟩⟩
  case round =>
    obtain ⟨k, rfl, hk, hkg, HB, HK⟩ := hrel
    rcases Nat.lt_or_ge k n with hlt | hge
    · have hd : decide (k < n) = true := decide_eq_true hlt
      have hkl : k < l.length := by rw [← HN.out]; exact hlt
      obtain ⟨ad, rfl, c0, c1, c2, c3, c4⟩ := C_spotN (by rw [← HN.out]; exact Kd.C_below HR.out HB.out) k hkl
      obtain ⟨x, hx⟩ : ∃ x, x = l[k] := ⟨_, rfl⟩
      rw [← hx] at c0 c1 c2 c3 c4
      obtain ⟨z, hz⟩ : ∃ z, z = P x := ⟨_, rfl⟩
      have E1 : Aside0 (Calls Tryz.prog 109 #[.agg #[.int .i64 x.f0, .int .u8 x.f1, .int .u8 x.f2, .bool x.f3.f0, .int .u64 x.f3.f1], .pointer (some ⟨b, 0, none⟩)] wr fun e w' => e = .returned (.bool (!z)) ∧ Below wr.heap.size wr w') := ⟨ev1H_calls wr b B m d x z (pw_cell_below HB.out HC.out) (fun W hb => by rw [hz]; exact HG.out W (HB.out.trans (hb.mono HB.out.size)) x (by rw [hx]; exact List.getElem_mem _))⟩
      have HX := Aside0.mk (And.intro hx hz)
      clear hx hz
      cases z with
      | false =>
        have HE : Aside0 (true = (!l.all P)) := ⟨by
          have : l.all P = false := List.all_eq_false.2 ⟨l[k], List.getElem_mem _, by rw [← HX.out.1, ← HX.out.2]; simp⟩
          rw [this]; rfl⟩
        go_wp2_with (go_at_call 109; (with_reducible refine E1.out.mono ?_); rintro e W1 ⟨rfl, hb1⟩; have HB1 := Aside0.mk (HB.out.trans (hb1.mono HB.out.size)); clear hb1)
        go_ret
        exact ⟨_, rfl, by rw [← HE.out]; exact decide_eq_true (by omega), HB1.out⟩
      | true =>
        have HK2 : Aside0 (∀ i (h : i < l.length), i < k + 1 → P l[i] = true) := ⟨by
          intro i h hi
          rcases Nat.lt_or_ge i k with q | q
          · exact HK.out i h q
          · obtain rfl : i = k := by omega
            rw [← HX.out.1, ← HX.out.2]⟩
        go_wp2_with (go_at_call 109; (with_reducible refine E1.out.mono ?_); rintro e W1 ⟨rfl, hb1⟩; have HB1 := Aside0.mk (HB.out.trans (hb1.mono HB.out.size)); clear hb1)
        go_roundg (gk - 1)
        case measure => omega
        case rel => exact ⟨k + 1, by go_num, by omega, by omega, HB1, HK2⟩
    · have hd : decide (k < n) = false := decide_eq_false (by omega)
      have HE : Aside0 (false = (!l.all P)) := ⟨by
        have : l.all P = true := by
          rw [List.all_eq_true]
          intro x hx
          obtain ⟨i, hi, rfl⟩ := List.getElem_of_mem hx
          exact HK.out i hi (by have := HN.out; omega)
        rw [this]; rfl⟩
      go_wp2
      go_ret
      exact ⟨_, rfl, by rw [← HE.out]; rfl, HB.out⟩
theorem ev3H_calls (w : World) (A : Option Addr) (c n : Nat) (l : List Spot) (b : Nat) (B : Option Addr) (m d : Nat) (P : Spot → Bool) (hn : n = l.length) (hmax : n ≤ 9223372036854775807) (hr : kSpot.C w A n l) (hc : w.cell? ⟨b, 0, none⟩ = some (.func (.func 36) #[.slice B m d] #[])) (hg : ∀ W, Below w.heap.size w W → ∀ x ∈ l, Calls Tryz.prog 36 #[.slice B m d, spotV x] W fun e w' => e = .returned (.bool (P x)) ∧ Below W.heap.size W w') :
    Calls Tryz.prog 108 #[.slice A n c, .func (.func 109) #[] #[.pointer (some ⟨b, 0, none⟩)]] w fun e w' => e = .returned (.bool (!l.all P)) ∧ Below w.heap.size w w' := by
  have HG := Aside0.mk (ev2H_calls w A c n l b B m d P hn hmax hr hc hg)
  clear hr hc hg hn
  go_enter Tryz.func108, Tryz.ntmps108
  go_wp2_with (go_at_call 174; (with_reducible refine HG.out.mono ?_); rintro e W1 ⟨i, rfl, hi, hb1⟩; have HI := Aside0.mk hi; have HB1 := Aside0.mk hb1; clear hi hb1)
  go_ret
  rw [← HI.out]
  exact ⟨rfl, HB1.out⟩
theorem everyH_calls (w : World) (A : Option Addr) (c n : Nat) (l : List Spot) (B : Option Addr) (m d : Nat) (P : Spot → Bool) (hn : n = l.length) (hmax : n ≤ 9223372036854775807) (hr : kSpot.C w A n l) (hg : ∀ W, Below w.heap.size w W → ∀ x ∈ l, Calls Tryz.prog 36 #[.slice B m d, spotV x] W fun e w' => e = .returned (.bool (P x)) ∧ Below W.heap.size W w') :
    Calls Tryz.prog 35 #[.slice A n c, .func (.func 36) #[.slice B m d] #[]] w fun e w' => e = .returned (.bool (l.all P)) ∧ Below w.heap.size w w' := by
  have HB := Aside0.mk (below_alloc (Below.refl w.heap.size w) (.cells #[.func (.func 36) #[.slice B m d] #[]] 96))
  have HG := Aside0.mk (ev3H_calls (w.alloc (.cells #[.func (.func 36) #[.slice B m d] #[]] 96)) A c n l w.heap.size B m d P hn hmax (Kd.C_below hr HB.out) (blk_cell (blk_new w _) 0) (fun W hb => hg W (below_step HB.out hb)))
  clear hr hg hn
  obtain ⟨z, hz⟩ : ∃ z, z = l.all P := ⟨_, rfl⟩
  rw [← hz] at HG ⊢
  clear hz
  go_enter Tryz.func35, Tryz.ntmps35
  go_wp2_with (go_at_call 108; (with_reducible refine (HG.out).mono ?_); rintro e W' ⟨rfl, hb'⟩; have HB' := Aside0.mk (below_step HB.out hb'); clear HB hb'; have HB := HB'; clear HB')
  go_ret
  exact ⟨by cases z <;> rfl, HB.out⟩
end Go.Proofs.YtdecijmncpbheaaGreatDoor

namespace Go.Proofs.YtdecijmncpbheaaGreatDoor
open Go.RowKit Go.Proofs.YtdecijmncpbheaaGreatDoorW.PrintWords Go.Proofs.YtdecijmncpbheaaGreatDoorW.PrintLast Go.Proofs.YtdecijmncpbheaaGreatDoorW.PrintMore
set_option linter.unusedVariables false
set_option linter.unusedSimpArgs false
/-- What schemes.Check answers. -/
def schemeB (hasL hasX : Int → Bool) (lv ev : Int) (body : List Node) (L E : List Bound) : Int :=
  if checkB body ≠ 0 then checkB body
  else if boundsB hasL lv L ≠ 0 then boundsB hasL lv L
  else if boundsB hasX ev E ≠ 0 then boundsB hasX ev E
  else if ((labB body).all (fun x => termOk hasL lv x.f3) && (effB body).all (fun x => termOk hasX ev x.f3)) = true then 0 else 1
theorem bounds_vars {has : Int → Bool} {vars : Int} {l : List Bound} (h : boundsB has vars l = 0) : 0 ≤ vars ∧ vars ≤ 64 ∧ l.length ≤ 256 ∧ ∀ b ∈ l, termOk has vars b.f0 = true ∧ termOk has vars b.f1 = true := by
  unfold boundsB at h
  split at h
  · cases h
  · split at h
    · rename_i h1 h2
      refine ⟨by omega, by omega, by omega, fun b hb => ?_⟩
      have := List.all_eq_true.1 h2 b hb
      rwa [Bool.and_eq_true] at this
    · cases h
theorem bound_C (w : World) (b : Bound) : kBound.C (w.alloc (.cells #[.bool b.f0.f0, .int .u64 b.f0.f1, .bool b.f1.f0, .int .u64 b.f1.f1] 104)) (some ⟨w.heap.size, 0, none⟩) 1 [b] := by
  have h := reps_cons (R := kBound.K (w.alloc (.cells ([Value.bool b.f0.f0, .int .u64 b.f0.f1, .bool b.f1.f0, .int .u64 b.f1.f1] ++ []).toArray 104))) (k104_mk _ b) rfl (Reps.none _ kBound.sz)
  exact C_block (blk_new w _) h (show 1 ≤ 9223372036854775807 by decide)
set_option maxRecDepth 100000 in
set_option maxHeartbeats 4000000 in
theorem chk11L_calls (w : World) (b1 b2 : Nat) (x : Spot) (vars : Nat) (hv64 : vars ≤ 64) (v : Value) (o : Option (List Int)) (hx : 0 ≤ x.f3.f1) (h1 : w.cell? ⟨b1, 0, none⟩ = some (.iface 83 v)) (h2 : w.cell? ⟨b2, 0, none⟩ = some (.int .i64 (vars : Int))) (hv : LatV w v o) :
    Calls Tryz.prog 34 #[spotV x, .pointer (some ⟨b1, 0, none⟩), .pointer (some ⟨b2, 0, none⟩)] w fun e w' => e = .returned (.bool (termOk (hasLat o) (vars : Int) x.f3)) ∧ Below w.heap.size w w' := by
  have hl1 := World.block_lt_of_cell? w _ h1
  have hl2 := World.block_lt_of_cell? w _ h2
  have HV := Aside0.mk hv
  have HX := Aside0.mk hx
  clear hv hx
  obtain ⟨z, hz⟩ : ∃ z, z = termOk (hasLat o) (vars : Int) x.f3 := ⟨_, rfl⟩
  rw [← hz]
  have HZ : Aside0 (boundsB (hasLat o) (vars : Int) [⟨x.f3, x.f3⟩] = if z then 0 else 1) := ⟨by
    rw [boundsB, if_neg (by simp; omega)]
    simp [← hz]⟩
  clear hz
  obtain ⟨O, hO⟩ : ∃ O : Obj, O = .cells #[.int .i64 x.f0, .int .u8 x.f1, .int .u8 x.f2, .bool x.f3.f0, .int .u64 x.f3.f1] 102 := ⟨_, rfl⟩
  obtain ⟨O2, hO2⟩ : ∃ O : Obj, O = .cells #[.bool x.f3.f0, .int .u64 x.f3.f1, .bool x.f3.f0, .int .u64 x.f3.f1] 104 := ⟨_, rfl⟩
  have HB := Aside0.mk (below_alloc (below_alloc (Below.refl w.heap.size w) O) O2)
  have HC : Aside0 (kBound.C ((w.alloc O).alloc O2) (some ⟨w.heap.size + 1, 0, none⟩) 1 [⟨x.f3, x.f3⟩]) := ⟨by have := bound_C (w.alloc O) ⟨x.f3, x.f3⟩; rw [World.size_alloc] at this; rw [hO2]; exact this⟩
  have HV2 := Aside0.mk (HV.out.kept HB.out)
  have BC := Aside0.mk (bchkL_calls ((w.alloc O).alloc O2) (some ⟨w.heap.size + 1, 0, none⟩) 1 1 [⟨x.f3, x.f3⟩] (vars : Int) v o rfl (fun b hb => by rw [List.mem_singleton.1 hb]; exact ⟨HX.out, HX.out⟩) HC.out HV2.out)
  subst hO hO2
  simp only [spotV]
  cases z with
  | false =>
    go_enter Tryz.func34, Tryz.ntmps34
    go_wp2_with (go_at_call 31; (with_reducible refine (BC.out).mono ?_); rintro e W' ⟨rfl, hb'⟩; have HB' := Aside0.mk (below_step HB.out hb'); clear HB hb'; have HB := HB'; clear HB'; rw [HZ.out])
    go_ret
    exact ⟨rfl, HB.out⟩
  | true =>
    go_enter Tryz.func34, Tryz.ntmps34
    go_wp2_with (go_at_call 31; (with_reducible refine (BC.out).mono ?_); rintro e W' ⟨rfl, hb'⟩; have HB' := Aside0.mk (below_step HB.out hb'); clear HB hb'; have HB := HB'; clear HB'; rw [HZ.out])
    go_ret
    exact ⟨rfl, HB.out⟩
theorem mayL_calls (w : World) (v : Value) (vars : Int) : Calls Tryz.prog 33 #[.iface 83 v, .int .i64 vars] w fun e w' => ∃ b1 b2 : Nat, e = .returned (.func (.func 34) #[] #[.pointer (some ⟨b1, 0, none⟩), .pointer (some ⟨b2, 0, none⟩)]) ∧ w'.cell? ⟨b1, 0, none⟩ = some (.iface 83 v) ∧ w'.cell? ⟨b2, 0, none⟩ = some (.int .i64 vars) ∧ Below w.heap.size w w' := by
  have g1 := blk_cell (blk_alloc (blk_new w (.cells #[.iface 83 v] 33)) (.cells #[.int .i64 vars] 3)) 0
  have g2 := blk_cell (blk_new (w.alloc (.cells #[.iface 83 v] 33)) (.cells #[.int .i64 vars] 3)) 0
  rw [World.size_alloc] at g2
  have G := Aside0.mk (And.intro g1 g2)
  clear g1 g2
  go_enter Tryz.func33, Tryz.ntmps33
  go_wp2
  go_ret
  exact ⟨_, _, rfl, G.out.1, G.out.2, below_alloc (below_alloc (Below.refl _ _) _) _⟩
set_option maxRecDepth 100000 in
set_option maxHeartbeats 4000000 in
theorem chk11E_calls (w : World) (b1 b2 : Nat) (x : Spot) (vars : Nat) (hv64 : vars ≤ 64) (v : Value) (o : Option Int) (hx : 0 ≤ x.f3.f1) (h1 : w.cell? ⟨b1, 0, none⟩ = some (.iface 86 v)) (h2 : w.cell? ⟨b2, 0, none⟩ = some (.int .i64 (vars : Int))) (hv : EffV w v o) :
    Calls Tryz.prog 34 #[spotV x, .pointer (some ⟨b1, 0, none⟩), .pointer (some ⟨b2, 0, none⟩)] w fun e w' => e = .returned (.bool (termOk (hasEff o) (vars : Int) x.f3)) ∧ Below w.heap.size w w' := by
  have hl1 := World.block_lt_of_cell? w _ h1
  have hl2 := World.block_lt_of_cell? w _ h2
  have HV := Aside0.mk hv
  have HX := Aside0.mk hx
  clear hv hx
  obtain ⟨z, hz⟩ : ∃ z, z = termOk (hasEff o) (vars : Int) x.f3 := ⟨_, rfl⟩
  rw [← hz]
  have HZ : Aside0 (boundsB (hasEff o) (vars : Int) [⟨x.f3, x.f3⟩] = if z then 0 else 1) := ⟨by
    rw [boundsB, if_neg (by simp; omega)]
    simp [← hz]⟩
  clear hz
  obtain ⟨O, hO⟩ : ∃ O : Obj, O = .cells #[.int .i64 x.f0, .int .u8 x.f1, .int .u8 x.f2, .bool x.f3.f0, .int .u64 x.f3.f1] 102 := ⟨_, rfl⟩
  obtain ⟨O2, hO2⟩ : ∃ O : Obj, O = .cells #[.bool x.f3.f0, .int .u64 x.f3.f1, .bool x.f3.f0, .int .u64 x.f3.f1] 104 := ⟨_, rfl⟩
  have HB := Aside0.mk (below_alloc (below_alloc (Below.refl w.heap.size w) O) O2)
  have HC : Aside0 (kBound.C ((w.alloc O).alloc O2) (some ⟨w.heap.size + 1, 0, none⟩) 1 [⟨x.f3, x.f3⟩]) := ⟨by have := bound_C (w.alloc O) ⟨x.f3, x.f3⟩; rw [World.size_alloc] at this; rw [hO2]; exact this⟩
  have HV2 := Aside0.mk (HV.out.kept HB.out)
  have BC := Aside0.mk (bchkE_calls ((w.alloc O).alloc O2) (some ⟨w.heap.size + 1, 0, none⟩) 1 1 [⟨x.f3, x.f3⟩] (vars : Int) v o rfl (fun b hb => by rw [List.mem_singleton.1 hb]; exact ⟨HX.out, HX.out⟩) HC.out HV2.out)
  subst hO hO2
  simp only [spotV]
  cases z with
  | false =>
    go_enter Tryz.func34, Tryz.ntmps34
    go_wp2_with (go_at_call 31; (with_reducible refine (BC.out).mono ?_); rintro e W' ⟨rfl, hb'⟩; have HB' := Aside0.mk (below_step HB.out hb'); clear HB hb'; have HB := HB'; clear HB'; rw [HZ.out])
    go_ret
    exact ⟨rfl, HB.out⟩
  | true =>
    go_enter Tryz.func34, Tryz.ntmps34
    go_wp2_with (go_at_call 31; (with_reducible refine (BC.out).mono ?_); rintro e W' ⟨rfl, hb'⟩; have HB' := Aside0.mk (below_step HB.out hb'); clear HB hb'; have HB := HB'; clear HB'; rw [HZ.out])
    go_ret
    exact ⟨rfl, HB.out⟩
theorem mayE_calls (w : World) (v : Value) (vars : Int) : Calls Tryz.prog 33 #[.iface 86 v, .int .i64 vars] w fun e w' => ∃ b1 b2 : Nat, e = .returned (.func (.func 34) #[] #[.pointer (some ⟨b1, 0, none⟩), .pointer (some ⟨b2, 0, none⟩)]) ∧ w'.cell? ⟨b1, 0, none⟩ = some (.iface 86 v) ∧ w'.cell? ⟨b2, 0, none⟩ = some (.int .i64 vars) ∧ Below w.heap.size w w' := by
  have g1 := blk_cell (blk_alloc (blk_new w (.cells #[.iface 86 v] 33)) (.cells #[.int .i64 vars] 3)) 0
  have g2 := blk_cell (blk_new (w.alloc (.cells #[.iface 86 v] 33)) (.cells #[.int .i64 vars] 3)) 0
  rw [World.size_alloc] at g2
  have G := Aside0.mk (And.intro g1 g2)
  clear g1 g2
  go_enter Tryz.func33, Tryz.ntmps33
  go_wp2
  go_ret
  exact ⟨_, _, rfl, G.out.1, G.out.2, below_alloc (below_alloc (Below.refl _ _) _) _⟩
/-- A scheme, as it comes in: its values. -/
structure SchY where
  lv : Int
  ev : Int
  A : Option Addr
  c : Nat
  body : List Node
  LA : Option Addr
  lc : Nat
  L : List Bound
  EA : Option Addr
  ec : Nat
  E : List Bound
def Bound.wf (b : Bound) : Prop := Term.wf b.f0 ∧ Term.wf b.f1
def SchY.v (y : SchY) : Value := .agg #[.int .i64 y.lv, .int .i64 y.ev, .slice y.A y.body.length y.c, .slice y.LA y.L.length y.lc, .slice y.EA y.E.length y.ec]
structure SchY.ok (w : World) (y : SchY) : Prop where
  rb : kNode.C w y.A y.body.length y.body
  wb : ∀ n ∈ y.body, Node.wf n
  rl : kBound.C w y.LA y.L.length y.L
  wl : ∀ b ∈ y.L, Bound.wf b
  re : kBound.C w y.EA y.E.length y.E
  we : ∀ b ∈ y.E, Bound.wf b
  lw : (Lit.int .i64 y.lv).wf = true
  ew : (Lit.int .i64 y.ev).wf = true
theorem SchY.ok.kept {w W : World} {y : SchY} (h : y.ok w) (hb : Below w.heap.size w W) : y.ok W := ⟨Kd.C_below h.rb hb, h.wb, Kd.C_below h.rl hb, h.wl, Kd.C_below h.re hb, h.we, h.lw, h.ew⟩
theorem bound_nn {l : List Bound} (h : ∀ b ∈ l, Bound.wf b) : ∀ b ∈ l, 0 ≤ b.f0.f1 ∧ 0 ≤ b.f1.f1 := fun b hb => ⟨(wf_DU (h b hb).1).1, (wf_DU (h b hb).2).1⟩
abbrev sOf (o : Option (List Int)) (p : Option Int) (y : SchY) : Int := schemeB (hasLat o) (hasEff p) y.lv y.ev y.body y.L y.E
set_option maxRecDepth 100000 in
set_option maxHeartbeats 8000000 in
theorem scheme_calls (w : World) (y : SchY) (hy : y.ok w) (v1 v2 : Value) (o : Option (List Int)) (p : Option Int) (hv1 : LatV w v1 o) (hv2 : EffV w v2 p) :
    Calls Tryz.prog 9 #[y.v, .iface 83 v1, .iface 86 v2] w fun e w' => e = .returned (.int .i64 (sOf o p y)) ∧ Below w.heap.size w w' := by
  obtain ⟨lv, ev, A, c, a, LA, lc, L, EA, ec, E⟩ := y
  obtain ⟨hr, hwa, hrl, hwl, hre, hwe, -, -⟩ := hy
  simp only at hr hwa hrl hwl hre hwe
  simp only [SchY.v, sOf]
  obtain ⟨r, hr0⟩ : ∃ r, r = schemeB (hasLat o) (hasEff p) lv ev a L E := ⟨_, rfl⟩
  rw [← hr0]
  obtain ⟨qa, hqa⟩ : ∃ q, q = checkB a := ⟨_, rfl⟩
  obtain ⟨ql, hql⟩ : ∃ q, q = boundsB (hasLat o) lv L := ⟨_, rfl⟩
  obtain ⟨qe, hqe⟩ : ∃ q, q = boundsB (hasEff p) ev E := ⟨_, rfl⟩
  have HRE : Aside0 (r = if qa ≠ 0 then qa else if ql ≠ 0 then ql else if qe ≠ 0 then qe else if ((labB a).all (fun x => termOk (hasLat o) lv x.f3) && (effB a).all (fun x => termOk (hasEff p) ev x.f3)) = true then 0 else 1) := ⟨by rw [hr0, schemeB, hqa, hql, hqe]⟩
  obtain ⟨n, hn⟩ : ∃ n, n = a.length := ⟨_, rfl⟩
  obtain ⟨k, hk⟩ : ∃ n, n = L.length := ⟨_, rfl⟩
  obtain ⟨m, hm⟩ : ∃ n, n = E.length := ⟨_, rfl⟩
  have CK : Aside0 (∀ W, Below w.heap.size w W → Calls Tryz.prog 25 #[.slice A n c] W fun e w' => e = .returned (.int .i64 qa) ∧ Below W.heap.size W w') := ⟨fun W hb => by rw [hqa, hn]; exact check_calls W A c a (Kd.C_below hr hb)⟩
  have BL : Aside0 (∀ W, Below w.heap.size w W → Calls Tryz.prog 31 #[.iface 83 v1, .int .i64 lv, .slice LA k lc] W fun e w' => e = .returned (.int .i64 ql) ∧ Below W.heap.size W w') := ⟨fun W hb => by rw [hql]; exact bchkL_calls W LA lc k L lv v1 o hk (bound_nn hwl) (by rw [hk]; exact Kd.C_below hrl hb) (hv1.kept hb)⟩
  have BE : Aside0 (∀ W, Below w.heap.size w W → Calls Tryz.prog 31 #[.iface 86 v2, .int .i64 ev, .slice EA m ec] W fun e w' => e = .returned (.int .i64 qe) ∧ Below W.heap.size W w') := ⟨fun W hb => by rw [hqe]; exact bchkE_calls W EA ec m E ev v2 p hm (bound_nn hwe) (by rw [hm]; exact Kd.C_below hre hb) (hv2.kept hb)⟩
  have HR := Aside0.mk hr
  have HWA := Aside0.mk hwa
  have HN := Aside0.mk hn
  have HQ := Aside0.mk (And.intro hqa (And.intro hql hqe))
  have HV := Aside0.mk (And.intro hv1 hv2)
  rw [← hn, ← hk, ← hm]
  obtain ⟨O, hO⟩ : ∃ O : Obj, O = .cells #[.int .i64 lv, .int .i64 ev, .slice A n c, .slice LA k lc, .slice EA m ec] 25 := ⟨_, rfl⟩
  have HB := Aside0.mk (below_alloc (Below.refl w.heap.size w) O)
  have g := blk_new w O
  subst hO
  have c0 := (blk_cell g 0).trans (show _ = some (Value.int .i64 lv) from rfl)
  have c1 := (blk_cell g 1).trans (show _ = some (Value.int .i64 ev) from rfl)
  have c2 := (blk_cell g 2).trans (show _ = some (Value.slice A n c) from rfl)
  have c3 := (blk_cell g 3).trans (show _ = some (Value.slice LA k lc) from rfl)
  have c4 := (blk_cell g 4).trans (show _ = some (Value.slice EA m ec) from rfl)
  clear g hr0 hr hwa hrl hwl hre hwe hqa hql hqe hn hk hm hv1 hv2
  by_cases q1 : qa = 0
  rotate_left
  · have z1 : (qa != 0) = true := bne_iff_ne.mpr q1
    have HE : Aside0 (r = qa) := ⟨by rw [HRE.out, if_pos q1]⟩
    clear HRE q1
    go_enter Tryz.func9, Tryz.ntmps9
    go_wp2_with (go_at_call 25; (with_reducible refine (CK.out _ HB.out).mono ?_); rintro e W' ⟨rfl, hb'⟩; replace c0 := pw_cell_below hb' c0; replace c1 := pw_cell_below hb' c1; replace c2 := pw_cell_below hb' c2; replace c3 := pw_cell_below hb' c3; replace c4 := pw_cell_below hb' c4; have HB' := Aside0.mk (below_step HB.out hb'); clear HB hb'; have HB := HB'; clear HB')
    go_ret
    rw [HE.out]
    exact ⟨rfl, HB.out⟩
  subst q1
  by_cases q1 : ql = 0
  rotate_left
  · have z1 : (ql != 0) = true := bne_iff_ne.mpr q1
    have HE : Aside0 (r = ql) := ⟨by rw [HRE.out, if_neg (by simp), if_pos q1]⟩
    clear HRE q1
    go_enter Tryz.func9, Tryz.ntmps9
    go_wp2_with (first | (go_at_call 25; (with_reducible refine (CK.out _ HB.out).mono ?_); rintro e W' ⟨rfl, hb'⟩; replace c0 := pw_cell_below hb' c0; replace c1 := pw_cell_below hb' c1; replace c2 := pw_cell_below hb' c2; replace c3 := pw_cell_below hb' c3; replace c4 := pw_cell_below hb' c4; have HB' := Aside0.mk (below_step HB.out hb'); clear HB hb'; have HB := HB'; clear HB') | (go_at_call 31; (with_reducible refine (BL.out _ HB.out).mono ?_); rintro e W' ⟨rfl, hb'⟩; replace c0 := pw_cell_below hb' c0; replace c1 := pw_cell_below hb' c1; replace c2 := pw_cell_below hb' c2; replace c3 := pw_cell_below hb' c3; replace c4 := pw_cell_below hb' c4; have HB' := Aside0.mk (below_step HB.out hb'); clear HB hb'; have HB := HB'; clear HB'))
    go_ret
    rw [HE.out]
    exact ⟨rfl, HB.out⟩
  subst q1
  by_cases q1 : qe = 0
  rotate_left
  · have z1 : (qe != 0) = true := bne_iff_ne.mpr q1
    have HE : Aside0 (r = qe) := ⟨by rw [HRE.out, if_neg (by simp), if_neg (by simp), if_pos q1]⟩
    clear HRE q1
    go_enter Tryz.func9, Tryz.ntmps9
    go_wp2_with (first | (go_at_call 25; (with_reducible refine (CK.out _ HB.out).mono ?_); rintro e W' ⟨rfl, hb'⟩; replace c0 := pw_cell_below hb' c0; replace c1 := pw_cell_below hb' c1; replace c2 := pw_cell_below hb' c2; replace c3 := pw_cell_below hb' c3; replace c4 := pw_cell_below hb' c4; have HB' := Aside0.mk (below_step HB.out hb'); clear HB hb'; have HB := HB'; clear HB') | (go_at_call 31; (with_reducible refine (BL.out _ HB.out).mono ?_); rintro e W' ⟨rfl, hb'⟩; replace c0 := pw_cell_below hb' c0; replace c1 := pw_cell_below hb' c1; replace c2 := pw_cell_below hb' c2; replace c3 := pw_cell_below hb' c3; replace c4 := pw_cell_below hb' c4; have HB' := Aside0.mk (below_step HB.out hb'); clear HB hb'; have HB := HB'; clear HB') | (go_at_call 31; (with_reducible refine (BE.out _ HB.out).mono ?_); rintro e W' ⟨rfl, hb'⟩; replace c0 := pw_cell_below hb' c0; replace c1 := pw_cell_below hb' c1; replace c2 := pw_cell_below hb' c2; replace c3 := pw_cell_below hb' c3; replace c4 := pw_cell_below hb' c4; have HB' := Aside0.mk (below_step HB.out hb'); clear HB hb'; have HB := HB'; clear HB'))
    go_ret
    rw [HE.out]
    exact ⟨rfl, HB.out⟩
  subst q1
  have HRE2 : Aside0 (r = if ((labB a).all (fun x => termOk (hasLat o) lv x.f3) && (effB a).all (fun x => termOk (hasEff p) ev x.f3)) = true then 0 else 1) := ⟨by rw [HRE.out, if_neg (by simp), if_neg (by simp), if_neg (by simp)]⟩
  obtain ⟨hl0, hl64, -⟩ := bounds_vars HQ.out.2.1.symm
  obtain ⟨he0, he64, -⟩ := bounds_vars HQ.out.2.2.symm
  obtain ⟨lv, rfl⟩ := Int.eq_ofNat_of_zero_le hl0
  obtain ⟨ev, rfl⟩ := Int.eq_ofNat_of_zero_le he0
  have hl64' : lv ≤ 64 := by omega
  have he64' : ev ≤ 64 := by omega
  clear HRE hl0 hl64 he0 he64
  go_enter Tryz.func9, Tryz.ntmps9
  go_wp2_with (first | (go_at_call 25; (with_reducible refine (CK.out _ HB.out).mono ?_); rintro e W' ⟨rfl, hb'⟩; replace c0 := pw_cell_below hb' c0; replace c1 := pw_cell_below hb' c1; replace c2 := pw_cell_below hb' c2; replace c3 := pw_cell_below hb' c3; replace c4 := pw_cell_below hb' c4; have HB' := Aside0.mk (below_step HB.out hb'); clear HB hb'; have HB := HB'; clear HB') | (go_at_call 31; (with_reducible refine (BL.out _ HB.out).mono ?_); rintro e W' ⟨rfl, hb'⟩; replace c0 := pw_cell_below hb' c0; replace c1 := pw_cell_below hb' c1; replace c2 := pw_cell_below hb' c2; replace c3 := pw_cell_below hb' c3; replace c4 := pw_cell_below hb' c4; have HB' := Aside0.mk (below_step HB.out hb'); clear HB hb'; have HB := HB'; clear HB') | (go_at_call 31; (with_reducible refine (BE.out _ HB.out).mono ?_); rintro e W' ⟨rfl, hb'⟩; replace c0 := pw_cell_below hb' c0; replace c1 := pw_cell_below hb' c1; replace c2 := pw_cell_below hb' c2; replace c3 := pw_cell_below hb' c3; replace c4 := pw_cell_below hb' c4; have HB' := Aside0.mk (below_step HB.out hb'); clear HB hb'; have HB := HB'; clear HB'))
  have OF := of_calls _ A c a (Kd.C_below HR.out HB.out)
  rw [← HN.out] at OF
  refine OF.mono ?_
  clear OF
  rintro e W1 ⟨u1, u2, rfl, s1, s2, hb'⟩
  obtain ⟨A1, d1, rfl⟩ := Kd.R_slice s1
  obtain ⟨A2, d2, rfl⟩ := Kd.R_slice s2
  obtain ⟨la, hla⟩ : ∃ l, l = labB a := ⟨_, rfl⟩
  obtain ⟨xa, hxa⟩ : ∃ l, l = effB a := ⟨_, rfl⟩
  have n1 : ∀ x ∈ la, 0 ≤ x.f3.f1 := by rw [hla]; exact labB_nonneg HWA.out
  have n2 : ∀ x ∈ xa, 0 ≤ x.f3.f1 := by rw [hxa]; exact effB_nonneg HWA.out
  have q1 : la.length ≤ 256 := by rw [hla]; exact labB_max a
  have q2 : xa.length ≤ 256 := by rw [hxa]; exact effB_max a
  replace s1 := (Kd.R_reads' s1).2.2
  replace s2 := (Kd.R_reads' s2).2.2
  rw [← hla] at s1 ⊢
  rw [← hxa] at s2 ⊢
  have HRE3 : Aside0 (r = if (la.all (fun x => termOk (hasLat o) lv x.f3) && xa.all (fun x => termOk (hasEff p) ev x.f3)) = true then 0 else 1) := ⟨by rw [HRE2.out, hla, hxa]⟩
  obtain ⟨K1, hK1⟩ : ∃ L, L = la.length := ⟨_, rfl⟩
  obtain ⟨K2, hK2⟩ : ∃ L, L = xa.length := ⟨_, rfl⟩
  rw [← hK1] at s1 q1 ⊢
  rw [← hK2] at s2 q2 ⊢
  have HK := Aside0.mk (And.intro hK1 hK2)
  have HNN := Aside0.mk (And.intro n1 n2)
  have HS := Aside0.mk (And.intro s1 s2)
  replace c0 := pw_cell_below hb' c0; replace c1 := pw_cell_below hb' c1; replace c2 := pw_cell_below hb' c2; replace c3 := pw_cell_below hb' c3; replace c4 := pw_cell_below hb' c4
  have HB' := Aside0.mk (below_step HB.out hb'); clear HB hb'; have HB := HB'; clear HB'
  have HVW := Aside0.mk (And.intro (HV.out.1.kept HB.out) (HV.out.2.kept HB.out))
  have HB1 := HB
  clear hla hxa n1 n2 s1 s2 hK1 hK2 HRE2 HB CK BL BE
  have HB := Aside0.mk (Below.refl W1.heap.size W1)
  obtain ⟨t1, ht1⟩ : ∃ t, t = la.all (fun x => termOk (hasLat o) lv x.f3) := ⟨_, rfl⟩
  obtain ⟨t2, ht2⟩ : ∃ t, t = xa.all (fun x => termOk (hasEff p) ev x.f3) := ⟨_, rfl⟩
  have HRE4 : r = if (t1 && t2) = true then 0 else 1 := by rw [HRE3.out, ht1, ht2]
  have T1 : Aside0 (∀ W b1 b2, Below W1.heap.size W1 W → W.cell? ⟨b1, 0, none⟩ = some (.iface 83 v1) → W.cell? ⟨b2, 0, none⟩ = some (.int .i64 (lv : Int)) → Calls Tryz.prog 35 #[.slice A1 K1 d1, .func (.func 34) #[] #[.pointer (some ⟨b1, 0, none⟩), .pointer (some ⟨b2, 0, none⟩)]] W fun e w' => e = .returned (.bool t1) ∧ Below W.heap.size W w') := ⟨fun W b1 b2 hb g1 g2 => by
    rw [ht1]
    exact everyC_calls W A1 d1 K1 la _ _ _ HK.out.1 (by omega) (Kd.C_below HS.out.1 hb) fun W2 hb2 x hx => chk11L_calls W2 b1 b2 x lv hl64' v1 o (HNN.out.1 x hx) (pw_cell_below hb2 g1) (pw_cell_below hb2 g2) ((HVW.out.1.kept hb).kept hb2)⟩
  have T2 : Aside0 (∀ W b1 b2, Below W1.heap.size W1 W → W.cell? ⟨b1, 0, none⟩ = some (.iface 86 v2) → W.cell? ⟨b2, 0, none⟩ = some (.int .i64 (ev : Int)) → Calls Tryz.prog 35 #[.slice A2 K2 d2, .func (.func 34) #[] #[.pointer (some ⟨b1, 0, none⟩), .pointer (some ⟨b2, 0, none⟩)]] W fun e w' => e = .returned (.bool t2) ∧ Below W.heap.size W w') := ⟨fun W b1 b2 hb g1 g2 => by
    rw [ht2]
    exact everyC_calls W A2 d2 K2 xa _ _ _ HK.out.2 (by omega) (Kd.C_below HS.out.2 hb) fun W2 hb2 x hx => chk11E_calls W2 b1 b2 x ev he64' v2 p (HNN.out.2 x hx) (pw_cell_below hb2 g1) (pw_cell_below hb2 g2) ((HVW.out.2.kept hb).kept hb2)⟩
  clear ht1 ht2 HRE3
  have HRE4 := Aside0.mk HRE4
  go_wp2_with fail
  refine (mayL_calls _ v1 _).mono ?_
  rintro e W2 ⟨b1, b2, rfl, g1, g2, hb'⟩
  replace c0 := pw_cell_below hb' c0; replace c1 := pw_cell_below hb' c1; replace c2 := pw_cell_below hb' c2; replace c3 := pw_cell_below hb' c3; replace c4 := pw_cell_below hb' c4
  have HB' := Aside0.mk (below_step HB.out hb'); clear HB hb'; have HB := HB'; clear HB'
  cases t1 with
  | false =>
    have HE : Aside0 (r = 1) := ⟨by rw [HRE4.out]; rfl⟩
    clear HRE4
    go_wp2_with (go_at_call 35; (with_reducible refine (T1.out _ _ _ HB.out g1 g2).mono ?_); rintro e W' ⟨rfl, hb'⟩; replace c0 := pw_cell_below hb' c0; replace c1 := pw_cell_below hb' c1; replace c2 := pw_cell_below hb' c2; replace c3 := pw_cell_below hb' c3; replace c4 := pw_cell_below hb' c4; have HB' := Aside0.mk (below_step HB.out hb'); clear HB hb'; have HB := HB'; clear HB')
    go_ret
    rw [HE.out]
    exact ⟨rfl, below_step HB1.out HB.out⟩
  | true =>
    go_wp2_with (go_at_call 35; (with_reducible refine (T1.out _ _ _ HB.out g1 g2).mono ?_); rintro e W' ⟨rfl, hb'⟩; replace c0 := pw_cell_below hb' c0; replace c1 := pw_cell_below hb' c1; replace c2 := pw_cell_below hb' c2; replace c3 := pw_cell_below hb' c3; replace c4 := pw_cell_below hb' c4; have HB' := Aside0.mk (below_step HB.out hb'); clear HB hb'; have HB := HB'; clear HB')
    refine (mayE_calls _ v2 _).mono ?_
    rintro e W3 ⟨b3, b4, rfl, g3, g4, hb'⟩
    replace c0 := pw_cell_below hb' c0; replace c1 := pw_cell_below hb' c1; replace c2 := pw_cell_below hb' c2; replace c3 := pw_cell_below hb' c3; replace c4 := pw_cell_below hb' c4
    have HB' := Aside0.mk (below_step HB.out hb'); clear HB hb'; have HB := HB'; clear HB'
    cases t2 with
    | false =>
      have HE : Aside0 (r = 1) := ⟨by rw [HRE4.out]; rfl⟩
      clear HRE4
      go_wp2_with (go_at_call 35; (with_reducible refine (T2.out _ _ _ HB.out g3 g4).mono ?_); rintro e W' ⟨rfl, hb'⟩; replace c0 := pw_cell_below hb' c0; replace c1 := pw_cell_below hb' c1; replace c2 := pw_cell_below hb' c2; replace c3 := pw_cell_below hb' c3; replace c4 := pw_cell_below hb' c4; have HB' := Aside0.mk (below_step HB.out hb'); clear HB hb'; have HB := HB'; clear HB')
      go_ret
      rw [HE.out]
      exact ⟨rfl, below_step HB1.out HB.out⟩
    | true =>
      have HE : Aside0 (r = 0) := ⟨by rw [HRE4.out]; rfl⟩
      clear HRE4
      go_wp2_with (go_at_call 35; (with_reducible refine (T2.out _ _ _ HB.out g3 g4).mono ?_); rintro e W' ⟨rfl, hb'⟩; replace c0 := pw_cell_below hb' c0; replace c1 := pw_cell_below hb' c1; replace c2 := pw_cell_below hb' c2; replace c3 := pw_cell_below hb' c3; replace c4 := pw_cell_below hb' c4; have HB' := Aside0.mk (below_step HB.out hb'); clear HB hb'; have HB := HB'; clear HB')
      go_ret
      rw [HE.out]
      exact ⟨rfl, below_step HB1.out HB.out⟩
end Go.Proofs.YtdecijmncpbheaaGreatDoor

namespace Go.Proofs.YtdecijmncpbheaaGreatDoor
open Go.RowKit Go.Shelf Go.Proofs.YtdecijmncpbheaaGreatDoorW.PrintWords Go.Proofs.YtdecijmncpbheaaGreatDoorW.PrintLast Go.Proofs.YtdecijmncpbheaaGreatDoorW.PrintMore
set_option linter.unusedVariables false
set_option linter.unusedSimpArgs false
namespace Tm
theorem info : (Tryz.prog.info? 100).map (fun i => (i.zero, i.size, i.bytes)) = some (some (.agg #[.bool false, .int .u64 0]), 2, 16) := by kernel_rfl
def termC (t : Term) : List Value := [.bool t.f0, .int .u64 t.f1]
theorem flat : Flat kTerm termC := fun w base ok x c => ⟨k100_openM, fun h => by subst h; exact k100_mkM w base ok x⟩
section
variable {e base n cap g : Nat} {W : World} {ok : Nat → Prop} {xs : List Term}
theorem put (h : kTerm.R e W base ok (.slice (some ⟨g, 0, none⟩) n cap) xs) (i : Nat) (hi : i < xs.length) (t : Term) :
    kTerm.R e ((W.setCell ⟨g, i * 2, none⟩ (.bool t.f0)).setCell ⟨g, i * 2 + 1, none⟩ (.int .u64 t.f1)) base ok (.slice (some ⟨g, 0, none⟩) n cap) (xs.set i t) := by
  have h3 := R_edit flat h i 0 hi (by decide) ⟨t.f0, xs[i].f1⟩ (.bool t.f0) (by simp [termC])
  have h4 := R_edit flat h3 i 1 (by simpa using hi) (by decide) t (.int .u64 t.f1) (by simp [termC])
  simp only [List.set_set] at h4
  exact h4
theorem cells (h : kTerm.R e W base ok (.slice (some ⟨g, 0, none⟩) n cap) xs) (i : Nat) (hi : i < xs.length) :
    W.cell? ⟨g, i * 2, none⟩ = some (.bool xs[i].f0) ∧ W.cell? ⟨g, i * 2 + 1, none⟩ = some (.int .u64 xs[i].f1) ∧ ∀ o, W.frozen? ⟨g, o, none⟩ = false := by
  obtain ⟨_, _, ev, _, _, cells, hgc⟩ := Kd.R_form h (by omega)
  cases ev
  obtain ⟨ad, e2, c0, c1⟩ := C_termN (Kd.R_reads' h).2.2 i hi
  cases e2
  rw [add_plain] at c0 c1
  simp only [Nat.zero_add] at c0 c1
  exact ⟨c0, c1, fun o => blk_frozen hgc o⟩
end
end Tm
end Go.Proofs.YtdecijmncpbheaaGreatDoor

namespace Go.Proofs.YtdecijmncpbheaaGreatDoor
open Go.RowKit Go.Proofs.YtdecijmncpbheaaGreatDoorW.PrintWords Go.Proofs.YtdecijmncpbheaaGreatDoorW.PrintLast Go.Proofs.YtdecijmncpbheaaGreatDoorW.PrintMore
set_option linter.unusedVariables false
set_option linter.unusedSimpArgs false
/-- Has a term's variable a value? What it is then. -/
def hasV (m : Nat) (t : Term) : Bool := !t.f0 || decide (t.f1 < (m : Int))
def ofV (vs : List Int) (t : Term) : Term := if t.f0 then ⟨false, rd vs t.f1⟩ else t
theorem has_calls' (w : World) (B : Option Addr) (m d : Nat) (x : Spot) (hm : m ≤ 9223372036854775807) : Calls Tryz.prog 36 #[.slice B m d, spotV x] w fun e w' => e = .returned (.bool (hasV m x.f3)) ∧ Below w.heap.size w w' := by
  obtain ⟨x0, x1, x2, ⟨t, v⟩⟩ := x
  have hw : IntKind.u64.wrap (m : Int) = (m : Int) := wrap_u64 _ (by omega) (by omega)
  have HB := Aside0.mk (below_alloc (Below.refl w.heap.size w) (.cells #[.int .i64 x0, .int .u8 x1, .int .u8 x2, .bool t, .int .u64 v] 102))
  simp only [spotV]
  cases t with
  | false =>
    have HE : Aside0 (hasV m ⟨false, v⟩ = true) := ⟨rfl⟩
    go_enter Tryz.func36, Tryz.ntmps36
    go_wp2
    go_ret
    rw [HE.out]
    exact ⟨rfl, HB.out⟩
  | true =>
    have HE : Aside0 (hasV m ⟨true, v⟩ = decide (v < (m : Int))) := ⟨rfl⟩
    go_enter Tryz.func36, Tryz.ntmps36
    go_wp2
    go_ret
    rw [HE.out]
    exact ⟨rfl, HB.out⟩
set_option maxRecDepth 100000 in
set_option maxHeartbeats 4000000 in
theorem of_calls' (w : World) (B : Option Addr) (m d : Nat) (vs : List Int) (x : Spot) (hm : m = vs.length) (hr : (Kd.int .u64).C w B m vs) (hx : 0 ≤ x.f3.f1) (hh : hasV m x.f3 = true) : Calls Tryz.prog 39 #[.slice B m d, spotV x] w fun e w' => e = .returned (.agg #[.bool (ofV vs x.f3).f0, .int .u64 (ofV vs x.f3).f1]) ∧ Below w.heap.size w w' := by
  obtain ⟨x0, x1, x2, ⟨t, v⟩⟩ := x
  have hmax : m ≤ 9223372036854775807 := hr.2.1
  simp only at hx hh
  obtain ⟨O, hO⟩ : ∃ O : Obj, O = .cells #[.int .i64 x0, .int .u8 x1, .int .u8 x2, .bool t, .int .u64 v] 102 := ⟨_, rfl⟩
  have HB := Aside0.mk (below_alloc (below_alloc (Below.refl w.heap.size w) O) (.cells #[.bool false, .int .u64 0] 100))
  have HR := Aside0.mk hr
  simp only [spotV]
  cases t with
  | false =>
    have HE : Aside0 ((ofV vs ⟨false, v⟩).f0 = false ∧ (ofV vs ⟨false, v⟩).f1 = v) := ⟨rfl, rfl⟩
    clear hh hr
    subst hO
    go_enter Tryz.func39, Tryz.ntmps39
    go_wp2
    refine bodyPost_ret (v := .agg #[.bool false, .int .u64 v]) ?_ rfl ⟨by rw [HE.out.1, HE.out.2], below_alloc (below_alloc (Below.refl _ _) _) _⟩
    simp [results, Tryz.f39, go_sem]
  | true =>
    obtain ⟨k, rfl⟩ := Int.eq_ofNat_of_zero_le hx
    have hk : k < m := by
      have : decide ((k : Int) < (m : Int)) = true := hh
      have := of_decide_eq_true this
      omega
    obtain ⟨ad, rfl, c0⟩ := C_rd (Kd.C_below HR.out HB.out) k hk
    obtain ⟨u, hu⟩ : ∃ u, u = rd vs (k : Int) := ⟨_, rfl⟩
    rw [← hu] at c0
    have HE : Aside0 ((ofV vs ⟨true, (k : Int)⟩).f0 = false ∧ (ofV vs ⟨true, (k : Int)⟩).f1 = u) := ⟨rfl, hu.symm⟩
    clear hh hu hr
    subst hO
    go_enter Tryz.func39, Tryz.ntmps39
    go_wp2
    refine bodyPost_ret (v := .agg #[.bool false, .int .u64 u]) ?_ rfl ⟨by rw [HE.out.1, HE.out.2], below_alloc (below_alloc (Below.refl _ _) _) _⟩
    simp [results, Tryz.f39, go_sem]
theorem each_step {α β : Type} (f : α → β) (z : β) (l : List α) (n k : Nat) (hl : l.length = n) (hk : k < n) (y : β) (hy : y = f (l[k]'(by omega))) : ((l.take k).map f ++ List.replicate (n - k) z).set k y = (l.take (k + 1)).map f ++ List.replicate (n - (k + 1)) z := by
  have h1 : ((l.take k).map f).length = k := by rw [List.length_map, List.length_take]; omega
  rw [List.set_append_right _ _ (by omega), h1, Nat.sub_self, show n - k = (n - (k + 1)) + 1 by omega, List.replicate_succ, List.set_cons_zero, List.take_succ_eq_append_getElem (by omega), List.map_append, List.map_singleton, hy, List.append_assoc, List.singleton_append]
def termZ : Term := ⟨false, 0⟩
set_option maxRecDepth 100000 in
set_option maxHeartbeats 8000000 in
theorem each_calls (w : World) (A : Option Addr) (c n : Nat) (l : List Spot) (B : Option Addr) (m d : Nat) (vs : List Int) (hn : n = l.length) (h3 : n ≤ 300) (hr : kSpot.C w A n l) (hm : m = vs.length) (hv : (Kd.int .u64).C w B m vs) (hx : ∀ x ∈ l, 0 ≤ x.f3.f1 ∧ hasV m x.f3 = true) :
    Calls Tryz.prog 38 #[.slice A n c, .func (.func 39) #[.slice B m d] #[]] w fun e w' => ∃ A5 c5, e = .returned (.slice A5 n c5) ∧ kTerm.R 100 w' w.heap.size (fun _ => True) (.slice A5 n c5) (l.map fun x => ofV vs x.f3) ∧ Below w.heap.size w w' := by
  have HR := Aside0.mk hr
  have HN := Aside0.mk hn
  have HV := Aside0.mk hv
  have HM := Aside0.mk hm
  have HX := Aside0.mk hx
  clear hr hn hv hm hx
  go_enter Tryz.func38, Tryz.ntmps38
  go_wp2_with (at_make; refine Kd.R_make kTerm w.heap.size 100 rfl rfl 109 _ _ rfl (n : Int) rfl rfl rfl (.agg #[.bool false, .int .u64 0]) 16 Tm.info rfl (by decide) (by decide) termZ (ok := fun _ => True) (okp := fun _ => True) (k100_mkM _ _ _ termZ) (fun _ _ => trivial) trivial (by omega) (by simp; omega) (Below.refl _ _) (Nat.le_refl _) ?_; intro v1 w1 hR hb hg hat; obtain ⟨A5, c5, rfl⟩ := Kd.R_slice hR; rw [List.length_replicate, Int.toNat_natCast] at hR ⊢; have HO := Aside0.mk hR; have HB := Aside0.mk hb; clear hR hb hg hat)
  go_loopg [13] (n + 1) (fun g i W => ∃ k : Nat, i = .int .i64 (k : Int) ∧ k ≤ n ∧ n + 1 - k ≤ g ∧ Aside0 (kTerm.R 100 W w.heap.size (fun _ => True) (.slice A5 n c5) ((l.take k).map (fun x => ofV vs x.f3) ++ List.replicate (n - k) termZ)) ∧ Aside0 (Below w.heap.size w W))
  case atStart => exact ⟨0, rfl, Nat.zero_le _, by omega, ⟨by simpa using HO.out⟩, HB⟩
  case round =>
    clear HO HB
    obtain ⟨k, rfl, hk, hkg, HO, HB⟩ := hrel
    rcases Nat.lt_or_ge k n with hlt | hge
    · have hd : decide (k < n) = true := decide_eq_true hlt
      have hkl : k < l.length := by rw [← HN.out]; exact hlt
      obtain ⟨ad, rfl, c0, c1, c2, c3, c4⟩ := C_spotN (by rw [← HN.out]; exact Kd.C_below HR.out HB.out) k hkl
      obtain ⟨x, hx⟩ : ∃ x, x = l[k] := ⟨_, rfl⟩
      rw [← hx] at c0 c1 c2 c3 c4
      have hxx := HX.out x (by rw [hx]; exact List.getElem_mem _)
      have HX0 := Aside0.mk hx
      obtain ⟨t, ht⟩ : ∃ t, t = ofV vs x.f3 := ⟨_, rfl⟩
      have HT := Aside0.mk ht
      have OC : Aside0 (∀ W, Below w.heap.size w W → Calls Tryz.prog 39 #[.slice B m d, .agg #[.int .i64 x.f0, .int .u8 x.f1, .int .u8 x.f2, .bool x.f3.f0, .int .u64 x.f3.f1]] W fun e w' => e = .returned (.agg #[.bool t.f0, .int .u64 t.f1]) ∧ Below W.heap.size W w') := ⟨fun W hb => by rw [ht]; exact of_calls' W B m d vs x HM.out (Kd.C_below HV.out hb) hxx.1 hxx.2⟩
      obtain ⟨g5, rfl⟩ := R_pos HO.out (by omega)
      have hgw : w.heap.size ≤ g5 := ((Kd.R_bound HO.out).1 g5 rfl).2.1
      obtain ⟨O, hO⟩ : ∃ O : Obj, O = .cells #[.int .i64 x.f0, .int .u8 x.f1, .int .u8 x.f2, .bool x.f3.f0, .int .u64 x.f3.f1] 102 := ⟨_, rfl⟩
      have HBo := Aside0.mk (below_alloc HB.out O)
      have HOo := Aside0.mk (Kd.R_below HO.out (below_alloc (Below.refl _ _) O))
      have hol : ((l.take k).map (fun x => ofV vs x.f3) ++ List.replicate (n - k) termZ).length = n := by rw [List.length_append, List.length_map, List.length_take, List.length_replicate]; have := HN.out; omega
      subst hO
      clear hx ht hxx HB HO
      go_wp2_with (go_at_call 39; (with_reducible refine (OC.out _ HBo.out).mono ?_); rintro e W1 ⟨rfl, hb1⟩; have HB1 := Aside0.mk (below_step HBo.out hb1); have HO1 := Aside0.mk (Kd.R_below HOo.out hb1); obtain ⟨p0, p1, pf⟩ := Tm.cells HO1.out k (by rw [hol]; exact hlt); clear hb1)
      go_roundg (gk - 1)
      case measure => omega
      case rel =>
        have h2 := Tm.put HO1.out k (by rw [hol]; exact hlt) t
        rw [each_step (fun x => ofV vs x.f3) termZ l n k HN.out.symm hlt t (by rw [HT.out, HX0.out])] at h2
        exact ⟨k + 1, by go_num, by omega, by omega, ⟨h2⟩, ⟨below_set (below_set HB1.out _ hgw) _ hgw⟩⟩
    · have hd : decide (k < n) = false := decide_eq_false (by omega)
      obtain rfl : k = n := by omega
      go_wp2
      go_ret
      refine ⟨A5, c5, rfl, ?_, HB.out⟩
      have := HO.out
      rwa [List.take_of_length_le (by rw [← HN.out]; exact Nat.le_refl _), Nat.sub_self, List.replicate_zero, List.append_nil] at this
/-- What schemes.Ground answers: the body, and the error. -/
def grounS (lv ev : Int) (a : List Node) (ls xs : List Int) : List Node × Int :=
  if checkB a ≠ 0 then ([], checkB a)
  else if (ls.length : Int) ≠ lv ∨ (xs.length : Int) ≠ ev ∨ ((labB a).all (fun x => hasV ls.length x.f3) && (effB a).all (fun x => hasV xs.length x.f3)) = false then ([], 1)
  else (putB a ((labB a).map fun x => ofV ls x.f3) ((effB a).map fun x => ofV xs x.f3), 0)
set_option maxRecDepth 100000 in
set_option maxHeartbeats 8000000 in
theorem groun_own (w : World) (y : SchY) (hy : y.ok w) (B1 B2 : Option Addr) (m1 m2 f1 f2 : Nat) (ls xs : List Int) (hm1 : m1 = ls.length) (hm2 : m2 = xs.length) (hl1 : (Kd.int .u64).C w B1 m1 ls) (hl2 : (Kd.int .u64).C w B2 m2 xs) :
    Calls Tryz.prog 10 #[y.v, .slice B1 m1 f1, .slice B2 m2 f2] w fun e w' => ∃ A' n' c', e = .returned (.tuple #[.slice A' n' c', .int .i64 (grounS y.lv y.ev y.body ls xs).2]) ∧ n' = (grounS y.lv y.ev y.body ls xs).1.length ∧ (∃ cc, c' ≤ cc ∧ kNode.R 119 w' w.heap.size (fun _ => True) (.slice A' n' cc) (grounS y.lv y.ev y.body ls xs).1) ∧ Below w.heap.size w w' := by
  obtain ⟨lv, ev, A, c, a, LA, lc, L, EA, ec, E⟩ := y
  obtain ⟨hr, hwa, -, -, -, -, -, -⟩ := hy
  simp only at hr hwa
  simp only [SchY.v]
  obtain ⟨r, hr0⟩ : ∃ r, r = grounS lv ev a ls xs := ⟨_, rfl⟩
  rw [← hr0]
  obtain ⟨qa, hqa⟩ : ∃ q, q = checkB a := ⟨_, rfl⟩
  have HRE0 : Aside0 (r = if qa ≠ 0 then ([], qa) else if (m1 : Int) ≠ lv ∨ (m2 : Int) ≠ ev ∨ ((labB a).all (fun x => hasV m1 x.f3) && (effB a).all (fun x => hasV m2 x.f3)) = false then ([], 1)
    else (putB a ((labB a).map fun x => ofV ls x.f3) ((effB a).map fun x => ofV xs x.f3), 0)) := ⟨by rw [hr0, grounS, hqa, hm1, hm2]⟩
  obtain ⟨n, hn⟩ : ∃ n, n = a.length := ⟨_, rfl⟩
  have CK : Aside0 (∀ W, Below w.heap.size w W → Calls Tryz.prog 25 #[.slice A n c] W fun e w' => e = .returned (.int .i64 qa) ∧ Below W.heap.size W w') := ⟨fun W hb => by rw [hqa, hn]; exact check_calls W A c a (Kd.C_below hr hb)⟩
  have HR := Aside0.mk hr
  have HWA := Aside0.mk hwa
  have HN := Aside0.mk hn
  have HQ := Aside0.mk hqa
  have HM := Aside0.mk (And.intro hm1 hm2)
  have HL := Aside0.mk (And.intro hl1 hl2)
  have x1 : m1 ≤ 9223372036854775807 := hl1.2.1
  have x2 : m2 ≤ 9223372036854775807 := hl2.2.1
  rw [← hn]
  obtain ⟨k, hk⟩ : ∃ n, n = L.length := ⟨_, rfl⟩
  obtain ⟨m, hm⟩ : ∃ n, n = E.length := ⟨_, rfl⟩
  rw [← hk, ← hm]
  obtain ⟨O, hO⟩ : ∃ O : Obj, O = .cells #[.int .i64 lv, .int .i64 ev, .slice A n c, .slice LA k lc, .slice EA m ec] 25 := ⟨_, rfl⟩
  have HB := Aside0.mk (below_alloc (Below.refl w.heap.size w) O)
  have g := blk_new w O
  subst hO
  have c0 := (blk_cell g 0).trans (show _ = some (Value.int .i64 lv) from rfl)
  have c1 := (blk_cell g 1).trans (show _ = some (Value.int .i64 ev) from rfl)
  have c2 := (blk_cell g 2).trans (show _ = some (Value.slice A n c) from rfl)
  clear g hr0 hr hwa hqa hn hk hm hm1 hm2 hl1 hl2
  by_cases q1 : qa = 0
  rotate_left
  · have z1 : (qa != 0) = true := bne_iff_ne.mpr q1
    have HE : Aside0 (r = ([], qa)) := ⟨by rw [HRE0.out, if_pos q1]⟩
    clear HRE0 q1
    go_enter Tryz.func10, Tryz.ntmps10
    go_wp2_with (go_at_call 25; (with_reducible refine (CK.out _ HB.out).mono ?_); rintro e W' ⟨rfl, hb'⟩; replace c0 := pw_cell_below hb' c0; replace c1 := pw_cell_below hb' c1; replace c2 := pw_cell_below hb' c2; have HB' := Aside0.mk (below_step HB.out hb'); clear HB hb'; have HB := HB'; clear HB')
    go_ret2
    rw [HE.out]
    exact ⟨none, 0, 0, rfl, rfl, ⟨0, Nat.le_refl _, Kd.R_nil _ _ _ _ _⟩, HB.out⟩
  subst q1
  go_enter Tryz.func10, Tryz.ntmps10
  go_wp2_with (go_at_call 25; (with_reducible refine (CK.out _ HB.out).mono ?_); rintro e W' ⟨rfl, hb'⟩; replace c0 := pw_cell_below hb' c0; replace c1 := pw_cell_below hb' c1; replace c2 := pw_cell_below hb' c2; have HB' := Aside0.mk (below_step HB.out hb'); clear HB hb'; have HB := HB'; clear HB')
  have OF := of_calls _ A c a (Kd.C_below HR.out HB.out)
  rw [← HN.out] at OF
  refine OF.mono ?_
  clear OF
  rintro e W1 ⟨u1, u2, rfl, s1, s2, hb'⟩
  obtain ⟨A1, d1, rfl⟩ := Kd.R_slice s1
  obtain ⟨A2, d2, rfl⟩ := Kd.R_slice s2
  obtain ⟨la, hla⟩ : ∃ l, l = labB a := ⟨_, rfl⟩
  obtain ⟨xa, hxa⟩ : ∃ l, l = effB a := ⟨_, rfl⟩
  have n1 : ∀ x ∈ la, 0 ≤ x.f3.f1 := by rw [hla]; exact labB_nonneg HWA.out
  have n2 : ∀ x ∈ xa, 0 ≤ x.f3.f1 := by rw [hxa]; exact effB_nonneg HWA.out
  have q1 : la.length ≤ 256 := by rw [hla]; exact labB_max a
  have q2 : xa.length ≤ 256 := by rw [hxa]; exact effB_max a
  replace s1 := (Kd.R_reads' s1).2.2
  replace s2 := (Kd.R_reads' s2).2.2
  rw [← hla] at s1 ⊢
  rw [← hxa] at s2 ⊢
  have HRE : Aside0 (r = if (m1 : Int) ≠ lv ∨ (m2 : Int) ≠ ev ∨ (la.all (fun x => hasV m1 x.f3) && xa.all (fun x => hasV m2 x.f3)) = false then ([], 1)
    else (putB a (la.map fun x => ofV ls x.f3) (xa.map fun x => ofV xs x.f3), 0)) := ⟨by rw [HRE0.out, if_neg (by simp), hla, hxa]⟩
  obtain ⟨K1, hK1⟩ : ∃ L, L = la.length := ⟨_, rfl⟩
  obtain ⟨K2, hK2⟩ : ∃ L, L = xa.length := ⟨_, rfl⟩
  rw [← hK1] at s1 q1 ⊢
  rw [← hK2] at s2 q2 ⊢
  have HK := Aside0.mk (And.intro hK1 hK2)
  have HLA := Aside0.mk (And.intro hla hxa)
  have HNN := Aside0.mk (And.intro n1 n2)
  have HS := Aside0.mk (And.intro s1 s2)
  replace c0 := pw_cell_below hb' c0; replace c1 := pw_cell_below hb' c1; replace c2 := pw_cell_below hb' c2
  have HB' := Aside0.mk (below_step HB.out hb'); clear HB hb'; have HB := HB'; clear HB'
  have HRW := Aside0.mk (Kd.C_below HR.out HB.out)
  have HLW := Aside0.mk (And.intro (Kd.C_below HL.out.1 HB.out) (Kd.C_below HL.out.2 HB.out))
  have HB1 := HB
  clear hla hxa n1 n2 s1 s2 hK1 hK2 HB CK HRE0
  have HB := Aside0.mk (Below.refl W1.heap.size W1)
  obtain ⟨t1, ht1⟩ : ∃ t, t = la.all (fun x => hasV m1 x.f3) := ⟨_, rfl⟩
  obtain ⟨t2, ht2⟩ : ∃ t, t = xa.all (fun x => hasV m2 x.f3) := ⟨_, rfl⟩
  have T1 : Aside0 (∀ W, Below W1.heap.size W1 W → Calls Tryz.prog 35 #[.slice A1 K1 d1, .func (.func 36) #[.slice B1 m1 f1] #[]] W fun e w' => e = .returned (.bool t1) ∧ Below W.heap.size W w') := ⟨fun W hb => by
    rw [ht1]
    exact everyH_calls W A1 d1 K1 la B1 m1 f1 _ HK.out.1 (by omega) (Kd.C_below HS.out.1 hb) fun W2 hb2 x hx => has_calls' W2 B1 m1 f1 x x1⟩
  have T2 : Aside0 (∀ W, Below W1.heap.size W1 W → Calls Tryz.prog 35 #[.slice A2 K2 d2, .func (.func 36) #[.slice B2 m2 f2] #[]] W fun e w' => e = .returned (.bool t2) ∧ Below W.heap.size W w') := ⟨fun W hb => by
    rw [ht2]
    exact everyH_calls W A2 d2 K2 xa B2 m2 f2 _ HK.out.2 (by omega) (Kd.C_below HS.out.2 hb) fun W2 hb2 x hx => has_calls' W2 B2 m2 f2 x x2⟩
  have HTT := Aside0.mk (And.intro ht1 ht2)
  clear ht1 ht2
  by_cases p1 : (m1 : Int) = lv
  rotate_left
  · have z1 : ((m1 : Int) != lv) = true := bne_iff_ne.mpr p1
    have HE : Aside0 (r = ([], 1)) := ⟨by rw [HRE.out, if_pos (.inl p1)]⟩
    clear HRE p1
    go_wp2_with (first | fail)
    go_ret2
    rw [HE.out]
    exact ⟨none, 0, 0, rfl, rfl, ⟨0, Nat.le_refl _, Kd.R_nil _ _ _ _ _⟩, below_step HB1.out HB.out⟩
  subst p1
  by_cases p1 : (m2 : Int) = ev
  rotate_left
  · have z1 : ((m2 : Int) != ev) = true := bne_iff_ne.mpr p1
    have HE : Aside0 (r = ([], 1)) := ⟨by rw [HRE.out, if_pos (.inr (.inl p1))]⟩
    clear HRE p1
    go_wp2_with (first | fail)
    go_ret2
    rw [HE.out]
    exact ⟨none, 0, 0, rfl, rfl, ⟨0, Nat.le_refl _, Kd.R_nil _ _ _ _ _⟩, below_step HB1.out HB.out⟩
  subst p1
  cases t1 with
  | false =>
    have HE : Aside0 (r = ([], 1)) := ⟨by rw [HRE.out, if_pos (.inr (.inr (by rw [← HTT.out.1]; rfl)))]⟩
    clear HRE
    go_wp2_with (first | (go_at_call 35; (with_reducible refine (T1.out _ HB.out).mono ?_); rintro e W' ⟨rfl, hb'⟩; replace c0 := pw_cell_below hb' c0; replace c1 := pw_cell_below hb' c1; replace c2 := pw_cell_below hb' c2; have HB' := Aside0.mk (below_step HB.out hb'); clear HB hb'; have HB := HB'; clear HB'))
    go_ret2
    rw [HE.out]
    exact ⟨none, 0, 0, rfl, rfl, ⟨0, Nat.le_refl _, Kd.R_nil _ _ _ _ _⟩, below_step HB1.out HB.out⟩
  | true =>
  cases t2 with
  | false =>
    have HE : Aside0 (r = ([], 1)) := ⟨by rw [HRE.out, if_pos (.inr (.inr (by rw [← HTT.out.2, Bool.and_false])))]⟩
    clear HRE
    go_wp2_with (first | (go_at_call 35; (with_reducible refine (T1.out _ HB.out).mono ?_); rintro e W' ⟨rfl, hb'⟩; replace c0 := pw_cell_below hb' c0; replace c1 := pw_cell_below hb' c1; replace c2 := pw_cell_below hb' c2; have HB' := Aside0.mk (below_step HB.out hb'); clear HB hb'; have HB := HB'; clear HB') | (go_at_call 35; (with_reducible refine (T2.out _ HB.out).mono ?_); rintro e W' ⟨rfl, hb'⟩; replace c0 := pw_cell_below hb' c0; replace c1 := pw_cell_below hb' c1; replace c2 := pw_cell_below hb' c2; have HB' := Aside0.mk (below_step HB.out hb'); clear HB hb'; have HB := HB'; clear HB'))
    go_ret2
    rw [HE.out]
    exact ⟨none, 0, 0, rfl, rfl, ⟨0, Nat.le_refl _, Kd.R_nil _ _ _ _ _⟩, below_step HB1.out HB.out⟩
  | true =>
  obtain ⟨T1s, hT1⟩ : ∃ l, l = la.map fun x => ofV ls x.f3 := ⟨_, rfl⟩
  obtain ⟨T2s, hT2⟩ : ∃ l, l = xa.map fun x => ofV xs x.f3 := ⟨_, rfl⟩
  have HE : Aside0 (r = (putB a T1s T2s, 0)) := ⟨by rw [HRE.out, if_neg (by rw [← HTT.out.1, ← HTT.out.2]; simp), hT1, hT2]⟩
  have hz : checkB a = 0 := HQ.out.symm
  have lt1 : K1 = T1s.length := by rw [hT1, List.length_map]; exact HK.out.1
  have lt2 : K2 = T2s.length := by rw [hT2, List.length_map]; exact HK.out.2
  have hpos : 0 < n := by rw [HN.out]; exact (checkB_L hz).1
  obtain ⟨ad, rfl, -⟩ := C_nodeN HRW.out 0 (by rw [← HN.out]; exact hpos)
  have E1 : Aside0 (∀ W, Below W1.heap.size W1 W → Calls Tryz.prog 38 #[.slice A1 K1 d1, .func (.func 39) #[.slice B1 m1 f1] #[]] W fun e w' => ∃ A5 c5, e = .returned (.slice A5 K1 c5) ∧ kTerm.C w' A5 K1 T1s ∧ Below W.heap.size W w') := ⟨fun W hb => by
    refine (each_calls W A1 d1 K1 la B1 m1 f1 ls HK.out.1 (by omega) (Kd.C_below HS.out.1 hb) HM.out.1 (Kd.C_below HLW.out.1 hb) (fun x hx => ⟨HNN.out.1 x hx, List.all_eq_true.1 HTT.out.1.symm x hx⟩)).mono ?_
    rintro e w' ⟨A5, c5, rfl, r5, hb'⟩
    have := (Kd.R_reads' r5).2.2
    rw [← hT1, ← lt1] at this
    exact ⟨A5, c5, rfl, this, hb'⟩⟩
  have E2 : Aside0 (∀ W, Below W1.heap.size W1 W → Calls Tryz.prog 38 #[.slice A2 K2 d2, .func (.func 39) #[.slice B2 m2 f2] #[]] W fun e w' => ∃ A5 c5, e = .returned (.slice A5 K2 c5) ∧ kTerm.C w' A5 K2 T2s ∧ Below W.heap.size W w') := ⟨fun W hb => by
    refine (each_calls W A2 d2 K2 xa B2 m2 f2 xs HK.out.2 (by omega) (Kd.C_below HS.out.2 hb) HM.out.2 (Kd.C_below HLW.out.2 hb) (fun x hx => ⟨HNN.out.2 x hx, List.all_eq_true.1 HTT.out.2.symm x hx⟩)).mono ?_
    rintro e w' ⟨A5, c5, rfl, r5, hb'⟩
    have := (Kd.R_reads' r5).2.2
    rw [← hT2, ← lt2] at this
    exact ⟨A5, c5, rfl, this, hb'⟩⟩
  have PU : Aside0 (∀ W A5 c5 A6 c6, Below W1.heap.size W1 W → kTerm.C W A5 K1 T1s → kTerm.C W A6 K2 T2s → Calls Tryz.prog 37 #[.slice (some ad) n c, .slice A5 K1 c5, .slice A6 K2 c6] W fun e w' => ∃ g, e = .returned (.tuple #[.slice (some ⟨g, 0, none⟩) n n, .int .i64 0]) ∧ (∃ cc, n ≤ cc ∧ kNode.R 119 w' W.heap.size (fun _ => True) (.slice (some ⟨g, 0, none⟩) n cc) (putB a T1s T2s)) ∧ Below W.heap.size W w') := ⟨fun W A5 c5 A6 c6 hb k5 k6 => by
    refine (put_ok W ad c n a HN.out (Kd.C_below HRW.out hb) A5 A6 c5 c6 K1 K2 T1s T2s (by rw [← lt1]; exact k5) (by rw [← lt2]; exact k6) hz (by rw [HK.out.1, HLA.out.1, HN.out, ← labP_all hz, List.length_map]) (by rw [HK.out.2, HLA.out.2, HN.out, ← effP_all hz, List.length_map]) lt1 lt2).mono ?_
    rintro e w' ⟨g, c7, rfl, r7, hb'⟩
    exact ⟨g, rfl, ⟨c7, (Kd.R_reads' r7).2.1, r7⟩, hb'⟩⟩
  have HLN : Aside0 (n = (putB a T1s T2s).length) := ⟨by rw [← baseL_len (putB_base a T1s T2s)]; exact HN.out⟩
  clear HRE hT1 hT2 hz lt1 lt2 hpos
  go_wp2_with (first | (go_at_call 35; (with_reducible refine (T1.out _ HB.out).mono ?_); rintro e W' ⟨rfl, hb'⟩; replace c0 := pw_cell_below hb' c0; replace c1 := pw_cell_below hb' c1; replace c2 := pw_cell_below hb' c2; have HB' := Aside0.mk (below_step HB.out hb'); clear HB hb'; have HB := HB'; clear HB') | (go_at_call 35; (with_reducible refine (T2.out _ HB.out).mono ?_); rintro e W' ⟨rfl, hb'⟩; replace c0 := pw_cell_below hb' c0; replace c1 := pw_cell_below hb' c1; replace c2 := pw_cell_below hb' c2; have HB' := Aside0.mk (below_step HB.out hb'); clear HB hb'; have HB := HB'; clear HB'))
  have HB' := Aside0.mk HB.out.drew
  clear HB
  have HB := HB'
  clear HB'
  go_region_with (first | (go_at_call 37; (with_reducible refine (PU.out _ _ _ _ _ HB.out k5 k6).mono ?_); rintro e W' ⟨g, rfl, ⟨cc, kcc, k7⟩, hb'⟩; replace k7 := Kd.R_lower k7 (Nat.le_trans HB1.out.size HB.out.size); have HB' := Aside0.mk (below_step HB.out hb'); clear HB hb'; have HB := HB'; clear HB'; clear k5 k6) | (go_at_call 38; (with_reducible refine (E1.out _ HB.out).mono ?_); rintro e W' ⟨A5, c5, rfl, k5, hb'⟩; (try replace k6 := Kd.C_below k6 hb'); replace c0 := pw_cell_below hb' c0; replace c1 := pw_cell_below hb' c1; replace c2 := pw_cell_below hb' c2; have HB' := Aside0.mk (below_step HB.out hb'); clear HB hb'; have HB := HB'; clear HB') | (go_at_call 38; (with_reducible refine (E2.out _ HB.out).mono ?_); rintro e W' ⟨A6, c6, rfl, k6, hb'⟩; (try replace k5 := Kd.C_below k5 hb'); replace c0 := pw_cell_below hb' c0; replace c1 := pw_cell_below hb' c1; replace c2 := pw_cell_below hb' c2; have HB' := Aside0.mk (below_step HB.out hb'); clear HB hb'; have HB := HB'; clear HB'))
  all_goals
    go_wp2
    go_ret2
    rw [HE.out]
    exact ⟨_, _, _, rfl, HLN.out, ⟨cc, kcc, k7⟩, below_step HB1.out HB.out⟩
end Go.Proofs.YtdecijmncpbheaaGreatDoor

namespace Go.Proofs.YtdecijmncpbheaaGreatDoor
open Go.RowKit Go.Proofs.YtdecijmncpbheaaGreatDoorW.PrintWords Go.Proofs.YtdecijmncpbheaaGreatDoorW.PrintLast Go.Proofs.YtdecijmncpbheaaGreatDoorW.PrintMore
set_option linter.unusedVariables false
set_option linter.unusedSimpArgs false
namespace L12
section
variable {hasL hasX : Int → Bool}
end
end L12
end Go.Proofs.YtdecijmncpbheaaGreatDoor

namespace Go.Proofs.YtdecijmncpbheaaGreatDoor
open Go.RowKit Go.Proofs.YtdecijmncpbheaaGreatDoorW.PrintWords Go.Proofs.YtdecijmncpbheaaGreatDoorW.PrintLast Go.Proofs.YtdecijmncpbheaaGreatDoorW.PrintMore
set_option linter.unusedVariables false
set_option linter.unusedSimpArgs false
namespace L12
section
variable {hasL hasX : Int → Bool}
end
end L12
end Go.Proofs.YtdecijmncpbheaaGreatDoor
