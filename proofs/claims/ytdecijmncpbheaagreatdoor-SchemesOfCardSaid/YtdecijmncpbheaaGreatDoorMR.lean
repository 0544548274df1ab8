
/- Several texts as one: R9, R10, R10b, R12. -/
import Derived.Test.YtdecijmncpbheaaGreatDoorM4
import Derived.Test.YtdecijmncpbheaaGreatDoorM8
import Derived.Test.YtdecijmncpbheaaGreatDoorMU
import Derived.Test.YtdecijmncpbheaaGreatDoorM9
import Derived.Test.YtdecijmncpbheaaGreatDoorMS
import Derived.Test.YtdecijmncpbheaaGreatDoorMQ
import Derived.Deep.RegionWith

namespace Go.Proofs.YtdecijmncpbheaaGreatDoor
open Go.RowKit Go.Proofs.YtdecijmncpbheaaGreatDoorW.PrintWords Go.Proofs.YtdecijmncpbheaaGreatDoorW.PrintLast Go.Proofs.YtdecijmncpbheaaGreatDoorW.PrintMore
set_option linter.unusedVariables false
set_option linter.unusedSimpArgs false
namespace Ref09
theorem or_less (a t : Int) (ha : 0 ≤ a ∧ a < 2 ^ 64) (ht : 0 ≤ t ∧ t < 2 ^ 64) : (bits .or .u64 a t == t) = (lessI a t == 0) := by
  rw [Bool.eq_iff_iff, beq_iff_eq, beq_iff_eq, lessI_zero a t ha.1 ha.2 ht.1 ht.2]
  obtain ⟨x, rfl⟩ := Int.eq_ofNat_of_zero_le ha.1
  obtain ⟨y, rfl⟩ := Int.eq_ofNat_of_zero_le ht.1
  rw [bits_or_u64_nat x y (by omega) (by omega)]
  simp only [Int.toNat_natCast]
  constructor
  · intro h j hj
    have h' : x ||| y = y := by exact_mod_cast h
    rw [← h', Nat.testBit_or, hj]; rfl
  · intro h
    have : x ||| y = y := by
      apply Nat.eq_of_testBit_eq
      intro j
      rw [Nat.testBit_or]
      cases hj : x.testBit j with
      | false => simp
      | true => rw [h j hj]; rfl
    rw [this]
theorem top_step (k : Nat) (h : k < 64) : bits .or .u64 ((2 : Int) ^ k - 1) (IntKind.u64.wrap (2 ^ k)) = 2 ^ (k + 1) - 1 := by
  have hp : 2 ^ k < 2 ^ 64 := Nat.pow_lt_pow_right (by decide) h
  have h1 : 1 ≤ 2 ^ k := Nat.one_le_two_pow
  rw [wrap_u64 _ (by exact_mod_cast Nat.zero_le _) (by exact_mod_cast hp)]
  have e1 : (2 : Int) ^ k - 1 = ((2 ^ k - 1 : Nat) : Int) := by rw [Int.ofNat_sub h1]; simp
  have e2 : (2 : Int) ^ k = ((2 ^ k : Nat) : Int) := by simp
  rw [e1, e2, bits_or_u64_nat _ _ (by omega) (by omega)]
  have e3 : (2 ^ k - 1) ||| 2 ^ k = 2 ^ (k + 1) - 1 := by
    apply Nat.eq_of_testBit_eq
    intro j
    rw [Nat.testBit_or, Nat.testBit_two_pow_sub_one, Nat.testBit_two_pow, Nat.testBit_two_pow_sub_one]
    rw [Bool.eq_iff_iff]
    simp
    omega
  rw [e3, Int.ofNat_sub (Nat.one_le_two_pow)]
  simp
set_option maxRecDepth 100000 in
set_option maxHeartbeats 4000000 in
theorem top6_calls (w : World) (n : Nat) (h64 : n ≤ 64) : Calls Tryz.prog 209 #[.int .i64 (n : Int)] w fun e w' => e = .returned (.int .u64 (2 ^ n - 1)) ∧ w = w' := by
  go_enter Tryz.func209, Tryz.ntmps209
  go_wp2
  go_loopg [3, 4] (n + 1) (fun g s i W => ∃ (k : Nat) (t : Int), i = .int .i64 (k : Int) ∧ s = .int .u64 t ∧ W = w ∧ k ≤ n ∧ n + 1 - k ≤ g ∧ Aside0 (t = 2 ^ k - 1))
  case atStart => exact ⟨0, 0, rfl, rfl, rfl, by omega, by omega, ⟨rfl⟩⟩
  case round =>
    obtain ⟨k, t, rfl, rfl, hW, hk, hkg, HT⟩ := hrel
    have hW2 := hW.symm; clear hW; subst hW2
    rcases Nat.lt_or_ge k n with hlt | hge
    · have hd : decide (k < n) = true := decide_eq_true hlt
      have hk63 : k < 64 := by omega
      go_wp2
      go_roundg (gk - 1)
      case measure => omega
      case rel => exact ⟨k + 1, _, by go_num, rfl, rfl, by omega, by omega, ⟨by rw [HT.out]; first | exact top_step k hk63 | (rw [Int.one_mul]; exact top_step k hk63)⟩⟩
    · have hd : decide (k < n) = false := decide_eq_false (by omega)
      obtain rfl : k = n := by omega
      go_wp2
      go_ret
      rw [HT.out]
      exact ⟨rfl, rfl⟩
theorem pow_u64 (n : Nat) (h : n ≤ 64) : 0 ≤ (2 : Int) ^ n - 1 ∧ (2 : Int) ^ n - 1 < 2 ^ 64 := by
  have hp : (2 : Int) ^ n ≤ 2 ^ 64 := by exact_mod_cast Nat.pow_le_pow_right (n := 2) (by decide) h
  have h1 : (1 : Int) ≤ 2 ^ n := by exact_mod_cast Nat.one_le_two_pow
  omega
theorem effO_nat (n : Nat) (h : n ≤ 64) : effO (n : Int) = some (2 ^ n - 1) := by rw [effO, if_neg (by omega), Int.toNat_natCast]
set_option maxRecDepth 100000 in
set_option maxHeartbeats 4000000 in
theorem has6_calls (w : World) (n : Nat) (h64 : n ≤ 64) (a : Int) (ha : 0 ≤ a ∧ a < 2 ^ 64) : Calls Tryz.prog 178 #[.int .i64 (n : Int), .int .u64 a] w fun e w' => e = .returned (.bool (hasEff (effO n) a)) ∧ w = w' := by
  have HE : Aside0 (hasEff (effO n) a = (bits .or .u64 a (2 ^ n - 1) == 2 ^ n - 1)) := ⟨by rw [effO_nat n h64, or_less a _ ha (pow_u64 n h64)]; rfl⟩
  clear ha
  obtain ⟨t, ht⟩ : ∃ t : Int, t = 2 ^ n - 1 := ⟨_, rfl⟩
  have HT : Aside0 (∀ W, Calls Tryz.prog 209 #[.int .i64 (n : Int)] W fun e w' => e = .returned (.int .u64 t) ∧ W = w') := ⟨fun W => by rw [ht]; exact top6_calls W n h64⟩
  rw [← ht] at HE
  clear ht
  rw [HE.out]
  clear HE
  go_enter Tryz.func178, Tryz.ntmps178
  go_wp2_with (go_at_call 209; (with_reducible refine (HT.out _).mono ?_); rintro e W1 ⟨rfl, rfl⟩)
  go_ret
  exact ⟨rfl, rfl⟩
end Ref09
end Go.Proofs.YtdecijmncpbheaaGreatDoor

namespace Go.Proofs.YtdecijmncpbheaaGreatDoor
open Go.RowKit Go.Proofs.YtdecijmncpbheaaGreatDoorW.PrintWords Go.Proofs.YtdecijmncpbheaaGreatDoorW.PrintLast Go.Proofs.YtdecijmncpbheaaGreatDoorW.PrintMore
set_option linter.unusedVariables false
set_option linter.unusedSimpArgs false
namespace Ref10
/-- A sort's value, and what it has. -/
def SortR (v : Value) (has : Int → Bool) : Prop := ∃ (o m : Int) (A : Option Addr) (n c : Nat), v = .agg #[.int .i64 o, .slice A n c, .int .i64 m] ∧ n ≤ 9223372036854775807 ∧
  ((o = 0 ∧ ∀ a, has a = false) ∨ (o = 1 ∧ ∀ a, has a = decide (a < (n : Int))) ∨ (o = 2 ∧ ∃ k : Nat, m = (k : Int) ∧ k ≤ 64 ∧ ∀ a, has a = hasEff (effO (k : Int)) a))
set_option maxRecDepth 100000 in
set_option maxHeartbeats 4000000 in
theorem has5_calls (w : World) (A : Option Addr) (n c : Nat) (a : Int) (hn : n ≤ 9223372036854775807) (ha : 0 ≤ a) : Calls Tryz.prog 177 #[.slice A n c, .int .u64 a] w fun e w' => e = .returned (.bool (decide (a < (n : Int)))) ∧ w = w' := by
  have hw : IntKind.u64.wrap (n : Int) = (n : Int) := wrap_u64 _ (by omega) (by omega)
  go_enter Tryz.func177, Tryz.ntmps177
  go_wp2
  go_ret
  exact ⟨rfl, rfl⟩
set_option maxRecDepth 100000 in
set_option maxHeartbeats 4000000 in
theorem has10_calls (w : World) (v : Value) (has : Int → Bool) (a : Int) (ha : 0 ≤ a ∧ a < 2 ^ 64) (hv : SortR v has) : Calls Tryz.prog 114 #[v, .int .u64 a] w fun e w' => e = .returned (.bool (has a)) ∧ Below w.heap.size w w' := by
  obtain ⟨o, m, A, n, c, rfl, hn, h⟩ := hv
  obtain ⟨O, hO⟩ : ∃ O : Obj, O = .cells #[.int .i64 o, .slice A n c, .int .i64 m] 44 := ⟨_, rfl⟩
  have HB := Aside0.mk (below_alloc (Below.refl w.heap.size w) O)
  have g := blk_new w O
  subst hO
  have c0 := (blk_cell g 0).trans (show _ = some (Value.int .i64 o) from rfl)
  have c1 := (blk_cell g 1).trans (show _ = some (Value.slice A n c) from rfl)
  have c2 := (blk_cell g 2).trans (show _ = some (Value.int .i64 m) from rfl)
  clear g
  rcases h with ⟨rfl, h⟩ | ⟨rfl, h⟩ | ⟨rfl, k, rfl, hk, h⟩
  · have HE := Aside0.mk (h a)
    clear h
    rw [HE.out]
    go_enter Tryz.func114, Tryz.ntmps114
    go_wp2
    go_ret
    exact ⟨rfl, HB.out⟩
  · have HE := Aside0.mk (h a)
    clear h
    rw [HE.out]
    have HC := Aside0.mk (fun W => has5_calls W A n c a hn ha.1)
    obtain ⟨r, hr⟩ : ∃ r, r = decide (a < (n : Int)) := ⟨_, rfl⟩
    rw [← hr] at HC ⊢
    clear hr HE ha
    cases r with
    | true =>
      go_enter Tryz.func114, Tryz.ntmps114
      go_wp2_with (go_at_call 177; (with_reducible refine (HC.out _).mono ?_); rintro e W1 ⟨rfl, rfl⟩)
      go_ret
      exact ⟨rfl, HB.out⟩
    | false =>
      go_enter Tryz.func114, Tryz.ntmps114
      go_wp2_with (go_at_call 177; (with_reducible refine (HC.out _).mono ?_); rintro e W1 ⟨rfl, rfl⟩)
      go_ret
      exact ⟨rfl, HB.out⟩
  · have HE := Aside0.mk (h a)
    clear h
    rw [HE.out]
    have HC := Aside0.mk (fun W => Ref09.has6_calls W k hk a ha)
    obtain ⟨r, hr⟩ : ∃ r, r = hasEff (effO (k : Int)) a := ⟨_, rfl⟩
    rw [← hr] at HC ⊢
    clear hr HE ha
    go_enter Tryz.func114, Tryz.ntmps114
    go_wp2_with (go_at_call 178; (with_reducible refine (HC.out _).mono ?_); rintro e W1 ⟨rfl, rfl⟩)
    go_ret
    exact ⟨rfl, HB.out⟩
set_option maxRecDepth 100000 in
set_option maxHeartbeats 4000000 in
theorem term10_calls (w : World) (v : Value) (has : Int → Bool) (vars : Int) (hvars : (Lit.int .i64 vars).wf = true) (t : Term) (ht : 0 ≤ t.f1 ∧ t.f1 < 2 ^ 64) (hv : SortR v has) : Calls Tryz.prog 45 #[v, .int .i64 vars, .agg #[.bool t.f0, .int .u64 t.f1]] w fun e w' => e = .returned (.bool (termOk has vars t)) ∧ Below w.heap.size w w' := by
  have HH := Aside0.mk (fun W => has10_calls W v has t.f1 ht hv)
  have hvv : ∃ cs, v = .agg cs := by obtain ⟨o, m, A, n, c, rfl, -⟩ := hv; exact ⟨_, rfl⟩
  obtain ⟨o, m, A, n, c, rfl, -⟩ := hv
  obtain ⟨t0, t1⟩ := t
  simp only at HH ht ⊢
  have HB := Aside0.mk (below_alloc (below_alloc (Below.refl w.heap.size w) (.cells #[.int .i64 o, .slice A n c, .int .i64 m] 44)) (.cells #[.bool t0, .int .u64 t1] 100))
  have hvr := wf_i64 hvars
  clear hvars hvv
  cases t0 with
  | true =>
    have HE : Aside0 (termOk has vars ⟨true, t1⟩ = decide (t1 < vars)) := ⟨rfl⟩
    rw [HE.out]
    clear HE HH
    rcases Int.lt_or_le 0 vars with h0 | h0
    · have d0 : decide (0 < vars) = true := decide_eq_true h0
      have hw : IntKind.u64.wrap vars = vars := wrap_u64 _ (by omega) (by omega)
      clear h0
      go_enter Tryz.func45, Tryz.ntmps45
      go_wp2
      go_ret
      exact ⟨rfl, HB.out⟩
    · have d0 : decide (0 < vars) = false := decide_eq_false (by omega)
      have HE : Aside0 (decide (t1 < vars) = false) := ⟨decide_eq_false (by omega)⟩
      rw [HE.out]
      clear h0 HE
      go_enter Tryz.func45, Tryz.ntmps45
      go_wp2
      go_ret
      exact ⟨rfl, HB.out⟩
  | false =>
    have HE : Aside0 (termOk has vars ⟨false, t1⟩ = has t1) := ⟨rfl⟩
    rw [HE.out]
    clear HE ht hvr
    go_enter Tryz.func45, Tryz.ntmps45
    go_wp2_with (go_at_call 114; (with_reducible refine (HH.out _).mono ?_); rintro e W1 ⟨rfl, hb⟩; have HB1 := Aside0.mk (below_step HB.out hb); clear hb)
    go_ret
    exact ⟨rfl, HB1.out⟩
set_option maxRecDepth 100000 in
set_option maxHeartbeats 8000000 in
theorem check10_calls (w : World) (v : Value) (has : Int → Bool) (vars : Int) (hvars : (Lit.int .i64 vars).wf = true) (A : Option Addr) (n c : Nat) (l : List Bound) (hn : n = l.length) (hu : ∀ b ∈ l, (0 ≤ b.f0.f1 ∧ b.f0.f1 < 2 ^ 64) ∧ (0 ≤ b.f1.f1 ∧ b.f1.f1 < 2 ^ 64)) (hr : kBound.C w A n l) (hv : SortR v has) : Calls Tryz.prog 44 #[v, .int .i64 vars, .slice A n c] w fun e w' => e = .returned (.int .i64 (boundsB has vars l)) ∧ Below w.heap.size w w' := by
  have hmax : n ≤ 9223372036854775807 := hr.2.1
  have HTM : Aside0 (∀ (t : Term), (0 ≤ t.f1 ∧ t.f1 < 2 ^ 64) → ∀ W, Calls Tryz.prog 45 #[v, .int .i64 vars, .agg #[.bool t.f0, .int .u64 t.f1]] W fun e w' => e = .returned (.bool (termOk has vars t)) ∧ Below W.heap.size W w') := ⟨fun t ht W => term10_calls W v has vars hvars t ht hv⟩
  obtain ⟨o, m, B, q, d, rfl, -⟩ := hv
  obtain ⟨O, hO⟩ : ∃ O : Obj, O = .cells #[.int .i64 o, .slice B q d, .int .i64 m] 44 := ⟨_, rfl⟩
  have HB := Aside0.mk (below_alloc (Below.refl w.heap.size w) O)
  have HG := Aside0.mk (blk_new w O)
  obtain ⟨r, hr0⟩ : ∃ r, r = boundsB has vars l := ⟨_, rfl⟩
  rw [← hr0]
  have HRE : Aside0 (r = if vars < 0 ∨ 64 < vars ∨ 256 < n then 3 else if (l.all fun b => termOk has vars b.f0 && termOk has vars b.f1) = true then 0 else 1) := ⟨by rw [hr0, boundsB, hn]⟩
  have HN := Aside0.mk hn
  have HU := Aside0.mk hu
  have HR := Aside0.mk (Kd.C_below hr HB.out)
  clear hn hu hr hr0 hvars
  by_cases h1 : vars < 0
  · have z1 : decide (vars < 0) = true := decide_eq_true h1
    have HE : Aside0 (r = 3) := ⟨by rw [HRE.out, if_pos (.inl h1)]⟩
    clear HRE h1 HG
    subst hO
    go_enter Tryz.func44, Tryz.ntmps44
    go_wp2
    go_ret
    rw [HE.out]
    exact ⟨rfl, HB.out⟩
  have z1 : decide (vars < 0) = false := decide_eq_false h1
  by_cases h2 : 64 < vars
  · have z2 : decide (64 < vars) = true := decide_eq_true h2
    have HE : Aside0 (r = 3) := ⟨by rw [HRE.out, if_pos (.inr (.inl h2))]⟩
    clear HRE h1 h2 HG
    subst hO
    go_enter Tryz.func44, Tryz.ntmps44
    go_wp2
    go_ret
    rw [HE.out]
    exact ⟨rfl, HB.out⟩
  have z2 : decide (64 < vars) = false := decide_eq_false h2
  by_cases h3 : 256 < n
  · have z3 : decide (256 < (n : Int)) = true := decide_eq_true (by omega)
    have HE : Aside0 (r = 3) := ⟨by rw [HRE.out, if_pos (.inr (.inr h3))]⟩
    clear HRE h1 h2 h3 HG
    subst hO
    go_enter Tryz.func44, Tryz.ntmps44
    go_wp2
    go_ret
    rw [HE.out]
    exact ⟨rfl, HB.out⟩
  have z3 : decide (256 < (n : Int)) = false := decide_eq_false (by omega)
  have HRE2 : Aside0 (r = if (l.all fun b => termOk has vars b.f0 && termOk has vars b.f1) = true then 0 else 1) := ⟨by rw [HRE.out, if_neg (by omega)]⟩
  have HBAD : Aside0 (∀ (k : Nat) (hk : k < l.length), (termOk has vars l[k].f0 && termOk has vars l[k].f1) = false → r = 1) := ⟨fun k hk h => by
    rw [HRE2.out, if_neg]
    intro hall
    have := List.all_eq_true.1 hall l[k] (List.getElem_mem _)
    rw [h] at this
    cases this⟩
  clear HRE h1 h2 h3
  subst hO
  go_enter Tryz.func44, Tryz.ntmps44
  go_wp2
  generalize hw1 : World.alloc w _ = w1 at *
  go_loopg [7] (n + 1) (fun gk i W => ∃ k : Nat, i = .int .i64 (k : Int) ∧ k ≤ n ∧ n + 1 - k ≤ gk ∧ Aside0 (Below w1.heap.size w1 W) ∧ Aside0 (∀ i (h : i < l.length), i < k → (termOk has vars l[i].f0 && termOk has vars l[i].f1) = true))
  case atStart => exact ⟨0, rfl, by omega, by omega, ⟨Below.refl _ _⟩, ⟨fun i h hi => by omega⟩⟩
  case round =>
    obtain ⟨k, rfl, hk, hkg, HB2, HK⟩ := hrel
    clear hw1
    rcases Nat.lt_or_ge k n with hlt | hge
    · have hd : decide (k < n) = true := decide_eq_true hlt
      have hkl : k < l.length := by rw [← HN.out]; exact hlt
      obtain ⟨ad, rfl, t0, t1, t2, t3⟩ := C_boundN (by rw [← HN.out]; exact Kd.C_below HR.out HB2.out) k hkl
      have g := blk_below HG.out HB2.out
      have c0 := (blk_cell g 0).trans (show _ = some (Value.int .i64 o) from rfl)
      have c1 := (blk_cell g 1).trans (show _ = some (Value.slice B q d) from rfl)
      have c2 := (blk_cell g 2).trans (show _ = some (Value.int .i64 m) from rfl)
      clear g
      have HTA := Aside0.mk (HTM.out _ (HU.out _ (List.getElem_mem hkl)).1)
      have HTB := Aside0.mk (HTM.out _ (HU.out _ (List.getElem_mem hkl)).2)
      have HX : Aside0 ((termOk has vars l[k].f0 && termOk has vars l[k].f1) = false → r = 1) := ⟨HBAD.out k hkl⟩
      have HK2 : Aside0 ((termOk has vars l[k].f0 && termOk has vars l[k].f1) = true → ∀ i (h : i < l.length), i < k + 1 → (termOk has vars l[i].f0 && termOk has vars l[i].f1) = true) := ⟨fun hh i h hi => by
        rcases Nat.lt_or_ge i k with h4 | h4
        · exact HK.out i h h4
        · obtain rfl : i = k := by omega
          exact hh⟩
      obtain ⟨x, hx⟩ : ∃ x, x = l[k] := ⟨_, rfl⟩
      rw [← hx] at t0 t1 t2 t3 HTA HTB HX HK2
      clear hx
      obtain ⟨⟨a0, a1⟩, ⟨b0, b1⟩⟩ := x
      simp only at t0 t1 t2 t3 HTA HTB HX HK2
      obtain ⟨ta, hta⟩ : ∃ b, b = termOk has vars ⟨a0, a1⟩ := ⟨_, rfl⟩
      obtain ⟨tb, htb⟩ : ∃ b, b = termOk has vars ⟨b0, b1⟩ := ⟨_, rfl⟩
      rw [← hta] at HTA HX HK2
      rw [← htb] at HTB HX HK2
      clear hta htb
      rcases (by cases ta <;> cases tb <;> simp : (ta = false ∨ (ta = true ∧ tb = false) ∨ (ta = true ∧ tb = true))) with rfl | ⟨rfl, rfl⟩ | ⟨rfl, rfl⟩
      · have HE : Aside0 (r = 1) := ⟨HX.out rfl⟩
        go_wp2
        have c0' := Ext.cell c0
        have c1' := Ext.cell c1
        have c2' := Ext.cell c2
        have t0' := Ext.cell t0
        have t1' := Ext.cell t1
        have t2' := Ext.cell t2
        have t3' := Ext.cell t3
        clear c0 c1 c2 t0 t1 t2 t3
        (refine region_ext (by kernel_rfl) (by kernel_rfl) ?_; (repeat (go_big_quiet_step ((go_at_call 45; exact ext_of (HTA.out _))))); with_reducible refine wpQuiet_end ?_; rintro e0)
        go_wp2
        go_ret
        rw [HE.out]
        exact ⟨rfl, HB.out.trans ((below_step HB2.out e0.below).mono HB.out.size)⟩
      · have HE : Aside0 (r = 1) := ⟨HX.out rfl⟩
        go_wp2
        have c0' := Ext.cell c0
        have c1' := Ext.cell c1
        have c2' := Ext.cell c2
        have t0' := Ext.cell t0
        have t1' := Ext.cell t1
        have t2' := Ext.cell t2
        have t3' := Ext.cell t3
        clear c0 c1 c2 t0 t1 t2 t3
        (refine region_ext (by kernel_rfl) (by kernel_rfl) ?_; (repeat (go_big_quiet_step ((go_at_call 45; first | (with_reducible exact ext_of (HTA.out _)) | (with_reducible exact ext_of (HTB.out _)))))); with_reducible refine wpQuiet_end ?_; rintro e0)
        go_wp2
        go_ret
        rw [HE.out]
        exact ⟨rfl, HB.out.trans ((below_step HB2.out e0.below).mono HB.out.size)⟩
      · go_wp2
        have c0' := Ext.cell c0
        have c1' := Ext.cell c1
        have c2' := Ext.cell c2
        have t0' := Ext.cell t0
        have t1' := Ext.cell t1
        have t2' := Ext.cell t2
        have t3' := Ext.cell t3
        clear c0 c1 c2 t0 t1 t2 t3
        (refine region_ext (by kernel_rfl) (by kernel_rfl) ?_; (repeat (go_big_quiet_step ((go_at_call 45; first | (with_reducible exact ext_of (HTA.out _)) | (with_reducible exact ext_of (HTB.out _)))))); with_reducible refine wpQuiet_end ?_; rintro e0)
        go_wp2
        go_roundg (gk - 1)
        case measure => omega
        case rel => exact ⟨k + 1, by go_num, by omega, by omega, ⟨below_step HB2.out e0.below⟩, ⟨HK2.out rfl⟩⟩
    · have hd : decide (k < n) = false := decide_eq_false (by omega)
      have HE : Aside0 (r = 0) := ⟨by
        rw [HRE2.out, if_pos]
        refine List.all_eq_true.2 fun b hb => ?_
        obtain ⟨i, hi, rfl⟩ := List.getElem_of_mem hb
        exact HK.out i hi (by rw [← HN.out] at hi; omega)⟩
      go_wp2
      go_ret
      rw [HE.out]
      exact ⟨rfl, HB.out.trans (HB2.out.mono HB.out.size)⟩
end Ref10
end Go.Proofs.YtdecijmncpbheaaGreatDoor

namespace Go.Proofs.YtdecijmncpbheaaGreatDoor
open Go.RowKit Go.Proofs.YtdecijmncpbheaaGreatDoorW.PrintWords Go.Proofs.YtdecijmncpbheaaGreatDoorW.PrintLast Go.Proofs.YtdecijmncpbheaaGreatDoorW.PrintMore
set_option linter.unusedVariables false
set_option linter.unusedSimpArgs false
namespace Ref10
open L09 (latO)
def labV (A : Option Addr) (n c : Nat) (rows : List Int) : Value := if checkO rows = 0 then .agg #[.int .i64 1, .slice A n c, .int .i64 0] else .agg #[.int .i64 0, .slice none 0 0, .int .i64 0]
theorem labV_R (A : Option Addr) (n c : Nat) (rows : List Int) (hn : n = rows.length) (hm : n ≤ 9223372036854775807) : SortR (labV A n c rows) (hasLat (latO rows)) := by
  unfold labV latO
  split
  · exact ⟨1, 0, A, n, c, rfl, hm, .inr (.inl ⟨rfl, fun a => by rw [hasLat, hn]⟩)⟩
  · exact ⟨0, 0, none, 0, 0, rfl, by decide, .inl ⟨rfl, fun a => rfl⟩⟩
def effV10 (m : Int) : Value := if m < 0 ∨ 64 < m then .agg #[.int .i64 0, .slice none 0 0, .int .i64 0] else .agg #[.int .i64 2, .slice none 0 0, .int .i64 m]
theorem effV10_R (m : Int) : SortR (effV10 m) (hasEff (effO m)) := by
  unfold effV10
  split
  · rename_i h
    exact ⟨0, 0, none, 0, 0, rfl, by decide, .inl ⟨rfl, fun a => by rw [effO, if_pos h, hasEff]⟩⟩
  · rename_i h
    exact ⟨2, m, none, 0, 0, rfl, by decide, .inr (.inr ⟨rfl, m.toNat, by omega, by omega, fun a => by rw [show ((m.toNat : Nat) : Int) = m by omega]⟩)⟩
set_option maxRecDepth 100000 in
set_option maxHeartbeats 4000000 in
theorem labels10_calls (w : World) (A : Option Addr) (c n : Nat) (rows : List Int) (hn : n = rows.length) (hr : (Kd.int .u64).C w A n rows) (hU : U64s rows) :
    Calls Tryz.prog 13 #[.slice A n c] w fun e w' => e = .returned (labV A n c rows) ∧ Below w.heap.size w w' := by
  have hmax : n ≤ 9223372036854775807 := hr.2.1
  have hb0 := below_alloc (Below.refl w.heap.size w) (.cells #[.int .i64 0, .slice none 0 0, .int .i64 0] 44)
  have HC := Aside0.mk (Ref04.check4_calls (w.alloc (.cells #[.int .i64 0, .slice none 0 0, .int .i64 0] 44)) A c n rows hn hmax (Kd.C_below hr hb0) hU)
  have HB0 := Aside0.mk hb0
  have HK := Aside0.mk (blk_new w (.cells #[.int .i64 0, .slice none 0 0, .int .i64 0] 44))
  have HRF := Aside0.mk (checkO_ref hU)
  have HN := Aside0.mk hn
  clear hb0 hr hU hn
  go_enter Tryz.func13, Tryz.ntmps13
  go_wp2_with fail
  refine HC.out.mono ?_
  rintro e W1 ⟨⟨z, rfl, hz⟩, hb⟩
  have HK1 := Aside0.mk (blk_below HK.out hb)
  have HB1 := Aside0.mk (below_step HB0.out hb)
  have q0 := blk_cell HK1.out 0
  have q1 := blk_cell HK1.out 1
  have q2 := blk_cell HK1.out 2
  have f0 := blk_frozen HK1.out 0
  have f1 := blk_frozen HK1.out 1
  have f2 := blk_frozen HK1.out 2
  simp at q0 q1 q2
  clear hb
  by_cases h0 : z = 0
  · have HZ := Aside0.mk (hz.1 h0)
    subst h0
    clear hz
    go_wp2
    have h5 : (((W1.setCell ⟨w.heap.size, 0, none⟩ (.int .i64 1)).setCell ⟨w.heap.size, 1, none⟩ (.slice A n c)).setCell ⟨w.heap.size, 2, none⟩ (.int .i64 0)).heap[w.heap.size]? = some (.cells #[.int .i64 1, .slice A n c, .int .i64 0] 44 (0, 0)) := blk_put (blk_put (blk_put HK1.out 0 _ rfl) 1 _ rfl) 2 _ rfl
    have r0 := blk_cell h5 0
    have r1 := blk_cell h5 1
    have r2 := blk_cell h5 2
    simp at r0 r1 r2
    refine bodyPost_ret (v := .agg #[.int .i64 1, .slice A n c, .int .i64 0]) (by simp [results, Tryz.f13, go_sem, r0, r1, r2]) rfl ⟨?_, ((HB1.out.setCell (Nat.le_refl _) _).setCell (Nat.le_refl _) _).setCell (Nat.le_refl _) _⟩
    rw [labV, if_pos (HRF.out.2 HZ.out)]
  · have HZ : Aside0 (¬ RefOk rows) := ⟨fun h => h0 (hz.2 h)⟩
    have z1 : (z != 0) = true := bne_iff_ne.mpr h0
    clear hz h0
    go_wp2
    have h5 : (((W1.setCell ⟨w.heap.size, 0, none⟩ (.int .i64 0)).setCell ⟨w.heap.size, 1, none⟩ (.slice none 0 0)).setCell ⟨w.heap.size, 2, none⟩ (.int .i64 0)).heap[w.heap.size]? = some (.cells #[.int .i64 0, .slice none 0 0, .int .i64 0] 44 (0, 0)) := blk_put (blk_put (blk_put HK1.out 0 _ rfl) 1 _ rfl) 2 _ rfl
    have r0 := blk_cell h5 0
    have r1 := blk_cell h5 1
    have r2 := blk_cell h5 2
    simp at r0 r1 r2
    refine bodyPost_ret (v := .agg #[.int .i64 0, .slice none 0 0, .int .i64 0]) (by simp [results, Tryz.f13, go_sem, r0, r1, r2]) rfl ⟨?_, ((HB1.out.setCell (Nat.le_refl _) _).setCell (Nat.le_refl _) _).setCell (Nat.le_refl _) _⟩
    rw [labV, if_neg (fun h => HZ.out (HRF.out.1 h))]
set_option maxRecDepth 100000 in
set_option maxHeartbeats 4000000 in
theorem effects10_calls (w : World) (m : Int) :
    Calls Tryz.prog 14 #[.int .i64 m] w fun e w' => e = .returned (effV10 m) ∧ Below w.heap.size w w' := by
  have HB1 := Aside0.mk (below_alloc (Below.refl w.heap.size w) (.cells #[.int .i64 0, .slice none 0 0, .int .i64 0] 44))
  have HK1 := Aside0.mk (blk_new w (.cells #[.int .i64 0, .slice none 0 0, .int .i64 0] 44))
  have q0 := blk_cell HK1.out 0
  have q1 := blk_cell HK1.out 1
  have q2 := blk_cell HK1.out 2
  have f0 := blk_frozen HK1.out 0
  have f1 := blk_frozen HK1.out 1
  have f2 := blk_frozen HK1.out 2
  simp at q0 q1 q2
  have key : (m < 0 ∨ 64 < m) → Aside0 (effV10 m = .agg #[.int .i64 0, .slice none 0 0, .int .i64 0]) := fun h => ⟨by rw [effV10, if_pos h]⟩
  have key3 : ¬ (m < 0 ∨ 64 < m) → Aside0 (effV10 m = .agg #[.int .i64 2, .slice none 0 0, .int .i64 m]) := fun h => ⟨by rw [effV10, if_neg h]⟩
  have key2 : ¬ (m < 0 ∨ 64 < m) → ∃ k : Nat, m = (k : Int) ∧ k ≤ 64 := fun h => ⟨m.toNat, by omega, by omega⟩
  by_cases h0 : m < 0
  · have d0 : decide (m < 0) = true := decide_eq_true h0
    have HE := key (.inl h0)
    clear h0 key key2 key3
    go_enter Tryz.func14, Tryz.ntmps14
    go_wp2
    refine bodyPost_ret (v := .agg #[.int .i64 0, .slice none 0 0, .int .i64 0]) (by simp [results, Tryz.f14, go_sem]) rfl ⟨?_, below_alloc (Below.refl _ _) _⟩
    rw [HE.out]
  have d0 : decide (m < 0) = false := decide_eq_false h0
  by_cases h1 : 64 < m
  · have d1 : decide (64 < m) = true := decide_eq_true h1
    have HE := key (.inr h1)
    clear h0 h1 key key2 key3
    go_enter Tryz.func14, Tryz.ntmps14
    go_wp2
    refine bodyPost_ret (v := .agg #[.int .i64 0, .slice none 0 0, .int .i64 0]) (by simp [results, Tryz.f14, go_sem]) rfl ⟨?_, below_alloc (Below.refl _ _) _⟩
    rw [HE.out]
  have d1 : decide (64 < m) = false := decide_eq_false h1
  have HE := key3 (by omega)
  clear key key2 key3 h0 h1
  go_enter Tryz.func14, Tryz.ntmps14
  go_wp2
  refine bodyPost_ret (v := .agg #[.int .i64 2, .slice none 0 0, .int .i64 m]) (by simp [results, Tryz.f14, go_sem]) rfl ⟨?_, below_alloc (Below.refl _ _) _⟩
  rw [HE.out]
end Ref10
end Go.Proofs.YtdecijmncpbheaaGreatDoor

namespace Go.Proofs.YtdecijmncpbheaaGreatDoor
open Go.RowKit Go.Proofs.YtdecijmncpbheaaGreatDoorW.PrintWords Go.Proofs.YtdecijmncpbheaaGreatDoorW.PrintLast Go.Proofs.YtdecijmncpbheaaGreatDoorW.PrintMore
set_option linter.unusedVariables false
set_option linter.unusedSimpArgs false
namespace Ref12
open Ref10 (SortR term10_calls check10_calls)
/-- Cells of the three boxes. -/
structure CellsW (W : World) (b : Nat) (lv ev : Value) (u0 u1 u2 x0 x1 x2 : Value) : Prop where
  c0 : W.cell? ⟨b, 0, none⟩ = some lv
  c1 : W.cell? ⟨b, 1, none⟩ = some ev
  c5 : W.cell? ⟨b + 1, 0, none⟩ = some u0
  c6 : W.cell? ⟨b + 1, 1, none⟩ = some u1
  c7 : W.cell? ⟨b + 1, 2, none⟩ = some u2
  c8 : W.cell? ⟨b + 1 + 1, 0, none⟩ = some x0
  c9 : W.cell? ⟨b + 1 + 1, 1, none⟩ = some x1
  c10 : W.cell? ⟨b + 1 + 1, 2, none⟩ = some x2
set_option maxRecDepth 100000 in
set_option maxHeartbeats 8000000 in
theorem check12_calls (w : World) (y : SchY) (hy : y.ok w) (hlen : y.body.length ≤ 300) (v1 v2 : Value) (hasL hasX : Int → Bool) (hv1 : SortR v1 hasL) (hv2 : SortR v2 hasX) :
    Calls Tryz.prog 12 #[y.v, v1, v2] w fun e w' => e = .returned (.int .i64 (schemeB hasL hasX y.lv y.ev y.body y.L y.E)) ∧ Below w.heap.size w w' := by
  obtain ⟨lv, ev, A, c, a, LA, lc, L, EA, ec, E⟩ := y
  obtain ⟨hr, hwa, hrl, hwl, hre, hwe, hlw, hew⟩ := hy
  simp only at hr hwa hrl hwl hre hwe hlw hew hlen
  simp only [SchY.v]
  obtain ⟨r, hr0⟩ : ∃ r, r = schemeB hasL hasX lv ev a L E := ⟨_, rfl⟩
  rw [← hr0]
  obtain ⟨qa, hqa⟩ : ∃ q, q = checkB a := ⟨_, rfl⟩
  obtain ⟨ql, hql⟩ : ∃ q, q = boundsB hasL lv L := ⟨_, rfl⟩
  obtain ⟨qe, hqe⟩ : ∃ q, q = boundsB hasX ev E := ⟨_, rfl⟩
  have HRE : Aside0 (r = if qa ≠ 0 then qa else if ql ≠ 0 then ql else if qe ≠ 0 then qe else if ((labB a).all (fun x => termOk hasL lv x.f3) && (effB a).all (fun x => termOk hasX ev x.f3)) = true then 0 else 1) := ⟨by rw [hr0, schemeB, hqa, hql, hqe]⟩
  obtain ⟨n, hn⟩ : ∃ n, n = a.length := ⟨_, rfl⟩
  obtain ⟨k, hk⟩ : ∃ n, n = L.length := ⟨_, rfl⟩
  obtain ⟨m, hm⟩ : ∃ n, n = E.length := ⟨_, rfl⟩
  have hU : ∀ {l : List Bound}, (∀ b ∈ l, Bound.wf b) → ∀ b ∈ l, (0 ≤ b.f0.f1 ∧ b.f0.f1 < 2 ^ 64) ∧ (0 ≤ b.f1.f1 ∧ b.f1.f1 < 2 ^ 64) := fun h b hb => ⟨wf_DU (h b hb).1, wf_DU (h b hb).2⟩
  have CK : Aside0 (∀ W, Below w.heap.size w W → Calls Tryz.prog 40 #[.slice A n c] W fun e w' => e = .returned (.int .i64 qa) ∧ Below W.heap.size W w') := ⟨fun W hb => by rw [hqa, hn]; exact Ref07.check_calls W A c a hlen (Kd.C_below hr hb)⟩
  have BL : Aside0 (∀ W, Below w.heap.size w W → Calls Tryz.prog 44 #[v1, .int .i64 lv, .slice LA k lc] W fun e w' => e = .returned (.int .i64 ql) ∧ Below W.heap.size W w') := ⟨fun W hb => by rw [hql]; exact check10_calls W v1 hasL lv hlw LA k lc L hk (hU hwl) (by rw [hk]; exact Kd.C_below hrl hb) hv1⟩
  have BE : Aside0 (∀ W, Below w.heap.size w W → Calls Tryz.prog 44 #[v2, .int .i64 ev, .slice EA m ec] W fun e w' => e = .returned (.int .i64 qe) ∧ Below W.heap.size W w') := ⟨fun W hb => by rw [hqe]; exact check10_calls W v2 hasX ev hew EA m ec E hm (hU hwe) (by rw [hm]; exact Kd.C_below hre hb) hv2⟩
  have T1 : Aside0 (∀ (t : Term), (0 ≤ t.f1 ∧ t.f1 < 2 ^ 64) → ∀ W, Calls Tryz.prog 45 #[v1, .int .i64 lv, .agg #[.bool t.f0, .int .u64 t.f1]] W fun e w' => e = .returned (.bool (termOk hasL lv t)) ∧ Below W.heap.size W w') := ⟨fun t ht W => term10_calls W v1 hasL lv hlw t ht hv1⟩
  have T2 : Aside0 (∀ (t : Term), (0 ≤ t.f1 ∧ t.f1 < 2 ^ 64) → ∀ W, Calls Tryz.prog 45 #[v2, .int .i64 ev, .agg #[.bool t.f0, .int .u64 t.f1]] W fun e w' => e = .returned (.bool (termOk hasX ev t)) ∧ Below W.heap.size W w') := ⟨fun t ht W => term10_calls W v2 hasX ev hew t ht hv2⟩
  obtain ⟨o1, m1, B1, q1, d1, rfl, -⟩ := hv1
  obtain ⟨o2, m2, B2, q2, d2, rfl, -⟩ := hv2
  have HR := Aside0.mk hr
  have HWA := Aside0.mk hwa
  have HN := Aside0.mk (And.intro hn hlen)
  have HQ := Aside0.mk hqa
  rw [← hn, ← hk, ← hm]
  obtain ⟨O, hO⟩ : ∃ O : Obj, O = .cells #[.int .i64 lv, .int .i64 ev, .slice A n c, .slice LA k lc, .slice EA m ec] 25 := ⟨_, rfl⟩
  obtain ⟨O1, hO1⟩ : ∃ O : Obj, O = .cells #[.int .i64 o1, .slice B1 q1 d1, .int .i64 m1] 44 := ⟨_, rfl⟩
  obtain ⟨O2, hO2⟩ : ∃ O : Obj, O = .cells #[.int .i64 o2, .slice B2 q2 d2, .int .i64 m2] 44 := ⟨_, rfl⟩
  obtain ⟨w3, hw3⟩ : ∃ W, W = ((w.alloc O).alloc O1).alloc O2 := ⟨_, rfl⟩
  have HBW : Aside0 (Below w.heap.size w w3) := ⟨by rw [hw3]; exact below_alloc (below_alloc (below_alloc (Below.refl w.heap.size w) O) O1) O2⟩
  have g0 := blk_alloc (blk_alloc (blk_new w O) O1) O2
  have g1 := blk_alloc (blk_new (w.alloc O) O1) O2
  have g2 := blk_new ((w.alloc O).alloc O1) O2
  rw [World.size_alloc] at g1 g2
  rw [World.size_alloc] at g2
  rw [← hw3] at g0 g1 g2
  subst hO hO1 hO2
  have HW3 := Aside0.mk hw3
  clear hw3
  have HB := Aside0.mk (Below.refl w3.heap.size w3)
  have HG := Aside0.mk (And.intro g0 (And.intro g1 g2))
  clear g0 g1 g2 hr0 hr hwa hrl hwl hre hwe hlw hew hlen hqa hql hqe hn hk hm hU
  have c0 := (blk_cell HG.out.1 0).trans (show _ = some (Value.int .i64 lv) from rfl)
  have c1 := (blk_cell HG.out.1 1).trans (show _ = some (Value.int .i64 ev) from rfl)
  have c2 := (blk_cell HG.out.1 2).trans (show _ = some (Value.slice A n c) from rfl)
  have c3 := (blk_cell HG.out.1 3).trans (show _ = some (Value.slice LA k lc) from rfl)
  have c4 := (blk_cell HG.out.1 4).trans (show _ = some (Value.slice EA m ec) from rfl)
  have c5 := (blk_cell HG.out.2.1 0).trans (show _ = some (Value.int .i64 o1) from rfl)
  have c6 := (blk_cell HG.out.2.1 1).trans (show _ = some (Value.slice B1 q1 d1) from rfl)
  have c7 := (blk_cell HG.out.2.1 2).trans (show _ = some (Value.int .i64 m1) from rfl)
  have c8 := (blk_cell HG.out.2.2 0).trans (show _ = some (Value.int .i64 o2) from rfl)
  have c9 := (blk_cell HG.out.2.2 1).trans (show _ = some (Value.slice B2 q2 d2) from rfl)
  have c10 := (blk_cell HG.out.2.2 2).trans (show _ = some (Value.int .i64 m2) from rfl)
  by_cases p1 : qa = 0
  rotate_left
  · have z1 : (qa == 0) = false := beq_eq_false_iff_ne.mpr p1
    have z2 : (qa != 0) = true := bne_iff_ne.mpr p1
    have HE : Aside0 (r = qa) := ⟨by rw [HRE.out, if_pos p1]⟩
    clear HRE p1
    go_enter Tryz.func12, Tryz.ntmps12
    go_upto_region 1 with fail
    rw [← HW3.out]
    go_wp2_with (go_at_call 40; (with_reducible refine (CK.out _ (below_step HBW.out HB.out)).mono ?_); rintro e W' ⟨rfl, hb'⟩; replace c0 := pw_cell_below hb' c0; replace c1 := pw_cell_below hb' c1; replace c2 := pw_cell_below hb' c2; replace c3 := pw_cell_below hb' c3; replace c4 := pw_cell_below hb' c4; replace c5 := pw_cell_below hb' c5; replace c6 := pw_cell_below hb' c6; replace c7 := pw_cell_below hb' c7; replace c8 := pw_cell_below hb' c8; replace c9 := pw_cell_below hb' c9; replace c10 := pw_cell_below hb' c10; have HB' := Aside0.mk (below_step HB.out hb'); clear HB hb'; have HB := HB'; clear HB')
    go_ret
    rw [HE.out]
    exact ⟨rfl, below_step HBW.out HB.out⟩
  subst p1
  by_cases p1 : ql = 0
  rotate_left
  · have z1 : (ql == 0) = false := beq_eq_false_iff_ne.mpr p1
    have z2 : (ql != 0) = true := bne_iff_ne.mpr p1
    have HE : Aside0 (r = ql) := ⟨by rw [HRE.out, if_neg (by simp), if_pos p1]⟩
    clear HRE p1
    go_enter Tryz.func12, Tryz.ntmps12
    go_upto_region 1 with fail
    rw [← HW3.out]
    go_wp2_with (first | (go_at_call 40; (with_reducible refine (CK.out _ (below_step HBW.out HB.out)).mono ?_); rintro e W' ⟨rfl, hb'⟩; replace c0 := pw_cell_below hb' c0; replace c1 := pw_cell_below hb' c1; replace c2 := pw_cell_below hb' c2; replace c3 := pw_cell_below hb' c3; replace c4 := pw_cell_below hb' c4; replace c5 := pw_cell_below hb' c5; replace c6 := pw_cell_below hb' c6; replace c7 := pw_cell_below hb' c7; replace c8 := pw_cell_below hb' c8; replace c9 := pw_cell_below hb' c9; replace c10 := pw_cell_below hb' c10; have HB' := Aside0.mk (below_step HB.out hb'); clear HB hb'; have HB := HB'; clear HB') | (go_at_call 44; (with_reducible refine (BL.out _ (below_step HBW.out HB.out)).mono ?_); rintro e W' ⟨rfl, hb'⟩; replace c0 := pw_cell_below hb' c0; replace c1 := pw_cell_below hb' c1; replace c2 := pw_cell_below hb' c2; replace c3 := pw_cell_below hb' c3; replace c4 := pw_cell_below hb' c4; replace c5 := pw_cell_below hb' c5; replace c6 := pw_cell_below hb' c6; replace c7 := pw_cell_below hb' c7; replace c8 := pw_cell_below hb' c8; replace c9 := pw_cell_below hb' c9; replace c10 := pw_cell_below hb' c10; have HB' := Aside0.mk (below_step HB.out hb'); clear HB hb'; have HB := HB'; clear HB'))
    go_ret
    rw [HE.out]
    exact ⟨rfl, below_step HBW.out HB.out⟩
  subst p1
  by_cases p1 : qe = 0
  rotate_left
  · have z1 : (qe == 0) = false := beq_eq_false_iff_ne.mpr p1
    have z2 : (qe != 0) = true := bne_iff_ne.mpr p1
    have HE : Aside0 (r = qe) := ⟨by rw [HRE.out, if_neg (by simp), if_neg (by simp), if_pos p1]⟩
    clear HRE p1
    go_enter Tryz.func12, Tryz.ntmps12
    go_upto_region 1 with fail
    rw [← HW3.out]
    go_wp2_with (first | (go_at_call 40; (with_reducible refine (CK.out _ (below_step HBW.out HB.out)).mono ?_); rintro e W' ⟨rfl, hb'⟩; replace c0 := pw_cell_below hb' c0; replace c1 := pw_cell_below hb' c1; replace c2 := pw_cell_below hb' c2; replace c3 := pw_cell_below hb' c3; replace c4 := pw_cell_below hb' c4; replace c5 := pw_cell_below hb' c5; replace c6 := pw_cell_below hb' c6; replace c7 := pw_cell_below hb' c7; replace c8 := pw_cell_below hb' c8; replace c9 := pw_cell_below hb' c9; replace c10 := pw_cell_below hb' c10; have HB' := Aside0.mk (below_step HB.out hb'); clear HB hb'; have HB := HB'; clear HB') | (go_at_call 44; (with_reducible refine (BL.out _ (below_step HBW.out HB.out)).mono ?_); rintro e W' ⟨rfl, hb'⟩; replace c0 := pw_cell_below hb' c0; replace c1 := pw_cell_below hb' c1; replace c2 := pw_cell_below hb' c2; replace c3 := pw_cell_below hb' c3; replace c4 := pw_cell_below hb' c4; replace c5 := pw_cell_below hb' c5; replace c6 := pw_cell_below hb' c6; replace c7 := pw_cell_below hb' c7; replace c8 := pw_cell_below hb' c8; replace c9 := pw_cell_below hb' c9; replace c10 := pw_cell_below hb' c10; have HB' := Aside0.mk (below_step HB.out hb'); clear HB hb'; have HB := HB'; clear HB') | (go_at_call 44; (with_reducible refine (BE.out _ (below_step HBW.out HB.out)).mono ?_); rintro e W' ⟨rfl, hb'⟩; replace c0 := pw_cell_below hb' c0; replace c1 := pw_cell_below hb' c1; replace c2 := pw_cell_below hb' c2; replace c3 := pw_cell_below hb' c3; replace c4 := pw_cell_below hb' c4; replace c5 := pw_cell_below hb' c5; replace c6 := pw_cell_below hb' c6; replace c7 := pw_cell_below hb' c7; replace c8 := pw_cell_below hb' c8; replace c9 := pw_cell_below hb' c9; replace c10 := pw_cell_below hb' c10; have HB' := Aside0.mk (below_step HB.out hb'); clear HB hb'; have HB := HB'; clear HB'))
    go_ret
    rw [HE.out]
    exact ⟨rfl, below_step HBW.out HB.out⟩
  subst p1
  go_enter Tryz.func12, Tryz.ntmps12
  go_upto_region 1 with fail
  rw [← HW3.out]
  go_wp2_with (first | (go_at_call 40; (with_reducible refine (CK.out _ (below_step HBW.out HB.out)).mono ?_); rintro e W' ⟨rfl, hb'⟩; replace c0 := pw_cell_below hb' c0; replace c1 := pw_cell_below hb' c1; replace c2 := pw_cell_below hb' c2; replace c3 := pw_cell_below hb' c3; replace c4 := pw_cell_below hb' c4; replace c5 := pw_cell_below hb' c5; replace c6 := pw_cell_below hb' c6; replace c7 := pw_cell_below hb' c7; replace c8 := pw_cell_below hb' c8; replace c9 := pw_cell_below hb' c9; replace c10 := pw_cell_below hb' c10; have HB' := Aside0.mk (below_step HB.out hb'); clear HB hb'; have HB := HB'; clear HB') | (go_at_call 44; (with_reducible refine (BL.out _ (below_step HBW.out HB.out)).mono ?_); rintro e W' ⟨rfl, hb'⟩; replace c0 := pw_cell_below hb' c0; replace c1 := pw_cell_below hb' c1; replace c2 := pw_cell_below hb' c2; replace c3 := pw_cell_below hb' c3; replace c4 := pw_cell_below hb' c4; replace c5 := pw_cell_below hb' c5; replace c6 := pw_cell_below hb' c6; replace c7 := pw_cell_below hb' c7; replace c8 := pw_cell_below hb' c8; replace c9 := pw_cell_below hb' c9; replace c10 := pw_cell_below hb' c10; have HB' := Aside0.mk (below_step HB.out hb'); clear HB hb'; have HB := HB'; clear HB') | (go_at_call 44; (with_reducible refine (BE.out _ (below_step HBW.out HB.out)).mono ?_); rintro e W' ⟨rfl, hb'⟩; replace c0 := pw_cell_below hb' c0; replace c1 := pw_cell_below hb' c1; replace c2 := pw_cell_below hb' c2; replace c3 := pw_cell_below hb' c3; replace c4 := pw_cell_below hb' c4; replace c5 := pw_cell_below hb' c5; replace c6 := pw_cell_below hb' c6; replace c7 := pw_cell_below hb' c7; replace c8 := pw_cell_below hb' c8; replace c9 := pw_cell_below hb' c9; replace c10 := pw_cell_below hb' c10; have HB' := Aside0.mk (below_step HB.out hb'); clear HB hb'; have HB := HB'; clear HB'))
  refine (Ref08.of_calls _ A n c a HN.out.1 (by have := HN.out; omega) (by have h := HR.out; rw [← HN.out.1] at h; exact Kd.C_below h (below_step HBW.out HB.out))).mono ?_
  rintro e W1 ⟨A1, e1, A2, e2, rfl, s1, s2, hb'⟩
  obtain ⟨la, hla⟩ : ∃ l, l = labB a := ⟨_, rfl⟩
  obtain ⟨xa, hxa⟩ : ∃ l, l = effB a := ⟨_, rfl⟩
  have n1 : ∀ x ∈ la, 0 ≤ x.f3.f1 ∧ x.f3.f1 < 2 ^ 64 := by rw [hla]; exact fun x hx => (labB_W HWA.out x hx).1
  have n2 : ∀ x ∈ xa, 0 ≤ x.f3.f1 ∧ x.f3.f1 < 2 ^ 64 := by rw [hxa]; exact fun x hx => (effB_W HWA.out x hx).1
  have mx1 : la.length ≤ 256 := by rw [hla]; exact labB_max a
  have mx2 : xa.length ≤ 256 := by rw [hxa]; exact effB_max a
  replace s1 := (Kd.R_reads' s1).2.2
  replace s2 := (Kd.R_reads' s2).2.2
  rw [← hla] at s1 ⊢
  rw [← hxa] at s2 ⊢
  have HRE2 : Aside0 (r = if (la.all (fun x => termOk hasL lv x.f3) && xa.all (fun x => termOk hasX ev x.f3)) = true then 0 else 1) := ⟨by rw [HRE.out, if_neg (by simp), if_neg (by simp), if_neg (by simp), hla, hxa]⟩
  obtain ⟨K1, hK1⟩ : ∃ L, L = la.length := ⟨_, rfl⟩
  obtain ⟨K2, hK2⟩ : ∃ L, L = xa.length := ⟨_, rfl⟩
  rw [← hK1] at s1 mx1 ⊢
  rw [← hK2] at s2 mx2 ⊢
  have HNK := Aside0.mk (And.intro hK1 hK2)
  have HNN := Aside0.mk (And.intro n1 n2)
  have HS := Aside0.mk (And.intro s1 s2)
  have HBW1 := Aside0.mk (below_step (below_step HBW.out HB.out) hb')
  replace c0 := pw_cell_below hb' c0; replace c1 := pw_cell_below hb' c1; replace c5 := pw_cell_below hb' c5; replace c6 := pw_cell_below hb' c6; replace c7 := pw_cell_below hb' c7; replace c8 := pw_cell_below hb' c8; replace c9 := pw_cell_below hb' c9; replace c10 := pw_cell_below hb' c10
  have CW := Aside0.mk (CellsW.mk c0 c1 c5 c6 c7 c8 c9 c10)
  clear c0 c1 c2 c3 c4 c5 c6 c7 c8 c9 c10 hla hxa n1 n2 s1 s2 hK1 hK2 HRE HB HG hb' CK BL BE
  go_wp2
  go_loopg [10] (K1 + 1) (fun gk i W => ∃ k : Nat, i = .int .i64 (k : Int) ∧ k ≤ K1 ∧ K1 + 1 - k ≤ gk ∧ Aside0 (Below W1.heap.size W1 W) ∧ Aside0 (∀ i (h : i < la.length), i < k → termOk hasL lv la[i].f3 = true))
  case atStart => exact ⟨0, rfl, by omega, by omega, ⟨Below.refl _ _⟩, ⟨fun i h hi => by omega⟩⟩
  case round =>
    obtain ⟨k, rfl, hk, hkg, HB2, HK⟩ := hrel
    rcases Nat.lt_or_ge k K1 with hlt | hge
    · have hd : decide (k < K1) = true := decide_eq_true hlt
      have hkl : k < la.length := by rw [← HNK.out.1]; exact hlt
      obtain ⟨ad, rfl, -, -, -, t3, t4⟩ := C_spotN (by rw [← HNK.out.1]; exact Kd.C_below HS.out.1 HB2.out) k hkl
      have c0 := pw_cell_below HB2.out CW.out.c0
      have c5 := pw_cell_below HB2.out CW.out.c5
      have c6 := pw_cell_below HB2.out CW.out.c6
      have c7 := pw_cell_below HB2.out CW.out.c7
      have HTA := Aside0.mk (T1.out la[k].f3 (HNN.out.1 _ (List.getElem_mem hkl)))
      have HX : Aside0 (termOk hasL lv la[k].f3 = false → r = 1) := ⟨fun h => by rw [HRE2.out, if_neg]; intro hall; rw [Bool.and_eq_true] at hall; have := List.all_eq_true.1 hall.1 la[k] (List.getElem_mem _); rw [h] at this; cases this⟩
      have HK2 : Aside0 (termOk hasL lv la[k].f3 = true → ∀ i (h : i < la.length), i < k + 1 → termOk hasL lv la[i].f3 = true) := ⟨fun hh i h hi => by
        rcases Nat.lt_or_ge i k with h4 | h4
        · exact HK.out i h h4
        · obtain rfl : i = k := by omega
          exact hh⟩
      obtain ⟨x, hx⟩ : ∃ x, x = la[k] := ⟨_, rfl⟩
      rw [← hx] at t3 t4 HTA HX HK2
      clear hx
      obtain ⟨x0, x1, x2, ⟨a0, a1⟩⟩ := x
      simp only at t3 t4 HTA HX HK2
      obtain ⟨tt, htt⟩ : ∃ b, b = termOk hasL lv ⟨a0, a1⟩ := ⟨_, rfl⟩
      rw [← htt] at HTA HX HK2
      clear htt hkl
      go_wp2
      have c0' := Ext.cell c0
      have c5' := Ext.cell c5
      have c6' := Ext.cell c6
      have c7' := Ext.cell c7
      have t3' := Ext.cell t3
      have t4' := Ext.cell t4
      clear c0 c5 c6 c7 t3 t4
      cases tt with
      | false =>
        have HE := Aside0.mk (HX.out rfl)
        (refine region_ext (by kernel_rfl) (by kernel_rfl) ?_; (repeat (go_big_quiet_step ((go_at_call 45; with_reducible exact ext_of (HTA.out _))))); with_reducible refine wpQuiet_end ?_; rintro e0)
        go_wp2
        go_ret
        rw [HE.out]
        exact ⟨rfl, below_step HBW1.out (below_step HB2.out e0.below)⟩
      | true =>
        (refine region_ext (by kernel_rfl) (by kernel_rfl) ?_; (repeat (go_big_quiet_step ((go_at_call 45; with_reducible exact ext_of (HTA.out _))))); with_reducible refine wpQuiet_end ?_; rintro e0)
        go_wp2
        go_roundg (gk - 1)
        case measure => omega
        case rel => exact ⟨k + 1, by go_num, by omega, by omega, ⟨below_step HB2.out e0.below⟩, ⟨HK2.out trivial⟩⟩
    · have hd : decide (k < K1) = false := decide_eq_false (by omega)
      have HALL10 : Aside0 (∀ x ∈ la, termOk hasL lv x.f3 = true) := ⟨fun x hx => by
        obtain ⟨i, hi, rfl⟩ := List.getElem_of_mem hx
        exact HK.out i hi (by rw [← HNK.out.1] at hi; omega)⟩
      have HBa := HB2
      clear HB2 HK hk hkg hge
      go_wp2
      go_loopg [11] (K2 + 1) (fun gk i W => ∃ k : Nat, i = .int .i64 (k : Int) ∧ k ≤ K2 ∧ K2 + 1 - k ≤ gk ∧ Aside0 (Below W1.heap.size W1 W) ∧ Aside0 (∀ i (h : i < xa.length), i < k → termOk hasX ev xa[i].f3 = true))
      case atStart => exact ⟨0, rfl, by omega, by omega, ⟨HBa.out⟩, ⟨fun i h hi => by omega⟩⟩
      case round =>
        obtain ⟨k, rfl, hk, hkg, HB2, HK⟩ := hrel
        rcases Nat.lt_or_ge k K2 with hlt | hge
        · have hd : decide (k < K2) = true := decide_eq_true hlt
          have hkl : k < xa.length := by rw [← HNK.out.2]; exact hlt
          obtain ⟨ad, rfl, -, -, -, t3, t4⟩ := C_spotN (by rw [← HNK.out.2]; exact Kd.C_below HS.out.2 HB2.out) k hkl
          have c1 := pw_cell_below HB2.out CW.out.c1
          have c8 := pw_cell_below HB2.out CW.out.c8
          have c9 := pw_cell_below HB2.out CW.out.c9
          have c10 := pw_cell_below HB2.out CW.out.c10
          have HTA := Aside0.mk (T2.out xa[k].f3 (HNN.out.2 _ (List.getElem_mem hkl)))
          have HX : Aside0 (termOk hasX ev xa[k].f3 = false → r = 1) := ⟨fun h => by rw [HRE2.out, if_neg]; intro hall; rw [Bool.and_eq_true] at hall; have := List.all_eq_true.1 hall.2 xa[k] (List.getElem_mem _); rw [h] at this; cases this⟩
          have HK2 : Aside0 (termOk hasX ev xa[k].f3 = true → ∀ i (h : i < xa.length), i < k + 1 → termOk hasX ev xa[i].f3 = true) := ⟨fun hh i h hi => by
            rcases Nat.lt_or_ge i k with h4 | h4
            · exact HK.out i h h4
            · obtain rfl : i = k := by omega
              exact hh⟩
          obtain ⟨x, hx⟩ : ∃ x, x = xa[k] := ⟨_, rfl⟩
          rw [← hx] at t3 t4 HTA HX HK2
          clear hx
          obtain ⟨x0, x1, x2, ⟨a0, a1⟩⟩ := x
          simp only at t3 t4 HTA HX HK2
          obtain ⟨tt, htt⟩ : ∃ b, b = termOk hasX ev ⟨a0, a1⟩ := ⟨_, rfl⟩
          rw [← htt] at HTA HX HK2
          clear htt hkl
          go_wp2
          have c1' := Ext.cell c1
          have c8' := Ext.cell c8
          have c9' := Ext.cell c9
          have c10' := Ext.cell c10
          have t3' := Ext.cell t3
          have t4' := Ext.cell t4
          clear c1 c8 c9 c10 t3 t4
          cases tt with
          | false =>
            have HE := Aside0.mk (HX.out rfl)
            (refine region_ext (by kernel_rfl) (by kernel_rfl) ?_; (repeat (go_big_quiet_step ((go_at_call 45; with_reducible exact ext_of (HTA.out _))))); with_reducible refine wpQuiet_end ?_; rintro e0)
            go_wp2
            go_ret
            rw [HE.out]
            exact ⟨rfl, below_step HBW1.out (below_step HB2.out e0.below)⟩
          | true =>
            (refine region_ext (by kernel_rfl) (by kernel_rfl) ?_; (repeat (go_big_quiet_step ((go_at_call 45; with_reducible exact ext_of (HTA.out _))))); with_reducible refine wpQuiet_end ?_; rintro e0)
            go_wp2
            go_roundg (gk - 1)
            case measure => omega
            case rel => exact ⟨k + 1, by go_num, by omega, by omega, ⟨below_step HB2.out e0.below⟩, ⟨HK2.out trivial⟩⟩
        · have hd : decide (k < K2) = false := decide_eq_false (by omega)
          have HALL11 : Aside0 (∀ x ∈ xa, termOk hasX ev x.f3 = true) := ⟨fun x hx => by
            obtain ⟨i, hi, rfl⟩ := List.getElem_of_mem hx
            exact HK.out i hi (by rw [← HNK.out.2] at hi; omega)⟩
          have HE : Aside0 (r = 0) := ⟨by rw [HRE2.out, if_pos]; rw [Bool.and_eq_true]; exact ⟨List.all_eq_true.2 HALL10.out, List.all_eq_true.2 HALL11.out⟩⟩
          go_wp2
          go_ret
          rw [HE.out]
          exact ⟨rfl, below_step HBW1.out HB2.out⟩
theorem term_C1 (w : World) (O : Obj) (t : Term) : kTerm.C ((w.alloc O).alloc (.cells #[.bool t.f0, .int .u64 t.f1] 100)) (some ⟨w.heap.size + 1, 0, none⟩) 1 [t] := by
  have := term_C (w.alloc O) t
  rwa [World.size_alloc] at this
/-- What cartoucheref12.values answers. -/
def valsB (l : List Spot) (m : Nat) : Bool := l.all fun x => hasV m x.f3
set_option maxRecDepth 100000 in
set_option maxHeartbeats 8000000 in
theorem values12_calls (w : World) (A : Option Addr) (c K : Nat) (l : List Spot) (B : Option Addr) (m d : Nat) (vs : List Int) (hK : K = l.length) (hK3 : K ≤ 300) (hr : kSpot.C w A K l) (hm : m = vs.length) (hv : (Kd.int .u64).C w B m vs) (hx : ∀ x ∈ l, 0 ≤ x.f3.f1 ∧ x.f3.f1 < 2 ^ 64) :
    Calls Tryz.prog 42 #[.slice A K c, .slice B m d] w fun e w' => ∃ A5 n5 c5, e = .returned (.tuple #[.slice A5 n5 c5, .bool (valsB l m)]) ∧ (valsB l m = true → n5 = K ∧ kTerm.C w' A5 K (l.map fun x => ofV vs x.f3)) ∧ Below w.heap.size w w' := by
  have hmax : m ≤ 9223372036854775807 := hv.2.1
  have hw : IntKind.u64.wrap (m : Int) = (m : Int) := wrap_u64 _ (by omega) (by omega)
  have HR := Aside0.mk hr
  have HV := Aside0.mk hv
  have HX := Aside0.mk hx
  have HK0 := Aside0.mk hK
  have HM := Aside0.mk hm
  obtain ⟨r, hr0⟩ : ∃ r, r = valsB l m := ⟨_, rfl⟩
  rw [← hr0]
  have HRE := Aside0.mk hr0
  clear hr hv hx hK hm hr0
  go_enter Tryz.func42, Tryz.ntmps42
  go_wp2
  go_loopg [6, 7] (K + 1) (fun g t i W => ∃ (k : Nat) (A1 : Option Addr) (c1 : Nat), i = .int .i64 k ∧ t = .slice A1 k c1 ∧ k ≤ K ∧ K + 1 - k ≤ g ∧ Aside0 (kTerm.R 100 W w.heap.size (fun _ => True) (.slice A1 k c1) ((l.take k).map fun x => ofV vs x.f3)) ∧ Aside0 (Below w.heap.size w W) ∧ Aside0 (∀ i (h : i < l.length), i < k → hasV m l[i].f3 = true))
  case atStart => exact ⟨0, none, 0, rfl, rfl, by omega, by omega, ⟨Kd.R_nil _ _ _ _ _⟩, ⟨Below.refl _ _⟩, ⟨fun i h hi => by omega⟩⟩
  case round =>
    obtain ⟨k, A1, c1, rfl, rfl, hk, hkg, HO, HB, HALL⟩ := hrel
    rcases Nat.lt_or_ge k K with hlt | hge
    · have hd : decide (k < K) = true := decide_eq_true hlt
      have hkx : k < l.length := by rw [← HK0.out]; exact hlt
      obtain ⟨ad, rfl, -, -, -, t3, t4⟩ := C_spotN (by rw [← HK0.out]; exact Kd.C_below HR.out HB.out) k hkx
      have HLT : Aside0 ((l.take k).map (fun x => ofV vs x.f3) ++ [ofV vs l[k].f3] = (l.take (k + 1)).map (fun x => ofV vs x.f3)) := ⟨by rw [List.take_succ_eq_append_getElem hkx, List.map_append]; rfl⟩
      have hlk1 : ((l.take (k + 1)).map (fun x => ofV vs x.f3)).length = k + 1 := by rw [List.length_map, List.length_take]; omega
      have hlk : ((l.take k).map (fun x => ofV vs x.f3)).length = k := by rw [List.length_map, List.length_take]; omega
      have HLK := Aside0.mk (And.intro hlk hlk1)
      have HN := Aside0.mk (HX.out l[k] (List.getElem_mem hkx))
      have HBAD : Aside0 (hasV m l[k].f3 = false → r = false) := ⟨fun h => by
        rw [HRE.out]
        cases hq : valsB l m with
        | false => rfl
        | true =>
          have := List.all_eq_true.1 hq l[k] (List.getElem_mem hkx)
          rw [h] at this
          cases this⟩
      have HA2 : Aside0 (hasV m l[k].f3 = true → ∀ i (h : i < l.length), i < k + 1 → hasV m l[i].f3 = true) := ⟨fun hh i h hi => by
        rcases Nat.lt_or_ge i k with h4 | h4
        · exact HALL.out i h h4
        · obtain rfl : i = k := by omega
          exact hh⟩
      obtain ⟨x, hxe⟩ : ∃ x, x = l[k].f3 := ⟨_, rfl⟩
      rw [← hxe] at t3 t4 HLT HN HBAD HA2
      clear hxe hlk hlk1 hkx
      obtain ⟨a0, a1⟩ := x
      simp only at t3 t4 HN
      cases a0 with
      | false =>
        have HE : Aside0 (ofV vs ⟨false, a1⟩ = ⟨false, a1⟩) := ⟨rfl⟩
        have HH : Aside0 (hasV m ⟨false, a1⟩ = true) := ⟨rfl⟩
        rw [HE.out] at HLT
        clear HBAD
        go_wp2_with (at_builtin; refine wpList_append_R rfl kTerm w.heap.size (.tmp 34) (.tmp 36) 109 109 100 100 (.agg #[.bool false, .int .u64 0]) 16 rfl (by kernel_rfl) (by kernel_rfl) infoT rfl (by decide) (by decide) (.slice A1 k c1) ((l.take k).map fun x => ofV vs x.f3) [⟨false, a1⟩] (some ⟨wr.heap.size + 1, 0, none⟩) 1 1 (fun _ => True) (fun _ => False) rfl rfl (Kd.R_below HO.out (below_alloc (below_alloc (Below.refl _ _) _) _)) (term_C1 wr _ ⟨false, a1⟩) (fun x cs h => termM h) (fun _ h => h.elim) (fun _ _ => trivial) (below_alloc (below_alloc HB.out _) _).size (by rw [HLK.out.1]; omega) ?_; intro v1 w1 HO1 hg1 hat; rw [HLT.out] at HO1; obtain ⟨A2, c2, rfl⟩ := Kd.R_slice HO1; rw [HLK.out.2] at HO1 ⊢; have HB1 := Aside0.mk ((below_alloc (below_alloc HB.out _) _).grown hg1 (below_alloc (below_alloc HB.out _) _).size (fun k hk => (Kd.R_bound HO.out).1 k hk |>.2.1)); have HO2 := Aside0.mk HO1; clear HO1 hg1 hat HO HB)
        go_roundg (gk - 1)
        case measure => omega
        case rel => exact ⟨k + 1, A2, c2, by go_num, rfl, by omega, by omega, HO2, HB1, ⟨HA2.out HH.out⟩⟩
      | true =>
        rcases Int.lt_or_le a1 m with hin | hout
        · have hd2 : decide (a1 ≥ (m : Int)) = false := decide_eq_false (by omega)
          have hd3 : decide ((m : Int) ≤ a1) = false := decide_eq_false (by omega)
          obtain ⟨j, rfl⟩ := Int.eq_ofNat_of_zero_le HN.out.1
          have hjm : j < m := by omega
          have hd4 : decide (m ≤ j) = false := decide_eq_false (by omega)
          obtain ⟨bd, hB, hc⟩ := C_rd (Kd.C_below HV.out (below_alloc HB.out (.cells #[.bool true, .int .u64 (j : Int)] 100))) j hjm
          subst hB
          have HE : Aside0 (ofV vs ⟨true, (j : Int)⟩ = ⟨false, rd vs (j : Int)⟩) := ⟨rfl⟩
          have HH : Aside0 (hasV m ⟨true, (j : Int)⟩ = true) := ⟨by unfold hasV; simp; omega⟩
          rw [HE.out] at HLT
          obtain ⟨z, hz⟩ : ∃ z, z = rd vs (j : Int) := ⟨_, rfl⟩
          rw [← hz] at hc HLT
          clear hz HBAD hin HN HE
          go_wp2_with (at_builtin; refine wpList_append_R rfl kTerm w.heap.size (.tmp 34) (.tmp 36) 109 109 100 100 (.agg #[.bool false, .int .u64 0]) 16 rfl (by kernel_rfl) (by kernel_rfl) infoT rfl (by decide) (by decide) (.slice A1 k c1) ((l.take k).map fun x => ofV vs x.f3) [⟨false, z⟩] (some ⟨wr.heap.size + 1, 0, none⟩) 1 1 (fun _ => True) (fun _ => False) rfl rfl (Kd.R_below HO.out (below_alloc (below_alloc (Below.refl _ _) _) _)) (term_C1 wr _ ⟨false, z⟩) (fun x cs h => termM h) (fun _ h => h.elim) (fun _ _ => trivial) (below_alloc (below_alloc HB.out _) _).size (by rw [HLK.out.1]; omega) ?_; intro v1 w1 HO1 hg1 hat; rw [HLT.out] at HO1; obtain ⟨A2, c2, rfl⟩ := Kd.R_slice HO1; rw [HLK.out.2] at HO1 ⊢; have HB1 := Aside0.mk ((below_alloc (below_alloc HB.out _) _).grown hg1 (below_alloc (below_alloc HB.out _) _).size (fun k hk => (Kd.R_bound HO.out).1 k hk |>.2.1)); have HO2 := Aside0.mk HO1; clear HO1 hg1 hat HO HB)
          go_roundg (gk - 1)
          case measure => omega
          case rel => exact ⟨k + 1, A2, c2, by go_num, rfl, by omega, by omega, HO2, HB1, ⟨HA2.out HH.out⟩⟩
        · have hd2 : decide (a1 ≥ (m : Int)) = true := decide_eq_true (by omega)
          have hd3 : decide ((m : Int) ≤ a1) = true := decide_eq_true (by omega)
          have HE : Aside0 (r = false) := ⟨HBAD.out (by unfold hasV; simp; omega)⟩
          clear HBAD hout HN
          go_wp2
          go_ret2
          rw [HE.out]
          exact ⟨none, 0, 0, rfl, (fun h => by cases h), below_alloc HB.out _⟩
    · have hd : decide (k < K) = false := decide_eq_false (by omega)
      obtain rfl : K = k := by omega
      have HE : Aside0 (r = true) := ⟨by
        rw [HRE.out]
        refine List.all_eq_true.2 fun x hx => ?_
        obtain ⟨i, hi, rfl⟩ := List.getElem_of_mem hx
        exact HALL.out i hi (by rw [← HK0.out] at hi; exact hi)⟩
      go_wp2
      go_ret2
      have HO1 := HO.out
      rw [List.take_of_length_le (by rw [← HK0.out]; exact Nat.le_refl _)] at HO1
      rw [HE.out]
      have hc := (Kd.R_reads' HO1).2.2
      rw [List.length_map, ← HK0.out] at hc
      exact ⟨A1, K, c1, rfl, fun _ => ⟨rfl, hc⟩, HB.out⟩
set_option maxRecDepth 100000 in
set_option maxHeartbeats 8000000 in
theorem ground12_calls (w : World) (y : SchY) (hy : y.ok w) (hlen : y.body.length ≤ 300) (B1 B2 : Option Addr) (m1 m2 f1 f2 : Nat) (ls xs : List Int) (hm1 : m1 = ls.length) (hm2 : m2 = xs.length) (hl1 : (Kd.int .u64).C w B1 m1 ls) (hl2 : (Kd.int .u64).C w B2 m2 xs) :
    Calls Tryz.prog 11 #[y.v, .slice B1 m1 f1, .slice B2 m2 f2] w fun e w' => ∃ A' n' c', e = .returned (.tuple #[.slice A' n' c', .int .i64 (grounS y.lv y.ev y.body ls xs).2]) ∧ n' = (grounS y.lv y.ev y.body ls xs).1.length ∧ kNode.C w' A' n' (grounS y.lv y.ev y.body ls xs).1 ∧ Below w.heap.size w w' := by
  obtain ⟨lv, ev, A, c, a, LA, lc, L, EA, ec, E⟩ := y
  obtain ⟨hr, hwa, -, -, -, -, -, -⟩ := hy
  simp only at hr hwa hlen
  simp only [SchY.v]
  obtain ⟨r, hr0⟩ : ∃ r, r = grounS lv ev a ls xs := ⟨_, rfl⟩
  rw [← hr0]
  obtain ⟨qa, hqa⟩ : ∃ q, q = checkB a := ⟨_, rfl⟩
  have HRE0 : Aside0 (r = if qa ≠ 0 then ([], qa) else if (m1 : Int) ≠ lv ∨ (m2 : Int) ≠ ev ∨ ((labB a).all (fun x => hasV m1 x.f3) && (effB a).all (fun x => hasV m2 x.f3)) = false then ([], 1)
    else (putB a ((labB a).map fun x => ofV ls x.f3) ((effB a).map fun x => ofV xs x.f3), 0)) := ⟨by rw [hr0, grounS, hqa, hm1, hm2]⟩
  obtain ⟨n, hn⟩ : ∃ n, n = a.length := ⟨_, rfl⟩
  rw [← hn] at hr
  have CK : Aside0 (∀ W, Below w.heap.size w W → Calls Tryz.prog 40 #[.slice A n c] W fun e w' => e = .returned (.int .i64 qa) ∧ Below W.heap.size W w') := ⟨fun W hb => by rw [hqa, hn]; exact Ref07.check_calls W A c a hlen (by rw [← hn]; exact Kd.C_below hr hb)⟩
  have HR := Aside0.mk hr
  have HWA := Aside0.mk hwa
  have HN := Aside0.mk (And.intro hn hlen)
  have HQ := Aside0.mk hqa
  have HM := Aside0.mk (And.intro hm1 hm2)
  have HL := Aside0.mk (And.intro hl1 hl2)
  rw [← hn]
  obtain ⟨k, hk⟩ : ∃ n, n = L.length := ⟨_, rfl⟩
  obtain ⟨m, hm⟩ : ∃ n, n = E.length := ⟨_, rfl⟩
  rw [← hk, ← hm]
  have HB := Aside0.mk (below_alloc (Below.refl w.heap.size w) (.cells #[.int .i64 lv, .int .i64 ev, .slice A n c, .slice LA k lc, .slice EA m ec] 25))
  have g := blk_new w (.cells #[.int .i64 lv, .int .i64 ev, .slice A n c, .slice LA k lc, .slice EA m ec] 25)
  have c0 := (blk_cell g 0).trans (show _ = some (Value.int .i64 lv) from rfl)
  have c1 := (blk_cell g 1).trans (show _ = some (Value.int .i64 ev) from rfl)
  have c2 := (blk_cell g 2).trans (show _ = some (Value.slice A n c) from rfl)
  clear g hr0 hr hwa hqa hn hk hm hm1 hm2 hl1 hl2 hlen
  by_cases q1 : qa = 0
  rotate_left
  · have z1 : (qa != 0) = true := bne_iff_ne.mpr q1
    have HE : Aside0 (r = ([], qa)) := ⟨by rw [HRE0.out, if_pos q1]⟩
    clear HRE0 q1
    go_enter Tryz.func11, Tryz.ntmps11
    go_wp2_with (go_at_call 40; (with_reducible refine (CK.out _ HB.out).mono ?_); rintro e W' ⟨rfl, hb'⟩; replace c0 := pw_cell_below hb' c0; replace c1 := pw_cell_below hb' c1; replace c2 := pw_cell_below hb' c2; have HB' := Aside0.mk (below_step HB.out hb'); clear HB hb'; have HB := HB'; clear HB')
    go_ret2
    rw [HE.out]
    exact ⟨none, 0, 0, rfl, rfl, Kd.C_nil _ _, HB.out⟩
  subst q1
  go_enter Tryz.func11, Tryz.ntmps11
  go_wp2_with (go_at_call 40; (with_reducible refine (CK.out _ HB.out).mono ?_); rintro e W' ⟨rfl, hb'⟩; replace c0 := pw_cell_below hb' c0; replace c1 := pw_cell_below hb' c1; replace c2 := pw_cell_below hb' c2; have HB' := Aside0.mk (below_step HB.out hb'); clear HB hb'; have HB := HB'; clear HB')
  refine (Ref08.of_calls _ A n c a HN.out.1 (by have := HN.out; omega) (Kd.C_below HR.out HB.out)).mono ?_
  rintro e W1 ⟨A1, d1, A2, d2, rfl, s1, s2, hb'⟩
  obtain ⟨la, hla⟩ : ∃ l, l = labB a := ⟨_, rfl⟩
  obtain ⟨xa, hxa⟩ : ∃ l, l = effB a := ⟨_, rfl⟩
  have n1 : ∀ x ∈ la, 0 ≤ x.f3.f1 ∧ x.f3.f1 < 2 ^ 64 := by rw [hla]; exact fun x hx => (labB_W HWA.out x hx).1
  have n2 : ∀ x ∈ xa, 0 ≤ x.f3.f1 ∧ x.f3.f1 < 2 ^ 64 := by rw [hxa]; exact fun x hx => (effB_W HWA.out x hx).1
  have mx1 : la.length ≤ 256 := by rw [hla]; exact labB_max a
  have mx2 : xa.length ≤ 256 := by rw [hxa]; exact effB_max a
  replace s1 := (Kd.R_reads' s1).2.2
  replace s2 := (Kd.R_reads' s2).2.2
  rw [← hla] at s1 ⊢
  rw [← hxa] at s2 ⊢
  have HRE : Aside0 (r = if (m1 : Int) ≠ lv ∨ (m2 : Int) ≠ ev ∨ (valsB la m1 && valsB xa m2) = false then ([], 1)
    else (putB a (la.map fun x => ofV ls x.f3) (xa.map fun x => ofV xs x.f3), 0)) := ⟨by rw [HRE0.out, if_neg (by simp), hla, hxa]; rfl⟩
  obtain ⟨K1, hK1⟩ : ∃ L, L = la.length := ⟨_, rfl⟩
  obtain ⟨K2, hK2⟩ : ∃ L, L = xa.length := ⟨_, rfl⟩
  rw [← hK1] at s1 mx1 ⊢
  rw [← hK2] at s2 mx2 ⊢
  have HLA := Aside0.mk (And.intro hla hxa)
  replace c0 := pw_cell_below hb' c0; replace c1 := pw_cell_below hb' c1; replace c2 := pw_cell_below hb' c2
  have HB1 := Aside0.mk (below_step HB.out hb')
  have V1 := Aside0.mk (values12_calls W1 A1 d1 K1 la B1 m1 f1 ls hK1 (by omega) s1 HM.out.1 (Kd.C_below HL.out.1 HB1.out) n1)
  have HS2 := Aside0.mk s2
  have HN2 := Aside0.mk (And.intro n2 (And.intro hK1 hK2))
  clear hla hxa n1 n2 s1 s2 hK1 hK2 HB CK HRE0 hb'
  obtain ⟨t1, ht1⟩ : ∃ t, t = valsB la m1 := ⟨_, rfl⟩
  obtain ⟨t2, ht2⟩ : ∃ t, t = valsB xa m2 := ⟨_, rfl⟩
  rw [← ht1] at V1 HRE
  rw [← ht2] at HRE
  have HTT := Aside0.mk (And.intro ht1 ht2)
  clear ht1 ht2
  go_wp2_with fail
  refine V1.out.mono ?_
  rintro e W2 ⟨A5, n5, c5, rfl, k5, hb2⟩
  replace c0 := pw_cell_below hb2 c0; replace c1 := pw_cell_below hb2 c1; replace c2 := pw_cell_below hb2 c2
  have HB2 := Aside0.mk (below_step HB1.out hb2)
  have V2 := Aside0.mk (values12_calls W2 A2 d2 K2 xa B2 m2 f2 xs HN2.out.2.2 (by omega) (Kd.C_below HS2.out hb2) HM.out.2 (Kd.C_below HL.out.2 HB2.out) HN2.out.1)
  rw [← HTT.out.2] at V2
  have H5 := Aside0.mk k5
  clear hb2 V1 k5
  go_wp2_with fail
  refine V2.out.mono ?_
  rintro e W3 ⟨A6, n6, c6, rfl, k6, hb3⟩
  replace c0 := pw_cell_below hb3 c0; replace c1 := pw_cell_below hb3 c1; replace c2 := pw_cell_below hb3 c2
  have HB3 := Aside0.mk (below_step HB2.out hb3)
  have H56 : Aside0 ((t1 = true → n5 = K1 ∧ kTerm.C W3 A5 K1 (la.map fun x => ofV ls x.f3)) ∧ (t2 = true → n6 = K2 ∧ kTerm.C W3 A6 K2 (xa.map fun x => ofV xs x.f3))) := ⟨fun h => ⟨(H5.out h).1, Kd.C_below (H5.out h).2 hb3⟩, k6⟩
  clear hb3 V2 k6 H5
  by_cases p1 : (m1 : Int) = lv
  rotate_left
  · have z1 : ((m1 : Int) != lv) = true := bne_iff_ne.mpr p1
    have HE : Aside0 (r = ([], 1)) := ⟨by rw [HRE.out, if_pos (.inl p1)]⟩
    clear HRE p1
    go_wp2
    go_ret2
    rw [HE.out]
    exact ⟨none, 0, 0, rfl, rfl, Kd.C_nil _ _, HB3.out⟩
  subst p1
  by_cases p1 : (m2 : Int) = ev
  rotate_left
  · have z1 : ((m2 : Int) != ev) = true := bne_iff_ne.mpr p1
    have HE : Aside0 (r = ([], 1)) := ⟨by rw [HRE.out, if_pos (.inr (.inl p1))]⟩
    clear HRE p1
    go_wp2
    go_ret2
    rw [HE.out]
    exact ⟨none, 0, 0, rfl, rfl, Kd.C_nil _ _, HB3.out⟩
  subst p1
  cases t1 with
  | false =>
    have HE : Aside0 (r = ([], 1)) := ⟨by rw [HRE.out, if_pos (.inr (.inr rfl))]⟩
    clear HRE
    go_wp2
    go_ret2
    rw [HE.out]
    exact ⟨none, 0, 0, rfl, rfl, Kd.C_nil _ _, HB3.out⟩
  | true =>
  cases t2 with
  | false =>
    have HE : Aside0 (r = ([], 1)) := ⟨by rw [HRE.out, if_pos (.inr (.inr rfl))]⟩
    clear HRE
    go_wp2
    go_ret2
    rw [HE.out]
    exact ⟨none, 0, 0, rfl, rfl, Kd.C_nil _ _, HB3.out⟩
  | true =>
  obtain ⟨rfl, k5⟩ := H56.out.1 rfl
  obtain ⟨rfl, k6⟩ := H56.out.2 rfl
  have hz : checkB a = 0 := HQ.out.symm
  have hpa : putA a (la.map fun x => ofV ls x.f3) (xa.map fun x => ofV xs x.f3) = (putB a (la.map fun x => ofV ls x.f3) (xa.map fun x => ofV xs x.f3), 0) := by
    rw [putA, if_neg (by simpa using hz), if_neg]
    rw [List.length_map, List.length_map, HLA.out.1, HLA.out.2]
    simp
  have HE : Aside0 (r = putA a (la.map fun x => ofV ls x.f3) (xa.map fun x => ofV xs x.f3)) := ⟨by rw [HRE.out, if_neg (by simp), hpa]⟩
  have PU := Aside0.mk (Ref08.put_calls W3 A A5 A6 n c n5 n6 c5 c6 a _ _ HN.out.1 (by have := HN.out; omega) (by rw [List.length_map]; exact HN2.out.2.1) (by rw [List.length_map]; exact HN2.out.2.2) (Kd.C_below HR.out HB3.out) k5 k6)
  rw [← HE.out] at PU
  clear HRE k5 k6 hz hpa H56 HE HTT
  obtain ⟨rn, rz⟩ := r
  obtain ⟨p, hp⟩ : ∃ p, p = rn.length := ⟨_, rfl⟩
  simp only at PU
  rw [← hp] at PU
  have HP := Aside0.mk hp
  clear hp
  go_wp2_with fail
  refine PU.out.mono ?_
  rintro e W4 ⟨⟨A7, c7, rfl, k7⟩, hb4⟩
  have HK7 := Aside0.mk k7
  have HB4 := Aside0.mk (below_step HB3.out hb4)
  clear k7 hb4
  go_wp2
  go_ret2
  exact ⟨A7, p, ⟨c7, rfl⟩, HP.out, HK7.out, HB4.out⟩
end Ref12
end Go.Proofs.YtdecijmncpbheaaGreatDoor
