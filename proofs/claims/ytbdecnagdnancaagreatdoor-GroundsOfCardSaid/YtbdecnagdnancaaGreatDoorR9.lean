/- The document's grounds: label, effect, may, holds, below, and layer 6's sets, by walks through their code. -/
import Derived.Test.YtbdecnagdnancaaGreatDoorR4B
import Derived.Test.YtbdecnagdnancaaGreatDoorR8
import Derived.Test.YtbdecnagdnancaaGreatDoorTyUa
import Derived.Test.YtbdecnagdnancaaGreatDoorL09A

namespace Go.Proofs.YtbdecnagdnancaaGreatDoor
open Go.RowKit Go.Proofs.YtbdecnagdnancaaGreatDoorW.PrintWords Go.Proofs.YtbdecnagdnancaaGreatDoorW.PrintLast Go.Proofs.YtbdecnagdnancaaGreatDoorW.PrintMore
set_option linter.unusedVariables false
set_option linter.unusedSimpArgs false
namespace Ref09
theorem or_less (a t : Int) (ha : 0 ≤ a ∧ a < 2 ^ 64) (ht : 0 ≤ t ∧ t < 2 ^ 64) : (bits .or .u64 a t == t) = (lessI a t == 0) := by
  rw [Bool.eq_iff_iff, beq_iff_eq, beq_iff_eq, lessI_zero a t ha.1 ha.2 ht.1 ht.2]
  obtain ⟨x, rfl⟩ := Int.eq_ofNat_of_zero_le ha.1
  obtain ⟨y, rfl⟩ := Int.eq_ofNat_of_zero_le ht.1
  rw [bits_or_u64_nat x y (by omega) (by omega)]
  simp only [Int.toNat_natCast]
  constructor
  · intro h j hj
    have h' : x ||| y = y := by exact_mod_cast h
    rw [← h', Nat.testBit_or, hj]; rfl
  · intro h
    have : x ||| y = y := by
      apply Nat.eq_of_testBit_eq
      intro j
      rw [Nat.testBit_or]
      cases hj : x.testBit j with
      | false => simp
      | true => rw [h j hj]; rfl
    rw [this]
theorem top_step (k : Nat) (h : k < 64) : bits .or .u64 ((2 : Int) ^ k - 1) (IntKind.u64.wrap (2 ^ k)) = 2 ^ (k + 1) - 1 := by
  have hp : 2 ^ k < 2 ^ 64 := Nat.pow_lt_pow_right (by decide) h
  have h1 : 1 ≤ 2 ^ k := Nat.one_le_two_pow
  rw [wrap_u64 _ (by exact_mod_cast Nat.zero_le _) (by exact_mod_cast hp)]
  have e1 : (2 : Int) ^ k - 1 = ((2 ^ k - 1 : Nat) : Int) := by rw [Int.ofNat_sub h1]; simp
  have e2 : (2 : Int) ^ k = ((2 ^ k : Nat) : Int) := by simp
  rw [e1, e2, bits_or_u64_nat _ _ (by omega) (by omega)]
  have e3 : (2 ^ k - 1) ||| 2 ^ k = 2 ^ (k + 1) - 1 := by
    apply Nat.eq_of_testBit_eq
    intro j
    rw [Nat.testBit_or, Nat.testBit_two_pow_sub_one, Nat.testBit_two_pow, Nat.testBit_two_pow_sub_one]
    rw [Bool.eq_iff_iff]
    simp
    omega
  rw [e3, Int.ofNat_sub (Nat.one_le_two_pow)]
  simp
set_option maxRecDepth 100000 in
set_option maxHeartbeats 4000000 in
theorem top6_calls (w : World) (n : Nat) (h64 : n ≤ 64) : Calls Tryz.prog 223 #[.int .i64 (n : Int)] w fun e w' => e = .returned (.int .u64 (2 ^ n - 1)) ∧ w = w' := by
  go_enter Tryz.func223, Tryz.ntmps223
  go_wp2
  go_loopg [3, 4] (n + 1) (fun g s i W => ∃ (k : Nat) (t : Int), i = .int .i64 (k : Int) ∧ s = .int .u64 t ∧ W = w ∧ k ≤ n ∧ n + 1 - k ≤ g ∧ Aside0 (t = 2 ^ k - 1))
  case atStart => exact ⟨0, 0, rfl, rfl, rfl, by omega, by omega, ⟨rfl⟩⟩
  case round =>
    obtain ⟨k, t, rfl, rfl, hW, hk, hkg, HT⟩ := hrel
    have hW2 := hW.symm; clear hW; subst hW2
    rcases Nat.lt_or_ge k n with hlt | hge
    · have hd : decide (k < n) = true := decide_eq_true hlt
      have hk63 : k < 64 := by omega
      go_wp2
      go_roundg (gk - 1)
      case measure => omega
      case rel => exact ⟨k + 1, _, by go_num, rfl, rfl, by omega, by omega, ⟨by rw [HT.out]; first | exact top_step k hk63 | (rw [Int.one_mul]; exact top_step k hk63)⟩⟩
    · have hd : decide (k < n) = false := decide_eq_false (by omega)
      obtain rfl : k = n := by omega
      go_wp2
      go_ret
      rw [HT.out]
      exact ⟨rfl, rfl⟩
theorem pow_u64 (n : Nat) (h : n ≤ 64) : 0 ≤ (2 : Int) ^ n - 1 ∧ (2 : Int) ^ n - 1 < 2 ^ 64 := by
  have hp : (2 : Int) ^ n ≤ 2 ^ 64 := by exact_mod_cast Nat.pow_le_pow_right (n := 2) (by decide) h
  have h1 : (1 : Int) ≤ 2 ^ n := by exact_mod_cast Nat.one_le_two_pow
  omega
theorem effO_nat (n : Nat) (h : n ≤ 64) : effO (n : Int) = some (2 ^ n - 1) := by rw [effO, if_neg (by omega), Int.toNat_natCast]
set_option maxRecDepth 100000 in
set_option maxHeartbeats 4000000 in
theorem has6_calls (w : World) (n : Nat) (h64 : n ≤ 64) (a : Int) (ha : 0 ≤ a ∧ a < 2 ^ 64) : Calls Tryz.prog 185 #[.int .i64 (n : Int), .int .u64 a] w fun e w' => e = .returned (.bool (hasEff (effO n) a)) ∧ w = w' := by
  have HE : Aside0 (hasEff (effO n) a = (bits .or .u64 a (2 ^ n - 1) == 2 ^ n - 1)) := ⟨by rw [effO_nat n h64, or_less a _ ha (pow_u64 n h64)]; rfl⟩
  clear ha
  obtain ⟨t, ht⟩ : ∃ t : Int, t = 2 ^ n - 1 := ⟨_, rfl⟩
  have HT : Aside0 (∀ W, Calls Tryz.prog 223 #[.int .i64 (n : Int)] W fun e w' => e = .returned (.int .u64 t) ∧ W = w') := ⟨fun W => by rw [ht]; exact top6_calls W n h64⟩
  rw [← ht] at HE
  clear ht
  rw [HE.out]
  clear HE
  go_enter Tryz.func185, Tryz.ntmps185
  go_wp2_with (go_at_call 223; (with_reducible refine (HT.out _).mono ?_); rintro e W1 ⟨rfl, rfl⟩)
  go_ret
  exact ⟨rfl, rfl⟩
set_option maxRecDepth 100000 in
set_option maxHeartbeats 4000000 in
theorem below6_calls (w : World) (n : Nat) (h64 : n ≤ 64) (a b : Int) (ha : 0 ≤ a ∧ a < 2 ^ 64) (hb : 0 ≤ b ∧ b < 2 ^ 64) : Calls Tryz.prog 106 #[.int .i64 (n : Int), .int .u64 a, .int .u64 b] w fun e w' => e = .returned (.bool (leEff (effO n) a b)) ∧ w = w' := by
  have H1 := Aside0.mk (fun W => has6_calls W n h64 a ha)
  have H2 := Aside0.mk (fun W => has6_calls W n h64 b hb)
  have HE : Aside0 (leEff (effO n) a b = (hasEff (effO n) a && hasEff (effO n) b && (bits .or .u64 a b == b))) := ⟨by rw [effO_nat n h64, or_less a b ha hb]; rfl⟩
  rw [HE.out]
  clear HE ha hb
  cases h1 : hasEff (effO n) a with
  | false =>
    have K1 := Aside0.mk h1
    clear h1
    go_enter Tryz.func106, Tryz.ntmps106
    go_wp2_with (go_at_call 185; (with_reducible refine (H1.out _).mono ?_); rintro e W1 ⟨rfl, rfl⟩; rw [K1.out])
    go_ret
    exact ⟨rfl, rfl⟩
  | true =>
    have K1 := Aside0.mk h1
    clear h1
    cases h2 : hasEff (effO n) b with
    | false =>
      have K2 := Aside0.mk h2
      clear h2
      go_enter Tryz.func106, Tryz.ntmps106
      go_wp2_with (go_at_call 185; first | ((with_reducible refine (H1.out _).mono ?_); rintro e W1 ⟨rfl, rfl⟩; rw [K1.out]) | ((with_reducible refine (H2.out _).mono ?_); rintro e W1 ⟨rfl, rfl⟩; rw [K2.out]))
      go_ret
      exact ⟨rfl, rfl⟩
    | true =>
      have K2 := Aside0.mk h2
      clear h2
      go_enter Tryz.func106, Tryz.ntmps106
      go_wp2_with (go_at_call 185; first | ((with_reducible refine (H1.out _).mono ?_); rintro e W1 ⟨rfl, rfl⟩; rw [K1.out]) | ((with_reducible refine (H2.out _).mono ?_); rintro e W1 ⟨rfl, rfl⟩; rw [K2.out]))
      go_ret
      exact ⟨rfl, rfl⟩
set_option maxRecDepth 100000 in
set_option maxHeartbeats 4000000 in
theorem label9_calls (w : World) (A : Option Addr) (c n : Nat) (rows : List Int) (t : Term) (hn : n = rows.length) (hr : (Kd.int .u64).C w A n rows) (hU : U64s rows) (ht : 0 ≤ t.f1) :
    Calls Tryz.prog 183 #[.slice A n c, .agg #[.bool t.f0, .int .u64 t.f1]] w fun e w' => e = .returned (.bool (!t.f0 && hasLat (L09.latO rows) t.f1)) ∧ Below w.heap.size w w' := by
  obtain ⟨v, a⟩ := t
  have hmax := hr.2.1
  have CK := Aside0.mk (Ref04.check4_calls (w.alloc (.cells #[.bool v, .int .u64 a] 120)) A c n rows hn hmax (Kd.C_below hr (below_alloc (Below.refl _ _) _)) hU)
  have hw : IntKind.u64.wrap (n : Int) = (n : Int) := wrap_u64 _ (by omega) (by omega)
  have HIF := Aside0.mk (checkO_ref hU)
  have HN := Aside0.mk hn
  clear hr hn hU
  simp only at ht ⊢
  cases v with
  | true =>
    go_enter Tryz.func183, Tryz.ntmps183
    go_wp2
    go_ret
    exact ⟨rfl, below_alloc (Below.refl _ _) _⟩
  | false =>
    have t0 : (w.alloc (.cells #[.bool false, .int .u64 a] 120)).cell? ⟨w.heap.size, 1, none⟩ = some (.int .u64 a) := blk_cell (blk_new w _) 1
    have T0 := Aside0.mk t0
    clear t0
    by_cases hok : RefOk rows
    · have HE : Aside0 ((!false && hasLat (L09.latO rows) a) = decide (a < (n : Int))) := ⟨by rw [L09.latO, if_pos (HIF.out.2 hok), HN.out]; rfl⟩
      have HOK := Aside0.mk hok
      rw [HE.out]
      clear hok HE
      go_enter Tryz.func183, Tryz.ntmps183
      go_wp2_with (go_at_call 126; (with_reducible refine CK.out.mono ?_); rintro e W1 ⟨⟨z, rfl, hz⟩, hb⟩; have zz : (z == 0) = true := beq_iff_eq.2 (hz.2 HOK.out); have t1 := pw_cell_below hb T0.out; have HB := Aside0.mk (below_step (below_alloc (Below.refl w.heap.size w) _) hb); clear hz hb)
      go_ret
      exact ⟨rfl, HB.out⟩
    · have HE : Aside0 ((!false && hasLat (L09.latO rows) a) = false) := ⟨by rw [L09.latO, if_neg (fun h => hok (HIF.out.1 h))]; rfl⟩
      have HOK := Aside0.mk hok
      rw [HE.out]
      clear hok HE
      go_enter Tryz.func183, Tryz.ntmps183
      go_wp2_with (go_at_call 126; (with_reducible refine CK.out.mono ?_); rintro e W1 ⟨⟨z, rfl, hz⟩, hb⟩; have zz : (z == 0) = false := beq_eq_false_iff_ne.2 (fun h => HOK.out (hz.1 h)); have HB := Aside0.mk (below_step (below_alloc (Below.refl w.heap.size w) _) hb); clear hz hb)
      go_ret
      exact ⟨rfl, HB.out⟩
set_option maxRecDepth 100000 in
set_option maxHeartbeats 4000000 in
theorem effect9_calls (w : World) (m : Int) (t : Term) (ht : 0 ≤ t.f1 ∧ t.f1 < 2 ^ 64) :
    Calls Tryz.prog 184 #[.int .i64 m, .agg #[.bool t.f0, .int .u64 t.f1]] w fun e w' => e = .returned (.bool (!t.f0 && hasEff (effO m) t.f1)) ∧ Below w.heap.size w w' := by
  obtain ⟨v, a⟩ := t
  simp only at ht ⊢
  cases v with
  | true =>
    clear ht
    go_enter Tryz.func184, Tryz.ntmps184
    go_wp2
    go_ret
    exact ⟨rfl, below_alloc (Below.refl _ _) _⟩
  | false =>
    rcases Int.lt_or_le m 0 with h1 | h1
    · have d1 : decide (0 ≤ m) = false := decide_eq_false (by omega)
      have HE : Aside0 ((!false && hasEff (effO m) a) = false) := ⟨by rw [effO, if_pos (.inl h1)]; rfl⟩
      rw [HE.out]
      clear HE ht
      go_enter Tryz.func184, Tryz.ntmps184
      go_wp2
      go_ret
      exact ⟨rfl, below_alloc (Below.refl _ _) _⟩
    have d1 : decide (0 ≤ m) = true := decide_eq_true h1
    rcases Int.lt_or_le 64 m with h2 | h2
    · have d2 : decide (m ≤ 64) = false := decide_eq_false (by omega)
      have HE : Aside0 ((!false && hasEff (effO m) a) = false) := ⟨by rw [effO, if_pos (.inr h2)]; rfl⟩
      rw [HE.out]
      clear HE ht
      go_enter Tryz.func184, Tryz.ntmps184
      go_wp2
      go_ret
      exact ⟨rfl, below_alloc (Below.refl _ _) _⟩
    obtain ⟨n, rfl⟩ := Int.eq_ofNat_of_zero_le h1
    have d2 : decide ((n : Int) ≤ 64) = true := decide_eq_true h2
    have H1 := Aside0.mk (fun W => has6_calls W n (by omega) a ht)
    rw [show (!false && hasEff (effO (n : Int)) a) = hasEff (effO (n : Int)) a from Bool.true_and _]
    clear ht
    go_enter Tryz.func184, Tryz.ntmps184
    go_wp2_with (go_at_call 185; (with_reducible refine (H1.out _).mono ?_); rintro e W1 ⟨rfl, rfl⟩)
    go_ret
    exact ⟨rfl, below_alloc (Below.refl _ _) _⟩
set_option maxRecDepth 100000 in
set_option maxHeartbeats 4000000 in
theorem holds9_calls (w : World) (s : Int) (is back : Bool) : Calls Tryz.prog 104 #[.int .u8 s, .bool is, .bool back] w fun e w' => e = .returned (.bool (if s = 0 then is else if s = 1 then back else is && back)) ∧ w = w' := by
  by_cases h0 : s = 0
  · have e0 : (s == 0) = true := beq_iff_eq.2 h0
    rw [if_pos h0]
    clear h0
    go_enter Tryz.func104, Tryz.ntmps104
    go_wp2
    go_ret
    exact ⟨rfl, rfl⟩
  have e0 : (s == 0) = false := beq_eq_false_iff_ne.2 h0
  rw [if_neg h0]
  by_cases h1 : s = 1
  · have e1 : (s == 1) = true := beq_iff_eq.2 h1
    rw [if_pos h1]
    clear h0 h1
    go_enter Tryz.func104, Tryz.ntmps104
    go_wp2
    go_ret
    exact ⟨rfl, rfl⟩
  have e1 : (s == 1) = false := beq_eq_false_iff_ne.2 h1
  rw [if_neg h1]
  clear h0 h1
  cases is with
  | false =>
    go_enter Tryz.func104, Tryz.ntmps104
    go_wp2
    go_ret
    exact ⟨rfl, rfl⟩
  | true =>
    go_enter Tryz.func104, Tryz.ntmps104
    go_wp2
    go_ret
    exact ⟨by rw [Bool.true_and]; rfl, rfl⟩
set_option maxRecDepth 100000 in
set_option maxHeartbeats 8000000 in
theorem may9_calls (w : World) (A B : Option Addr) (N c n d : Nat) (m : Int) (body : List Node) (rows : List Int) (hN : N = body.length) (hl : N ≤ 300) (hn : n = rows.length) (hr : kNode.C w A N body) (hrr : (Kd.int .u64).C w B n rows) (hU : U64s rows) (hwf : ∀ x ∈ body, Node.wf x) :
    Calls Tryz.prog 102 #[.slice A N c, .slice B n d, .int .i64 m] w fun e w' => e = .returned (.bool (okT (hasLat (L09.latO rows)) (hasEff (effO m)) body)) ∧ Below w.heap.size w w' := by
  have OF := Aside0.mk (Ref08.of_calls w A N c body hN hl hr)
  have HD : Aside0 (okT (hasLat (L09.latO rows)) (hasEff (effO m)) body = (termsB (hasLat (L09.latO rows)) (labB body) && termsB (hasEff (effO m)) (effB body))) := ⟨rfl⟩
  obtain ⟨L, hL⟩ : ∃ L, L = labB body := ⟨_, rfl⟩
  obtain ⟨X, hX⟩ : ∃ X, X = effB body := ⟨_, rfl⟩
  have HW : Aside0 (SpW L ∧ SpW X) := ⟨by rw [hL, hX]; exact ⟨labB_W hwf, effB_W hwf⟩⟩
  have hm1 : L.length ≤ 256 := by rw [hL]; exact labB_max body
  have hm2 : X.length ≤ 256 := by rw [hX]; exact effB_max body
  rw [← hL, ← hX] at OF HD
  rw [HD.out]
  clear HD hL hX
  obtain ⟨p1, hp1⟩ : ∃ p, p = L.length := ⟨_, rfl⟩
  obtain ⟨p2, hp2⟩ : ∃ p, p = X.length := ⟨_, rfl⟩
  rw [← hp1] at OF hm1
  rw [← hp2] at OF hm2
  have HP := Aside0.mk (And.intro hp1 hp2)
  have HR := Aside0.mk (And.intro hrr (And.intro hn hU))
  clear hp1 hp2 hr hrr hn hU hwf hN
  go_enter Tryz.func102, Tryz.ntmps102
  go_wp2_with (go_at_call 21; (with_reducible refine OF.out.mono ?_); rintro e W2 ⟨A1, c1, A2, c2, rfl, r1, r2, hb2⟩; have HB := Aside0.mk hb2; have R1 := Aside0.mk r1; have R2 := Aside0.mk r2; clear r1 r2 hb2)
  go_loopg [9] (p1 + 1) (fun gk i W => ∃ k : Nat, i = .int .i64 (k : Int) ∧ k ≤ p1 ∧ p1 + 1 - k ≤ gk ∧ Aside0 (Below W2.heap.size W2 W) ∧ Aside0 (termsB (hasLat (L09.latO rows)) (L.drop k) = termsB (hasLat (L09.latO rows)) L))
  case atStart => exact ⟨0, rfl, by omega, by omega, ⟨Below.refl _ _⟩, ⟨rfl⟩⟩
  case round =>
    obtain ⟨k, rfl, hk, hkg, HB2, HD⟩ := hrel
    rcases Nat.lt_or_ge k p1 with hlt | hge
    · have hd : decide (k < p1) = true := decide_eq_true hlt
      have hkl : k < L.length := by rw [← HP.out.1]; exact hlt
      obtain ⟨ad, rfl, y0, y1, y2, y3, y4⟩ := C_spotN (Kd.C_below (Kd.R_reads' R1.out).2.2 HB2.out) k hkl
      obtain ⟨x, hx⟩ : ∃ x, x = L[k] := ⟨_, rfl⟩
      rw [← hx] at y3 y4
      have HX : Aside0 (L.drop k = x :: L.drop (k + 1)) := ⟨by rw [hx]; exact List.drop_eq_getElem_cons hkl⟩
      have HXW := Aside0.mk (HW.out.1 x (by rw [hx]; exact List.getElem_mem _)).1
      clear hx y0 y1 y2
      have HC := Aside0.mk (label9_calls wr B d n rows x.f3 HR.out.2.1 (Kd.C_below HR.out.1 (below_step HB.out HB2.out)) HR.out.2.2 HXW.out.1)
      have HD2 : Aside0 (termsB (hasLat (L09.latO rows)) L = ((!x.f3.f0 && hasLat (L09.latO rows) x.f3.f1) && termsB (hasLat (L09.latO rows)) (L.drop (k + 1)))) := ⟨by rw [← HD.out, HX.out]; rfl⟩
      obtain ⟨q, hq⟩ : ∃ q, q = (!x.f3.f0 && hasLat (L09.latO rows) x.f3.f1) := ⟨_, rfl⟩
      rw [← hq] at HC HD2
      clear hq
      cases q with
      | false =>
        have HE : Aside0 (termsB (hasLat (L09.latO rows)) L = false) := ⟨by rw [HD2.out]; rfl⟩
        go_wp2_with (go_at_call 183; (with_reducible refine HC.out.mono ?_); rintro e W3 ⟨rfl, hb'⟩; have HB3 := Aside0.mk (below_step (below_step HB.out HB2.out) hb'); clear hb')
        go_ret
        rw [HE.out]
        exact ⟨rfl, HB3.out⟩
      | true =>
        go_wp2_with (go_at_call 183; (with_reducible refine HC.out.mono ?_); rintro e W3 ⟨rfl, hb'⟩; have HB3 := Aside0.mk (below_step HB2.out hb'); clear hb')
        go_roundg (gk - 1)
        case measure => omega
        case rel => exact ⟨k + 1, by go_num, by omega, by omega, HB3, ⟨by rw [HD2.out]; rfl⟩⟩
    · have hd : decide (k < p1) = false := decide_eq_false (by omega)
      have HE1 : Aside0 (termsB (hasLat (L09.latO rows)) L = true) := ⟨by rw [← HD.out, List.drop_eq_nil_of_le (by rw [← HP.out.1]; exact hge)]; rfl⟩
      obtain rfl : p1 = k := by omega
      clear hd hge hkg hk HD
      have HB12 := HB2
      go_wp2
      go_loopg [10] (p2 + 1) (fun gk i W => ∃ k : Nat, i = .int .i64 (k : Int) ∧ k ≤ p2 ∧ p2 + 1 - k ≤ gk ∧ Aside0 (Below W2.heap.size W2 W) ∧ Aside0 (termsB (hasEff (effO m)) (X.drop k) = termsB (hasEff (effO m)) X))
      case atStart => exact ⟨0, rfl, by omega, by omega, HB2, ⟨rfl⟩⟩
      case round =>
        clear HB2 HB12
        obtain ⟨k, rfl, hk, hkg, HB2, HD⟩ := hrel
        rcases Nat.lt_or_ge k p2 with hlt | hge
        · have hd : decide (k < p2) = true := decide_eq_true hlt
          have hkl : k < X.length := by rw [← HP.out.2]; exact hlt
          obtain ⟨ad, rfl, y0, y1, y2, y3, y4⟩ := C_spotN (Kd.C_below (Kd.R_reads' R2.out).2.2 HB2.out) k hkl
          obtain ⟨x, hx⟩ : ∃ x, x = X[k] := ⟨_, rfl⟩
          rw [← hx] at y3 y4
          have HX : Aside0 (X.drop k = x :: X.drop (k + 1)) := ⟨by rw [hx]; exact List.drop_eq_getElem_cons hkl⟩
          have HXW := Aside0.mk (HW.out.2 x (by rw [hx]; exact List.getElem_mem _)).1
          clear hx y0 y1 y2
          have HC := Aside0.mk (effect9_calls wr m x.f3 HXW.out)
          have HD2 : Aside0 (termsB (hasEff (effO m)) X = ((!x.f3.f0 && hasEff (effO m) x.f3.f1) && termsB (hasEff (effO m)) (X.drop (k + 1)))) := ⟨by rw [← HD.out, HX.out]; rfl⟩
          obtain ⟨q, hq⟩ : ∃ q, q = (!x.f3.f0 && hasEff (effO m) x.f3.f1) := ⟨_, rfl⟩
          rw [← hq] at HC HD2
          clear hq
          cases q with
          | false =>
            have HE : Aside0 (termsB (hasEff (effO m)) X = false) := ⟨by rw [HD2.out]; rfl⟩
            go_wp2_with (go_at_call 184; (with_reducible refine HC.out.mono ?_); rintro e W3 ⟨rfl, hb'⟩; have HB3 := Aside0.mk (below_step (below_step HB.out HB2.out) hb'); clear hb')
            go_ret
            rw [HE1.out, HE.out]
            exact ⟨rfl, HB3.out⟩
          | true =>
            go_wp2_with (go_at_call 184; (with_reducible refine HC.out.mono ?_); rintro e W3 ⟨rfl, hb'⟩; have HB3 := Aside0.mk (below_step HB2.out hb'); clear hb')
            go_roundg (gk - 1)
            case measure => omega
            case rel => exact ⟨k + 1, by go_num, by omega, by omega, HB3, ⟨by rw [HD2.out]; rfl⟩⟩
        · have hd : decide (k < p2) = false := decide_eq_false (by omega)
          have HE : Aside0 (termsB (hasEff (effO m)) X = true) := ⟨by rw [← HD.out, List.drop_eq_nil_of_le (by rw [← HP.out.2]; exact hge)]; rfl⟩
          go_wp2
          go_ret
          rw [HE1.out, HE.out]
          exact ⟨rfl, below_step HB.out HB2.out⟩
theorem belowL_nil {le : Int → Int → Bool} (ys : List Spot) : belowL le [] ys = true := by cases ys <;> rfl
theorem le4_lat {rows : List Int} (h : checkO rows = 0) (p q : Nat) : Ref04.le4 rows p q = leLat (L09.latO rows) (p : Int) (q : Int) := by
  rw [L09.latO, if_pos h, leLat_leB, Ref04.le4_leB (L09.check_ord h).2.2]
theorem lat_there {rows : List Int} {a : Int} (h : hasLat (L09.latO rows) a = true) : checkO rows = 0 := by
  by_cases h0 : checkO rows = 0
  · exact h0
  · rw [L09.latO, if_neg h0] at h
    cases h
theorem eff_there {m a : Int} (h : hasEff (effO m) a = true) : ∃ n : Nat, m = n ∧ n ≤ 64 := by
  unfold effO at h
  split at h
  · cases h
  · obtain ⟨n, rfl⟩ := Int.eq_ofNat_of_zero_le (show 0 ≤ m by omega)
    exact ⟨n, rfl, by omega⟩
theorem drop_cons {α : Type} (l : List α) (k : Nat) (h : k < l.length) : l.drop k = l[k] :: l.drop (k + 1) := List.drop_eq_getElem_cons h
theorem terms_at {has : Int → Bool} {l : List Spot} (h : termsB has l = true) (x : Spot) (hx : x ∈ l) : has x.f3.f1 = true := by
  rw [termsB, List.all_eq_true] at h
  have := h x hx
  simp only [Bool.and_eq_true] at this
  exact this.2
set_option maxRecDepth 200000 in
set_option maxHeartbeats 16000000 in
theorem below9_calls (w : World) (A A2 B : Option Addr) (N M c c2 n d : Nat) (m : Int) (a b : List Node) (rows : List Int) (hN : N = a.length) (hM : M = b.length) (hl : N ≤ 300) (hl2 : M ≤ 300) (hn : n = rows.length) (hr : kNode.C w A N a) (hr2 : kNode.C w A2 M b) (hrr : (Kd.int .u64).C w B n rows) (hU : U64s rows) (hwa : ∀ x ∈ a, Node.wf x) (hwb : ∀ x ∈ b, Node.wf x) :
    Calls Tryz.prog 18 #[.slice A N c, .slice A2 M c2, .slice B n d, .int .i64 m] w fun e w' => e = .returned (.tuple #[.bool (groundB (hasLat (L09.latO rows)) (hasEff (effO m)) (leLat (L09.latO rows)) (leEff (effO m)) a b).1, .int .i64 (groundB (hasLat (L09.latO rows)) (hasEff (effO m)) (leLat (L09.latO rows)) (leEff (effO m)) a b).2]) ∧ Below w.heap.size w w' := by
  have HR := Aside0.mk (And.intro hr (And.intro hr2 hrr))
  have HN := Aside0.mk (And.intro hN (And.intro hM hn))
  have HU := Aside0.mk hU
  have CKa : Aside0 (∀ W, Below w.heap.size w W → Calls Tryz.prog 101 #[.slice A N c] W fun e w' => e = .returned (.int .i64 (checkB a)) ∧ Below W.heap.size W w') := ⟨fun W h => by have := Ref07.check_calls W A c a (by omega) (by rw [← hN]; exact Kd.C_below hr h); rwa [← hN] at this⟩
  have CKb : Aside0 (∀ W, Below w.heap.size w W → Calls Tryz.prog 101 #[.slice A2 M c2] W fun e w' => e = .returned (.int .i64 (checkB b)) ∧ Below W.heap.size W w') := ⟨fun W h => by have := Ref07.check_calls W A2 c2 b (by omega) (by rw [← hM]; exact Kd.C_below hr2 h); rwa [← hM] at this⟩
  have MYa : Aside0 (∀ W, Below w.heap.size w W → Calls Tryz.prog 102 #[.slice A N c, .slice B n d, .int .i64 m] W fun e w' => e = .returned (.bool (okT (hasLat (L09.latO rows)) (hasEff (effO m)) a)) ∧ Below W.heap.size W w') := ⟨fun W h => may9_calls W A B N c n d m a rows hN hl hn (Kd.C_below hr h) (Kd.C_below hrr h) hU hwa⟩
  have MYb : Aside0 (∀ W, Below w.heap.size w W → Calls Tryz.prog 102 #[.slice A2 M c2, .slice B n d, .int .i64 m] W fun e w' => e = .returned (.bool (okT (hasLat (L09.latO rows)) (hasEff (effO m)) b)) ∧ Below W.heap.size W w') := ⟨fun W h => may9_calls W A2 B M c2 n d m b rows hM hl2 hn (Kd.C_below hr2 h) (Kd.C_below hrr h) hU hwb⟩
  have SM : Aside0 (∀ W, Below w.heap.size w W → Calls Tryz.prog 103 #[.slice A N c, .slice A2 M c2] W fun e w' => e = .returned (.bool (sameL a b)) ∧ Below W.heap.size W w') := ⟨fun W h => by have := Ref07.same_calls W A A2 c c2 a b (by rw [← hN]; exact Kd.C_below hr h) (by rw [← hM]; exact Kd.C_below hr2 h); rwa [← hN, ← hM] at this⟩
  have OFa : Aside0 (∀ W, Below w.heap.size w W → _) := ⟨fun W h => Ref08.of_calls W A N c a hN hl (Kd.C_below hr h)⟩
  have OFb : Aside0 (∀ W, Below w.heap.size w W → _) := ⟨fun W h => Ref08.of_calls W A2 M c2 b hM hl2 (Kd.C_below hr2 h)⟩
  obtain ⟨r, hr0⟩ : ∃ r, r = groundB (hasLat (L09.latO rows)) (hasEff (effO m)) (leLat (L09.latO rows)) (leEff (effO m)) a b := ⟨_, rfl⟩
  rw [← hr0]
  have HG := Aside0.mk (hr0.trans (ground_eq a b))
  clear hr0
  have HB := Aside0.mk (Below.refl w.heap.size w)
  have HWF : Aside0 (SpW (labB a) ∧ SpW (effB a) ∧ SpW (labB b) ∧ SpW (effB b)) := ⟨labB_W hwa, effB_W hwa, labB_W hwb, effB_W hwb⟩
  clear hr hr2 hrr hU hwa hwb hN hM hn
  obtain ⟨qa, hqa⟩ : ∃ q, q = checkB a := ⟨_, rfl⟩
  obtain ⟨qb, hqb⟩ : ∃ q, q = checkB b := ⟨_, rfl⟩
  rw [← hqa] at CKa
  rw [← hqb] at CKb
  by_cases hza : qa = 0
  case neg =>
    have z1 : (qa != 0) = true := bne_iff_ne.mpr hza
    have HE : Aside0 (r = (false, 4)) := ⟨by rw [HG.out, if_pos (.inl (by rw [← hqa]; exact hza))]⟩
    rw [HE.out]
    clear hqa hqb hza HG MYa MYb SM OFa OFb CKb
    go_enter Tryz.func18, Tryz.ntmps18
    go_wp2_with (go_at_call 101; (with_reducible refine (CKa.out _ HB.out).mono ?_); rintro e W' ⟨rfl, hb'⟩; have HB' := Aside0.mk (below_step HB.out hb'); clear HB hb'; have HB := HB'; clear HB')
    go_ret2
    exact ⟨rfl, HB.out⟩
  have z1 : (qa != 0) = false := by rw [hza]; rfl
  by_cases hzb : qb = 0
  case neg =>
    have z2 : (qb != 0) = true := bne_iff_ne.mpr hzb
    have HE : Aside0 (r = (false, 4)) := ⟨by rw [HG.out, if_pos (.inr (by rw [← hqb]; exact hzb))]⟩
    rw [HE.out]
    clear hqa hqb hza hzb HG MYa MYb SM OFa OFb
    go_enter Tryz.func18, Tryz.ntmps18
    go_wp2_with (go_at_call 101; first | ((with_reducible refine (CKa.out _ HB.out).mono ?_); rintro e W' ⟨rfl, hb'⟩; have HB' := Aside0.mk (below_step HB.out hb'); clear HB hb'; have HB := HB'; clear HB') | ((with_reducible refine (CKb.out _ HB.out).mono ?_); rintro e W' ⟨rfl, hb'⟩; have HB' := Aside0.mk (below_step HB.out hb'); clear HB hb'; have HB := HB'; clear HB'))
    go_ret2
    exact ⟨rfl, HB.out⟩
  have z2 : (qb != 0) = false := by rw [hzb]; rfl
  have HZ := Aside0.mk (And.intro (hqa.symm.trans hza) (hqb.symm.trans hzb))
  have HG2 : Aside0 (r = if (okT (hasLat (L09.latO rows)) (hasEff (effO m)) a && okT (hasLat (L09.latO rows)) (hasEff (effO m)) b) = false then (false, 1) else (sameL a b && (belowL (leLat (L09.latO rows)) (labB a) (labB b) && belowL (leEff (effO m)) (effB a) (effB b)), 0)) := ⟨by rw [HG.out, if_neg (by rw [HZ.out.1, HZ.out.2]; simp)]⟩
  clear hqa hqb hza hzb HG
  have HOK : Aside0 (∀ x, x = a ∨ x = b → okT (hasLat (L09.latO rows)) (hasEff (effO m)) x = true → termsB (hasLat (L09.latO rows)) (labB x) = true ∧ termsB (hasEff (effO m)) (effB x) = true) := ⟨fun x _ h => by rw [okT, Bool.and_eq_true] at h; exact h⟩
  obtain ⟨oa, hoa⟩ : ∃ o, o = okT (hasLat (L09.latO rows)) (hasEff (effO m)) a := ⟨_, rfl⟩
  obtain ⟨ob, hob⟩ : ∃ o, o = okT (hasLat (L09.latO rows)) (hasEff (effO m)) b := ⟨_, rfl⟩
  rw [← hoa] at MYa HG2
  rw [← hob] at MYb HG2
  have HO := Aside0.mk (And.intro hoa hob)
  clear hoa hob
  cases oa with
  | false =>
    have HE : Aside0 (r = (false, 1)) := ⟨by rw [HG2.out]; rfl⟩
    rw [HE.out]
    clear HG2 SM OFa OFb MYb
    go_enter Tryz.func18, Tryz.ntmps18
    go_wp2_with (first
      | (go_at_call 101; first | ((with_reducible refine (CKa.out _ HB.out).mono ?_); rintro e W' ⟨rfl, hb'⟩; have HB' := Aside0.mk (below_step HB.out hb'); clear HB hb'; have HB := HB'; clear HB') | ((with_reducible refine (CKb.out _ HB.out).mono ?_); rintro e W' ⟨rfl, hb'⟩; have HB' := Aside0.mk (below_step HB.out hb'); clear HB hb'; have HB := HB'; clear HB'))
      | (go_at_call 102; (with_reducible refine (MYa.out _ HB.out).mono ?_); rintro e W' ⟨rfl, hb'⟩; have HB' := Aside0.mk (below_step HB.out hb'); clear HB hb'; have HB := HB'; clear HB'))
    go_ret2
    exact ⟨rfl, HB.out⟩
  | true =>
  cases ob with
  | false =>
    have HE : Aside0 (r = (false, 1)) := ⟨by rw [HG2.out]; rfl⟩
    rw [HE.out]
    clear HG2 SM OFa OFb
    go_enter Tryz.func18, Tryz.ntmps18
    go_wp2_with (first
      | (go_at_call 101; first | ((with_reducible refine (CKa.out _ HB.out).mono ?_); rintro e W' ⟨rfl, hb'⟩; have HB' := Aside0.mk (below_step HB.out hb'); clear HB hb'; have HB := HB'; clear HB') | ((with_reducible refine (CKb.out _ HB.out).mono ?_); rintro e W' ⟨rfl, hb'⟩; have HB' := Aside0.mk (below_step HB.out hb'); clear HB hb'; have HB := HB'; clear HB'))
      | (go_at_call 102; first | ((with_reducible refine (MYa.out _ HB.out).mono ?_); rintro e W' ⟨rfl, hb'⟩; have HB' := Aside0.mk (below_step HB.out hb'); clear HB hb'; have HB := HB'; clear HB') | ((with_reducible refine (MYb.out _ HB.out).mono ?_); rintro e W' ⟨rfl, hb'⟩; have HB' := Aside0.mk (below_step HB.out hb'); clear HB hb'; have HB := HB'; clear HB')))
    go_ret2
    exact ⟨rfl, HB.out⟩
  | true =>
  have HG3 : Aside0 (r = (sameL a b && (belowL (leLat (L09.latO rows)) (labB a) (labB b) && belowL (leEff (effO m)) (effB a) (effB b)), 0)) := ⟨by rw [HG2.out]; rfl⟩
  have HTa := Aside0.mk (HOK.out a (.inl rfl) HO.out.1.symm)
  clear HG2 HOK HO
  obtain ⟨sm, hsm⟩ : ∃ s, s = sameL a b := ⟨_, rfl⟩
  rw [← hsm] at SM HG3
  have HSM := Aside0.mk hsm
  clear hsm
  cases sm with
  | false =>
    have HE : Aside0 (r = (false, 0)) := ⟨by rw [HG3.out]; rfl⟩
    rw [HE.out]
    clear HG3 OFa OFb
    go_enter Tryz.func18, Tryz.ntmps18
    go_wp2_with (first
      | (go_at_call 101; first | ((with_reducible refine (CKa.out _ HB.out).mono ?_); rintro e W' ⟨rfl, hb'⟩; have HB' := Aside0.mk (below_step HB.out hb'); clear HB hb'; have HB := HB'; clear HB') | ((with_reducible refine (CKb.out _ HB.out).mono ?_); rintro e W' ⟨rfl, hb'⟩; have HB' := Aside0.mk (below_step HB.out hb'); clear HB hb'; have HB := HB'; clear HB'))
      | (go_at_call 102; first | ((with_reducible refine (MYa.out _ HB.out).mono ?_); rintro e W' ⟨rfl, hb'⟩; have HB' := Aside0.mk (below_step HB.out hb'); clear HB hb'; have HB := HB'; clear HB') | ((with_reducible refine (MYb.out _ HB.out).mono ?_); rintro e W' ⟨rfl, hb'⟩; have HB' := Aside0.mk (below_step HB.out hb'); clear HB hb'; have HB := HB'; clear HB'))
      | (go_at_call 103; (with_reducible refine (SM.out _ HB.out).mono ?_); rintro e W' ⟨rfl, hb'⟩; have HB' := Aside0.mk (below_step HB.out hb'); clear HB hb'; have HB := HB'; clear HB'))
    go_ret2
    exact ⟨rfl, HB.out⟩
  | true =>
  obtain ⟨La, hLa⟩ : ∃ l, l = labB a := ⟨_, rfl⟩
  obtain ⟨Xa, hXa⟩ : ∃ l, l = effB a := ⟨_, rfl⟩
  obtain ⟨Lb, hLb⟩ : ∃ l, l = labB b := ⟨_, rfl⟩
  obtain ⟨Xb, hXb⟩ : ∃ l, l = effB b := ⟨_, rfl⟩
  have HLEN : Aside0 (La.length = Lb.length ∧ Xa.length = Xb.length) := ⟨by rw [hLa, hLb, hXa, hXb]; exact same_labs HZ.out.1 HZ.out.2 HSM.out.symm⟩
  have hm1 : La.length ≤ 256 := by rw [hLa]; exact labB_max a
  have hm2 : Xa.length ≤ 256 := by rw [hXa]; exact effB_max a
  rw [← hLa, ← hXa] at OFa HWF HTa HG3
  rw [← hLb, ← hXb] at OFb HWF HG3
  clear hLa hXa hLb hXb
  obtain ⟨p1, hp1⟩ : ∃ p, p = La.length := ⟨_, rfl⟩
  obtain ⟨p2, hp2⟩ : ∃ p, p = Xa.length := ⟨_, rfl⟩
  rw [← hp1] at OFa hm1 HLEN
  rw [← hp2] at OFa hm2 HLEN
  rw [← HLEN.out.1, ← HLEN.out.2] at OFb
  have HP := Aside0.mk (And.intro hp1 hp2)
  clear hp1 hp2
  have HG4 : Aside0 (r = (belowL (leLat (L09.latO rows)) La Lb && belowL (leEff (effO m)) Xa Xb, 0)) := ⟨by rw [HG3.out]; rfl⟩
  clear HG3
  go_enter Tryz.func18, Tryz.ntmps18
  go_wp2_with (first
    | (go_at_call 101; first | ((with_reducible refine (CKa.out _ HB.out).mono ?_); rintro e W' ⟨rfl, hb'⟩; have HB' := Aside0.mk (below_step HB.out hb'); clear HB hb'; have HB := HB'; clear HB') | ((with_reducible refine (CKb.out _ HB.out).mono ?_); rintro e W' ⟨rfl, hb'⟩; have HB' := Aside0.mk (below_step HB.out hb'); clear HB hb'; have HB := HB'; clear HB'))
    | (go_at_call 102; first | ((with_reducible refine (MYa.out _ HB.out).mono ?_); rintro e W' ⟨rfl, hb'⟩; have HB' := Aside0.mk (below_step HB.out hb'); clear HB hb'; have HB := HB'; clear HB') | ((with_reducible refine (MYb.out _ HB.out).mono ?_); rintro e W' ⟨rfl, hb'⟩; have HB' := Aside0.mk (below_step HB.out hb'); clear HB hb'; have HB := HB'; clear HB'))
    | (go_at_call 103; (with_reducible refine (SM.out _ HB.out).mono ?_); rintro e W' ⟨rfl, hb'⟩; have HB' := Aside0.mk (below_step HB.out hb'); clear HB hb'; have HB := HB'; clear HB'))
  refine (OFa.out _ HB.out).mono ?_
  rintro e w2 ⟨A3, c3, A4, c4, rfl, r1, r2, hb'⟩
  have HB' := Aside0.mk (below_step HB.out hb')
  clear HB hb' OFa
  have HB := HB'
  clear HB'
  have R1 := Aside0.mk r1
  have R2 := Aside0.mk r2
  clear r1 r2
  go_wp2_with fail
  refine (OFb.out _ HB.out).mono ?_
  rintro e w3 ⟨A5, c5, A6, c6, rfl, r1, r2, hb'⟩
  have HB' := Aside0.mk (below_step HB.out hb')
  have RA : Aside0 (kSpot.C w3 A3 p1 La ∧ kSpot.C w3 A4 p2 Xa ∧ kSpot.C w3 A5 p1 Lb ∧ kSpot.C w3 A6 p2 Xb) := ⟨by
    have h1 := (Kd.R_reads' (Kd.R_below R1.out hb')).2.2
    have h2 := (Kd.R_reads' (Kd.R_below R2.out hb')).2.2
    have h3 := (Kd.R_reads' r1).2.2
    have h4 := (Kd.R_reads' r2).2.2
    rw [← HP.out.1] at h1
    rw [← HP.out.2] at h2
    rw [← HLEN.out.1] at h3
    rw [← HLEN.out.2] at h4
    exact ⟨h1, h2, h3, h4⟩⟩
  clear HB hb' OFb R1 R2 r1 r2
  have HB := HB'
  clear HB'
  go_wp2
  go_loopg [14] (p1 + 1) (fun gk i W => ∃ k : Nat, i = .int .i64 (k : Int) ∧ k ≤ p1 ∧ p1 + 1 - k ≤ gk ∧ Aside0 (Below w3.heap.size w3 W) ∧ Aside0 (belowL (leLat (L09.latO rows)) (La.drop k) (Lb.drop k) = belowL (leLat (L09.latO rows)) La Lb))
  case atStart => exact ⟨0, rfl, by omega, by omega, ⟨Below.refl _ _⟩, ⟨rfl⟩⟩
  case round =>
    obtain ⟨k, rfl, hk, hkg, HB2, HD⟩ := hrel
    rcases Nat.lt_or_ge k p1 with hlt | hge
    · have hd : decide (k < p1) = true := decide_eq_true hlt
      have hkl : k < La.length := by rw [← HP.out.1]; exact hlt
      have hkl2 : k < Lb.length := by rw [← HLEN.out.1]; exact hlt
      obtain ⟨ad, hae, y0, y1, y2, y3, y4⟩ := C_spotN (Kd.C_below (show kSpot.C w3 _ La.length La by rw [← HP.out.1]; exact RA.out.1) HB2.out) k hkl
      obtain ⟨bd, hbe, u0, u1, u2, u3, u4⟩ := C_spotN (Kd.C_below (show kSpot.C w3 _ Lb.length Lb by rw [← HLEN.out.1]; exact RA.out.2.2.1) HB2.out) k hkl2
      cases hae
      cases hbe
      obtain ⟨x, hx⟩ : ∃ x, x = La[k] := ⟨_, rfl⟩
      obtain ⟨y, hy⟩ : ∃ y, y = Lb[k] := ⟨_, rfl⟩
      rw [← hx] at y2 y4
      rw [← hy] at u4
      have HDC : Aside0 (La.drop k = x :: La.drop (k + 1) ∧ Lb.drop k = y :: Lb.drop (k + 1)) := ⟨by rw [hx, hy]; exact ⟨drop_cons _ _ hkl, drop_cons _ _ hkl2⟩⟩
      have HXW := Aside0.mk (HWF.out.1 x (by rw [hx]; exact List.getElem_mem _))
      have HYW := Aside0.mk (HWF.out.2.2.1 y (by rw [hy]; exact List.getElem_mem _))
      have HXE := Aside0.mk hx
      clear hx hy y0 y1 y3 u0 u1 u2 u3
      have H0 := Aside0.mk (lat_there (terms_at HTa.out.1 x (by rw [HXE.out]; exact List.getElem_mem _)))
      have PL : Aside0 (∀ (mm : Nat) (p q : Int), 0 ≤ p → 0 ≤ q → Calls Tryz.prog 105 #[.slice B n d, .int .u64 p, .int .u64 q] (wr.drewN mm) fun e w' => e = .returned (.bool (leLat (L09.latO rows) p q)) ∧ ∃ m', w' = wr.drewN m') := ⟨fun mm p q hp hq => by
        obtain ⟨p, rfl⟩ := Int.eq_ofNat_of_zero_le hp
        obtain ⟨q, rfl⟩ := Int.eq_ofNat_of_zero_le hq
        refine (Ref04.below4_calls _ B d n rows p q HN.out.2.2 HR.out.2.2.2.1 (Kd.C_below HR.out.2.2 (below_step HB.out (pw_below_drewN HB2.out mm)))).mono ?_
        rintro e w' ⟨rfl, rfl⟩
        exact ⟨by rw [le4_lat H0.out], mm, rfl⟩⟩
      have HD2 : Aside0 (belowL (leLat (L09.latO rows)) La Lb = (holdsS (leLat (L09.latO rows)) x.f2 x.f3.f1 y.f3.f1 && belowL (leLat (L09.latO rows)) (La.drop (k + 1)) (Lb.drop (k + 1)))) := ⟨by rw [← HD.out, HDC.out.1, HDC.out.2]; rfl⟩
      have P1 := Aside0.mk (fun mm => PL.out mm x.f3.f1 y.f3.f1 HXW.out.1.1 HYW.out.1.1)
      have P2 := Aside0.mk (fun mm => PL.out mm y.f3.f1 x.f3.f1 HYW.out.1.1 HXW.out.1.1)
      have HH : Aside0 (holdsS (leLat (L09.latO rows)) x.f2 x.f3.f1 y.f3.f1 = if x.f2 = 0 then leLat (L09.latO rows) x.f3.f1 y.f3.f1 else if x.f2 = 1 then leLat (L09.latO rows) y.f3.f1 x.f3.f1 else leLat (L09.latO rows) x.f3.f1 y.f3.f1 && leLat (L09.latO rows) y.f3.f1 x.f3.f1) := ⟨rfl⟩
      obtain ⟨s, hs⟩ : ∃ s, s = x.f2 := ⟨_, rfl⟩
      obtain ⟨vp, hvp⟩ : ∃ s, s = x.f3.f1 := ⟨_, rfl⟩
      obtain ⟨vq, hvq⟩ : ∃ s, s = y.f3.f1 := ⟨_, rfl⟩
      rw [← hs] at y2 HH HD2
      rw [← hvp] at y4 P1 P2 HH HD2
      rw [← hvq] at u4 P1 P2 HH HD2
      clear hs hvp hvq
      obtain ⟨b1, hb1⟩ : ∃ b, b = leLat (L09.latO rows) vp vq := ⟨_, rfl⟩
      obtain ⟨b2, hb2⟩ : ∃ b, b = leLat (L09.latO rows) vq vp := ⟨_, rfl⟩
      rw [← hb1] at P1 HH
      rw [← hb2] at P2 HH
      clear hb1 hb2
      obtain ⟨r0, hr0⟩ : ∃ r, r = (if s = 0 then b1 else if s = 1 then b2 else b1 && b2) := ⟨_, rfl⟩
      have P3 : Aside0 (∀ mm, Calls Tryz.prog 104 #[.int .u8 s, .bool b1, .bool b2] (wr.drewN mm) fun e w' => e = .returned (.bool r0) ∧ ∃ m', w' = wr.drewN m') := ⟨fun mm => by
        refine (holds9_calls _ s b1 b2).mono ?_
        rintro e w' ⟨rfl, rfl⟩
        exact ⟨by rw [hr0], mm, rfl⟩⟩
      rw [HH.out, ← hr0] at HD2
      clear hr0 HH PL
      cases r0 with
      | false =>
        have HE : Aside0 (r = (false, 0)) := ⟨by rw [HG4.out, HD2.out]; rfl⟩
        clear HG4 HD HD2
        go_wp2
        go_quiet (first | (with_reducible exact P1.out _) | (with_reducible exact P2.out _) | (with_reducible exact P3.out _))
        go_wp2
        go_ret2
        rw [HE.out]
        exact ⟨rfl, below_step HB.out (pw_below_drewN HB2.out _)⟩
      | true =>
        go_wp2
        go_quiet (first | (with_reducible exact P1.out _) | (with_reducible exact P2.out _) | (with_reducible exact P3.out _))
        go_wp2
        go_roundg (gk - 1)
        case measure => omega
        case rel => exact ⟨k + 1, by go_num, by omega, by omega, ⟨pw_below_drewN HB2.out _⟩, ⟨by rw [HD2.out]; rfl⟩⟩
    · have hd : decide (k < p1) = false := decide_eq_false (by omega)
      have HG5 : Aside0 (r = (belowL (leEff (effO m)) Xa Xb, 0)) := ⟨by
        rw [HG4.out, ← HD.out, List.drop_eq_nil_of_le (by rw [← HP.out.1]; exact hge), belowL_nil, Bool.true_and]⟩
      obtain rfl : p1 = k := by omega
      clear hd hge hkg hk HD HG4
      go_wp2
      go_loopg [17] (p2 + 1) (fun gk i W => ∃ k : Nat, i = .int .i64 (k : Int) ∧ k ≤ p2 ∧ p2 + 1 - k ≤ gk ∧ Aside0 (Below w3.heap.size w3 W) ∧ Aside0 (belowL (leEff (effO m)) (Xa.drop k) (Xb.drop k) = belowL (leEff (effO m)) Xa Xb))
      case atStart => exact ⟨0, rfl, by omega, by omega, HB2, ⟨rfl⟩⟩
      case round =>
        clear HB2
        obtain ⟨k, rfl, hk, hkg, HB2, HD⟩ := hrel
        rcases Nat.lt_or_ge k p2 with hlt | hge
        · have hd : decide (k < p2) = true := decide_eq_true hlt
          have hkl : k < Xa.length := by rw [← HP.out.2]; exact hlt
          have hkl2 : k < Xb.length := by rw [← HLEN.out.2]; exact hlt
          obtain ⟨ad, hae, y0, y1, y2, y3, y4⟩ := C_spotN (Kd.C_below (show kSpot.C w3 _ Xa.length Xa by rw [← HP.out.2]; exact RA.out.2.1) HB2.out) k hkl
          obtain ⟨bd, hbe, u0, u1, u2, u3, u4⟩ := C_spotN (Kd.C_below (show kSpot.C w3 _ Xb.length Xb by rw [← HLEN.out.2]; exact RA.out.2.2.2) HB2.out) k hkl2
          cases hae
          cases hbe
          obtain ⟨x, hx⟩ : ∃ x, x = Xa[k] := ⟨_, rfl⟩
          obtain ⟨y, hy⟩ : ∃ y, y = Xb[k] := ⟨_, rfl⟩
          rw [← hx] at y2 y4
          rw [← hy] at u4
          have HDC : Aside0 (Xa.drop k = x :: Xa.drop (k + 1) ∧ Xb.drop k = y :: Xb.drop (k + 1)) := ⟨by rw [hx, hy]; exact ⟨drop_cons _ _ hkl, drop_cons _ _ hkl2⟩⟩
          have HXW := Aside0.mk (HWF.out.2.1 x (by rw [hx]; exact List.getElem_mem _))
          have HYW := Aside0.mk (HWF.out.2.2.2 y (by rw [hy]; exact List.getElem_mem _))
          have HXE := Aside0.mk hx
          clear hx hy y0 y1 y3 u0 u1 u2 u3
          obtain ⟨m0, rfl, hm64⟩ := eff_there (terms_at HTa.out.2 x (by rw [HXE.out]; exact List.getElem_mem _))
          have PL : Aside0 (∀ (mm : Nat) (p q : Int), 0 ≤ p ∧ p < 2 ^ 64 → 0 ≤ q ∧ q < 2 ^ 64 → Calls Tryz.prog 106 #[.int .i64 (m0 : Int), .int .u64 p, .int .u64 q] (wr.drewN mm) fun e w' => e = .returned (.bool (leEff (effO (m0 : Int)) p q)) ∧ ∃ m', w' = wr.drewN m') := ⟨fun mm p q hp hq => by
            refine (below6_calls _ m0 hm64 p q hp hq).mono ?_
            rintro e w' ⟨rfl, rfl⟩
            exact ⟨rfl, mm, rfl⟩⟩
          have HD2 : Aside0 (belowL (leEff (effO (m0 : Int))) Xa Xb = (holdsS (leEff (effO (m0 : Int))) x.f2 x.f3.f1 y.f3.f1 && belowL (leEff (effO (m0 : Int))) (Xa.drop (k + 1)) (Xb.drop (k + 1)))) := ⟨by rw [← HD.out, HDC.out.1, HDC.out.2]; rfl⟩
          have P1 := Aside0.mk (fun mm => PL.out mm x.f3.f1 y.f3.f1 HXW.out.1 HYW.out.1)
          have P2 := Aside0.mk (fun mm => PL.out mm y.f3.f1 x.f3.f1 HYW.out.1 HXW.out.1)
          have HH : Aside0 (holdsS (leEff (effO (m0 : Int))) x.f2 x.f3.f1 y.f3.f1 = if x.f2 = 0 then leEff (effO (m0 : Int)) x.f3.f1 y.f3.f1 else if x.f2 = 1 then leEff (effO (m0 : Int)) y.f3.f1 x.f3.f1 else leEff (effO (m0 : Int)) x.f3.f1 y.f3.f1 && leEff (effO (m0 : Int)) y.f3.f1 x.f3.f1) := ⟨rfl⟩
          obtain ⟨s, hs⟩ : ∃ s, s = x.f2 := ⟨_, rfl⟩
          obtain ⟨vp, hvp⟩ : ∃ s, s = x.f3.f1 := ⟨_, rfl⟩
          obtain ⟨vq, hvq⟩ : ∃ s, s = y.f3.f1 := ⟨_, rfl⟩
          rw [← hs] at y2 HH HD2
          rw [← hvp] at y4 P1 P2 HH HD2
          rw [← hvq] at u4 P1 P2 HH HD2
          clear hs hvp hvq
          obtain ⟨b1, hb1⟩ : ∃ b, b = leEff (effO (m0 : Int)) vp vq := ⟨_, rfl⟩
          obtain ⟨b2, hb2⟩ : ∃ b, b = leEff (effO (m0 : Int)) vq vp := ⟨_, rfl⟩
          rw [← hb1] at P1 HH
          rw [← hb2] at P2 HH
          clear hb1 hb2
          obtain ⟨r0, hr0⟩ : ∃ r, r = (if s = 0 then b1 else if s = 1 then b2 else b1 && b2) := ⟨_, rfl⟩
          have P3 : Aside0 (∀ mm, Calls Tryz.prog 104 #[.int .u8 s, .bool b1, .bool b2] (wr.drewN mm) fun e w' => e = .returned (.bool r0) ∧ ∃ m', w' = wr.drewN m') := ⟨fun mm => by
            refine (holds9_calls _ s b1 b2).mono ?_
            rintro e w' ⟨rfl, rfl⟩
            exact ⟨by rw [hr0], mm, rfl⟩⟩
          rw [HH.out, ← hr0] at HD2
          clear hr0 HH PL
          cases r0 with
          | false =>
            have HE : Aside0 (r = (false, 0)) := ⟨by rw [HG5.out, HD2.out]; rfl⟩
            clear HG5 HD HD2
            go_wp2
            go_quiet (first | (with_reducible exact P1.out _) | (with_reducible exact P2.out _) | (with_reducible exact P3.out _))
            go_wp2
            go_ret2
            rw [HE.out]
            exact ⟨rfl, below_step HB.out (pw_below_drewN HB2.out _)⟩
          | true =>
            go_wp2
            go_quiet (first | (with_reducible exact P1.out _) | (with_reducible exact P2.out _) | (with_reducible exact P3.out _))
            go_wp2
            go_roundg (gk - 1)
            case measure => omega
            case rel => exact ⟨k + 1, by go_num, by omega, by omega, ⟨pw_below_drewN HB2.out _⟩, ⟨by rw [HD2.out]; rfl⟩⟩
        · have hd : decide (k < p2) = false := decide_eq_false (by omega)
          have HE : Aside0 (r = (true, 0)) := ⟨by rw [HG5.out, ← HD.out, List.drop_eq_nil_of_le (by rw [← HP.out.2]; exact hge), belowL_nil]⟩
          go_wp2
          go_ret2
          rw [HE.out]
          exact ⟨rfl, below_step HB.out HB2.out⟩
end Ref09
end Go.Proofs.YtbdecnagdnancaaGreatDoor
