/- The document's walk, Check, End, Deep and Same: what each answers, by walks through their code. -/
import Derived.Test.YtbdecnagdnancaaGreatDoorTyW

namespace Go.Proofs.YtbdecnagdnancaaGreatDoor
open Go.RowKit Go.Shelf Go.Proofs.YtbdecnagdnancaaGreatDoorW.PrintWords Go.Proofs.YtbdecnagdnancaaGreatDoorW.PrintLast Go.Proofs.YtbdecnagdnancaaGreatDoorW.PrintMore
set_option linter.unusedVariables false
set_option linter.unusedSimpArgs false
namespace Ref07
def trip (r : Nat × Int × Int) : Value := .tuple #[.int .i64 r.1, .int .i64 r.2.1, .int .i64 r.2.2]
set_option maxRecDepth 100000 in
set_option maxHeartbeats 4000000 in
theorem walk_calls (A : Option Addr) (c : Nat) (body : List Node) (hlen : body.length ≤ 300) : ∀ (f : Nat) (hf : f ≤ 16) (at_ : Nat) (w : World) (hr : Kd.C kNode w A body.length body),
    Calls Tryz.prog 182 #[.slice A body.length c, .int .i64 (at_ : Int), .int .i64 (17 - (f : Int))] w fun e w' => e = .returned (.tuple #[.int .i64 ((walkR body f at_).1 : Int), .int .i64 (walkR body f at_).2.1, .int .i64 (walkR body f at_).2.2]) ∧ Below w.heap.size w w' := by
  intro f
  induction f with
  | zero =>
    intro hf at_ w hr
    have HR := Aside0.mk hr
    have HB := Aside0.mk (Below.refl w.heap.size w)
    rcases Nat.lt_or_ge at_ body.length with h | h
    · obtain ⟨ad, rfl, c0, c1, c2, c3, c4, c5, c6, c7, c8, c9⟩ := C_nodeN hr at_ h
      obtain ⟨n, hn⟩ : ∃ n, n = body[at_] := ⟨_, rfl⟩
      rw [← hn] at c0 c1 c2 c3 c4 c5 c6 c7 c8 c9
      have z1 : decide (body.length ≤ at_) = false := decide_eq_false (by omega)
      obtain ⟨mb, hmb⟩ : ∃ mb, mb = mayB n := ⟨_, rfl⟩
      have HM := Aside0.mk (show mayV n.f0 n.f1 n.f2 n.f3 n.f5.f0 n.f5.f1 n.f6.f0 n.f6.f1 = mb from hmb.symm)
      have HW : Aside0 (walkR body 0 at_ = (at_, 0, if mb = false then 4 else 3)) := ⟨by rw [walkR, dif_pos h, ← hn, ← hmb]; cases mb <;> rfl⟩
      have HNn := Aside0.mk hn
      clear hr hn hmb
      cases mb
      all_goals
        go_enter Tryz.func182, Tryz.ntmps182
        go_wp2_with (go_at_call 222; (with_reducible refine (may_calls _ _ _ _ _ _ _ _ _ _ _).mono ?_); rw [HM.out]; rintro e W' ⟨rfl, hb'⟩; have HB' := Aside0.mk (below_step HB.out hb'); clear HB hb'; have HB := HB'; clear HB'; clear c0 c1 c2 c3 c4 c5 c6 c7 c8 c9; obtain ⟨ad', e', c0, c1, c2, c3, c4, c5, c6, c7, c8, c9⟩ := C_nodeN (Kd.C_below HR.out HB.out) at_ h; cases e'; rw [← HNn.out] at c0 c1 c2 c3 c4 c5 c6 c7 c8 c9)
        all_goals
          rw [HW.out]
          go_ret3
          exact ⟨rfl, by first | exact HB.out | exact below_alloc HB.out _⟩
    · have HW : Aside0 (walkR body 0 at_ = (at_, 0, 4)) := ⟨by rw [walkR, dif_neg (by omega)]⟩
      have z1 : decide (body.length ≤ at_) = true := decide_eq_true h
      clear hr
      go_enter Tryz.func182, Tryz.ntmps182
      go_wp2
      rw [HW.out]
      go_ret3
      exact ⟨rfl, HB.out⟩
  | succ f ih =>
    intro hf at_ w hr
    have HR := Aside0.mk hr
    have HB := Aside0.mk (Below.refl w.heap.size w)
    obtain ⟨dp, hdp⟩ : ∃ dp : Int, dp = 17 - ((f + 1 : Nat) : Int) := ⟨_, rfl⟩
    rw [← hdp]
    have hd1 : 1 ≤ dp := by omega
    have hd2 : dp ≤ 16 := by omega
    have CI : Aside0 (∀ (a : Nat) (W : World), Below w.heap.size w W → Calls Tryz.prog 182 #[.slice A body.length c, .int .i64 (a : Int), .int .i64 (dp + 1)] W fun e w' => e = .returned (.tuple #[.int .i64 ((walkR body f a).1 : Int), .int .i64 (walkR body f a).2.1, .int .i64 (walkR body f a).2.2]) ∧ Below W.heap.size W w') := ⟨fun a W hb => by
      have := ih (by omega) a W (Kd.C_below hr hb)
      rwa [show (17 : Int) - (f : Int) = dp + 1 by omega] at this⟩
    have HDP := Aside0.mk hdp
    rcases Nat.lt_or_ge at_ body.length with h | h
    · obtain ⟨ad, rfl, c0, c1, c2, c3, c4, c5, c6, c7, c8, c9⟩ := C_nodeN hr at_ h
      obtain ⟨n, hn⟩ : ∃ n, n = body[at_] := ⟨_, rfl⟩
      rw [← hn] at c0 c1 c2 c3 c4 c5 c6 c7 c8 c9
      have z1 : decide (body.length ≤ at_) = false := decide_eq_false (by omega)
      have z5 : decide (16 < dp) = false := decide_eq_false (by omega)
      obtain ⟨mb, hmb⟩ : ∃ mb, mb = mayB n := ⟨_, rfl⟩
      have HM := Aside0.mk (show mayV n.f0 n.f1 n.f2 n.f3 n.f5.f0 n.f5.f1 n.f6.f0 n.f6.f1 = mb from hmb.symm)
      have HNn := Aside0.mk hn
      cases mb
      · have HW : Aside0 (walkR body (f + 1) at_ = (at_, 0, 4)) := ⟨by rw [walkR, dif_pos h, ← hn, ← hmb]; rfl⟩
        clear hr hn hmb hdp ih
        go_enter Tryz.func182, Tryz.ntmps182
        go_wp2_with (go_at_call 222; (with_reducible refine (may_calls _ _ _ _ _ _ _ _ _ _ _).mono ?_); rw [HM.out]; rintro e W' ⟨rfl, hb'⟩; have HB' := Aside0.mk (below_step HB.out hb'); clear HB hb'; have HB := HB'; clear HB')
        all_goals
          rw [HW.out]
          go_ret3
          exact ⟨rfl, by first | exact HB.out | exact below_alloc HB.out _⟩
      · have hk := mayB_kids hmb.symm
        by_cases h8 : 8 < n.f3
        · have HW : Aside0 (walkR body (f + 1) at_ = (at_, 0, 3)) := ⟨by rw [walkR, dif_pos h, ← hn, ← hmb, if_neg (by decide), if_pos h8]⟩
          clear hr hn hmb hdp ih
          go_enter Tryz.func182, Tryz.ntmps182
          go_wp2_with (go_at_call 222; (with_reducible refine (may_calls _ _ _ _ _ _ _ _ _ _ _).mono ?_); rw [HM.out]; rintro e W' ⟨rfl, hb'⟩; have HB' := Aside0.mk (below_step HB.out hb'); clear HB hb'; have HB := HB'; clear HB'; clear c0 c1 c2 c3 c4 c5 c6 c7 c8 c9; obtain ⟨ad', e', c0, c1, c2, c3, c4, c5, c6, c7, c8, c9⟩ := C_nodeN (Kd.C_below HR.out HB.out) at_ h; cases e'; rw [← HNn.out] at c0 c1 c2 c3 c4 c5 c6 c7 c8 c9)
          all_goals
            rw [HW.out]
            go_ret3
            exact ⟨rfl, by first | exact HB.out | exact below_alloc HB.out _⟩
        · obtain ⟨K, hK⟩ : ∃ K : Nat, n.f3 = K := ⟨n.f3.toNat, by omega⟩
          have hK8 : K ≤ 8 := by omega
          have HW : Aside0 (walkR body (f + 1) at_ = kidsR (walkR body f) K (at_ + 1) dp) := ⟨by
            rw [walkR, dif_pos h, ← hn, ← hmb, if_neg (by decide), if_neg h8, hK, Int.toNat_natCast]
            congr 1
            omega⟩
          have HM2 := HM.out
          rw [hK] at HM2 c3
          have HM3 := Aside0.mk HM2
          have HK := Aside0.mk hK
          have z8 : decide (8 < (K : Int)) = false := decide_eq_false (by omega)
          clear hr hn hmb hdp ih hk h8 hK HM HM2
          go_enter Tryz.func182, Tryz.ntmps182
          go_wp2_with (go_at_call 222; (with_reducible refine (may_calls _ _ _ _ _ _ _ _ _ _ _).mono ?_); rw [HM3.out]; rintro e W' ⟨rfl, hb'⟩; have HB' := Aside0.mk (below_step HB.out hb'); clear HB hb'; have HB := HB'; clear HB'; clear c0 c1 c2 c3 c4 c5 c6 c7 c8 c9; obtain ⟨ad', e', c0, c1, c2, c3, c4, c5, c6, c7, c8, c9⟩ := C_nodeN (Kd.C_below HR.out HB.out) at_ h; cases e'; rw [← HNn.out] at c0 c1 c2 c3 c4 c5 c6 c7 c8 c9; rw [HK.out] at c3)
          have hblk := blk_new W' (.cells #[.int .u8 n.f0, .int .i64 n.f1, .string n.f2, .int .i64 (K : Int), .bool n.f4.f0, .int .u64 n.f4.f1, .bool n.f5.f0, .int .u64 n.f5.f1, .bool n.f6.f0, .int .u64 n.f6.f1] 122)
          have hB2 := below_alloc HB.out (.cells #[.int .u8 n.f0, .int .i64 n.f1, .string n.f2, .int .i64 (K : Int), .bool n.f4.f0, .int .u64 n.f4.f1, .bool n.f5.f0, .int .u64 n.f5.f1, .bool n.f6.f0, .int .u64 n.f6.f1] 122)
          obtain ⟨b, hb⟩ : ∃ b, b = W'.heap.size := ⟨_, rfl⟩
          obtain ⟨Wa, hWa⟩ : ∃ Wa, Wa = W'.alloc (.cells #[.int .u8 n.f0, .int .i64 n.f1, .string n.f2, .int .i64 (K : Int), .bool n.f4.f0, .int .u64 n.f4.f1, .bool n.f5.f0, .int .u64 n.f5.f1, .bool n.f6.f0, .int .u64 n.f6.f1] 122) := ⟨_, rfl⟩
          rw [← hWa, ← hb] at hblk
          rw [← hWa] at hB2
          rw [← hWa, ← hb]
          have HI := Aside0.mk (And.intro hB2 hblk)
          clear hWa hb hblk hB2 HB c0 c1 c2 c3 c4 c5 c6 c7 c8 c9
          go_loopg [1, 10, 11] 10 (fun g x y z W => ∃ (a i : Nat) (de : Int), x = .int .i64 a ∧ y = .int .i64 de ∧ z = .int .i64 i ∧ i ≤ K ∧ K - i + 1 ≤ g ∧ Aside0 (walkR body (f + 1) at_ = kidsR (walkR body f) (K - i) a de) ∧ Aside0 (Below w.heap.size w W ∧ W.heap[b]? = some (.cells #[.int .u8 n.f0, .int .i64 n.f1, .string n.f2, .int .i64 (K : Int), .bool n.f4.f0, .int .u64 n.f4.f1, .bool n.f5.f0, .int .u64 n.f5.f1, .bool n.f6.f0, .int .u64 n.f6.f1] 122 (0, 0))))
          case atStart => exact ⟨at_ + 1, 0, dp, by go_num, rfl, rfl, by omega, by omega, HW, HI⟩
          case round =>
            clear HI
            obtain ⟨a, i, de, rfl, rfl, rfl, hiK, hig, HA, HI⟩ := hrel
            have hc : wr.cell? ⟨b, 3, none⟩ = some (.int .i64 (K : Int)) := blk_cell HI.out.2 3
            rcases Nat.lt_or_ge i K with hi | hi
            · have hd : decide (i < K) = true := decide_eq_true hi
              obtain ⟨j, hj⟩ : ∃ j, K - i = j + 1 := ⟨K - i - 1, by omega⟩
              obtain ⟨r, hr⟩ : ∃ r, r = walkR body f a := ⟨_, rfl⟩
              have hst := HA.out
              rw [hj, kidsR, ← hr] at hst
              have hci := CI.out a wr HI.out.1
              rw [← hr] at hci
              have HCI := Aside0.mk hci
              have HST := Aside0.mk hst
              obtain ⟨r1, r2, r3⟩ := r
              clear hst hci hr
              by_cases h3 : r3 = 0
              · have z3 : (r3 != 0) = false := by rw [h3]; rfl
                have HST2 : Aside0 (walkR body (f + 1) at_ = kidsR (walkR body f) (K - (i + 1)) r1 (max de r2)) := ⟨by
                  have := HST.out
                  simp only at this
                  rw [if_neg (by rw [h3]; decide)] at this
                  rw [this, show K - (i + 1) = j by omega]⟩
                have H3 := Aside0.mk h3
                clear HST h3
                go_wp2_with (go_at_call 182; (with_reducible refine (HCI.out).mono ?_); rintro e W' ⟨rfl, hb'⟩; have HI' := Aside0.mk (And.intro (below_step HI.out.1 hb') ((hb'.block _ (blk_lt HI.out.2)).trans HI.out.2)); clear hb')
                go_roundg (gk - 1)
                case measure => omega
                case rel => exact ⟨r1, i + 1, max de r2, rfl, rfl, by go_num, by omega, by omega, HST2, HI'⟩
              · have z3 : (r3 != 0) = true := bne_iff_ne.mpr h3
                have HST2 : Aside0 (walkR body (f + 1) at_ = (r1, 0, r3)) := ⟨by
                  have := HST.out
                  simp only at this
                  rw [if_pos h3] at this
                  exact this⟩
                clear HST h3
                go_wp2_with (go_at_call 182; (with_reducible refine (HCI.out).mono ?_); rintro e W' ⟨rfl, hb'⟩; have HI' := Aside0.mk (And.intro (below_step HI.out.1 hb') ((hb'.block _ (blk_lt HI.out.2)).trans HI.out.2)); clear hb')
                rw [HST2.out]
                go_ret3
                exact ⟨rfl, HI'.out.1⟩
            · have hd : decide (i < K) = false := decide_eq_false (by omega)
              obtain rfl : i = K := by omega
              go_wp2
              rw [HA.out, Nat.sub_self]
              go_ret3
              exact ⟨rfl, HI.out.1⟩
    · have HW : Aside0 (walkR body (f + 1) at_ = (at_, 0, 4)) := ⟨by rw [walkR, dif_neg (by omega)]⟩
      have z1 : decide (body.length ≤ at_) = true := decide_eq_true h
      clear hr ih hdp
      go_enter Tryz.func182, Tryz.ntmps182
      go_wp2
      rw [HW.out]
      go_ret3
      exact ⟨rfl, HB.out⟩
end Ref07
end Go.Proofs.YtbdecnagdnancaaGreatDoor
