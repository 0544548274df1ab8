/- The document's Deep, End and Same: what each answers, by walks through their code. -/
import Derived.Test.YtbdecnagdnancaaGreatDoorTyU

namespace Go.Proofs.YtbdecnagdnancaaGreatDoor
open Go.RowKit Go.Shelf Go.Proofs.YtbdecnagdnancaaGreatDoorW.PrintWords Go.Proofs.YtbdecnagdnancaaGreatDoorW.PrintLast Go.Proofs.YtbdecnagdnancaaGreatDoorW.PrintMore
set_option linter.unusedVariables false
set_option linter.unusedSimpArgs false
namespace Ref07
set_option maxRecDepth 100000 in
set_option maxHeartbeats 4000000 in
theorem same_calls (w : World) (A A2 : Option Addr) (c c2 : Nat) (xs ys : List Node) (hr : Kd.C kNode w A xs.length xs) (hr2 : Kd.C kNode w A2 ys.length ys) :
    Calls Tryz.prog 103 #[.slice A xs.length c, .slice A2 ys.length c2] w fun e w' => e = .returned (.bool (sameL xs ys)) ∧ Below w.heap.size w w' := by
  have hm1 : xs.length ≤ 9223372036854775807 := hr.2.1
  have hm2 : ys.length ≤ 9223372036854775807 := hr2.2.1
  by_cases hl : xs.length = ys.length
  · have g0 : ((xs.length : Int) != (ys.length : Int)) = false := bne_eq_false_iff_eq.mpr (by omega)
    have HR := Aside0.mk hr
    have HR2 := Aside0.mk hr2
    have HL := Aside0.mk hl
    clear hr hr2 hl
    go_enter Tryz.func103, Tryz.ntmps103
    go_wp2
    go_loopg [5] (xs.length + 1) (fun g i W => ∃ (k : Nat), i = .int .i64 k ∧ Aside0 (k ≤ xs.length ∧ xs.length + 1 - k ≤ g ∧ sameL (xs.drop k) (ys.drop k) = sameL xs ys) ∧ Aside0 (Below w.heap.size w W))
    case atStart => exact ⟨0, rfl, ⟨Nat.zero_le _, by omega, rfl⟩, ⟨Below.refl _ _⟩⟩
    case round =>
      obtain ⟨k, rfl, HK, HB⟩ := hrel
      have hk := HK.out.1
      by_cases hlt : k < xs.length
      · have hlt2 : k < ys.length := by have := HL.out; omega
        have hd1 : decide (k < xs.length) = true := decide_eq_true hlt
        obtain ⟨ad, rfl, c0, c1, c2', c3, -⟩ := C_nodeN (Kd.C_below HR.out HB.out) k hlt
        obtain ⟨bd, rfl, d0, d1, d2, d3, -⟩ := C_nodeN (Kd.C_below HR2.out HB.out) k hlt2
        obtain ⟨n, hn⟩ : ∃ n, n = xs[k] := ⟨_, rfl⟩
        obtain ⟨m, hm⟩ : ∃ m, m = ys[k] := ⟨_, rfl⟩
        rw [← hn] at c0 c1 c2' c3
        rw [← hm] at d0 d1 d2 d3
        have HD := Aside0.mk (show sameL xs ys = (sameV n.f0 n.f1 n.f2 n.f3 m.f0 m.f1 m.f2 m.f3 && sameL (xs.drop (k + 1)) (ys.drop (k + 1))) by
          rw [← HK.out.2.2, List.drop_eq_getElem_cons hlt, List.drop_eq_getElem_cons hlt2, sameL, ← hn, ← hm]; rfl)
        clear hn hm
        obtain ⟨n0, hn0⟩ : ∃ x, x = n.f0 := ⟨_, rfl⟩
        obtain ⟨n1, hn1⟩ : ∃ x, x = n.f1 := ⟨_, rfl⟩
        obtain ⟨n2, hn2⟩ : ∃ x, x = n.f2 := ⟨_, rfl⟩
        obtain ⟨n3, hn3⟩ : ∃ x, x = n.f3 := ⟨_, rfl⟩
        obtain ⟨m0, hm0⟩ : ∃ x, x = m.f0 := ⟨_, rfl⟩
        obtain ⟨m1, hm1⟩ : ∃ x, x = m.f1 := ⟨_, rfl⟩
        obtain ⟨m2, hm2⟩ : ∃ x, x = m.f2 := ⟨_, rfl⟩
        obtain ⟨m3, hm3⟩ : ∃ x, x = m.f3 := ⟨_, rfl⟩
        rw [← hn0, ← hn1, ← hn2, ← hn3, ← hm0, ← hm1, ← hm2, ← hm3] at HD
        rw [← hn0] at c0; rw [← hn1] at c1; rw [← hn2] at c2'; rw [← hn3] at c3
        rw [← hm0] at d0; rw [← hm1] at d1; rw [← hm2] at d2; rw [← hm3] at d3
        clear hn0 hn1 hn2 hn3 hm0 hm1 hm2 hm3
        by_cases e0 : n0 = m0
        · have b0 : (n0 != m0) = false := bne_eq_false_iff_eq.mpr e0
          by_cases e1 : n1 = m1
          · have b1 : (n1 != m1) = false := bne_eq_false_iff_eq.mpr e1
            by_cases e2 : n2.toList = m2.toList
            · have b2 : (n2.toList == m2.toList) = true := beq_iff_eq.mpr e2
              by_cases e3 : n3 = m3
              · have b3 : (n3 != m3) = false := bne_eq_false_iff_eq.mpr e3
                have EE := Aside0.mk (show sameV n0 n1 n2 n3 m0 m1 m2 m3 = true by simp [sameV, e0, e1, e2, e3])
                clear e0 e1 e2 e3
                go_wp2
                go_quiet (fail)
                go_wp2
                go_roundg (gk - 1)
                case measure => have := HK.out; omega
                case rel => exact ⟨k + 1, by go_num, ⟨by omega, by have := HK.out; omega, by rw [HD.out, EE.out, Bool.true_and]⟩, ⟨pw_below_drewN HB.out _⟩⟩
              · have b3 : (n3 != m3) = true := bne_iff_ne.mpr e3
                have EE := Aside0.mk (show sameV n0 n1 n2 n3 m0 m1 m2 m3 = false by simp [sameV, e3])
                clear e0 e1 e2 e3
                go_wp2
                go_quiet (fail)
                go_wp2
                go_ret
                rw [HD.out, EE.out]
                exact ⟨rfl, pw_below_drewN HB.out _⟩
            · have b2 : (n2.toList == m2.toList) = false := beq_eq_false_iff_ne.mpr e2
              have EE := Aside0.mk (show sameV n0 n1 n2 n3 m0 m1 m2 m3 = false by simp [sameV, e2])
              clear e0 e1 e2
              go_wp2
              go_quiet (fail)
              go_wp2
              go_ret
              rw [HD.out, EE.out]
              exact ⟨rfl, pw_below_drewN HB.out _⟩
          · have b1 : (n1 != m1) = true := bne_iff_ne.mpr e1
            have EE := Aside0.mk (show sameV n0 n1 n2 n3 m0 m1 m2 m3 = false by simp [sameV, e1])
            clear e0 e1
            go_wp2
            go_quiet (fail)
            go_wp2
            go_ret
            rw [HD.out, EE.out]
            exact ⟨rfl, pw_below_drewN HB.out _⟩
        · have b0 : (n0 != m0) = true := bne_iff_ne.mpr e0
          have EE := Aside0.mk (show sameV n0 n1 n2 n3 m0 m1 m2 m3 = false by simp [sameV, e0])
          clear e0
          go_wp2
          go_quiet (fail)
          go_wp2
          go_ret
          rw [HD.out, EE.out]
          exact ⟨rfl, pw_below_drewN HB.out _⟩
      · have hd1 : decide (k < xs.length) = false := decide_eq_false hlt
        have HE := Aside0.mk (show sameL xs ys = true by
          have := HL.out
          rw [← HK.out.2.2, List.drop_eq_nil_of_le (by omega), List.drop_eq_nil_of_le (by omega)]; rfl)
        go_wp2
        go_ret
        rw [HE.out]
        exact ⟨rfl, HB.out⟩
  · have g0 : ((xs.length : Int) != (ys.length : Int)) = true := bne_iff_ne.mpr (by omega)
    have HE := Aside0.mk (sameL_len xs ys hl)
    clear hl
    go_enter Tryz.func103, Tryz.ntmps103
    go_wp2
    go_ret
    rw [HE.out]
    exact ⟨rfl, Below.refl _ _⟩
end Ref07
end Go.Proofs.YtbdecnagdnancaaGreatDoor
