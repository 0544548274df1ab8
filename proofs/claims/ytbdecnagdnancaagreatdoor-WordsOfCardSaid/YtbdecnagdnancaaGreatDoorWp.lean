/- words.within, while and the functions that a name and a number go on with. -/
import Derived.Test.YtbdecnagdnancaaGreatDoorWo

namespace Go.Proofs.YtbdecnagdnancaaGreatDoor
open Go.RowKit Go.Proofs.YtbdecnagdnancaaGreatDoorW.PrintWords Go.Proofs.YtbdecnagdnancaaGreatDoorW.PrintLast Go.Proofs.YtbdecnagdnancaaGreatDoorW.PrintMore
set_option linter.unusedVariables false
set_option linter.unusedSimpArgs false
namespace Wd
theorem sort_cases (c : B) : (sortOf c.toNat = 2 ↔ letter c = true) ∧ (sortOf c.toNat = 3 ↔ digit c = true) ∧ (sortOf c.toNat = 1 ↔ (c = 10 ∨ c = 32 ∨ c = 9)) ∧ (sortOf c.toNat = 5 ↔ c = 35) ∧ (sortOf c.toNat = 4 ↔ isMark c = true) := by
  have key : ∀ c : B, (decide (sortOf c.toNat = 2) = letter c) ∧ (decide (sortOf c.toNat = 3) = digit c) ∧ (decide (sortOf c.toNat = 1) = decide (c = 10 ∨ c = 32 ∨ c = 9)) ∧ (decide (sortOf c.toNat = 5) = decide (c = 35)) ∧ (decide (sortOf c.toNat = 4) = isMark c) := by
    have : ∀ n : Fin 256, (decide (sortOf n.val = 2) = letter (UInt8.ofNat n.val)) ∧ (decide (sortOf n.val = 3) = digit (UInt8.ofNat n.val)) ∧ (decide (sortOf n.val = 1) = decide ((UInt8.ofNat n.val) = 10 ∨ (UInt8.ofNat n.val) = 32 ∨ (UInt8.ofNat n.val) = 9)) ∧ (decide (sortOf n.val = 5) = decide ((UInt8.ofNat n.val) = 35)) ∧ (decide (sortOf n.val = 4) = isMark (UInt8.ofNat n.val)) := by decide +kernel
    intro c
    have h := this ⟨c.toNat, c.toNat_lt⟩
    simpa using h
  obtain ⟨h1, h2, h3, h4, h5⟩ := key c
  refine ⟨?_, ?_, ?_, ?_, ?_⟩
  · rw [← h1]; simp
  · rw [← h2]; simp
  · rw [← decide_eq_true_iff (p := (c = 10 ∨ c = 32 ∨ c = 9)), ← h3]; simp
  · rw [← decide_eq_true_iff (p := (c = 35)), ← h4]; simp
  · rw [← h5]; simp
theorem tw_len (q : B → Bool) (l : List B) (k : Nat) (hk : k ≤ l.length) (h : ∀ i (hi : i < l.length), i < k → q l[i] = true) (hs : ∀ hi : k < l.length, q l[k] = false) : (l.takeWhile q).length = k := by
  induction l generalizing k with
  | nil => simp at hk; simp [hk]
  | cons c r ih =>
    cases k with
    | zero =>
      have := hs (by simp)
      simp at this
      simp [List.takeWhile_cons, this]
    | succ k =>
      have h0 := h 0 (by simp) (by omega)
      simp at h0
      rw [List.takeWhile_cons, if_pos h0, List.length_cons, ih k (by simpa using hk) (fun i hi hik => by have := h (i + 1) (by simpa using hi) (by omega); simpa using this) (fun hi => by have := hs (by simpa using hi); simpa using this)]
set_option maxRecDepth 100000 in
set_option maxHeartbeats 4000000 in
theorem within_calls (w : World) (r n c : Nat) (A : Option Addr) (l : List Int) (hn : n = l.length) (hr : (Kd.int .u8).C w A n l) (HR : Aside0 (RangesAt w)) :
    Calls Tryz.prog 134 #[.int .i32 (r : Int), .slice A n c] w fun e w' => e = .returned (.bool (decide (r < 128) && l.contains (sortOf r))) ∧ Below w.heap.size w w' := by
  have HC := Aside0.mk hr
  have HN := Aside0.mk hn
  have xm : n ≤ 9223372036854775807 := hr.2.1
  have HB := Aside0.mk (Below.refl w.heap.size w)
  clear hr hn
  obtain ⟨z, hz⟩ : ∃ z, z = sortOf r := ⟨_, rfl⟩
  obtain ⟨res, hres⟩ : ∃ res, res = (decide (r < 128) && l.contains z) := ⟨_, rfl⟩
  rw [← hz, ← hres]
  have HZ := Aside0.mk hz
  have HE := Aside0.mk hres
  clear hz hres
  by_cases h128 : r < 128
  · have d0 : decide ((r : Int) < 128) = true := decide_eq_true (by omega)
    have hw : IntKind.u8.wrap (r : Int) = (r : Int) := by rw [IntKind.wrap_u8]; omega
    go_enter Tryz.func134, Tryz.ntmps134
    go_wp2
    go_loopg [9] (n + 1) (fun g b W => ∃ (k : Nat), b = .int .i64 (k : Int) ∧ k ≤ n ∧ n + 1 - k ≤ g ∧ Aside0 (Below w.heap.size w W) ∧ Aside0 (∀ i (h : i < l.length), i < k → l[i] ≠ z))
    case atStart => exact ⟨0, rfl, by omega, by omega, HB, ⟨fun i h hi => by omega⟩⟩
    case round =>
      obtain ⟨k, rfl, hk, hkg, HB, HK⟩ := hrel
      rcases Nat.lt_or_ge k n with hlt | hge
      · have hd : decide (k < n) = true := decide_eq_true hlt
        have hkl : k < l.length := by rw [← HN.out]; exact hlt
        obtain ⟨ad, rfl, x0⟩ := C_intN (by rw [← HN.out]; exact Kd.C_below HC.out HB.out) k hkl
        obtain ⟨x, hx⟩ : ∃ x, x = l[k] := ⟨_, rfl⟩
        rw [← hx] at x0
        have HX := Aside0.mk hx
        clear hx
        by_cases he : z = x
        · have d1 : (z == x) = true := beq_iff_eq.2 he
          have HT : Aside0 (res = true) := ⟨by rw [HE.out, decide_eq_true h128, Bool.true_and, List.contains_iff_mem, he, HX.out]; exact List.getElem_mem _⟩
          clear he
          go_wp2_with (go_at_call 130; (with_reducible refine (wof_calls _ r (by omega) ⟨HR.out.below HB.out⟩).mono ?_); rintro e W' ⟨rfl, hb'⟩; rw [← HZ.out]; have HB2 := Aside0.mk (below_step HB.out hb'); clear hb')
          go_ret
          rw [HT.out]
          exact ⟨rfl, HB2.out⟩
        · have d1 : (z == x) = false := beq_eq_false_iff_ne.2 he
          have HK2 : Aside0 (∀ i (h : i < l.length), i < k + 1 → l[i] ≠ z) := ⟨by
            intro i h hi
            rcases Nat.lt_or_ge i k with q | q
            · exact HK.out i h q
            · obtain rfl : i = k := by omega
              rw [← HX.out]
              exact fun e => he e.symm⟩
          clear he
          go_wp2_with (go_at_call 130; (with_reducible refine (wof_calls _ r (by omega) ⟨HR.out.below HB.out⟩).mono ?_); rintro e W' ⟨rfl, hb'⟩; rw [← HZ.out]; have HB2 := Aside0.mk (below_step HB.out hb'); clear hb')
          go_roundg (gk - 1)
          case measure => omega
          case rel => exact ⟨k + 1, by go_num, by omega, by omega, HB2, HK2⟩
      · have hd : decide (k < n) = false := decide_eq_false (by omega)
        have HF : Aside0 (res = false) := ⟨by
          rw [HE.out]
          have : l.contains z = false := by
            rw [Bool.eq_false_iff]
            intro h
            obtain ⟨i, hi, e⟩ := List.getElem_of_mem (List.contains_iff_mem.1 h)
            exact HK.out i hi (by have := HN.out; omega) e
          rw [this, Bool.and_false]⟩
        go_wp2
        go_ret
        rw [HF.out]
        exact ⟨rfl, HB.out⟩
  · have d0 : decide ((r : Int) < 128) = false := decide_eq_false (by omega)
    have HF : Aside0 (res = false) := ⟨by rw [HE.out, decide_eq_false h128, Bool.false_and]⟩
    go_enter Tryz.func134, Tryz.ntmps134
    go_wp2
    go_loopg [9] (n + 1) (fun g b W => ∃ (k : Nat), b = .int .i64 (k : Int) ∧ k ≤ n ∧ n + 1 - k ≤ g ∧ Aside0 (Below w.heap.size w W))
    case atStart => exact ⟨0, rfl, by omega, by omega, HB⟩
    case round =>
      obtain ⟨k, rfl, hk, hkg, HB⟩ := hrel
      rcases Nat.lt_or_ge k n with hlt | hge
      · have hd : decide (k < n) = true := decide_eq_true hlt
        have hkl : k < l.length := by rw [← HN.out]; exact hlt
        obtain ⟨ad, rfl, x0⟩ := C_intN (by rw [← HN.out]; exact Kd.C_below HC.out HB.out) k hkl
        go_wp2
        go_roundg (gk - 1)
        case measure => omega
        case rel => exact ⟨k + 1, by go_num, by omega, by omega, HB⟩
      · have hd : decide (k < n) = false := decide_eq_false (by omega)
        go_wp2
        go_ret
        rw [HF.out]
        exact ⟨rfl, HB.out⟩
end Wd
end Go.Proofs.YtbdecnagdnancaaGreatDoor
