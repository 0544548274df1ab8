/- The document's words: letter, digit, single, Number, word, by walks through their code. -/
import Derived.Test.YtbdecnagdnancaaGreatDoorWdN
import Derived.Test.YtbdecnagdnancaaGreatDoorMC
import Derived.Test.YtbdecnagdnancaaGreatDoorB
import Derived.Test.YtbdecnagdnancaaGreatDoorK

namespace Go.Proofs.YtbdecnagdnancaaGreatDoor
open Go.RowKit Go.Proofs.YtbdecnagdnancaaGreatDoorW.PrintWords Go.Proofs.YtbdecnagdnancaaGreatDoorW.PrintLast Go.Proofs.YtbdecnagdnancaaGreatDoorW.PrintMore
set_option linter.unusedVariables false
set_option linter.unusedSimpArgs false
open Go.Shelf
namespace Wd
def letN (n : Nat) : Bool := decide (97 ≤ n ∧ n ≤ 122 ∨ 65 ≤ n ∧ n ≤ 90)
def digN (n : Nat) : Bool := decide (48 ≤ n ∧ n ≤ 57)
set_option maxRecDepth 100000 in
set_option maxHeartbeats 4000000 in
theorem let20_calls (w : World) (n : Nat) (hn : n < 256) : Calls Tryz.prog 141 #[.int .u8 (n : Int)] w fun e w' => e = .returned (.bool (letN n)) ∧ w = w' := by
  have hc : (0 ≤ n ∧ n < 65) ∨ (65 ≤ n ∧ n < 91) ∨ (91 ≤ n ∧ n < 97) ∨ (97 ≤ n ∧ n < 123) ∨ (123 ≤ n ∧ n < 256) := by omega
  rcases hc with ⟨h1, h2⟩ | ⟨h1, h2⟩ | ⟨h1, h2⟩ | ⟨h1, h2⟩ | ⟨h1, h2⟩
  · have HE : letN n = false := by unfold letN; exact decide_eq_false (by omega)
    rw [HE]
    clear HE
    have l0 : decide ((97 : Int) ≤ (n : Int)) = false := decide_eq_false (by omega)
    have u0 : decide ((n : Int) ≤ 122) = true := decide_eq_true (by omega)
    have l1 : decide ((65 : Int) ≤ (n : Int)) = false := decide_eq_false (by omega)
    have u1 : decide ((n : Int) ≤ 90) = true := decide_eq_true (by omega)
    go_enter Tryz.func141, Tryz.ntmps141
    go_wp2
    go_ret
    exact ⟨rfl, rfl⟩
  · have HE : letN n = true := by unfold letN; exact decide_eq_true (by omega)
    rw [HE]
    clear HE
    have l0 : decide ((97 : Int) ≤ (n : Int)) = false := decide_eq_false (by omega)
    have u0 : decide ((n : Int) ≤ 122) = true := decide_eq_true (by omega)
    have l1 : decide ((65 : Int) ≤ (n : Int)) = true := decide_eq_true (by omega)
    have u1 : decide ((n : Int) ≤ 90) = true := decide_eq_true (by omega)
    go_enter Tryz.func141, Tryz.ntmps141
    go_wp2
    go_ret
    exact ⟨rfl, rfl⟩
  · have HE : letN n = false := by unfold letN; exact decide_eq_false (by omega)
    rw [HE]
    clear HE
    have l0 : decide ((97 : Int) ≤ (n : Int)) = false := decide_eq_false (by omega)
    have u0 : decide ((n : Int) ≤ 122) = true := decide_eq_true (by omega)
    have l1 : decide ((65 : Int) ≤ (n : Int)) = true := decide_eq_true (by omega)
    have u1 : decide ((n : Int) ≤ 90) = false := decide_eq_false (by omega)
    go_enter Tryz.func141, Tryz.ntmps141
    go_wp2
    go_ret
    exact ⟨rfl, rfl⟩
  · have HE : letN n = true := by unfold letN; exact decide_eq_true (by omega)
    rw [HE]
    clear HE
    have l0 : decide ((97 : Int) ≤ (n : Int)) = true := decide_eq_true (by omega)
    have u0 : decide ((n : Int) ≤ 122) = true := decide_eq_true (by omega)
    have l1 : decide ((65 : Int) ≤ (n : Int)) = true := decide_eq_true (by omega)
    have u1 : decide ((n : Int) ≤ 90) = false := decide_eq_false (by omega)
    go_enter Tryz.func141, Tryz.ntmps141
    go_wp2
    go_ret
    exact ⟨rfl, rfl⟩
  · have HE : letN n = false := by unfold letN; exact decide_eq_false (by omega)
    rw [HE]
    clear HE
    have l0 : decide ((97 : Int) ≤ (n : Int)) = true := decide_eq_true (by omega)
    have u0 : decide ((n : Int) ≤ 122) = false := decide_eq_false (by omega)
    have l1 : decide ((65 : Int) ≤ (n : Int)) = true := decide_eq_true (by omega)
    have u1 : decide ((n : Int) ≤ 90) = false := decide_eq_false (by omega)
    go_enter Tryz.func141, Tryz.ntmps141
    go_wp2
    go_ret
    exact ⟨rfl, rfl⟩
set_option maxRecDepth 100000 in
set_option maxHeartbeats 4000000 in
theorem dig20_calls (w : World) (n : Nat) (hn : n < 256) : Calls Tryz.prog 142 #[.int .u8 (n : Int)] w fun e w' => e = .returned (.bool (digN n)) ∧ w = w' := by
  have hc : (0 ≤ n ∧ n < 48) ∨ (48 ≤ n ∧ n < 58) ∨ (58 ≤ n ∧ n < 256) := by omega
  rcases hc with ⟨h1, h2⟩ | ⟨h1, h2⟩ | ⟨h1, h2⟩
  · have HE : digN n = false := by unfold digN; exact decide_eq_false (by omega)
    rw [HE]
    clear HE
    have l0 : decide ((48 : Int) ≤ (n : Int)) = false := decide_eq_false (by omega)
    have u0 : decide ((n : Int) ≤ 57) = true := decide_eq_true (by omega)
    go_enter Tryz.func142, Tryz.ntmps142
    go_wp2
    go_ret
    exact ⟨rfl, rfl⟩
  · have HE : digN n = true := by unfold digN; exact decide_eq_true (by omega)
    rw [HE]
    clear HE
    have l0 : decide ((48 : Int) ≤ (n : Int)) = true := decide_eq_true (by omega)
    have u0 : decide ((n : Int) ≤ 57) = true := decide_eq_true (by omega)
    go_enter Tryz.func142, Tryz.ntmps142
    go_wp2
    go_ret
    exact ⟨rfl, rfl⟩
  · have HE : digN n = false := by unfold digN; exact decide_eq_false (by omega)
    rw [HE]
    clear HE
    have l0 : decide ((48 : Int) ≤ (n : Int)) = true := decide_eq_true (by omega)
    have u0 : decide ((n : Int) ≤ 57) = false := decide_eq_false (by omega)
    go_enter Tryz.func142, Tryz.ntmps142
    go_wp2
    go_ret
    exact ⟨rfl, rfl⟩
def markA : ByteArray := ⟨#[40, 41, 123, 125, 60, 62, 91, 93, 44, 59, 58, 46, 124, 64, 37, 45]⟩
theorem markA_list : markA.data.toList = marksL := rfl
set_option maxRecDepth 100000 in
set_option maxHeartbeats 4000000 in
theorem single20_calls (w : World) (c : B) : Calls Tryz.prog 144 #[.int .u8 (c.toNat : Int)] w fun e w' => e = .returned (.bool (isMark c)) ∧ w = w' := by
  obtain ⟨M, hM⟩ : ∃ M : ByteArray, M = ⟨#[40, 41, 123, 125, 60, 62, 91, 93, 44, 59, 58, 46, 124, 64, 37, 45]⟩ := ⟨_, rfl⟩
  have hsz : M.size = 16 := by rw [hM]; rfl
  have HM : Aside0 (M.data.toList = marksL) := ⟨by rw [hM]; rfl⟩
  obtain ⟨m, hm⟩ : ∃ m : Nat, m = c.toNat := ⟨_, rfl⟩
  have HC := Aside0.mk hm
  rw [← hm]
  go_enter Tryz.func144, Tryz.ntmps144
  rw [← hM]
  have HSZ := Aside0.mk hsz
  clear hM hm hsz
  go_wp2
  go_loopg [3] 17 (fun g i W => ∃ k : Nat, i = .int .i64 (k : Int) ∧ W = w ∧ k ≤ 16 ∧ 17 - k ≤ g ∧ Aside0 ((marksL.drop k).contains c = isMark c))
  case atStart => exact ⟨0, rfl, rfl, by omega, by omega, ⟨rfl⟩⟩
  case round =>
    obtain ⟨k, rfl, hW, hk, hkg, HK⟩ := hrel
    have hW2 := hW.symm; clear hW; subst hW2
    rcases Nat.lt_or_ge k 16 with hlt | hge
    · have hd : decide ((k : Int) < 16) = true := decide_eq_true (by omega)
      have hkM : k < M.size := by rw [HSZ.out]; exact hlt
      obtain ⟨x, hx⟩ : ∃ x, x = M[k]'hkM := ⟨_, rfl⟩
      have hkl : k < marksL.length := hlt
      have hxl : marksL[k] = x := by
        have : M.data.toList[k]'(by rw [HM.out]; exact hlt) = x := by rw [hx, Array.getElem_toList]; rfl
        rw [← this]
        simp only [HM.out]
      have HD : Aside0 (isMark c = ((c == x) || (marksL.drop (k + 1)).contains c)) := ⟨by
        rw [← HK.out, List.drop_eq_getElem_cons hkl, hxl]; rfl⟩
      clear hxl
      by_cases he : x = c
      · have e1 : (((M[k]'hkM).toNat : Int) == (m : Int)) = true := by rw [← hx, he, HC.out]; exact beq_self_eq_true _
        have HE : Aside0 (isMark c = true) := ⟨by rw [HD.out, he]; simp⟩
        clear hx he HD
        go_wp2
        go_ret
        rw [HE.out]
        exact ⟨rfl, rfl⟩
      · have e1 : (((M[k]'hkM).toNat : Int) == (m : Int)) = false := by
          rw [← hx, HC.out, beq_eq_false_iff_ne]
          intro h
          exact he (UInt8.toNat_inj.1 (by exact_mod_cast h))
        have HE : Aside0 ((marksL.drop (k + 1)).contains c = isMark c) := ⟨by rw [HD.out, beq_eq_false_iff_ne.2 (fun h => he h.symm), Bool.false_or]⟩
        clear hx he HD
        go_wp2
        go_roundg (gk - 1)
        case measure => omega
        case rel => exact ⟨k + 1, by go_num, rfl, by omega, by omega, HE⟩
    · have hd : decide ((k : Int) < 16) = false := decide_eq_false (by omega)
      have HE : Aside0 (isMark c = false) := ⟨by rw [← HK.out, List.drop_eq_nil_of_le (show marksL.length ≤ k from hge)]; rfl⟩
      go_wp2
      go_ret
      rw [HE.out]
      exact ⟨rfl, rfl⟩
theorem val_take (l : List B) (k : Nat) (h : k < l.length) : valOf (l.take (k + 1)) = 10 * valOf (l.take k) + (l[k].toNat - 48) := by
  rw [List.take_succ_eq_append_getElem h, val_snoc]
theorem val_mono (l : List B) : ∀ (k : Nat), k ≤ l.length → valOf (l.take k) ≤ valOf l := by
  intro k hk
  induction hn : l.length - k generalizing k with
  | zero => rw [List.take_of_length_le (by omega)]; exact Nat.le_refl _
  | succ n ih =>
    have := ih (k + 1) (by omega) (by omega)
    rw [val_take l k (by omega)] at this
    omega
set_option maxRecDepth 100000 in
set_option maxHeartbeats 4000000 in
theorem number20_calls (w : World) (s : ByteArray) (hs : s.size ≤ 40) (hd : ∀ x ∈ s.data.toList, digit x = true) : Calls Tryz.prog 143 #[.string s] w fun e w' => ∃ v : Int, e = .returned (.tuple #[.int .u64 v, .bool (decide (valOf s.data.toList < 18446744073709551616))]) ∧ w = w' := by
  obtain ⟨l, hl⟩ : ∃ l, l = s.data.toList := ⟨_, rfl⟩
  have HLN : Aside0 (l.length = s.size) := ⟨by rw [hl]; exact Array.length_toList⟩
  have HL := Aside0.mk hl
  rw [← hl] at hd ⊢
  have HDG := Aside0.mk hd
  obtain ⟨r, hr⟩ : ∃ r, r = decide (valOf l < 18446744073709551616) := ⟨_, rfl⟩
  rw [← hr]
  have HRR := Aside0.mk hr
  clear hl hd hr
  go_enter Tryz.func143, Tryz.ntmps143
  go_wp2
  go_loopg [4, 5] (s.size + 1) (fun g b i W => ∃ (k n : Nat), i = .int .i64 (k : Int) ∧ b = .int .u64 (n : Int) ∧ W = w ∧ k ≤ s.size ∧ s.size + 1 - k ≤ g ∧ Aside0 (n = valOf (l.take k)) ∧ Aside0 (n < 18446744073709551616))
  case atStart => exact ⟨0, 0, rfl, rfl, rfl, by omega, by omega, ⟨by simp [valOf]⟩, ⟨by decide⟩⟩
  case round =>
    obtain ⟨k, n, rfl, rfl, hW, hk, hkg, HV, HLT⟩ := hrel
    have hW2 := hW.symm; clear hW; subst hW2
    rcases Nat.lt_or_ge k s.size with hlt | hge
    · have hdk : decide (k < s.size) = true := decide_eq_true hlt
      have hkl : k < l.length := by rw [HLN.out]; exact hlt
      have hx : s[k] = l[k] := by simp only [HL.out, Array.getElem_toList]; rfl
      obtain ⟨x, hxx⟩ : ∃ x : Nat, x = (s[k]).toNat := ⟨_, rfl⟩
      have hdg := dig_val (HDG.out l[k] (List.getElem_mem _))
      rw [← hx, ← hxx] at hdg
      obtain ⟨d, hdd⟩ : ∃ d : Nat, x = d + 48 := ⟨x - 48, by omega⟩
      have hd9 : d ≤ 9 := by omega
      have HN2 : Aside0 (valOf (l.take (k + 1)) = 10 * n + d) := ⟨by rw [val_take l k hkl, ← hx, ← hxx, ← HV.out]; omega⟩
      have w1 : IntKind.u8.wrap (((s[k]).toNat : Int) - 48) = (d : Int) := by rw [← hxx, IntKind.wrap_u8]; omega
      have w2 : IntKind.u64.wrap (d : Int) = (d : Int) := wrap_u64 _ (by omega) (by omega)
      have w3 : IntKind.u64.wrap (18446744073709551615 - (d : Int)) = 18446744073709551615 - (d : Int) := wrap_u64 _ (by omega) (by omega)
      have hlt' := HLT.out
      by_cases hov : (18446744073709551615 - (d : Int)) / 10 < (n : Int)
      · have e1 : decide ((18446744073709551615 - (d : Int)) / 10 < (n : Int)) = true := decide_eq_true hov
        have HE : Aside0 (r = false) := ⟨by
          rw [HRR.out, decide_eq_false_iff_not]
          have := val_mono l (k + 1) (by omega)
          rw [HN2.out] at this
          omega⟩
        clear hov hx hxx hdg hdd hlt' HN2
        go_wp2
        go_ret2
        rw [HE.out]
        exact ⟨_, rfl, rfl⟩
      · have e1 : decide ((18446744073709551615 - (d : Int)) / 10 < (n : Int)) = false := decide_eq_false hov
        have hsum : 10 * n + d < 18446744073709551616 := by omega
        have w4 : IntKind.u64.wrap (10 * (n : Int)) = 10 * (n : Int) := wrap_u64 _ (by omega) (by omega)
        have w5 : IntKind.u64.wrap (10 * (n : Int) + (d : Int)) = ((10 * n + d : Nat) : Int) := by rw [wrap_u64 _ (by omega) (by omega)]; simp
        have HSUM := Aside0.mk hsum
        clear hov hx hxx hdg hdd hlt' hsum
        go_wp2
        go_roundg (gk - 1)
        case measure => omega
        case rel => exact ⟨k + 1, 10 * n + d, by go_num, by first | rfl | (rw [w5]) | (congr 1), rfl, by omega, by omega, ⟨HN2.out.symm⟩, HSUM⟩
    · have hdk : decide (k < s.size) = false := decide_eq_false (by omega)
      have HE : Aside0 (r = true) := ⟨by
        rw [HRR.out, decide_eq_true_eq]
        have := HLT.out
        rw [HV.out, List.take_of_length_le (by rw [HLN.out]; exact hge)] at this
        exact this⟩
      go_wp2
      go_ret2
      rw [HE.out]
      exact ⟨_, rfl, rfl⟩
end Wd
end Go.Proofs.YtbdecnagdnancaaGreatDoor
