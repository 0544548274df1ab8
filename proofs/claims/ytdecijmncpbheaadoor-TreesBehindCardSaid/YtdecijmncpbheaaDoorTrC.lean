/- cartouchelaw01.SameNodes at two lists that are the same; words as an argument. -/
import Derived.Test.YtdecijmncpbheaaDoorMTn
import Derived.Test.YtdecijmncpbheaaDoorTrA

namespace Go.Proofs.YtdecijmncpbheaaDoor
open Go.RowKit Go.Proofs.YtdecijmncpbheaaDoorW.PrintWords Go.Proofs.YtdecijmncpbheaaDoorW.PrintLast Go.Proofs.YtdecijmncpbheaaDoorW.PrintMore
set_option linter.unusedVariables false
set_option linter.unusedSimpArgs false
namespace Tr
theorem opens_place : Opens Tryd.prog 32 kPlace (fun _ => True) :=
  Opens.imp (opens_iso (fun b : S32 => (b.f0, b.f1)) (fun p => ⟨p.1, p.2⟩) (fun _ => rfl)
    (opens_struct (l := [(3, 0), (3, 1)]) (by kernel_rfl) (by kernel_rfl) (from_cons (by kernel_rfl) rfl (opens_int Tryd.underlying3) (from_last (by kernel_rfl) (opens_int Tryd.underlying3))))) fun x h => trivial
theorem opens_word : Opens Tryd.prog 41 kWord (fun x => x.f1.size ≤ 281474976710656) :=
  Opens.imp (opens_iso (fun b : Wrd => (b.f0, b.f1, b.f2)) (fun p => ⟨p.1, p.2.1, p.2.2⟩) (fun _ => rfl)
    (opens_struct (l := [(39, 0), (9, 1), (32, 2)]) (by kernel_rfl) (by kernel_rfl) (from_cons (by kernel_rfl) rfl (opens_int Tryd.underlying39) (from_cons (by kernel_rfl) rfl (opens_string Tryd.underlying9)
      (from_last (by kernel_rfl) opens_place))))) fun x h => Nat.le_trans h.2.1.2 (by decide)
set_option maxRecDepth 100000 in
set_option maxHeartbeats 4000000 in
theorem sameNodes_calls (w : World) (A A2 : Option Addr) (c c2 : Nat) (xs : List _) (hr : Kd.C kNode w A xs.length xs) (hr2 : Kd.C kNode w A2 xs.length xs) :
    Calls Tryd.prog 10 #[.slice A xs.length c, .slice A2 xs.length c2] w fun e w' => e = .returned (.bool true) ∧ Below w.heap.size w w' := by
  have hm : xs.length ≤ 9223372036854775807 := hr.2.1
  have HR := Aside0.mk hr
  have HR2 := Aside0.mk hr2
  clear hr hr2
  obtain ⟨n, hn⟩ : ∃ n, n = xs.length := ⟨_, rfl⟩
  have HN := Aside0.mk hn
  rw [← hn] at hm ⊢
  clear hn
  have z0 : ((n : Int) != (n : Int)) = false := bne_self_eq_false _
  go_enter Tryd.func10, Tryd.ntmps10
  go_wp2
  go_loopg [5] (n + 1) (fun g i W => ∃ (k : Nat), i = .int .i64 k ∧ k ≤ n ∧ n + 1 - k ≤ g ∧ Aside0 (Below w.heap.size w W))
  case atStart => exact ⟨0, rfl, by omega, by omega, ⟨Below.refl _ _⟩⟩
  case round =>
    obtain ⟨k, rfl, hk, hkg, HB⟩ := hrel
    rcases Nat.lt_or_ge k n with hlt | hge
    · have hd : decide (k < n) = true := decide_eq_true hlt
      obtain ⟨ad, rfl, c0', c1', c2', c3', c4', c5', c6', c7', c8', c9'⟩ := nodeN (Kd.C_below HR.out HB.out) k (by rw [← HN.out]; exact hlt)
      obtain ⟨bd, rfl, d0', d1', d2', d3', d4', d5', d6', d7', d8', d9'⟩ := nodeN (Kd.C_below HR2.out HB.out) k (by rw [← HN.out]; exact hlt)
      obtain ⟨m, hm⟩ : ∃ m, m = xs[k]'(by rw [← HN.out]; exact hlt) := ⟨_, rfl⟩
      rw [← hm] at c0' c1' c2' c3' c4' c5' c6' c7' c8' c9' d0' d1' d2' d3' d4' d5' d6' d7' d8' d9'
      clear hm
      go_wp2
      go_quiet (fail)
      go_wp2
      go_roundg (gk - 1)
      case measure => omega
      case rel => exact ⟨k + 1, by go_num, by omega, by omega, ⟨pw_below_drewN HB.out _⟩⟩
    · have hd : decide (k < n) = false := decide_eq_false (by omega)
      go_wp2
      go_ret
      exact ⟨rfl, HB.out⟩
end Tr
end Go.Proofs.YtdecijmncpbheaaDoor
