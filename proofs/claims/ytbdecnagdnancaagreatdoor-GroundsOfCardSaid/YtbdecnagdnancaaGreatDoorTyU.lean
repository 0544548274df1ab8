/- The document's Check, End and Deep: what each answers, by walks through their code. -/
import Derived.Test.YtbdecnagdnancaaGreatDoorTyV

namespace Go.Proofs.YtbdecnagdnancaaGreatDoor
open Go.RowKit Go.Shelf Go.Proofs.YtbdecnagdnancaaGreatDoorW.PrintWords Go.Proofs.YtbdecnagdnancaaGreatDoorW.PrintLast Go.Proofs.YtbdecnagdnancaaGreatDoorW.PrintMore
set_option linter.unusedVariables false
set_option linter.unusedSimpArgs false
namespace Ref07
theorem walk1_calls (w : World) (A : Option Addr) (c : Nat) (body : List Node) (hlen : body.length ≤ 300) (hr : Kd.C kNode w A body.length body) (k : Nat) (n : Nat) (hn : n = body.length) (r : Nat × Int × Int) (h : walkR body 16 k = r) :
    Calls Tryz.prog 182 #[.slice A n c, .int .i64 (k : Int), .int .i64 1] w fun e w' => e = .returned (.tuple #[.int .i64 (r.1 : Int), .int .i64 r.2.1, .int .i64 r.2.2]) ∧ Below w.heap.size w w' := by
  have := walk_calls A c body hlen 16 (by decide) k w hr
  rw [h, ← hn] at this
  exact this
set_option maxRecDepth 100000 in
set_option maxHeartbeats 1000000 in
theorem check_calls (w : World) (A : Option Addr) (c : Nat) (body : List Node) (hlen : body.length ≤ 300) (hr : Kd.C kNode w A body.length body) :
    Calls Tryz.prog 101 #[.slice A body.length c] w fun e w' => e = .returned (.int .i64 (checkB body)) ∧ Below w.heap.size w w' := by
  rw [← ref_check]
  obtain ⟨n, hn⟩ : ∃ n, n = body.length := ⟨_, rfl⟩
  obtain ⟨r, hw⟩ : ∃ r, walkR body 16 0 = r := ⟨_, rfl⟩
  obtain ⟨q, hq⟩ : ∃ q, q = refCheckB body := ⟨_, rfl⟩
  rw [← hq]
  unfold refCheckB at hq
  rw [hw, ← hn] at hq
  obtain ⟨r1, r2, r3⟩ := r
  have C1 : Aside0 (Calls Tryz.prog 182 #[.slice A n c, .int .i64 0, .int .i64 1] w fun e w' => e = .returned (.tuple #[.int .i64 (r1 : Int), .int .i64 r2, .int .i64 r3]) ∧ Below w.heap.size w w') := ⟨walk1_calls w A c body hlen hr 0 n hn _ hw⟩
  have HQ := Aside0.mk hq
  rw [← hn]
  clear hq hw hr hn
  by_cases h0 : n = 0
  · subst h0
    go_enter Tryz.func101, Tryz.ntmps101
    go_wp2
    go_ret
    rw [HQ.out]
    exact ⟨rfl, Below.refl _ _⟩
  have z0 : ((n : Int) == 0) = false := beq_eq_false_iff_ne.mpr (by omega)
  by_cases h1 : 128 < n
  · have z1 : decide (128 < (n : Int)) = true := decide_eq_true (by omega)
    obtain rfl : q = 3 := by rw [HQ.out, if_neg h0, if_pos h1]
    clear HQ h0
    go_enter Tryz.func101, Tryz.ntmps101
    go_wp2
    go_ret
    exact ⟨rfl, Below.refl _ _⟩
  have z1 : decide (128 < (n : Int)) = false := decide_eq_false (by omega)
  have hq := HQ.out
  rw [if_neg h0, if_neg h1] at hq
  simp only at hq
  clear HQ h0
  by_cases h3 : r3 = 0
  · subst h3
    by_cases h4 : r1 < n
    · obtain rfl : q = 4 := by rw [hq, if_pos ⟨rfl, h4⟩]
      have z4 : decide (r1 < n) = true := decide_eq_true h4
      clear hq
      go_enter Tryz.func101, Tryz.ntmps101
      go_wp2_with (go_at_call 182; (with_reducible refine (C1.out).mono ?_); rintro e W' ⟨rfl, hb'⟩)
      go_ret
      exact ⟨rfl, hb'⟩
    · obtain rfl : q = 0 := by rw [hq, if_neg (fun h => h4 h.2)]
      have z4 : decide (r1 < n) = false := decide_eq_false h4
      clear hq
      go_enter Tryz.func101, Tryz.ntmps101
      go_wp2_with (go_at_call 182; (with_reducible refine (C1.out).mono ?_); rintro e W' ⟨rfl, hb'⟩)
      go_ret
      exact ⟨rfl, hb'⟩
  · obtain rfl : q = r3 := by rw [hq, if_neg (fun h => h3 h.1)]
    have z4 : (q == 0) = false := beq_eq_false_iff_ne.mpr h3
    clear hq h3
    go_enter Tryz.func101, Tryz.ntmps101
    go_wp2_with (go_at_call 182; (with_reducible refine (C1.out).mono ?_); rintro e W' ⟨rfl, hb'⟩)
    go_ret
    exact ⟨rfl, hb'⟩
end Ref07
end Go.Proofs.YtbdecnagdnancaaGreatDoor
