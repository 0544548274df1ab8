/- schemes.every: whether all spots are such, at the two kinds of function values that it is handed. -/
import Derived.Test.YtjndjmggilcngaaGreatDoorBd

namespace Go.Proofs.YtjndjmggilcngaaGreatDoor
open Go.RowKit Go.Proofs.YtjndjmggilcngaaGreatDoorW.PrintWords Go.Proofs.YtjndjmggilcngaaGreatDoorW.PrintLast Go.Proofs.YtjndjmggilcngaaGreatDoorW.PrintMore
set_option linter.unusedVariables false
set_option linter.unusedSimpArgs false
def spotV (x : Spot) : Value := .agg #[.int .i64 x.f0, .int .u8 x.f1, .int .u8 x.f2, .bool x.f3.f0, .int .u64 x.f3.f1]
theorem ev1C_calls (w : World) (b : Nat) (p1 p2 : Addr) (x : Spot) (z : Bool) (hc : w.cell? ⟨b, 0, none⟩ = some (.func (.func 128) #[] #[.pointer (some p1), .pointer (some p2)])) (hg : ∀ W, Below w.heap.size w W → Calls Tryz.prog 128 #[spotV x, .pointer (some p1), .pointer (some p2)] W fun e w' => e = .returned (.bool z) ∧ Below W.heap.size W w') :
    Calls Tryz.prog 195 #[spotV x, .pointer (some ⟨b, 0, none⟩)] w fun e w' => e = .returned (.bool (!z)) ∧ Below w.heap.size w w' := by
  have HG := Aside0.mk hg
  have hl := World.block_lt_of_cell? w _ hc
  obtain ⟨O, hO⟩ : ∃ O : Obj, O = .cells #[.int .i64 x.f0, .int .u8 x.f1, .int .u8 x.f2, .bool x.f3.f0, .int .u64 x.f3.f1] 131 := ⟨_, rfl⟩
  have HB := Aside0.mk (below_alloc (Below.refl w.heap.size w) O)
  subst hO
  simp only [spotV] at hg ⊢
  have HG := Aside0.mk hg
  clear hg
  go_enter Tryz.func195, Tryz.ntmps195
  go_wp2_with (go_at_call 128; (with_reducible refine (HG.out _ HB.out).mono ?_); rintro e W' ⟨rfl, hb'⟩; have HB' := Aside0.mk (below_step HB.out hb'); clear HB hb'; have HB := HB'; clear HB')
  go_ret
  exact ⟨rfl, HB.out⟩
set_option maxRecDepth 100000 in
set_option maxHeartbeats 4000000 in
theorem ev2C_calls (w : World) (A : Option Addr) (c n : Nat) (l : List Spot) (b : Nat) (p1 p2 : Addr) (P : Spot → Bool) (hn : n = l.length) (hmax : n ≤ 9223372036854775807) (hr : kSpot.C w A n l) (hc : w.cell? ⟨b, 0, none⟩ = some (.func (.func 128) #[] #[.pointer (some p1), .pointer (some p2)])) (hg : ∀ W, Below w.heap.size w W → ∀ x ∈ l, Calls Tryz.prog 128 #[spotV x, .pointer (some p1), .pointer (some p2)] W fun e w' => e = .returned (.bool (P x)) ∧ Below W.heap.size W w') :
    Calls Tryz.prog 231 #[.slice A n c, .func (.func 195) #[] #[.pointer (some ⟨b, 0, none⟩)]] w fun e w' => ∃ i : Int, e = .returned (.int .i64 i) ∧ decide (0 ≤ i) = (!l.all P) ∧ Below w.heap.size w w' := by
  have HR := Aside0.mk hr
  have HN := Aside0.mk hn
  have HC := Aside0.mk hc
  have HG := Aside0.mk hg
  clear hr hn hc hg
  go_enter Tryz.func231, Tryz.ntmps231
  go_wp2
  go_loopg [8] (n + 1) (fun gk i W => ∃ k : Nat, i = .int .i64 (k : Int) ∧ k ≤ n ∧ n + 1 - k ≤ gk ∧ Aside0 (Below w.heap.size w W) ∧ Aside0 (∀ i (h : i < l.length), i < k → P l[i] = true))
  case atStart => exact ⟨0, rfl, by omega, by omega, ⟨Below.refl _ _⟩, ⟨fun i h hi => by omega⟩⟩
  case round =>
    obtain ⟨k, rfl, hk, hkg, HB, HK⟩ := hrel
    rcases Nat.lt_or_ge k n with hlt | hge
    · have hd : decide (k < n) = true := decide_eq_true hlt
      have hkl : k < l.length := by rw [← HN.out]; exact hlt
      obtain ⟨ad, rfl, c0, c1, c2, c3, c4⟩ := C_spotN (by rw [← HN.out]; exact Kd.C_below HR.out HB.out) k hkl
      obtain ⟨x, hx⟩ : ∃ x, x = l[k] := ⟨_, rfl⟩
      rw [← hx] at c0 c1 c2 c3 c4
      obtain ⟨z, hz⟩ : ∃ z, z = P x := ⟨_, rfl⟩
      have E1 : Aside0 (Calls Tryz.prog 195 #[.agg #[.int .i64 x.f0, .int .u8 x.f1, .int .u8 x.f2, .bool x.f3.f0, .int .u64 x.f3.f1], .pointer (some ⟨b, 0, none⟩)] wr fun e w' => e = .returned (.bool (!z)) ∧ Below wr.heap.size wr w') := ⟨ev1C_calls wr b p1 p2 x z (pw_cell_below HB.out HC.out) (fun W hb => by rw [hz]; exact HG.out W (HB.out.trans (hb.mono HB.out.size)) x (by rw [hx]; exact List.getElem_mem _))⟩
      have HX := Aside0.mk (And.intro hx hz)
      clear hx hz
      cases z with
      | false =>
        have HE : Aside0 (true = (!l.all P)) := ⟨by
          have : l.all P = false := List.all_eq_false.2 ⟨l[k], List.getElem_mem _, by rw [← HX.out.1, ← HX.out.2]; simp⟩
          rw [this]; rfl⟩
        go_wp2_with (go_at_call 195; (with_reducible refine E1.out.mono ?_); rintro e W1 ⟨rfl, hb1⟩; have HB1 := Aside0.mk (HB.out.trans (hb1.mono HB.out.size)); clear hb1)
        go_ret
        exact ⟨_, rfl, by rw [← HE.out]; exact decide_eq_true (by omega), HB1.out⟩
      | true =>
        have HK2 : Aside0 (∀ i (h : i < l.length), i < k + 1 → P l[i] = true) := ⟨by
          intro i h hi
          rcases Nat.lt_or_ge i k with q | q
          · exact HK.out i h q
          · obtain rfl : i = k := by omega
            rw [← HX.out.1, ← HX.out.2]⟩
        go_wp2_with (go_at_call 195; (with_reducible refine E1.out.mono ?_); rintro e W1 ⟨rfl, hb1⟩; have HB1 := Aside0.mk (HB.out.trans (hb1.mono HB.out.size)); clear hb1)
        go_roundg (gk - 1)
        case measure => omega
        case rel => exact ⟨k + 1, by go_num, by omega, by omega, HB1, HK2⟩
    · have hd : decide (k < n) = false := decide_eq_false (by omega)
      have HE : Aside0 (false = (!l.all P)) := ⟨by
        have : l.all P = true := by
          rw [List.all_eq_true]
          intro x hx
          obtain ⟨i, hi, rfl⟩ := List.getElem_of_mem hx
          exact HK.out i hi (by have := HN.out; omega)
        rw [this]; rfl⟩
      go_wp2
      go_ret
      exact ⟨_, rfl, by rw [← HE.out]; rfl, HB.out⟩
theorem ev3C_calls (w : World) (A : Option Addr) (c n : Nat) (l : List Spot) (b : Nat) (p1 p2 : Addr) (P : Spot → Bool) (hn : n = l.length) (hmax : n ≤ 9223372036854775807) (hr : kSpot.C w A n l) (hc : w.cell? ⟨b, 0, none⟩ = some (.func (.func 128) #[] #[.pointer (some p1), .pointer (some p2)])) (hg : ∀ W, Below w.heap.size w W → ∀ x ∈ l, Calls Tryz.prog 128 #[spotV x, .pointer (some p1), .pointer (some p2)] W fun e w' => e = .returned (.bool (P x)) ∧ Below W.heap.size W w') :
    Calls Tryz.prog 194 #[.slice A n c, .func (.func 195) #[] #[.pointer (some ⟨b, 0, none⟩)]] w fun e w' => e = .returned (.bool (!l.all P)) ∧ Below w.heap.size w w' := by
  have HG := Aside0.mk (ev2C_calls w A c n l b p1 p2 P hn hmax hr hc hg)
  clear hr hc hg hn
  go_enter Tryz.func194, Tryz.ntmps194
  go_wp2_with (go_at_call 231; (with_reducible refine HG.out.mono ?_); rintro e W1 ⟨i, rfl, hi, hb1⟩; have HI := Aside0.mk hi; have HB1 := Aside0.mk hb1; clear hi hb1)
  go_ret
  rw [← HI.out]
  exact ⟨rfl, HB1.out⟩
theorem everyC_calls (w : World) (A : Option Addr) (c n : Nat) (l : List Spot) (p1 p2 : Addr) (P : Spot → Bool) (hn : n = l.length) (hmax : n ≤ 9223372036854775807) (hr : kSpot.C w A n l) (hg : ∀ W, Below w.heap.size w W → ∀ x ∈ l, Calls Tryz.prog 128 #[spotV x, .pointer (some p1), .pointer (some p2)] W fun e w' => e = .returned (.bool (P x)) ∧ Below W.heap.size W w') :
    Calls Tryz.prog 119 #[.slice A n c, .func (.func 128) #[] #[.pointer (some p1), .pointer (some p2)]] w fun e w' => e = .returned (.bool (l.all P)) ∧ Below w.heap.size w w' := by
  have HB := Aside0.mk (below_alloc (Below.refl w.heap.size w) (.cells #[.func (.func 128) #[] #[.pointer (some p1), .pointer (some p2)]] 148))
  have HG := Aside0.mk (ev3C_calls (w.alloc (.cells #[.func (.func 128) #[] #[.pointer (some p1), .pointer (some p2)]] 148)) A c n l w.heap.size p1 p2 P hn hmax (Kd.C_below hr HB.out) (blk_cell (blk_new w _) 0) (fun W hb => hg W (below_step HB.out hb)))
  clear hr hg hn
  obtain ⟨z, hz⟩ : ∃ z, z = l.all P := ⟨_, rfl⟩
  rw [← hz] at HG ⊢
  clear hz
  go_enter Tryz.func119, Tryz.ntmps119
  go_wp2_with (go_at_call 194; (with_reducible refine (HG.out).mono ?_); rintro e W' ⟨rfl, hb'⟩; have HB' := Aside0.mk (below_step HB.out hb'); clear HB hb'; have HB := HB'; clear HB')
  go_ret
  exact ⟨by cases z <;> rfl, HB.out⟩
theorem ev1H_calls (w : World) (b : Nat) (B : Option Addr) (m d : Nat) (x : Spot) (z : Bool) (hc : w.cell? ⟨b, 0, none⟩ = some (.func (.func 120) #[.slice B m d] #[])) (hg : ∀ W, Below w.heap.size w W → Calls Tryz.prog 120 #[.slice B m d, spotV x] W fun e w' => e = .returned (.bool z) ∧ Below W.heap.size W w') :
    Calls Tryz.prog 195 #[spotV x, .pointer (some ⟨b, 0, none⟩)] w fun e w' => e = .returned (.bool (!z)) ∧ Below w.heap.size w w' := by
  have HG := Aside0.mk hg
  have hl := World.block_lt_of_cell? w _ hc
  obtain ⟨O, hO⟩ : ∃ O : Obj, O = .cells #[.int .i64 x.f0, .int .u8 x.f1, .int .u8 x.f2, .bool x.f3.f0, .int .u64 x.f3.f1] 131 := ⟨_, rfl⟩
  have HB := Aside0.mk (below_alloc (Below.refl w.heap.size w) O)
  subst hO
  simp only [spotV] at hg ⊢
  have HG := Aside0.mk hg
  clear hg
  go_enter Tryz.func195, Tryz.ntmps195
  go_wp2_with (go_at_call 120; (with_reducible refine (HG.out _ HB.out).mono ?_); rintro e W' ⟨rfl, hb'⟩; have HB' := Aside0.mk (below_step HB.out hb'); clear HB hb'; have HB := HB'; clear HB')
  go_ret
  exact ⟨rfl, HB.out⟩
set_option maxRecDepth 100000 in
set_option maxHeartbeats 4000000 in
theorem ev2H_calls (w : World) (A : Option Addr) (c n : Nat) (l : List Spot) (b : Nat) (B : Option Addr) (m d : Nat) (P : Spot → Bool) (hn : n = l.length) (hmax : n ≤ 9223372036854775807) (hr : kSpot.C w A n l) (hc : w.cell? ⟨b, 0, none⟩ = some (.func (.func 120) #[.slice B m d] #[])) (hg : ∀ W, Below w.heap.size w W → ∀ x ∈ l, Calls Tryz.prog 120 #[.slice B m d, spotV x] W fun e w' => e = .returned (.bool (P x)) ∧ Below W.heap.size W w') :
    Calls Tryz.prog 231 #[.slice A n c, .func (.func 195) #[] #[.pointer (some ⟨b, 0, none⟩)]] w fun e w' => ∃ i : Int, e = .returned (.int .i64 i) ∧ decide (0 ≤ i) = (!l.all P) ∧ Below w.heap.size w w' := by
  have HR := Aside0.mk hr
  have HN := Aside0.mk hn
  have HC := Aside0.mk hc
  have HG := Aside0.mk hg
  clear hr hn hc hg
  go_enter Tryz.func231, Tryz.ntmps231
  go_wp2
  go_loopg [8] (n + 1) (fun gk i W => ∃ k : Nat, i = .int .i64 (k : Int) ∧ k ≤ n ∧ n + 1 - k ≤ gk ∧ Aside0 (Below w.heap.size w W) ∧ Aside0 (∀ i (h : i < l.length), i < k → P l[i] = true))
  case atStart => exact ⟨0, rfl, by omega, by omega, ⟨Below.refl _ _⟩, ⟨fun i h hi => by omega⟩⟩
  case round =>
    obtain ⟨k, rfl, hk, hkg, HB, HK⟩ := hrel
    rcases Nat.lt_or_ge k n with hlt | hge
    · have hd : decide (k < n) = true := decide_eq_true hlt
      have hkl : k < l.length := by rw [← HN.out]; exact hlt
      obtain ⟨ad, rfl, c0, c1, c2, c3, c4⟩ := C_spotN (by rw [← HN.out]; exact Kd.C_below HR.out HB.out) k hkl
      obtain ⟨x, hx⟩ : ∃ x, x = l[k] := ⟨_, rfl⟩
      rw [← hx] at c0 c1 c2 c3 c4
      obtain ⟨z, hz⟩ : ∃ z, z = P x := ⟨_, rfl⟩
      have E1 : Aside0 (Calls Tryz.prog 195 #[.agg #[.int .i64 x.f0, .int .u8 x.f1, .int .u8 x.f2, .bool x.f3.f0, .int .u64 x.f3.f1], .pointer (some ⟨b, 0, none⟩)] wr fun e w' => e = .returned (.bool (!z)) ∧ Below wr.heap.size wr w') := ⟨ev1H_calls wr b B m d x z (pw_cell_below HB.out HC.out) (fun W hb => by rw [hz]; exact HG.out W (HB.out.trans (hb.mono HB.out.size)) x (by rw [hx]; exact List.getElem_mem _))⟩
      have HX := Aside0.mk (And.intro hx hz)
      clear hx hz
      cases z with
      | false =>
        have HE : Aside0 (true = (!l.all P)) := ⟨by
          have : l.all P = false := List.all_eq_false.2 ⟨l[k], List.getElem_mem _, by rw [← HX.out.1, ← HX.out.2]; simp⟩
          rw [this]; rfl⟩
        go_wp2_with (go_at_call 195; (with_reducible refine E1.out.mono ?_); rintro e W1 ⟨rfl, hb1⟩; have HB1 := Aside0.mk (HB.out.trans (hb1.mono HB.out.size)); clear hb1)
        go_ret
        exact ⟨_, rfl, by rw [← HE.out]; exact decide_eq_true (by omega), HB1.out⟩
      | true =>
        have HK2 : Aside0 (∀ i (h : i < l.length), i < k + 1 → P l[i] = true) := ⟨by
          intro i h hi
          rcases Nat.lt_or_ge i k with q | q
          · exact HK.out i h q
          · obtain rfl : i = k := by omega
            rw [← HX.out.1, ← HX.out.2]⟩
        go_wp2_with (go_at_call 195; (with_reducible refine E1.out.mono ?_); rintro e W1 ⟨rfl, hb1⟩; have HB1 := Aside0.mk (HB.out.trans (hb1.mono HB.out.size)); clear hb1)
        go_roundg (gk - 1)
        case measure => omega
        case rel => exact ⟨k + 1, by go_num, by omega, by omega, HB1, HK2⟩
    · have hd : decide (k < n) = false := decide_eq_false (by omega)
      have HE : Aside0 (false = (!l.all P)) := ⟨by
        have : l.all P = true := by
          rw [List.all_eq_true]
          intro x hx
          obtain ⟨i, hi, rfl⟩ := List.getElem_of_mem hx
          exact HK.out i hi (by have := HN.out; omega)
        rw [this]; rfl⟩
      go_wp2
      go_ret
      exact ⟨_, rfl, by rw [← HE.out]; rfl, HB.out⟩
theorem ev3H_calls (w : World) (A : Option Addr) (c n : Nat) (l : List Spot) (b : Nat) (B : Option Addr) (m d : Nat) (P : Spot → Bool) (hn : n = l.length) (hmax : n ≤ 9223372036854775807) (hr : kSpot.C w A n l) (hc : w.cell? ⟨b, 0, none⟩ = some (.func (.func 120) #[.slice B m d] #[])) (hg : ∀ W, Below w.heap.size w W → ∀ x ∈ l, Calls Tryz.prog 120 #[.slice B m d, spotV x] W fun e w' => e = .returned (.bool (P x)) ∧ Below W.heap.size W w') :
    Calls Tryz.prog 194 #[.slice A n c, .func (.func 195) #[] #[.pointer (some ⟨b, 0, none⟩)]] w fun e w' => e = .returned (.bool (!l.all P)) ∧ Below w.heap.size w w' := by
  have HG := Aside0.mk (ev2H_calls w A c n l b B m d P hn hmax hr hc hg)
  clear hr hc hg hn
  go_enter Tryz.func194, Tryz.ntmps194
  go_wp2_with (go_at_call 231; (with_reducible refine HG.out.mono ?_); rintro e W1 ⟨i, rfl, hi, hb1⟩; have HI := Aside0.mk hi; have HB1 := Aside0.mk hb1; clear hi hb1)
  go_ret
  rw [← HI.out]
  exact ⟨rfl, HB1.out⟩
theorem everyH_calls (w : World) (A : Option Addr) (c n : Nat) (l : List Spot) (B : Option Addr) (m d : Nat) (P : Spot → Bool) (hn : n = l.length) (hmax : n ≤ 9223372036854775807) (hr : kSpot.C w A n l) (hg : ∀ W, Below w.heap.size w W → ∀ x ∈ l, Calls Tryz.prog 120 #[.slice B m d, spotV x] W fun e w' => e = .returned (.bool (P x)) ∧ Below W.heap.size W w') :
    Calls Tryz.prog 119 #[.slice A n c, .func (.func 120) #[.slice B m d] #[]] w fun e w' => e = .returned (.bool (l.all P)) ∧ Below w.heap.size w w' := by
  have HB := Aside0.mk (below_alloc (Below.refl w.heap.size w) (.cells #[.func (.func 120) #[.slice B m d] #[]] 148))
  have HG := Aside0.mk (ev3H_calls (w.alloc (.cells #[.func (.func 120) #[.slice B m d] #[]] 148)) A c n l w.heap.size B m d P hn hmax (Kd.C_below hr HB.out) (blk_cell (blk_new w _) 0) (fun W hb => hg W (below_step HB.out hb)))
  clear hr hg hn
  obtain ⟨z, hz⟩ : ∃ z, z = l.all P := ⟨_, rfl⟩
  rw [← hz] at HG ⊢
  clear hz
  go_enter Tryz.func119, Tryz.ntmps119
  go_wp2_with (go_at_call 194; (with_reducible refine (HG.out).mono ?_); rintro e W' ⟨rfl, hb'⟩; have HB' := Aside0.mk (below_step HB.out hb'); clear HB hb'; have HB := HB'; clear HB')
  go_ret
  exact ⟨by cases z <;> rfl, HB.out⟩
end Go.Proofs.YtjndjmggilcngaaGreatDoor
