/- The document's orders: below, above, under, least, greatest, by walks through their code. -/
import Derived.Test.YtbdecnagdnancaaGreatDoorLtB
import Derived.Test.YtbdecnagdnancaaGreatDoorQx
import Derived.Deep.QuietTactic
import Derived.BigQuiet

namespace Go.Proofs.YtbdecnagdnancaaGreatDoor
open Go.RowKit Go.Proofs.YtbdecnagdnancaaGreatDoorW.PrintWords Go.Proofs.YtbdecnagdnancaaGreatDoorW.PrintLast Go.Proofs.YtbdecnagdnancaaGreatDoorW.PrintMore
set_option linter.unusedVariables false
set_option linter.unusedSimpArgs false
namespace Ref04
def le4 (rows : List Int) (a b : Nat) : Bool := decide (a < 64) && (decide (b < 64) && leB rows a b)
set_option maxRecDepth 100000 in
set_option maxHeartbeats 4000000 in
theorem below4_calls (w : World) (A : Option Addr) (c n : Nat) (rows : List Int) (a b : Nat) (hn : n = rows.length) (hmax : n ≤ 9223372036854775807) (hr : (Kd.int .u64).C w A n rows) :
    Calls Tryz.prog 105 #[.slice A n c, .int .u64 (a : Int), .int .u64 (b : Int)] w fun e w' => e = .returned (.bool (le4 rows a b)) ∧ w = w' := by
  have HD : Aside0 (le4 rows a b = (decide (a < 64) && (decide (b < 64) && (decide (a < n) && decide (b < n) && (bitI (rd rows a) b == 1))))) := ⟨by rw [hn]; rfl⟩
  have hw : IntKind.u64.wrap (n : Int) = (n : Int) := wrap_u64 _ (by omega) (by omega)
  clear hn
  by_cases h1 : a < 64
  case neg =>
    have e1 : decide ((a : Int) < 64) = false := decide_eq_false (by omega)
    have HE : Aside0 (le4 rows a b = false) := ⟨by rw [HD.out, decide_eq_false h1]; rfl⟩
    rw [HE.out]
    clear HD HE
    go_enter Tryz.func105, Tryz.ntmps105
    go_wp2
    go_ret
    exact ⟨rfl, rfl⟩
  have e1 : decide ((a : Int) < 64) = true := decide_eq_true (by omega)
  by_cases h2 : b < 64
  case neg =>
    have e2 : decide ((b : Int) < 64) = false := decide_eq_false (by omega)
    have HE : Aside0 (le4 rows a b = false) := ⟨by rw [HD.out, decide_eq_false h2, Bool.false_and, Bool.and_false]⟩
    rw [HE.out]
    clear HD HE
    go_enter Tryz.func105, Tryz.ntmps105
    go_wp2
    go_ret
    exact ⟨rfl, rfl⟩
  have e2 : decide ((b : Int) < 64) = true := decide_eq_true (by omega)
  by_cases h3 : a < n
  case neg =>
    have e3 : decide (a < n) = false := decide_eq_false h3
    have HE : Aside0 (le4 rows a b = false) := ⟨by rw [HD.out, e3]; simp⟩
    rw [HE.out]
    clear HD HE
    go_enter Tryz.func105, Tryz.ntmps105
    go_wp2
    go_ret
    exact ⟨rfl, rfl⟩
  have e3 : decide (a < n) = true := decide_eq_true h3
  by_cases h4 : b < n
  case neg =>
    have e4 : decide (b < n) = false := decide_eq_false h4
    have HE : Aside0 (le4 rows a b = false) := ⟨by rw [HD.out, e4]; simp⟩
    rw [HE.out]
    clear HD HE
    go_enter Tryz.func105, Tryz.ntmps105
    go_wp2
    go_ret
    exact ⟨rfl, rfl⟩
  have e4 : decide (b < n) = true := decide_eq_true h4
  obtain ⟨ad, rfl, c0⟩ := C_rd hr a h3
  have HE : Aside0 (le4 rows a b = (bits .and .u64 (rd rows a / 2 ^ b) 1 == 1)) := ⟨by rw [HD.out, decide_eq_true h1, decide_eq_true h2, e3, e4]; rfl⟩
  rw [HE.out]
  clear HD HE
  go_enter Tryz.func105, Tryz.ntmps105
  go_wp2
  go_ret
  exact ⟨rfl, rfl⟩
/-- Those below n that two are below. -/
def ups4 (rows : List Int) (a b n : Nat) : List Nat := (List.range n).filter fun i => le4 rows a i && le4 rows b i
def uns4 (rows : List Int) (a b n : Nat) : List Nat := (List.range n).filter fun i => le4 rows i a && le4 rows i b
theorem filter_succ (p : Nat → Bool) (k : Nat) : (List.range (k + 1)).filter p = (List.range k).filter p ++ if p k then [k] else [] := by
  rw [List.range_succ, List.filter_append]
  congr 1
  cases h : p k <;> simp [h]
theorem filter_len (p : Nat → Bool) (k : Nat) : ((List.range k).filter p).length ≤ k := by
  have := List.length_filter_le p (List.range k)
  rwa [List.length_range] at this
def natsI (l : List Nat) : List Int := l.map fun (x : Nat) => (x : Int)
set_option maxRecDepth 100000 in
set_option maxHeartbeats 4000000 in
theorem above4_calls (w : World) (A : Option Addr) (c n : Nat) (rows : List Int) (a b : Nat) (hn : n = rows.length) (h64 : n ≤ 64) (hr : (Kd.int .u64).C w A n rows) :
    Calls Tryz.prog 195 #[.slice A n c, .int .u64 (a : Int), .int .u64 (b : Int)] w fun e w' => ∃ A1 c1, e = .returned (.slice A1 (ups4 rows a b n).length c1) ∧ Below w.heap.size w w' ∧ (Kd.int .u64).C w' A1 (ups4 rows a b n).length (natsI (ups4 rows a b n)) := by
  have hw : IntKind.u64.wrap (n : Int) = (n : Int) := wrap_u64 _ (by omega) (by omega)
  have HR := Aside0.mk hr
  have HN := Aside0.mk hn
  clear hr hn
  go_enter Tryz.func195, Tryz.ntmps195
  go_wp2
  go_loopg [7, 8] (n + 1) (fun gk l i W => ∃ (k m : Nat) (A1 : Option Addr) (c1 : Nat), i = .int .u64 (k : Int) ∧ l = .slice A1 m c1 ∧ k ≤ n ∧ n + 1 - k ≤ gk ∧ m ≤ k ∧ Aside0 ((Kd.int .u64).R 118 W w.heap.size (fun _ => True) (.slice A1 m c1) (natsI (ups4 rows a b k))) ∧ Aside0 (Below w.heap.size w W) ∧ Aside0 (m = (ups4 rows a b k).length))
  case atStart => exact ⟨0, 0, none, 0, rfl, rfl, by omega, by omega, by omega, ⟨Kd.R_nil _ _ _ _ _⟩, ⟨Below.refl _ _⟩, ⟨rfl⟩⟩
  case round =>
    obtain ⟨k, m, A1, c1, rfl, rfl, hk, hkg, hmk, HO, HB, HM⟩ := hrel
    rcases Nat.lt_or_ge k n with hlt | hge
    · have hd : decide (k < n) = true := decide_eq_true hlt
      have hsum : IntKind.u64.wrap ((k : Int) + 1) = (k : Int) + 1 := wrap_u64 _ (by omega) (by omega)
      have P : ∀ x y : Nat, Calls Tryz.prog 105 #[.slice A n c, .int .u64 (x : Int), .int .u64 (y : Int)] wr fun e w' => e = .returned (.bool (le4 rows x y)) ∧ wr = w' := fun x y => below4_calls wr A c n rows x y HN.out (by omega) (Kd.C_below HR.out HB.out)
      have HP1 := Aside0.mk (P a k)
      have HP2 := Aside0.mk (P b k)
      clear P
      have HS : Aside0 (ups4 rows a b (k + 1) = ups4 rows a b k ++ if le4 rows a k && le4 rows b k then [k] else []) := ⟨filter_succ _ k⟩
      have hno : (le4 rows a k && le4 rows b k) = false → Aside0 (ups4 rows a b (k + 1) = ups4 rows a b k) := fun h => ⟨by rw [HS.out, h]; simp⟩
      have hyes : (le4 rows a k && le4 rows b k) = true → Aside0 (ups4 rows a b (k + 1) = ups4 rows a b k ++ [k]) := fun h => ⟨by rw [HS.out, h]; rfl⟩
      cases h1 : le4 rows a k with
      | false =>
        have HQ := hno (by rw [h1]; rfl)
        have H1 := Aside0.mk h1
        clear h1 hno hyes HS
        go_wp2_with (go_at_call 105; (with_reducible refine HP1.out.mono ?_); rintro e W1 ⟨rfl, rfl⟩; rw [H1.out])
        go_roundg (gk - 1)
        case measure => omega
        case rel => exact ⟨k + 1, m, A1, c1, by go_num, rfl, by omega, by omega, by omega, ⟨by rw [HQ.out]; exact HO.out⟩, HB, ⟨by rw [HQ.out]; exact HM.out⟩⟩
      | true =>
        have H1 := Aside0.mk h1
        cases h2 : le4 rows b k with
        | false =>
          have HQ := hno (by rw [h1, h2]; rfl)
          have H2 := Aside0.mk h2
          clear h1 h2 hno hyes HS
          go_wp2_with (go_at_call 105; first | ((with_reducible refine HP1.out.mono ?_); rintro e W1 ⟨rfl, rfl⟩; rw [H1.out]) | ((with_reducible refine HP2.out.mono ?_); rintro e W1 ⟨rfl, rfl⟩; rw [H2.out]))
          go_roundg (gk - 1)
          case measure => omega
          case rel => exact ⟨k + 1, m, A1, c1, by go_num, rfl, by omega, by omega, by omega, ⟨by rw [HQ.out]; exact HO.out⟩, HB, ⟨by rw [HQ.out]; exact HM.out⟩⟩
        | true =>
          have HQ := hyes (by rw [h1, h2]; rfl)
          have H2 := Aside0.mk h2
          have HL : Aside0 (natsI (ups4 rows a b k) ++ [(k : Int)] = natsI (ups4 rows a b (k + 1))) := ⟨by rw [HQ.out]; simp [natsI]⟩
          have HLN : Aside0 ((natsI (ups4 rows a b k)).length = m) := ⟨by rw [HM.out]; simp [natsI]⟩
          have HLN2 : Aside0 ((natsI (ups4 rows a b (k + 1))).length = m + 1) := ⟨by rw [HQ.out, HM.out]; simp [natsI]⟩
          clear h1 h2 hno hyes HS
          go_wp2_with (first
            | (go_at_call 105; first | ((with_reducible refine HP1.out.mono ?_); rintro e W1 ⟨rfl, rfl⟩; rw [H1.out]) | ((with_reducible refine HP2.out.mono ?_); rintro e W1 ⟨rfl, rfl⟩; rw [H2.out]))
            | (at_builtin; refine wpList_append_R rfl (Kd.int .u64) w.heap.size (.tmp 26) (.tmp 28) 50 50 118 118 (.int .u64 0) 8 rfl (by kernel_rfl) (by kernel_rfl) infoU rfl (by decide) (by decide) (.slice A1 m c1) (natsI (ups4 rows a b k)) [(k : Int)] (some ⟨wr.heap.size, 0, none⟩) 1 1 (fun _ => True) (fun _ => False) rfl rfl (Kd.R_below HO.out (below_alloc (Below.refl _ _) _)) (C_one_new .u64 wr (k : Int) 118) (fun x cs h => h) (fun _ h => h.elim) (fun _ _ => trivial) (below_alloc HB.out _).size (by rw [HLN.out]; omega) ?_; intro v1 w1 HO1 hg1 hat; rw [HL.out] at HO1; obtain ⟨A2, c2, rfl⟩ := Kd.R_slice HO1; rw [HLN2.out] at HO1 ⊢; have HB1 := Aside0.mk ((below_alloc HB.out _).grown hg1 (below_alloc HB.out _).size (fun k hk => (Kd.R_bound HO.out).1 k hk |>.2.1)); have HO2 := Aside0.mk HO1; clear HO1 hg1 hat))
          go_roundg (gk - 1)
          case measure => omega
          case rel => exact ⟨k + 1, m + 1, A2, c2, by go_num, rfl, by omega, by omega, by omega, HO2, HB1, ⟨by rw [HQ.out, List.length_append, ← HM.out]; rfl⟩⟩
    · have hd : decide (k < n) = false := decide_eq_false (by omega)
      obtain rfl : k = n := by omega
      go_wp2
      go_ret
      exact ⟨A1, c1, by rw [← HM.out]; rfl, HB.out, by have := (Kd.R_reads' HO.out).2.2; rwa [show (natsI (ups4 rows a b k)).length = (ups4 rows a b k).length by simp [natsI]] at this⟩
set_option maxRecDepth 100000 in
set_option maxHeartbeats 4000000 in
theorem under4_calls (w : World) (A : Option Addr) (c n : Nat) (rows : List Int) (a b : Nat) (hn : n = rows.length) (h64 : n ≤ 64) (hr : (Kd.int .u64).C w A n rows) :
    Calls Tryz.prog 197 #[.slice A n c, .int .u64 (a : Int), .int .u64 (b : Int)] w fun e w' => ∃ A1 c1, e = .returned (.slice A1 (uns4 rows a b n).length c1) ∧ Below w.heap.size w w' ∧ (Kd.int .u64).C w' A1 (uns4 rows a b n).length (natsI (uns4 rows a b n)) := by
  have hw : IntKind.u64.wrap (n : Int) = (n : Int) := wrap_u64 _ (by omega) (by omega)
  have HR := Aside0.mk hr
  have HN := Aside0.mk hn
  clear hr hn
  go_enter Tryz.func197, Tryz.ntmps197
  go_wp2
  go_loopg [7, 8] (n + 1) (fun gk l i W => ∃ (k m : Nat) (A1 : Option Addr) (c1 : Nat), i = .int .u64 (k : Int) ∧ l = .slice A1 m c1 ∧ k ≤ n ∧ n + 1 - k ≤ gk ∧ m ≤ k ∧ Aside0 ((Kd.int .u64).R 118 W w.heap.size (fun _ => True) (.slice A1 m c1) (natsI (uns4 rows a b k))) ∧ Aside0 (Below w.heap.size w W) ∧ Aside0 (m = (uns4 rows a b k).length))
  case atStart => exact ⟨0, 0, none, 0, rfl, rfl, by omega, by omega, by omega, ⟨Kd.R_nil _ _ _ _ _⟩, ⟨Below.refl _ _⟩, ⟨rfl⟩⟩
  case round =>
    obtain ⟨k, m, A1, c1, rfl, rfl, hk, hkg, hmk, HO, HB, HM⟩ := hrel
    rcases Nat.lt_or_ge k n with hlt | hge
    · have hd : decide (k < n) = true := decide_eq_true hlt
      have hsum : IntKind.u64.wrap ((k : Int) + 1) = (k : Int) + 1 := wrap_u64 _ (by omega) (by omega)
      have P : ∀ x y : Nat, Calls Tryz.prog 105 #[.slice A n c, .int .u64 (x : Int), .int .u64 (y : Int)] wr fun e w' => e = .returned (.bool (le4 rows x y)) ∧ wr = w' := fun x y => below4_calls wr A c n rows x y HN.out (by omega) (Kd.C_below HR.out HB.out)
      have HP1 := Aside0.mk (P k a)
      have HP2 := Aside0.mk (P k b)
      clear P
      have HS : Aside0 (uns4 rows a b (k + 1) = uns4 rows a b k ++ if le4 rows k a && le4 rows k b then [k] else []) := ⟨filter_succ _ k⟩
      have hno : (le4 rows k a && le4 rows k b) = false → Aside0 (uns4 rows a b (k + 1) = uns4 rows a b k) := fun h => ⟨by rw [HS.out, h]; simp⟩
      have hyes : (le4 rows k a && le4 rows k b) = true → Aside0 (uns4 rows a b (k + 1) = uns4 rows a b k ++ [k]) := fun h => ⟨by rw [HS.out, h]; rfl⟩
      cases h1 : le4 rows k a with
      | false =>
        have HQ := hno (by rw [h1]; rfl)
        have H1 := Aside0.mk h1
        clear h1 hno hyes HS
        go_wp2_with (go_at_call 105; (with_reducible refine HP1.out.mono ?_); rintro e W1 ⟨rfl, rfl⟩; rw [H1.out])
        go_roundg (gk - 1)
        case measure => omega
        case rel => exact ⟨k + 1, m, A1, c1, by go_num, rfl, by omega, by omega, by omega, ⟨by rw [HQ.out]; exact HO.out⟩, HB, ⟨by rw [HQ.out]; exact HM.out⟩⟩
      | true =>
        have H1 := Aside0.mk h1
        cases h2 : le4 rows k b with
        | false =>
          have HQ := hno (by rw [h1, h2]; rfl)
          have H2 := Aside0.mk h2
          clear h1 h2 hno hyes HS
          go_wp2_with (go_at_call 105; first | ((with_reducible refine HP1.out.mono ?_); rintro e W1 ⟨rfl, rfl⟩; rw [H1.out]) | ((with_reducible refine HP2.out.mono ?_); rintro e W1 ⟨rfl, rfl⟩; rw [H2.out]))
          go_roundg (gk - 1)
          case measure => omega
          case rel => exact ⟨k + 1, m, A1, c1, by go_num, rfl, by omega, by omega, by omega, ⟨by rw [HQ.out]; exact HO.out⟩, HB, ⟨by rw [HQ.out]; exact HM.out⟩⟩
        | true =>
          have HQ := hyes (by rw [h1, h2]; rfl)
          have H2 := Aside0.mk h2
          have HL : Aside0 (natsI (uns4 rows a b k) ++ [(k : Int)] = natsI (uns4 rows a b (k + 1))) := ⟨by rw [HQ.out]; simp [natsI]⟩
          have HLN : Aside0 ((natsI (uns4 rows a b k)).length = m) := ⟨by rw [HM.out]; simp [natsI]⟩
          have HLN2 : Aside0 ((natsI (uns4 rows a b (k + 1))).length = m + 1) := ⟨by rw [HQ.out, HM.out]; simp [natsI]⟩
          clear h1 h2 hno hyes HS
          go_wp2_with (first
            | (go_at_call 105; first | ((with_reducible refine HP1.out.mono ?_); rintro e W1 ⟨rfl, rfl⟩; rw [H1.out]) | ((with_reducible refine HP2.out.mono ?_); rintro e W1 ⟨rfl, rfl⟩; rw [H2.out]))
            | (at_builtin; refine wpList_append_R rfl (Kd.int .u64) w.heap.size (.tmp 26) (.tmp 28) 50 50 118 118 (.int .u64 0) 8 rfl (by kernel_rfl) (by kernel_rfl) infoU rfl (by decide) (by decide) (.slice A1 m c1) (natsI (uns4 rows a b k)) [(k : Int)] (some ⟨wr.heap.size, 0, none⟩) 1 1 (fun _ => True) (fun _ => False) rfl rfl (Kd.R_below HO.out (below_alloc (Below.refl _ _) _)) (C_one_new .u64 wr (k : Int) 118) (fun x cs h => h) (fun _ h => h.elim) (fun _ _ => trivial) (below_alloc HB.out _).size (by rw [HLN.out]; omega) ?_; intro v1 w1 HO1 hg1 hat; rw [HL.out] at HO1; obtain ⟨A2, c2, rfl⟩ := Kd.R_slice HO1; rw [HLN2.out] at HO1 ⊢; have HB1 := Aside0.mk ((below_alloc HB.out _).grown hg1 (below_alloc HB.out _).size (fun k hk => (Kd.R_bound HO.out).1 k hk |>.2.1)); have HO2 := Aside0.mk HO1; clear HO1 hg1 hat))
          go_roundg (gk - 1)
          case measure => omega
          case rel => exact ⟨k + 1, m + 1, A2, c2, by go_num, rfl, by omega, by omega, by omega, HO2, HB1, ⟨by rw [HQ.out, List.length_append, ← HM.out]; rfl⟩⟩
    · have hd : decide (k < n) = false := decide_eq_false (by omega)
      obtain rfl : k = n := by omega
      go_wp2
      go_ret
      exact ⟨A1, c1, by rw [← HM.out]; rfl, HB.out, by have := (Kd.R_reads' HO.out).2.2; rwa [show (natsI (uns4 rows a b k)).length = (uns4 rows a b k).length by simp [natsI]] at this⟩
def least4 (rows : List Int) (l : List Nat) : Option Nat := l.find? fun x => l.all fun y => le4 rows x y
def great4 (rows : List Int) (l : List Nat) : Option Nat := l.find? fun x => l.all fun y => le4 rows y x
set_option maxRecDepth 100000 in
set_option maxHeartbeats 4000000 in
theorem least4_calls (w : World) (A : Option Addr) (c n : Nat) (rows : List Int) (B : Option Addr) (d m : Nat) (l : List Nat) (hn : n = rows.length) (hmax : n ≤ 64) (hm : m = l.length) (hmm : m ≤ 64) (hr : (Kd.int .u64).C w A n rows) (hl : (Kd.int .u64).C w B m (natsI l)) :
    Calls Tryz.prog 194 #[.slice A n c, .slice B m d] w fun e w' => e = .returned (.tuple #[.int .u64 (((least4 rows l).getD 0 : Nat) : Int), .bool (least4 rows l).isSome]) ∧ Below w.heap.size w w' := by
  have HR := Aside0.mk (And.intro hr hl)
  have HN := Aside0.mk (And.intro hn hm)
  clear hr hl hn hm
  go_enter Tryz.func194, Tryz.ntmps194
  go_wp2
  go_loopg [6] (m + 1) (fun gk i W => ∃ (k : Nat), i = .int .i64 (k : Int) ∧ k ≤ m ∧ m + 1 - k ≤ gk ∧ Aside0 (Below w.heap.size w W) ∧ Aside0 ((l.drop k).find? (fun x => l.all fun y => le4 rows x y) = least4 rows l))
  case atStart => exact ⟨0, rfl, by omega, by omega, ⟨Below.refl _ _⟩, ⟨rfl⟩⟩
  case round =>
    obtain ⟨k, rfl, hk, hkg, HB, HF⟩ := hrel
    rcases Nat.lt_or_ge k m with hlt | hge
    · have hd : decide (k < m) = true := decide_eq_true hlt
      have hkl : k < l.length := by rw [← HN.out.2]; exact hlt
      obtain ⟨x, hx⟩ : ∃ x, x = l[k] := ⟨_, rfl⟩
      have HX : Aside0 (l.drop k = x :: l.drop (k + 1)) := ⟨by rw [hx]; exact List.drop_eq_getElem_cons hkl⟩
      have HXE := Aside0.mk hx
      clear hx
      obtain ⟨g0, hg1, hg2⟩ : ∃ g0, g0 < gk ∧ m + 1 - (k + 1) ≤ g0 := ⟨gk - 1, by omega, by omega⟩
      go_wp2
      go_loopg [7, 8] (m + 1) (fun gk b i W => ∃ (j : Nat) (v : Bool), i = .int .i64 (j : Int) ∧ b = .bool v ∧ j ≤ m ∧ m + 1 - j ≤ gk ∧ Aside0 (Below w.heap.size w W) ∧ Aside0 (v = (l.take j).all fun y => le4 rows x y))
      case atStart => exact ⟨0, true, rfl, rfl, by omega, by omega, HB, ⟨rfl⟩⟩
      case round =>
        obtain ⟨j, v, rfl, rfl, hj, hjg, HB2, HV⟩ := hrel
        rcases Nat.lt_or_ge j m with hjlt | hjge
        · have hdj : decide (j < m) = true := decide_eq_true hjlt
          have hjl : j < l.length := by rw [← HN.out.2]; exact hjlt
          obtain ⟨y, hy⟩ : ∃ y, y = l[j] := ⟨_, rfl⟩
          have HT : Aside0 (∀ v', v' = (v && le4 rows x y) → v' = (l.take (j + 1)).all fun y => le4 rows x y) := ⟨fun v' h => by rw [h, HV.out, List.take_succ_eq_append_getElem hjl, List.all_append, ← hy]; simp⟩
          obtain ⟨bd, hae, q0⟩ := C_rd (Kd.C_below HR.out.2 HB2.out) k hlt
          subst hae
          obtain ⟨bd', hae, q1⟩ := C_rd (Kd.C_below HR.out.2 HB2.out) j hjlt
          cases hae
          have e0 : rd (natsI l) (k : Int) = (x : Int) := by rw [HXE.out]; simp [rd, natsI, List.getD_eq_getElem?_getD, hkl]
          have e1 : rd (natsI l) (j : Int) = (y : Int) := by rw [hy]; simp [rd, natsI, List.getD_eq_getElem?_getD, hjl]
          rw [e0] at q0
          rw [e1] at q1
          clear hy e0 e1
          have HP : Aside0 (∀ mm, Calls Tryz.prog 105 #[.slice A n c, .int .u64 (x : Int), .int .u64 (y : Int)] (wr.drewN mm) fun e w' => e = .returned (.bool (le4 rows x y)) ∧ ∃ m', w' = wr.drewN m') := ⟨fun mm => by
            refine (below4_calls _ A c n rows x y HN.out.1 (by omega) (Kd.C_below HR.out.1 (pw_below_drewN HB2.out mm))).mono ?_
            rintro e w' ⟨rfl, rfl⟩
            exact ⟨rfl, mm, rfl⟩⟩
          cases v with
          | false =>
            go_wp2
            go_quiet (fail)
            go_wp2
            go_roundg (gk - 1)
            case measure => omega
            case rel => exact ⟨j + 1, false, by go_num, rfl, by omega, by omega, ⟨pw_below_drewN HB2.out _⟩, ⟨HT.out _ rfl⟩⟩
          | true =>
            go_wp2
            go_quiet (with_reducible exact HP.out _)
            go_wp2
            go_roundg (gk - 1)
            case measure => omega
            case rel => exact ⟨j + 1, _, by go_num, rfl, by omega, by omega, ⟨pw_below_drewN HB2.out _⟩, ⟨HT.out _ (Bool.true_and _).symm⟩⟩
        · have hdj : decide (j < m) = false := decide_eq_false (by omega)
          have HV2 : Aside0 (v = l.all fun y => le4 rows x y) := ⟨by rw [HV.out, List.take_of_length_le (by have := HN.out.2; omega)]⟩
          have HF2 : Aside0 (least4 rows l = if v then some x else (l.drop (k + 1)).find? (fun x => l.all fun y => le4 rows x y)) := ⟨by
            rw [← HF.out, HX.out, List.find?_cons, ← HV2.out]
            cases v <;> rfl⟩
          clear HF HX HV
          cases v with
          | false =>
            go_wp2
            go_roundg g0
            case measure => omega
            case rel => exact ⟨k + 1, by go_num, by omega, by omega, HB2, ⟨HF2.out.symm⟩⟩
          | true =>
            obtain ⟨bd, hae, q0⟩ := C_rd (Kd.C_below HR.out.2 HB2.out) k hlt
            subst hae
            have e0 : rd (natsI l) (k : Int) = (x : Int) := by rw [HXE.out]; simp [rd, natsI, List.getD_eq_getElem?_getD, hkl]
            rw [e0] at q0
            clear e0
            go_wp2
            go_ret2
            rw [HF2.out]
            exact ⟨rfl, HB2.out⟩
    · have hd : decide (k < m) = false := decide_eq_false (by omega)
      have HE : Aside0 (least4 rows l = none) := ⟨by rw [← HF.out, List.drop_eq_nil_of_le (by have := HN.out.2; omega)]; rfl⟩
      go_wp2
      go_ret2
      rw [HE.out]
      exact ⟨rfl, HB.out⟩
set_option maxRecDepth 100000 in
set_option maxHeartbeats 4000000 in
theorem great4_calls (w : World) (A : Option Addr) (c n : Nat) (rows : List Int) (B : Option Addr) (d m : Nat) (l : List Nat) (hn : n = rows.length) (hmax : n ≤ 64) (hm : m = l.length) (hmm : m ≤ 64) (hr : (Kd.int .u64).C w A n rows) (hl : (Kd.int .u64).C w B m (natsI l)) :
    Calls Tryz.prog 196 #[.slice A n c, .slice B m d] w fun e w' => e = .returned (.tuple #[.int .u64 (((great4 rows l).getD 0 : Nat) : Int), .bool (great4 rows l).isSome]) ∧ Below w.heap.size w w' := by
  have HR := Aside0.mk (And.intro hr hl)
  have HN := Aside0.mk (And.intro hn hm)
  clear hr hl hn hm
  go_enter Tryz.func196, Tryz.ntmps196
  go_wp2
  go_loopg [6] (m + 1) (fun gk i W => ∃ (k : Nat), i = .int .i64 (k : Int) ∧ k ≤ m ∧ m + 1 - k ≤ gk ∧ Aside0 (Below w.heap.size w W) ∧ Aside0 ((l.drop k).find? (fun x => l.all fun y => le4 rows y x) = great4 rows l))
  case atStart => exact ⟨0, rfl, by omega, by omega, ⟨Below.refl _ _⟩, ⟨rfl⟩⟩
  case round =>
    obtain ⟨k, rfl, hk, hkg, HB, HF⟩ := hrel
    rcases Nat.lt_or_ge k m with hlt | hge
    · have hd : decide (k < m) = true := decide_eq_true hlt
      have hkl : k < l.length := by rw [← HN.out.2]; exact hlt
      obtain ⟨x, hx⟩ : ∃ x, x = l[k] := ⟨_, rfl⟩
      have HX : Aside0 (l.drop k = x :: l.drop (k + 1)) := ⟨by rw [hx]; exact List.drop_eq_getElem_cons hkl⟩
      have HXE := Aside0.mk hx
      clear hx
      obtain ⟨g0, hg1, hg2⟩ : ∃ g0, g0 < gk ∧ m + 1 - (k + 1) ≤ g0 := ⟨gk - 1, by omega, by omega⟩
      go_wp2
      go_loopg [7, 8] (m + 1) (fun gk b i W => ∃ (j : Nat) (v : Bool), i = .int .i64 (j : Int) ∧ b = .bool v ∧ j ≤ m ∧ m + 1 - j ≤ gk ∧ Aside0 (Below w.heap.size w W) ∧ Aside0 (v = (l.take j).all fun y => le4 rows y x))
      case atStart => exact ⟨0, true, rfl, rfl, by omega, by omega, HB, ⟨rfl⟩⟩
      case round =>
        obtain ⟨j, v, rfl, rfl, hj, hjg, HB2, HV⟩ := hrel
        rcases Nat.lt_or_ge j m with hjlt | hjge
        · have hdj : decide (j < m) = true := decide_eq_true hjlt
          have hjl : j < l.length := by rw [← HN.out.2]; exact hjlt
          obtain ⟨y, hy⟩ : ∃ y, y = l[j] := ⟨_, rfl⟩
          have HT : Aside0 (∀ v', v' = (v && le4 rows y x) → v' = (l.take (j + 1)).all fun y => le4 rows y x) := ⟨fun v' h => by rw [h, HV.out, List.take_succ_eq_append_getElem hjl, List.all_append, ← hy]; simp⟩
          obtain ⟨bd, hae, q0⟩ := C_rd (Kd.C_below HR.out.2 HB2.out) k hlt
          subst hae
          obtain ⟨bd', hae, q1⟩ := C_rd (Kd.C_below HR.out.2 HB2.out) j hjlt
          cases hae
          have e0 : rd (natsI l) (k : Int) = (x : Int) := by rw [HXE.out]; simp [rd, natsI, List.getD_eq_getElem?_getD, hkl]
          have e1 : rd (natsI l) (j : Int) = (y : Int) := by rw [hy]; simp [rd, natsI, List.getD_eq_getElem?_getD, hjl]
          rw [e0] at q0
          rw [e1] at q1
          clear hy e0 e1
          have HP : Aside0 (∀ mm, Calls Tryz.prog 105 #[.slice A n c, .int .u64 (y : Int), .int .u64 (x : Int)] (wr.drewN mm) fun e w' => e = .returned (.bool (le4 rows y x)) ∧ ∃ m', w' = wr.drewN m') := ⟨fun mm => by
            refine (below4_calls _ A c n rows y x HN.out.1 (by omega) (Kd.C_below HR.out.1 (pw_below_drewN HB2.out mm))).mono ?_
            rintro e w' ⟨rfl, rfl⟩
            exact ⟨rfl, mm, rfl⟩⟩
          cases v with
          | false =>
            go_wp2
            go_quiet (fail)
            go_wp2
            go_roundg (gk - 1)
            case measure => omega
            case rel => exact ⟨j + 1, false, by go_num, rfl, by omega, by omega, ⟨pw_below_drewN HB2.out _⟩, ⟨HT.out _ rfl⟩⟩
          | true =>
            go_wp2
            go_quiet (with_reducible exact HP.out _)
            go_wp2
            go_roundg (gk - 1)
            case measure => omega
            case rel => exact ⟨j + 1, _, by go_num, rfl, by omega, by omega, ⟨pw_below_drewN HB2.out _⟩, ⟨HT.out _ (Bool.true_and _).symm⟩⟩
        · have hdj : decide (j < m) = false := decide_eq_false (by omega)
          have HV2 : Aside0 (v = l.all fun y => le4 rows y x) := ⟨by rw [HV.out, List.take_of_length_le (by have := HN.out.2; omega)]⟩
          have HF2 : Aside0 (great4 rows l = if v then some x else (l.drop (k + 1)).find? (fun x => l.all fun y => le4 rows y x)) := ⟨by
            rw [← HF.out, HX.out, List.find?_cons, ← HV2.out]
            cases v <;> rfl⟩
          clear HF HX HV
          cases v with
          | false =>
            go_wp2
            go_roundg g0
            case measure => omega
            case rel => exact ⟨k + 1, by go_num, by omega, by omega, HB2, ⟨HF2.out.symm⟩⟩
          | true =>
            obtain ⟨bd, hae, q0⟩ := C_rd (Kd.C_below HR.out.2 HB2.out) k hlt
            subst hae
            have e0 : rd (natsI l) (k : Int) = (x : Int) := by rw [HXE.out]; simp [rd, natsI, List.getD_eq_getElem?_getD, hkl]
            rw [e0] at q0
            clear e0
            go_wp2
            go_ret2
            rw [HF2.out]
            exact ⟨rfl, HB2.out⟩
    · have hd : decide (k < m) = false := decide_eq_false (by omega)
      have HE : Aside0 (great4 rows l = none) := ⟨by rw [← HF.out, List.drop_eq_nil_of_le (by have := HN.out.2; omega)]; rfl⟩
      go_wp2
      go_ret2
      rw [HE.out]
      exact ⟨rfl, HB.out⟩
end Ref04
end Go.Proofs.YtbdecnagdnancaaGreatDoor
