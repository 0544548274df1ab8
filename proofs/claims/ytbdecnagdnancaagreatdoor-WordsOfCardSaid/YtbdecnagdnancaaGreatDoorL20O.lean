/- WordsOf, walked whole. -/
import Derived.Test.YtbdecnagdnancaaGreatDoorR20C
import Derived.Test.YtbdecnagdnancaaGreatDoorL20S
import Derived.Test.YtbdecnagdnancaaGreatDoorMW
import Derived.Deep.RegionWith

namespace Go.Proofs.YtbdecnagdnancaaGreatDoor
open Go.RowKit Go.Proofs.YtbdecnagdnancaaGreatDoorW.PrintWords Go.Proofs.YtbdecnagdnancaaGreatDoorW.PrintLast Go.Proofs.YtbdecnagdnancaaGreatDoorW.PrintMore
set_option linter.unusedVariables false
set_option linter.unusedSimpArgs false
namespace L20
open Wd
set_option maxRecDepth 100000 in
set_option maxHeartbeats 4000000 in
theorem sameWords_calls (w : World) (A A2 : Option Addr) (c c2 : Nat) (xs : List _) (hr : Kd.C kWord w A xs.length xs) (hr2 : Kd.C kWord w A2 xs.length xs) :
    Calls Tryz.prog 12 #[.slice A xs.length c, .slice A2 xs.length c2] w fun e w' => e = .returned (.bool true) ∧ Below w.heap.size w w' := by
  have hm : xs.length ≤ 9223372036854775807 := hr.2.1
  have HR := Aside0.mk hr
  have HR2 := Aside0.mk hr2
  clear hr hr2
  obtain ⟨n, hn⟩ : ∃ n, n = xs.length := ⟨_, rfl⟩
  have HN := Aside0.mk hn
  rw [← hn] at hm ⊢
  clear hn
  have z0 : ((n : Int) != (n : Int)) = false := bne_self_eq_false _
  go_enter Tryz.func12, Tryz.ntmps12
  go_wp2
  go_loopg [5] (n + 1) (fun g i W => ∃ (k : Nat), i = .int .i64 k ∧ k ≤ n ∧ n + 1 - k ≤ g ∧ Aside0 (Below w.heap.size w W))
  case atStart => exact ⟨0, rfl, by omega, by omega, ⟨Below.refl _ _⟩⟩
  case round =>
    obtain ⟨k, rfl, hk, hkg, HB⟩ := hrel
    rcases Nat.lt_or_ge k n with hlt | hge
    · have hd : decide (k < n) = true := decide_eq_true hlt
      obtain ⟨ad, rfl, c0', c1', c2', c3'⟩ := C_wordN (Kd.C_below HR.out HB.out) k (by rw [← HN.out]; exact hlt)
      obtain ⟨bd, rfl, d0', d1', d2', d3'⟩ := C_wordN (Kd.C_below HR2.out HB.out) k (by rw [← HN.out]; exact hlt)
      obtain ⟨m, hm⟩ : ∃ m, m = xs[k]'(by rw [← HN.out]; exact hlt) := ⟨_, rfl⟩
      rw [← hm] at c0' c1' c2' c3' d0' d1' d2' d3'
      clear hm
      go_wp2
      go_quiet (fail)
      go_wp2
      go_roundg (gk - 1)
      case measure => omega
      case rel => exact ⟨k + 1, by go_num, by omega, by omega, ⟨pw_below_drewN HB.out _⟩⟩
    · have hd : decide (k < n) = false := decide_eq_false (by omega)
      go_wp2
      go_ret
      exact ⟨rfl, HB.out⟩
theorem words_named1 (w : World) (s : ByteArray) (HT : Aside0 (RangesAt w ∧ NumsAt w)) {n : Nat} {ws : List Wrd} {line col er : Int} (hn : n = (ofW s.data.toList).1.length) (hw : ws = (ofW s.data.toList).1.map wordV) (h1 : line = (ofW s.data.toList).2.1) (h2 : col = (ofW s.data.toList).2.2.1) (h3 : er = (ofW s.data.toList).2.2.2) :
    Calls Tryz.prog 9 #[.string s] w fun e w' => ∃ A c, e = .returned (.tuple #[.slice A n c, .agg #[.int .i64 line, .int .i64 col], .int .i64 er]) ∧ kWord.R 105 w' w.heap.size (fun _ => True) (.slice A n c) ws ∧ Below w.heap.size w w' := by
  have := words_calls w s ⟨HT.out.1⟩ ⟨HT.out.2⟩
  subst hn hw h1 h2 h3
  exact this
theorem of20_named (w : World) (s : ByteArray) {n : Nat} {ws : List Wrd} {line col er : Int} (hn : n = (ofW s.data.toList).1.length) (hw : ws = (ofW s.data.toList).1.map wordV) (h1 : line = (ofW s.data.toList).2.1) (h2 : col = (ofW s.data.toList).2.2.1) (h3 : er = (ofW s.data.toList).2.2.2) :
    Calls Tryz.prog 10 #[.string s] w fun e w' => ∃ A c, e = .returned (.tuple #[.slice A n c, .agg #[.int .i64 line, .int .i64 col], .int .i64 er]) ∧ kWord.R 105 w' w.heap.size (fun _ => True) (.slice A n c) ws ∧ Below w.heap.size w w' := by
  have := Wd.of20_calls w s
  subst hn hw h1 h2 h3
  exact this
set_option maxRecDepth 100000 in
set_option maxHeartbeats 16000000 in
theorem wordsOf_walk (w : World) (HT : Aside0 (RangesAt w ∧ NumsAt w)) (s : ByteArray) (hs : s.size ≤ reachBytes) : Calls Tryz.prog 3 #[.string s] w fun e w' => e = .returned (.bool true) ∧ Below w.heap.size w w' := by
  have HB := Aside0.mk (Below.refl w.heap.size w)
  have hs : s.size ≤ 9223372036854775 := Nat.le_trans hs (by decide)
  have HLIVES : Aside0 (∀ W, Below w.heap.size w W → Calls Tryz.prog 8 #[] W fun e w' => e = .returned (.bool true) ∧ Below W.heap.size W w') := ⟨fun W h => lives_calls W (tabs_below HT.out h)⟩
  by_cases hmid : 4000 < s.size ∧ s.size ≤ 1048576
  · have d1 : decide (4000 < (s.size : Int)) = true := decide_eq_true (by omega)
    have d2 : decide ((s.size : Int) ≤ 1048576) = true := decide_eq_true (by omega)
    clear hmid
    go_enter Tryz.func3, Tryz.ntmps3
    go_wp2_with (go_at_call 8; (with_reducible refine (HLIVES.out _ HB.out).mono ?_); rintro e W' ⟨rfl, hb'⟩; have HBL := Aside0.mk (below_step HB.out hb'); clear hb')
    go_ret
    exact ⟨rfl, HBL.out⟩
  have hn9 : (ofW s.data.toList).1.length ≤ 5000 := by
    rcases Nat.lt_or_ge 1048576 s.size with h | h
    · rw [ofW, if_pos (by rw [Array.length_toList]; exact h)]
      exact Nat.zero_le _
    · have := ofW_count s.data.toList
      rw [Array.length_toList] at this
      have h2 : (ofW s.data.toList).1.length ≤ s.size + 1 := this
      omega
  have hcase : (decide (4000 < (s.size : Int)) = false ∧ True) ∨ (decide (4000 < (s.size : Int)) = true ∧ decide ((s.size : Int) ≤ 1048576) = false) := by
    rcases Nat.lt_or_ge 4000 s.size with h | h
    · exact .inr ⟨decide_eq_true (by omega), decide_eq_false (by omega)⟩
    · exact .inl ⟨decide_eq_false (by omega), trivial⟩
  clear hmid
  obtain ⟨n, hn⟩ : ∃ n, n = (ofW s.data.toList).1.length := ⟨_, rfl⟩
  obtain ⟨ws, hw⟩ : ∃ ws, ws = (ofW s.data.toList).1.map wordV := ⟨_, rfl⟩
  obtain ⟨line, h1⟩ : ∃ x, x = (ofW s.data.toList).2.1 := ⟨_, rfl⟩
  obtain ⟨col, h2⟩ : ∃ x, x = (ofW s.data.toList).2.2.1 := ⟨_, rfl⟩
  obtain ⟨er, h3⟩ : ∃ x, x = (ofW s.data.toList).2.2.2 := ⟨_, rfl⟩
  have HNW : Aside0 (n = ws.length) := ⟨by rw [hw, List.length_map]; exact hn⟩
  have HOF : Aside0 (∀ W, Below w.heap.size w W → Calls Tryz.prog 9 #[.string s] W fun e w' => ∃ A c, e = .returned (.tuple #[.slice A n c, .agg #[.int .i64 line, .int .i64 col], .int .i64 er]) ∧ kWord.R 105 w' W.heap.size (fun _ => True) (.slice A n c) ws ∧ Below W.heap.size W w') := ⟨fun W h => words_named1 W s (tabs_below HT.out h) hn hw h1 h2 h3⟩
  have HRF : Aside0 (∀ W, Calls Tryz.prog 10 #[.string s] W fun e w' => ∃ A c, e = .returned (.tuple #[.slice A n c, .agg #[.int .i64 line, .int .i64 col], .int .i64 er]) ∧ kWord.R 105 w' W.heap.size (fun _ => True) (.slice A n c) ws ∧ Below W.heap.size W w') := ⟨fun W => of20_named W s hn hw h1 h2 h3⟩
  rw [← hn] at hn9
  clear hn hw h1 h2 h3 hs
  have hqe : (line == line) = true := beq_self_eq_true _
  have hqc : (col == col) = true := beq_self_eq_true _
  have hqr : (er == er) = true := beq_self_eq_true _
  go_enter Tryz.func3, Tryz.ntmps3
  rcases hcase with ⟨d1, -⟩ | ⟨d1, d2⟩
  all_goals
    go_wp2_with fail
    refine (HOF.out _ HB.out).mono ?_
    rintro e W1 ⟨A1, c1, rfl, r1, b1⟩
    have Q1 := Aside0.mk (blk_new W1 (.cells #[.int .i64 line, .int .i64 col] 25))
    have HB1 := Aside0.mk (below_alloc b1 (.cells #[.int .i64 line, .int .i64 col] 25))
    have HW1 := Aside0.mk (Kd.R_below r1 (below_alloc (Below.refl _ _) (.cells #[.int .i64 line, .int .i64 col] 25)))
    clear r1 b1
    go_wp2_with fail
    refine (HRF.out _).mono ?_
    rintro e W2 ⟨A2, c2, rfl, r2, b2⟩
    have HB12 := Aside0.mk (below_alloc b2 (.cells #[.int .i64 line, .int .i64 col] 25))
    have Q2 := Aside0.mk (blk_new W2 (.cells #[.int .i64 line, .int .i64 col] 25))
    have HW2 := Aside0.mk (Kd.R_below r2 (below_alloc (Below.refl _ _) (.cells #[.int .i64 line, .int .i64 col] 25)))
    have HB2 := Aside0.mk (below_step HB1.out HB12.out)
    clear r2 b2
    go_wp2_with fail
    refine (HOF.out _ HB2.out).mono ?_
    rintro e W3 ⟨A3, c3, rfl, r3, b3⟩
    have HB23 := Aside0.mk (below_alloc b3 (.cells #[.int .i64 line, .int .i64 col] 25))
    have HW3 := Aside0.mk (Kd.R_below r3 (below_alloc (Below.refl _ _) (.cells #[.int .i64 line, .int .i64 col] 25)))
    have HB3 := Aside0.mk (below_step HB2.out HB23.out)
    clear r3 b3
    have HAP : Aside0 (∀ a b, A1 = some a → A3 = some b → a.block ≠ b.block) := ⟨fun a b ha hb he => by
      subst ha hb
      have i1 := ((Kd.R_bound HW1.out).1 a.block rfl).2.2.1
      have i3 := ((Kd.R_bound HW3.out).1 b.block rfl).2.1
      have := HB12.out.size
      omega⟩
    have HQ1 := Aside0.mk (blk_below (blk_below Q1.out HB12.out) HB23.out)
    have HQ2 := Aside0.mk (blk_below Q2.out HB23.out)
    have HL2 := Aside0.mk (Kd.R_below HW2.out HB23.out)
    have HL1 := Aside0.mk (Bk.RC.of (Kd.R_below (Kd.R_below HW1.out HB12.out) HB23.out))
    have HL3 := Aside0.mk (Bk.RC.of (Kd.R_lower HW3.out HB2.out.size))
    have HL2 := Aside0.mk (Bk.RC.of (Kd.R_lower HL2.out HB1.out.size))
    clear Q1 Q2 HW1 HW2 HW3 HB1 HB2 HB12 HB23
    obtain ⟨w5, hw5⟩ : ∃ x, x = W3.alloc (.cells #[.int .i64 line, .int .i64 col] 25) := ⟨_, rfl⟩
    obtain ⟨p1, hp1⟩ : ∃ x, x = W1.heap.size := ⟨_, rfl⟩
    obtain ⟨p2, hp2⟩ : ∃ x, x = W2.heap.size := ⟨_, rfl⟩
    rw [← hw5] at HQ1 HQ2 HL1 HL2 HL3 HB3
    rw [← hp1] at HQ1
    rw [← hp2] at HQ2
    have hbs := HB3.out.size
    go_upto_region 7 with fail
    have hsz : W3.heap.size + 1 = w5.heap.size := by rw [hw5]; exact (World.size_alloc W3 _).symm
    obtain ⟨p3, hp3⟩ : ∃ x, x = W3.heap.size := ⟨_, rfl⟩
    rw [← hw5, hsz, ← hp1, ← hp2, ← hp3]
    clear hw5 hp1 hp2 hsz hp3
    have HBOX : Aside0 ((w5.alloc (.cells #[.int .i64 0, .slice none 0 0, .slice none 0 0, .slice none 0 0, .slice none 0 0, .slice none 0 0, .slice none 0 0, .slice none 0 0, .slice none 0 0, .slice none 0 0, .slice none 0 0, .slice none 0 0, .slice none 0 0, .slice none 0 0, .slice none 0 0, .slice none 0 0] 45)).heap[w5.heap.size]? = some (.cells #[.int .i64 ((0 : Nat) : Int), .slice none 0 0, .slice none 0 0, .slice none 0 0, .slice none 0 0, .slice none 0 0, .slice none 0 0, .slice none 0 0, .slice none 0 0, .slice none 0 0, .slice none 0 0, .slice none 0 0, .slice none 0 0, .slice none 0 0, .slice none 0 0, .slice none 0 0] 45 (0, 0))) := ⟨blk_new w5 _⟩
    have BR0 := Aside0.mk (Bk.RC.below HL1.out (below_alloc (Below.refl w5.heap.size w5) (.cells #[.int .i64 0, .slice none 0 0, .slice none 0 0, .slice none 0 0, .slice none 0 0, .slice none 0 0, .slice none 0 0, .slice none 0 0, .slice none 0 0, .slice none 0 0, .slice none 0 0, .slice none 0 0, .slice none 0 0, .slice none 0 0, .slice none 0 0, .slice none 0 0] 45)))
    have BR1 := Aside0.mk (Bk.RC.below HL3.out (below_alloc (Below.refl w5.heap.size w5) (.cells #[.int .i64 0, .slice none 0 0, .slice none 0 0, .slice none 0 0, .slice none 0 0, .slice none 0 0, .slice none 0 0, .slice none 0 0, .slice none 0 0, .slice none 0 0, .slice none 0 0, .slice none 0 0, .slice none 0 0, .slice none 0 0, .slice none 0 0, .slice none 0 0] 45)))
    have BX2 := Aside0.mk (blk_alloc HQ1.out (.cells #[.int .i64 0, .slice none 0 0, .slice none 0 0, .slice none 0 0, .slice none 0 0, .slice none 0 0, .slice none 0 0, .slice none 0 0, .slice none 0 0, .slice none 0 0, .slice none 0 0, .slice none 0 0, .slice none 0 0, .slice none 0 0, .slice none 0 0, .slice none 0 0] 45)); clear HQ1; have HQ1 := BX2; clear BX2
    have BX2 := Aside0.mk (blk_alloc HQ2.out (.cells #[.int .i64 0, .slice none 0 0, .slice none 0 0, .slice none 0 0, .slice none 0 0, .slice none 0 0, .slice none 0 0, .slice none 0 0, .slice none 0 0, .slice none 0 0, .slice none 0 0, .slice none 0 0, .slice none 0 0, .slice none 0 0, .slice none 0 0, .slice none 0 0] 45)); clear HQ2; have HQ2 := BX2; clear BX2
    have BX2 := Aside0.mk (Bk.RC.below HL2.out (below_alloc (Below.refl w5.heap.size w5) (.cells #[.int .i64 0, .slice none 0 0, .slice none 0 0, .slice none 0 0, .slice none 0 0, .slice none 0 0, .slice none 0 0, .slice none 0 0, .slice none 0 0, .slice none 0 0, .slice none 0 0, .slice none 0 0, .slice none 0 0, .slice none 0 0, .slice none 0 0, .slice none 0 0] 45))); clear HL2; have HL2 := BX2; clear BX2
    have BB := Aside0.mk (below_alloc HB3.out (.cells #[.int .i64 0, .slice none 0 0, .slice none 0 0, .slice none 0 0, .slice none 0 0, .slice none 0 0, .slice none 0 0, .slice none 0 0, .slice none 0 0, .slice none 0 0, .slice none 0 0, .slice none 0 0, .slice none 0 0, .slice none 0 0, .slice none 0 0, .slice none 0 0] 45))
    obtain ⟨bx, hbx⟩ : ∃ b, b = w5.heap.size := ⟨_, rfl⟩
    have hbx0 : w.heap.size ≤ bx := by rw [hbx]; exact hbs
    rw [← hbx] at HBOX ⊢
    clear hbx
    generalize World.alloc w5 (.cells #[.int .i64 0, .slice none 0 0, .slice none 0 0, .slice none 0 0, .slice none 0 0, .slice none 0 0, .slice none 0 0, .slice none 0 0, .slice none 0 0, .slice none 0 0, .slice none 0 0, .slice none 0 0, .slice none 0 0, .slice none 0 0, .slice none 0 0, .slice none 0 0] 45) = wk at *
    go_wp2_with fail
    refine (Bk.Words_calls wk w.heap.size bx 0 0 0 none A1 n c1 ([] : List Bk.Hd) #[.int .i64 ((0 : Nat) : Int), .slice none 0 0, .slice none 0 0, .slice none 0 0, .slice none 0 0, .slice none 0 0, .slice none 0 0, .slice none 0 0, .slice none 0 0, .slice none 0 0, .slice none 0 0, .slice none 0 0, .slice none 0 0, .slice none 0 0, .slice none 0 0, .slice none 0 0] (by first | rfl | simp) HBOX.out rfl rfl (Kd.R_nil _ _ _ _ _) hbx0 (by decide) (by decide)).mono ?_
    rintro e wk0 ⟨rfl, hA0, hc0, hg, hh, hk⟩
    have HBOX2 : Aside0 (wk0.heap[bx]? = some (.cells #[.int .i64 ((1 : Nat) : Int), .slice none 0 0, .slice none 0 0, .slice none 0 0, .slice none 0 0, .slice none 0 0, .slice none 0 0, .slice none 0 0, .slice none 0 0, .slice none 0 0, .slice none 0 0, .slice none 0 0, .slice none 0 0, .slice none 0 0, .slice none 0 0, .slice hA0 (0 + 1) hc0] 45 (0, 0))) := ⟨hg⟩
    clear HBOX; have HBOX := HBOX2; clear HBOX2
    have BRt := Aside0.mk (Bk.RC.keep2 BR0.out rfl (by decide) (by decide) hk); clear BR0; have BR0 := BRt; clear BRt
    have BRt := Aside0.mk (Bk.RC.keep2 BR1.out rfl (by decide) (by decide) hk); clear BR1; have BR1 := BRt; clear BRt
    have BX2 := Aside0.mk (Bk.Kept2.box hk HQ1.out (by decide) (by decide)); clear HQ1; have HQ1 := BX2; clear BX2
    have BX2 := Aside0.mk (Bk.Kept2.box hk HQ2.out (by decide) (by decide)); clear HQ2; have HQ2 := BX2; clear BX2
    have BX2 := Aside0.mk (Bk.RC.keep2 HL2.out rfl (by decide) (by decide) hk); clear HL2; have HL2 := BX2; clear BX2
    have BHWord := Aside0.mk hh
    have BB2 := Aside0.mk (BB.out.trans hk.below); clear BB; have BB := BB2; clear BB2
    clear hg hh hk
    go_wp2_with fail
    refine (Bk.Words_calls wk0 w.heap.size bx (0 + 1) hc0 1 hA0 A3 n c3 (([] : List Bk.Hd) ++ [⟨A1, n, c1, none, 0, 0, 0 + 1⟩]) #[.int .i64 ((1 : Nat) : Int), .slice none 0 0, .slice none 0 0, .slice none 0 0, .slice none 0 0, .slice none 0 0, .slice none 0 0, .slice none 0 0, .slice none 0 0, .slice none 0 0, .slice none 0 0, .slice none 0 0, .slice none 0 0, .slice none 0 0, .slice none 0 0, .slice hA0 (0 + 1) hc0] (by first | rfl | simp) HBOX.out rfl rfl BHWord.out hbx0 (by decide) (by decide)).mono ?_
    rintro e wk1 ⟨rfl, hA1, hc1, hg, hh, hk⟩
    have HBOX2 : Aside0 (wk1.heap[bx]? = some (.cells #[.int .i64 ((2 : Nat) : Int), .slice none 0 0, .slice none 0 0, .slice none 0 0, .slice none 0 0, .slice none 0 0, .slice none 0 0, .slice none 0 0, .slice none 0 0, .slice none 0 0, .slice none 0 0, .slice none 0 0, .slice none 0 0, .slice none 0 0, .slice none 0 0, .slice hA1 ((0 + 1) + 1) hc1] 45 (0, 0))) := ⟨hg⟩
    clear HBOX; have HBOX := HBOX2; clear HBOX2
    have BRt := Aside0.mk (Bk.RC.keep2 BR0.out rfl (by decide) (by decide) hk); clear BR0; have BR0 := BRt; clear BRt
    have BRt := Aside0.mk (Bk.RC.keep2 BR1.out rfl (by decide) (by decide) hk); clear BR1; have BR1 := BRt; clear BRt
    have BX2 := Aside0.mk (Bk.Kept2.box hk HQ1.out (by decide) (by decide)); clear HQ1; have HQ1 := BX2; clear BX2
    have BX2 := Aside0.mk (Bk.Kept2.box hk HQ2.out (by decide) (by decide)); clear HQ2; have HQ2 := BX2; clear BX2
    have BX2 := Aside0.mk (Bk.RC.keep2 HL2.out rfl (by decide) (by decide) hk); clear HL2; have HL2 := BX2; clear BX2
    clear BHWord
    have BHWord := Aside0.mk hh
    have BB2 := Aside0.mk (BB.out.trans hk.below); clear BB; have BB := BB2; clear BB2
    clear hg hh hk
    have p10 := blk_cell HQ1.out 0
    have p11 := blk_cell HQ1.out 1
    have p20 := blk_cell HQ2.out 0
    have p21 := blk_cell HQ2.out 1
    simp at p10 p11 p20 p21
    have HSAME : Aside0 (Calls Tryz.prog 12 #[.slice A1 n c1, .slice A2 n c2] wk1 fun e w' => e = .returned (.bool true) ∧ Below wk1.heap.size wk1 w') := ⟨by
      have := sameWords_calls wk1 A1 A2 c1 c2 ws (by rw [← HNW.out]; exact (Bk.RC.reads BR0.out).2) (by rw [← HNW.out]; exact (Bk.RC.reads HL2.out).2)
      rwa [← HNW.out] at this⟩
    clear HQ1 HQ2
    go_wp2_with fail
    refine HSAME.out.mono ?_
    rintro e W9 ⟨rfl, hb9⟩
    have HBOX2 := Aside0.mk (blk_below HBOX.out hb9); clear HBOX; have HBOX := HBOX2; clear HBOX2
    have BRt := Aside0.mk (Bk.RC.below BR0.out hb9); clear BR0; have BR0 := BRt; clear BRt
    have BRt := Aside0.mk (Bk.RC.below BR1.out hb9); clear BR1; have BR1 := BRt; clear BRt
    have BH2 := Aside0.mk (Kd.R_below BHWord.out hb9); clear BHWord; have BHWord := BH2; clear BH2
    have BB2 := Aside0.mk (below_step BB.out hb9); clear BB; have BB := BB2; clear BB2
    clear hb9 HSAME p10 p11 p20 p21
    go_wp2_with fail
    refine (Bk.apartW W9 w.heap.size bx #[.int .i64 ((2 : Nat) : Int), .slice none 0 0, .slice none 0 0, .slice none 0 0, .slice none 0 0, .slice none 0 0, .slice none 0 0, .slice none 0 0, .slice none 0 0, .slice none 0 0, .slice none 0 0, .slice none 0 0, .slice none 0 0, .slice none 0 0, .slice none 0 0, .slice hA1 ((0 + 1) + 1) hc1] HBOX.out BB.out.size rfl rfl rfl rfl rfl rfl rfl rfl rfl rfl rfl rfl rfl rfl ((0 + 1) + 1) hc1 hA1 ((([] : List Bk.Hd) ++ [⟨A1, n, c1, none, 0, 0, 0 + 1⟩]) ++ [⟨A3, n, c3, none, 0, 0, 1 + 1⟩]) _ rfl ⟨BHWord.out, (Bk.Lists.add (Bk.Lists.add Bk.Lists.nil BR0.out) BR1.out)⟩ (by first | rfl | simp) (by intro x hx; simp only [List.nil_append, List.mem_append, List.mem_singleton, List.cons_append, List.mem_cons, List.not_mem_nil, or_false] at hx; rcases hx with rfl | rfl; all_goals exact ⟨by dsimp only; omega, by dsimp only; omega⟩) (Bk.Apart.add (Bk.Apart.add Bk.Apart.nil ⟨A1, n, c1, none, 0, 0, 0 + 1⟩ (fun y hy => by simp at hy)) ⟨A3, n, c3, none, 0, 0, 1 + 1⟩ (fun y hy a b ha hb => by simp only [List.nil_append, List.mem_append, List.mem_singleton, List.cons_append, List.mem_cons, List.not_mem_nil, or_false] at hy; rcases hy with rfl; exact HAP.out a b ha hb)) (by decide)).mono ?_
    rintro e wz ⟨rfl, hbz⟩
    have BZ := Aside0.mk (BB.out.trans hbz)
    clear hbz
    go_wp2_with (go_at_call 8; (with_reducible refine (HLIVES.out _ BZ.out).mono ?_); rintro e W' ⟨rfl, hb'⟩; have HBL := Aside0.mk (below_step BZ.out hb'); clear hb')
    go_ret
    exact ⟨rfl, HBL.out⟩
end L20
end Go.Proofs.YtbdecnagdnancaaGreatDoor
