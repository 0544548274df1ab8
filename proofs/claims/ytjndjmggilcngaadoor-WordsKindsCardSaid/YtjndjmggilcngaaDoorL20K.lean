/- WordsKinds: a walk through its code at every input. -/
import Derived.Test.YtjndjmggilcngaaDoorL20C

namespace Go.Proofs.YtjndjmggilcngaaDoor
open Go.RowKit Go.Proofs.YtjndjmggilcngaaDoorW.PrintWords Go.Proofs.YtjndjmggilcngaaDoorW.PrintLast Go.Proofs.YtjndjmggilcngaaDoorW.PrintMore
set_option linter.unusedVariables false
set_option linter.unusedSimpArgs false
namespace L20
open Wd
theorem mark_bounds (c : B) (h : isMark c = true) : 32 < c.toNat ∧ c.toNat ≤ 126 ∧ c.toNat ≠ 35 := by
  have : ∀ x ∈ marksL, 32 < x.toNat ∧ x.toNat ≤ 126 ∧ x.toNat ≠ 35 := by decide
  exact this c (List.contains_iff_mem.1 h)
theorem byte_at (s : ByteArray) (j : Nat) (hj : j < s.size) (h : j < s.data.toList.length) : s[j]'hj = s.data.toList[j] := by rw [Array.getElem_toList]; rfl
set_option maxRecDepth 100000 in
set_option maxHeartbeats 8000000 in
theorem kinds_walk (w : World) (HT : Aside0 (RangesAt w ∧ NumsAt w)) (s : ByteArray) (hsz0 : s.size ≤ maxLen) : Calls Tryd.prog 6 #[.string s] w fun e w' => e = .returned (.bool true) ∧ Below w.heap.size w w' := by
  have HB := Aside0.mk (Below.refl w.heap.size w)
  by_cases hbig : 4000 < s.size
  · have d1 : decide (4000 < (s.size : Int)) = true := decide_eq_true (by omega)
    clear hbig
    go_enter Tryd.func6, Tryd.ntmps6
    go_wp2_with (go_at_call 8; (with_reducible refine (lives_calls _ (tabs_below HT.out HB.out)).mono ?_); rintro e W' ⟨rfl, hb'⟩; have HBL := Aside0.mk (below_step HB.out hb'); clear hb')
    go_ret
    exact ⟨rfl, HBL.out⟩
  have d1 : decide (4000 < (s.size : Int)) = false := decide_eq_false (by omega)
  clear hbig
  obtain ⟨l, line, col, er, hof⟩ : ∃ l line col er, ofW s.data.toList = (l, line, col, er) := ⟨_, _, _, _, rfl⟩
  obtain ⟨m, hm⟩ : ∃ m, m = l.length := ⟨_, rfl⟩
  have HOK : Aside0 (∀ t ∈ l, Wd.Word t.kind t.text ∨ (t.kind = 3 ∧ t.text = [])) := ⟨by have := ofW_words s.data.toList; rw [hof] at this; exact this⟩
  have HWN := Aside0.mk (words_named w s HT hof hm (rfl : l.map wordV = l.map wordV))
  have HM := Aside0.mk hm
  clear hof hm HB
  go_enter Tryd.func6, Tryd.ntmps6
  go_wp2_with (go_at_call 9; (with_reducible refine HWN.out.mono ?_); rintro e W1 ⟨A, c, rfl, hr, hb'⟩; have HB := Aside0.mk (below_alloc hb' (.cells #[.int .i64 line, .int .i64 col] 25)); have hc := (Kd.R_reads' hr); have HC := Aside0.mk (Kd.C_below hc.2.2 (below_alloc (Below.refl _ _) (.cells #[.int .i64 line, .int .i64 col] 25))); clear hr hc hb')
  go_loopg [6] (m + 1) (fun g b W => ∃ (k : Nat), b = .int .i64 (k : Int) ∧ k ≤ m ∧ m + 1 - k ≤ g ∧ Aside0 (Below w.heap.size w W) ∧ Aside0 (kWord.C W A (l.map wordV).length (l.map wordV)))
  case atStart => exact ⟨0, rfl, by omega, by omega, HB, HC⟩
  case round =>
    clear HB HC
    obtain ⟨k, rfl, hk, hkg, HB, HC⟩ := hrel
    obtain ⟨g0, rfl⟩ : ∃ g0, gk = g0 + 1 := ⟨gk - 1, by omega⟩
    have xm : m ≤ 9223372036854775807 := by have := HC.out.2.1; rw [List.length_map, ← HM.out] at this; exact this
    rcases Nat.lt_or_ge k m with hlt | hge
    · have hd : decide (k < m) = true := decide_eq_true hlt
      have hkl : k < l.length := by rw [← HM.out]; exact hlt
      obtain ⟨ad, rfl, x0, x1, -, -⟩ := C_wordN HC.out k (by rw [List.length_map]; exact hkl)
      obtain ⟨t, ht⟩ : ∃ t, t = l[k] := ⟨_, rfl⟩
      have hok := HOK.out t (by rw [ht]; exact List.getElem_mem _)
      rw [List.getElem_map, ← ht] at x0 x1
      change wr.cell? _ = some (.int .u8 t.kind) at x0
      change wr.cell? _ = some (.string ⟨t.text.toArray⟩) at x1
      clear ht
      obtain ⟨s1, hs1⟩ : ∃ s1, s1 = (⟨t.text.toArray⟩ : ByteArray) := ⟨_, rfl⟩
      have HS1 : Aside0 (s1.data.toList = t.text) := ⟨by rw [hs1]⟩
      rw [← hs1] at x1
      clear hs1
      obtain ⟨n, hn⟩ : ∃ n, n = s1.size := ⟨_, rfl⟩
      have hlen : s1.data.toList.length = n := by rw [hn]; exact Array.length_toList
      rw [HS1.out] at hlen
      have hn' : s1.size = n := hn.symm
      clear hn
      rcases hok with (⟨hk0, c0, r0, htx, hl0, hall, hle⟩ | ⟨hk0, c0, r0, htx, hl0, hd0, hall, hno⟩ | ⟨hk0, htx⟩) | ⟨hk0, htx⟩
      · rw [hk0] at x0
        rw [htx] at hlen hle
        have hem : s1.toList.isEmpty = false := by rw [ByteArray.toList_eq, HS1.out, htx]; rfl
        have h0 : 0 < s1.size := by rw [hn', ← hlen]; simp
        have hc0 : s1[0]'h0 = c0 := by rw [byte_at s1 0 h0 (by rw [HS1.out, htx]; simp)]; simp [HS1.out, htx]
        have e1 : decide (32 < (n : Int)) = false := decide_eq_false (by omega)
        have HALL : Aside0 (∀ (j : Nat) (hj : j < s1.size), inName (s1[j]'hj) = true) := ⟨fun j hj => by
          have hjl : j < s1.data.toList.length := by rw [HS1.out, htx, hlen, ← hn']; exact hj
          rw [byte_at s1 j hj hjl]
          have hmem : s1.data.toList[j] ∈ c0 :: r0 := by rw [← htx, ← HS1.out]; exact List.getElem_mem _
          rcases List.mem_cons.1 hmem with h | h
          · rw [h, inName, hl0]; rfl
          · exact hall _ h⟩
        have hnb : n ≤ 32 := by omega
        clear htx hk0 hlen hle hall
        go_wp2_with (go_at_call 12; go_loud ((with_reducible refine (letter_calls _ c0).mono ?_); rintro e W' ⟨rfl, rfl⟩; rw [hl0]))
        go_loopg [8] (n + 1) (fun g b W => ∃ (j : Nat), b = .int .i64 (j : Int) ∧ j ≤ n ∧ n + 1 - j ≤ g ∧ Aside0 (Below w.heap.size w W) ∧ Aside0 (kWord.C W (some ad) (l.map wordV).length (l.map wordV)))
        case atStart => exact ⟨0, rfl, by omega, by omega, HB, HC⟩
        case round =>
          clear HB HC
          obtain ⟨j, rfl, hj, hjg, HB, HC⟩ := hrel
          rcases Nat.lt_or_ge j n with hlt2 | hge2
          · have hd2 : decide (j < n) = true := decide_eq_true hlt2
            have hjs : j < s1.size := by omega
            obtain ⟨cj, hcj⟩ : ∃ c, s1[j]'hjs = c := ⟨_, rfl⟩
            have hin := HALL.out j hjs
            rw [hcj] at hin
            cases hlj : letter cj with
            | true =>
              go_wp2_with (go_at_call 12; go_loud ((with_reducible refine (letter_calls _ cj).mono ?_); rintro e W' ⟨rfl, rfl⟩; rw [hlj]))
              go_roundg (gk - 1)
              case measure => omega
              case rel => exact ⟨j + 1, by go_num, by omega, by omega, HB, HC⟩
            | false =>
              cases hdj : digit cj with
              | true =>
                go_wp2_with (first | (go_at_call 12; go_loud ((with_reducible refine (letter_calls _ cj).mono ?_); rintro e W' ⟨rfl, rfl⟩; rw [hlj])) | (go_at_call 13; (with_reducible refine (digit_calls _ cj).mono ?_); rintro e W' ⟨rfl, rfl⟩; rw [hdj]))
                go_roundg (gk - 1)
                case measure => omega
                case rel => exact ⟨j + 1, by go_num, by omega, by omega, HB, HC⟩
              | false =>
                have h95 : ((cj.toNat : Int) == 95) = true := by
                  rw [inName, hlj, hdj] at hin
                  have : cj = 95 := by simpa using hin
                  rw [this]; rfl
                go_wp2_with (first | (go_at_call 12; go_loud ((with_reducible refine (letter_calls _ cj).mono ?_); rintro e W' ⟨rfl, rfl⟩; rw [hlj])) | (go_at_call 13; (with_reducible refine (digit_calls _ cj).mono ?_); rintro e W' ⟨rfl, rfl⟩; rw [hdj]))
                go_roundg (gk - 1)
                case measure => omega
                case rel => exact ⟨j + 1, by go_num, by omega, by omega, HB, HC⟩
          · have hd2 : decide (j < n) = false := decide_eq_false (by omega)
            go_wp2
            go_roundg g0
            case measure => omega
            case rel => exact ⟨k + 1, by go_num, by omega, by omega, HB, HC⟩
      · rw [hk0] at x0
        have hl20 := num_length hd0 (by rw [← htx]; exact hno)
        rw [htx] at hlen
        rw [hlen] at hl20
        have hem : s1.toList.isEmpty = false := by rw [ByteArray.toList_eq, HS1.out, htx]; rfl
        have h0 : 0 < s1.size := by rw [hn', ← hlen]; simp
        have hc0 : s1[0]'h0 = c0 := by rw [byte_at s1 0 h0 (by rw [HS1.out, htx]; simp)]; simp [HS1.out, htx]
        have e1 : decide (20 < (n : Int)) = false := decide_eq_false (by omega)
        have HALL : Aside0 (∀ (j : Nat) (hj : j < s1.size), digit (s1[j]'hj) = true) := ⟨fun j hj => by
          have hjl : j < s1.data.toList.length := by rw [HS1.out, htx, hlen, ← hn']; exact hj
          rw [byte_at s1 j hj hjl]
          have hmem : s1.data.toList[j] ∈ c0 :: r0 := by rw [← htx, ← HS1.out]; exact List.getElem_mem _
          rcases List.mem_cons.1 hmem with h | h
          · rw [h]; exact hd0
          · exact hall _ h⟩
        have hz : n ≤ 1 ∨ ((c0.toNat : Int) == 48) = false := by
          rw [htx, numOk] at hno
          simp only [Bool.and_eq_true, Bool.or_eq_true, decide_eq_true_eq, List.head?_cons, bne_iff_ne, ne_eq, Option.some.injEq] at hno
          rcases hno.1 with h | h
          · left; rw [← hlen]; exact h
          · right
            rw [beq_eq_false_iff_ne]
            intro e
            exact h (UInt8.toNat_inj.1 (show c0.toNat = (48 : UInt8).toNat by show c0.toNat = 48; omega))
        clear htx hk0 hlen hall hno
        have key : ∀ b1 : Bool, decide (1 < (n : Int)) = b1 → (b1 = true → ((c0.toNat : Int) == 48) = false) → True := fun _ _ _ => trivial
        rcases Nat.lt_or_ge 1 n with h1n | h1n
        · have e2 : decide (1 < (n : Int)) = true := decide_eq_true (by omega)
          have e3 : ((c0.toNat : Int) == 48) = false := hz.resolve_left (by omega)
          clear hz key
          go_wp2
          go_loopg [9] (n + 1) (fun g b W => ∃ (j : Nat), b = .int .i64 (j : Int) ∧ j ≤ n ∧ n + 1 - j ≤ g ∧ Aside0 (Below w.heap.size w W) ∧ Aside0 (kWord.C W (some ad) (l.map wordV).length (l.map wordV)))
          case atStart => exact ⟨0, rfl, by omega, by omega, HB, HC⟩
          case round =>
            clear HB HC
            obtain ⟨j, rfl, hj, hjg, HB, HC⟩ := hrel
            rcases Nat.lt_or_ge j n with hlt2 | hge2
            · have hd2 : decide (j < n) = true := decide_eq_true hlt2
              have hjs : j < s1.size := by omega
              obtain ⟨cj, hcj⟩ : ∃ c, s1[j]'hjs = c := ⟨_, rfl⟩
              have hdj := HALL.out j hjs
              rw [hcj] at hdj
              go_wp2_with (go_at_call 13; (with_reducible refine (digit_calls _ cj).mono ?_); rintro e W' ⟨rfl, rfl⟩; rw [hdj])
              go_roundg (gk - 1)
              case measure => omega
              case rel => exact ⟨j + 1, by go_num, by omega, by omega, HB, HC⟩
            · have hd2 : decide (j < n) = false := decide_eq_false (by omega)
              go_wp2
              go_roundg g0
              case measure => omega
              case rel => exact ⟨k + 1, by go_num, by omega, by omega, HB, HC⟩
        · have e2 : decide (1 < (n : Int)) = false := decide_eq_false (by omega)
          clear hz key
          go_wp2
          go_loopg [9] (n + 1) (fun g b W => ∃ (j : Nat), b = .int .i64 (j : Int) ∧ j ≤ n ∧ n + 1 - j ≤ g ∧ Aside0 (Below w.heap.size w W) ∧ Aside0 (kWord.C W (some ad) (l.map wordV).length (l.map wordV)))
          case atStart => exact ⟨0, rfl, by omega, by omega, HB, HC⟩
          case round =>
            clear HB HC
            obtain ⟨j, rfl, hj, hjg, HB, HC⟩ := hrel
            rcases Nat.lt_or_ge j n with hlt2 | hge2
            · have hd2 : decide (j < n) = true := decide_eq_true hlt2
              have hjs : j < s1.size := by omega
              obtain ⟨cj, hcj⟩ : ∃ c, s1[j]'hjs = c := ⟨_, rfl⟩
              have hdj := HALL.out j hjs
              rw [hcj] at hdj
              go_wp2_with (go_at_call 13; (with_reducible refine (digit_calls _ cj).mono ?_); rintro e W' ⟨rfl, rfl⟩; rw [hdj])
              go_roundg (gk - 1)
              case measure => omega
              case rel => exact ⟨j + 1, by go_num, by omega, by omega, HB, HC⟩
            · have hd2 : decide (j < n) = false := decide_eq_false (by omega)
              go_wp2
              go_roundg g0
              case measure => omega
              case rel => exact ⟨k + 1, by go_num, by omega, by omega, HB, HC⟩
      · rw [hk0] at x0
        rcases htx with htx | ⟨c0, htx, hl0, hd0, hm0⟩
        · have hm1 : (s1.toList == [60, 61]) = true := by rw [ByteArray.toList_eq, HS1.out, htx]; rfl
          clear htx hk0
          go_wp2
          go_roundg g0
          case measure => omega
          case rel => exact ⟨k + 1, by go_num, by omega, by omega, HB, HC⟩
        · have hm1 : (s1.toList == [60, 61]) = false := by rw [ByteArray.toList_eq, HS1.out, htx]; simp
          rw [htx] at hlen
          have hn1 : n = 1 := by rw [← hlen]; rfl
          subst hn1
          have h0 : 0 < s1.size := by omega
          have hc0 : s1[0]'h0 = c0 := by rw [byte_at s1 0 h0 (by rw [HS1.out, htx]; simp)]; simp [HS1.out, htx]
          obtain ⟨m1, m2, m3⟩ := mark_bounds c0 hm0
          have e1 : decide ((c0.toNat : Int) ≤ 32) = false := decide_eq_false (by omega)
          have e2 : decide (126 < (c0.toNat : Int)) = false := decide_eq_false (by omega)
          have e3 : ((c0.toNat : Int) == 35) = false := beq_eq_false_iff_ne.2 (by omega)
          clear htx hk0 hm0 m1 m2 m3
          go_wp2_with (first | (go_at_call 12; go_loud ((with_reducible refine (letter_calls _ c0).mono ?_); rintro e W' ⟨rfl, rfl⟩; rw [hl0])) | (go_at_call 13; (with_reducible refine (digit_calls _ c0).mono ?_); rintro e W' ⟨rfl, rfl⟩; rw [hd0]))
          go_roundg g0
          case measure => omega
          case rel => exact ⟨k + 1, by go_num, by omega, by omega, HB, HC⟩
      · rw [hk0] at x0
        have hem : s1.toList.isEmpty = true := by rw [ByteArray.toList_eq, HS1.out, htx]; rfl
        clear htx hk0
        go_wp2
        go_roundg g0
        case measure => omega
        case rel => exact ⟨k + 1, by go_num, by omega, by omega, HB, HC⟩
    · have hd : decide (k < m) = false := decide_eq_false (by omega)
      go_wp2_with (go_at_call 8; (with_reducible refine (lives_calls _ (tabs_below HT.out HB.out)).mono ?_); rintro e W' ⟨rfl, hb'⟩; have HBL := Aside0.mk (below_step HB.out hb'); clear hb')
      go_ret
      exact ⟨rfl, HBL.out⟩
end L20
end Go.Proofs.YtjndjmggilcngaaDoor
