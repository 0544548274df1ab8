/- The document's own functions over bodies: what each answers, by walks through their code. -/
import Derived.Test.YtbdecnagdnancaaGreatDoorTyR

namespace Go.Proofs.YtbdecnagdnancaaGreatDoor
open Go.RowKit Go.Shelf Go.Proofs.YtbdecnagdnancaaGreatDoorW.PrintWords Go.Proofs.YtbdecnagdnancaaGreatDoorW.PrintLast Go.Proofs.YtbdecnagdnancaaGreatDoorW.PrintMore
set_option linter.unusedVariables false
set_option linter.unusedSimpArgs false
namespace Ref07
def letC (c : Int) : Bool := (decide (97 ≤ c) && decide (c ≤ 122)) || (decide (65 ≤ c) && decide (c ≤ 90))
theorem letter_calls (c : Int) (w : World) : Calls Tryz.prog 268 #[.int .u8 c] w fun e w' => e = .returned (.bool (letC c)) ∧ w = w' := by
  by_cases h1 : 97 ≤ c
  all_goals
    by_cases h2 : c ≤ 122
    all_goals
      by_cases h3 : 65 ≤ c
      all_goals
        by_cases h4 : c ≤ 90
        all_goals
          go_enter Tryz.func268, Tryz.ntmps268
          go_wp2
          go_ret
          exact ⟨ret_bool (by simp [letC]; omega), rfl⟩
theorem letU_letter : ∀ c : UInt8, letC c.toNat = isLetter c := by
  have h : ∀ n : Fin 256, letC (UInt8.ofFin n).toNat = isLetter (UInt8.ofFin n) := by decide +kernel
  intro c
  have := h c.toFin
  simpa using this
theorem oth_other : ∀ c : UInt8, isOther c = (letC c.toNat || (c.toNat : Int) == 95 || (decide (48 ≤ (c.toNat : Int)) && decide ((c.toNat : Int) ≤ 57))) := by
  have h : ∀ n : Fin 256, isOther (UInt8.ofFin n) = (letC (UInt8.ofFin n).toNat || ((UInt8.ofFin n).toNat : Int) == 95 || (decide (48 ≤ ((UInt8.ofFin n).toNat : Int)) && decide (((UInt8.ofFin n).toNat : Int) ≤ 57))) := by decide +kernel
  intro c
  have := h c.toFin
  simpa using this
theorem letter_other : ∀ c : UInt8, isLetter c = true → isOther c = true := by
  have h : ∀ n : Fin 256, isLetter (UInt8.ofFin n) = true → isOther (UInt8.ofFin n) = true := by decide +kernel
  intro c
  have := h c.toFin
  simpa using this
/-- All bytes of a name behind the first one, ahead of the one at i, may stand there. -/
def pre (s : ByteArray) (i : Nat) : Bool := ((s.data.toList.take i).drop 1).all isOther
theorem pre_step (s : ByteArray) (i : Nat) (h1 : 1 ≤ i) (hi : i < s.size) : pre s (i + 1) = (pre s i && isOther s[i]) := by
  have hl : i < s.data.toList.length := by simpa using hi
  unfold pre
  rw [List.take_succ_eq_append_getElem hl, List.drop_append_of_le_length (by simp; omega), List.all_append]
  congr 1
  simp
  rfl
theorem named_parts (s : ByteArray) (h0 : 0 < s.size) : namedB s = (decide (s.size ≤ 32) && isLetter s[0] && pre s s.size) := by
  have hl : 0 < s.data.toList.length := by simpa using h0
  have e0 : s[0] = s.data.toList.headD 0 := by
    rw [List.headD_eq_head?_getD, List.head?_eq_getElem?, List.getElem?_eq_getElem hl]
    simp
    rfl
  have hs : s.size = s.data.toList.length := by simp
  unfold namedB namedL pre
  rw [show s.data.toList.take s.size = s.data.toList from List.take_of_length_le (by simp), e0, hs]
  clear e0 hs
  generalize s.data.toList = l at hl
  cases l with
  | nil => simp at hl
  | cons a t =>
    simp only [List.headD_cons, List.drop_succ_cons, List.drop_zero, allOther, List.all_cons]
    cases hle : isLetter a with
    | false => simp
    | true => rw [letter_other a hle]; simp
theorem pre_false (s : ByteArray) (i : Nat) (h1 : 1 ≤ i) (hi : i < s.size) (h : isOther s[i] = false) : pre s s.size = false := by
  have hl : i < s.data.toList.length := by simpa using hi
  cases hp : pre s s.size with
  | false => rfl
  | true =>
    unfold pre at hp
    rw [show s.data.toList.take s.size = s.data.toList from List.take_of_length_le (by simp), List.all_eq_true] at hp
    have := hp s[i] (by
      rw [List.mem_iff_getElem]
      refine ⟨i - 1, by simp; omega, ?_⟩
      rw [List.getElem_drop]
      have e : 1 + (i - 1) = i := by omega
      simp only [e]
      rfl)
    rw [h] at this
    cases this
set_option maxRecDepth 100000 in
set_option maxHeartbeats 1000000 in
theorem name_calls (w : World) (s : ByteArray) : Calls Tryz.prog 247 #[.string s] w fun e w' => e = .returned (.bool (namedB s)) ∧ w = w' := by
  obtain ⟨nb, hnb⟩ : ∃ nb, nb = namedB s := ⟨_, rfl⟩
  have HN := Aside0.mk hnb
  rw [← hnb]
  clear hnb
  rcases (by omega : s.size = 0 ∨ 32 < s.size ∨ (0 < s.size ∧ s.size ≤ 32)) with h | h | ⟨h0, h1⟩
  · obtain rfl : nb = false := by rw [HN.out]; simp [namedB, namedL]; omega
    have y1 : decide ((s.size : Int) < 1) = true := decide_eq_true (by omega)
    go_enter Tryz.func247, Tryz.ntmps247
    go_wp2
    go_ret
    exact ⟨rfl, rfl⟩
  · obtain rfl : nb = false := by rw [HN.out]; simp [namedB, namedL]; omega
    have y1 : decide ((s.size : Int) < 1) = false := decide_eq_false (by omega)
    have y2 : decide (32 < (s.size : Int)) = true := decide_eq_true (by omega)
    go_enter Tryz.func247, Tryz.ntmps247
    go_wp2
    go_ret
    exact ⟨rfl, rfl⟩
  · have y1 : decide ((s.size : Int) < 1) = false := decide_eq_false (by omega)
    have y2 : decide (32 < (s.size : Int)) = false := decide_eq_false (by omega)
    have hp := named_parts s h0
    rw [← HN.out, show decide (s.size ≤ 32) = true from decide_eq_true h1, Bool.true_and, ← letU_letter] at hp
    cases hl : letC (s[0].toNat : Int) with
    | false =>
      obtain rfl : nb = false := by rw [hp, hl]; rfl
      clear hp HN
      go_enter Tryz.func247, Tryz.ntmps247
      go_wp2_with (go_at_call 268; (with_reducible refine (letter_calls _ _).mono ?_); rintro e W' ⟨rfl, rfl⟩)
      all_goals
        go_ret
        exact ⟨rfl, rfl⟩
    | true =>
      have HP : Aside0 (nb = pre s s.size) := ⟨by rw [hp, hl]; rfl⟩
      clear hp HN
      go_enter Tryz.func247, Tryz.ntmps247
      go_wp2_with (go_at_call 268; (with_reducible refine (letter_calls _ _).mono ?_); rintro e W' ⟨rfl, rfl⟩)
      go_loop [3] (fun y => ∃ i : Nat, y = .int .i64 i ∧ 1 ≤ i ∧ i ≤ s.size ∧ Aside0 (pre s i = true)) (fun y => match y with | .int _ i => s.size - i.toNat | _ => 0)
      case atStart => exact ⟨1, rfl, by omega, by omega, ⟨by unfold pre; rw [show (s.data.toList.take 1).drop 1 = [] by simp]; rfl⟩⟩
      case round =>
        obtain ⟨i, rfl, hi1, hi2, HA⟩ := hrel
        rcases Nat.lt_or_ge i s.size with hi | hi
        · have hd : decide (i < s.size) = true := decide_eq_true hi
          have hs := pre_step s i hi1 hi
          rw [HA.out, Bool.true_and, oth_other] at hs
          have hf := pre_false s i hi1 hi
          rw [oth_other] at hf
          have HS := Aside0.mk (And.intro hs hf)
          clear hs hf
          go_wp2_with (go_at_call 268; (with_reducible refine (letter_calls _ _).mono ?_); rintro e W' ⟨rfl, rfl⟩)
          all_goals first
            | (refine ⟨⟨i + 1, by go_num, by omega, by omega, ⟨?_⟩⟩, ?_⟩
               · rw [HS.out.1]; clear HS HA HP; simp_all
               · show s.size - ((i : Int) + 1).toNat < s.size - ((i : Int)).toNat
                 omega)
            | (go_ret
               exact ⟨ret_bool (by rw [HP.out]; exact (HS.out.2 (by clear HS HA HP; simp_all; try omega)).symm), rfl⟩)
        · have hd : decide (i < s.size) = false := decide_eq_false (by omega)
          obtain rfl : i = s.size := by omega
          go_wp2
          go_ret
          exact ⟨ret_bool (by rw [HP.out, HA.out]), rfl⟩
set_option maxRecDepth 100000 in
set_option maxHeartbeats 4000000 in
theorem may_calls (k m d : Int) (s : ByteArray) (lv pv ev : Bool) (l p e : Int) (w : World) :
    Calls Tryz.prog 222 #[.agg #[.int .u8 k, .int .i64 m, .string s, .int .i64 d, .bool lv, .int .u64 l, .bool pv, .int .u64 p, .bool ev, .int .u64 e]] w fun e' w' => e' = .returned (.bool (mayV k m s d pv p ev e)) ∧ Below w.heap.size w w' := by
  have HB := Aside0.mk (below_alloc (Below.refl w.heap.size w) (.cells #[.int .u8 k, .int .i64 m, .string s, .int .i64 d, .bool lv, .int .u64 l, .bool pv, .int .u64 p, .bool ev, .int .u64 e] 122))
  obtain ⟨nb, hnb⟩ : ∃ nb, nb = namedB s := ⟨_, rfl⟩
  have HN := Aside0.mk hnb
  clear hnb
  go_enter Tryz.func222, Tryz.ntmps222
  go_wp2_with (go_at_call 247; (with_reducible refine (name_calls _ _).mono ?_); rw [← HN.out]; rintro e W' ⟨rfl, rfl⟩)
  all_goals
    go_ret
    refine ⟨ret_bool ?_, below_alloc (Below.refl _ _) _⟩
    have hn := HN.out
    clear HN HB
    first
      | (simp_all [mayV, baseB, Lib.toList_data]; done)
      | (simp_all [mayV, baseB, Lib.toList_data]; omega)
      | (simp_all [mayV, baseB, Lib.toList_data]; rfl)
      | (simp_all [mayV, baseB, Lib.toList_data, Int.beq_eq_decide_eq]; done)
      | skip
end Ref07
end Go.Proofs.YtbdecnagdnancaaGreatDoor
