/- The law TypesNames: a walk through its code at every input. -/
import Derived.Test.YtoohandacpalpaaDoorL07A
import Derived.Test.YtoohandacpalpaaDoorTyP
import Derived.Test.YtoohandacpalpaaDoorOpN
import Derived.Test.YtoohandacpalpaaDoorEd
namespace Go.Proofs.YtoohandacpalpaaDoor
open Go.RowKit Go.Shelf Go.Proofs.YtoohandacpalpaaDoorW.PrintWords Go.Proofs.YtoohandacpalpaaDoorW.PrintLast Go.Proofs.YtoohandacpalpaaDoorW.PrintMore
set_option linter.unusedVariables false
set_option linter.unusedSimpArgs false
namespace L07
def letC (c : Int) : Bool := (decide (97 ≤ c) && decide (c ≤ 122)) || (decide (65 ≤ c) && decide (c ≤ 90))
def othC (c : Int) : Bool := letC c || (decide (48 ≤ c) && decide (c ≤ 57)) || (c == 95)
theorem letter_calls (c : Int) (w : World) : Calls Tryd.prog 26 #[.int .u8 c] w fun e w' => e = .returned (.bool (letC c)) ∧ w = w' := by
  by_cases h1 : 97 ≤ c
  all_goals
    by_cases h2 : c ≤ 122
    all_goals
      by_cases h3 : 65 ≤ c
      all_goals
        by_cases h4 : c ≤ 90
        all_goals
          go_enter Tryd.func26, Tryd.ntmps26
          go_wp2
          go_ret
          exact ⟨ret_bool (by simp [letC]; omega), rfl⟩
set_option maxRecDepth 100000 in
set_option maxHeartbeats 1000000 in
theorem names_long (w : World) (s : ByteArray) (mod : Int) (h : 1000 < s.size) :
    Calls Tryd.prog 8 #[.string s, .int .i64 mod] w fun e w' => e = .returned (.bool true) ∧ Below w.heap.size w w' := by
  go_enter Tryd.func8, Tryd.ntmps8
  go_wp2_with (go_at_call 23; (with_reducible refine (alive_calls _).mono ?_); rintro e W' ⟨rfl, hb'⟩)
  go_ret
  exact ⟨rfl, hb'⟩
def othU (c : UInt8) : Bool := othC c.toNat
theorem othU_other : ∀ c : UInt8, othU c = isOther c := by
  have h : ∀ n : Fin 256, othU (UInt8.ofFin n) = isOther (UInt8.ofFin n) := by decide +kernel
  intro c
  have := h c.toFin
  simpa using this
theorem letU_letter : ∀ c : UInt8, letC c.toNat = isLetter c := by
  have h : ∀ n : Fin 256, letC (UInt8.ofFin n).toNat = isLetter (UInt8.ofFin n) := by decide +kernel
  intro c
  have := h c.toFin
  simpa using this
theorem letter_other : ∀ c : UInt8, isLetter c = true → isOther c = true := by
  have h : ∀ n : Fin 256, isLetter (UInt8.ofFin n) = true → isOther (UInt8.ofFin n) = true := by decide +kernel
  intro c
  have := h c.toFin
  simpa using this
/-- What TypesNames has found of a name's bytes ahead of the one at i. -/
def pre (m0 : Bool) (s : ByteArray) (i : Nat) : Bool := m0 && ((s.data.toList.take i).drop 1).all othU
theorem pre_one (m0 : Bool) (s : ByteArray) : pre m0 s 1 = m0 := by
  unfold pre
  rw [show (s.data.toList.take 1).drop 1 = [] by simp]
  simp
theorem pre_step (m0 : Bool) (s : ByteArray) (i : Nat) (h1 : 1 ≤ i) (hi : i < s.size) : pre m0 s (i + 1) = (pre m0 s i && othC s[i].toNat) := by
  have hl : i < s.data.toList.length := by simpa using hi
  unfold pre
  rw [List.take_succ_eq_append_getElem hl, List.drop_append_of_le_length (by simp; omega), List.all_append, Bool.and_assoc]
  congr 2
  simp [othU]
  rfl
theorem pre_end (s : ByteArray) (m0 : Bool) (i : Nat) (hi : s.size ≤ i) (h : m0 = (decide (1 ≤ s.data.toList.length) && decide (s.data.toList.length ≤ 32) && isLetter (s.data.toList.headD 0))) : pre m0 s i = namedB s := by
  have hl : s.data.toList.length ≤ i := by simpa using hi
  unfold pre namedB namedL
  rw [List.take_of_length_le hl, h]
  cases e : s.data.toList with
  | nil => simp
  | cons a t =>
    simp only [List.drop_succ_cons, List.drop_zero, List.headD_cons, allOther, List.all_cons]
    have : t.all othU = t.all isOther := by congr 1; funext c; exact othU_other c
    rw [this]
    cases hle : isLetter a with
    | false => simp
    | true => rw [letter_other a hle]; simp
theorem lit_C (w : World) (n : Node) : kNode.C (w.alloc (.cells (nodeC n).toArray 36)) (some ⟨w.heap.size, 0, none⟩) 1 [n] := by
  have hr : Reps (kNode.K (w.alloc (.cells (nodeC n).toArray 36))) kNode.sz [n] (nodeC n ++ []) := reps_cons (k36_mk _ n) rfl (Reps.none _ _)
  rw [List.append_nil] at hr
  exact C_block (blk_new w _) hr (by simp)
def namedN (s : ByteArray) (mod : Int) : Node := ⟨2, mod, s, 0, ⟨false, 0⟩, ⟨false, 0⟩, ⟨false, 0⟩⟩
def baseN (s : ByteArray) (mod : Int) : Node := ⟨1, mod, s, 0, ⟨false, 0⟩, ⟨false, 0⟩, ⟨false, 0⟩⟩
theorem check_named (s : ByteArray) (mod : Int) : checkB [namedN s mod] = if decide (0 ≤ mod) && decide (mod ≤ 16) && namedB s then 0 else 4 := by
  rw [check_one]
  have e : mayB (namedN s mod) = (decide (0 ≤ mod) && decide (mod ≤ 16) && namedB s) := by simp [mayB, mayV, namedN]; rfl
  rw [e]
  cases (decide (0 ≤ mod) && decide (mod ≤ 16) && namedB s) <;> simp [namedN]
theorem check_base (s : ByteArray) (mod : Int) : checkB [baseN s mod] = if decide (mod = 0) && baseB s then 0 else 4 := by
  rw [check_one]
  have e : mayB (baseN s mod) = (decide (mod = 0) && baseB s) := by simp [mayB, mayV, baseN]; rfl
  rw [e]
  cases (decide (mod = 0) && baseB s) <;> simp [baseN]
end L07
end Go.Proofs.YtoohandacpalpaaDoor
