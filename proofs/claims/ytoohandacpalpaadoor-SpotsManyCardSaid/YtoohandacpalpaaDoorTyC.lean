import Derived.Test.YtoohandacpalpaaDoorTyB
import Derived.Test.YtoohandacpalpaaDoorSh
namespace Go.Proofs.YtoohandacpalpaaDoor
open Go.RowKit Go.Shelf Go.Proofs.YtoohandacpalpaaDoorW.PrintWords Go.Proofs.YtoohandacpalpaaDoorW.PrintLast Go.Proofs.YtoohandacpalpaaDoorW.PrintMore
set_option linter.unusedVariables false
set_option linter.unusedSimpArgs false

/-! ### names -/
def lettersL : List UInt8 := [97, 98, 99, 100, 101, 102, 103, 104, 105, 106, 107, 108, 109, 110, 111, 112, 113, 114, 115, 116, 117, 118, 119, 120, 121, 122, 65, 66, 67, 68, 69, 70, 71, 72, 73, 74, 75, 76, 77, 78, 79, 80, 81, 82, 83, 84, 85, 86, 87, 88, 89, 90]
def othersL : List UInt8 := [97, 98, 99, 100, 101, 102, 103, 104, 105, 106, 107, 108, 109, 110, 111, 112, 113, 114, 115, 116, 117, 118, 119, 120, 121, 122, 65, 66, 67, 68, 69, 70, 71, 72, 73, 74, 75, 76, 77, 78, 79, 80, 81, 82, 83, 84, 85, 86, 87, 88, 89, 90, 48, 49, 50, 51, 52, 53, 54, 55, 56, 57, 95]
def isLetter (c : UInt8) : Bool := lettersL.contains c
def isOther (c : UInt8) : Bool := othersL.contains c
def allOther (l : List UInt8) : Bool := l.all isOther
/-- May a named type have these bytes for a name? -/
def namedL (l : List UInt8) : Bool := decide (1 ≤ l.length) && decide (l.length ≤ 32) && isLetter (l.headD 0) && allOther l
def namedB (s : ByteArray) : Bool := namedL s.data.toList

theorem all_dropWhile {α : Type} (p : α → Bool) (l : List α) : (l.dropWhile p).all p = l.all p := by
  induction l with
  | nil => rfl
  | cons a t ih =>
    rw [List.dropWhile_cons]
    by_cases h : p a = true
    · rw [if_pos h, ih, List.all_cons, h, Bool.true_and]
    · rw [if_neg h]
theorem isEmpty_dropWhile {α : Type} (p : α → Bool) (l : List α) : (l.dropWhile p).isEmpty = l.all p := by
  induction l with
  | nil => rfl
  | cons a t ih =>
    rw [List.dropWhile_cons]
    by_cases h : p a = true
    · rw [if_pos h, ih, List.all_cons, h, Bool.true_and]
    · rw [if_neg h, List.all_cons]
      simp [h]
theorem trimS_isEmpty (l cs : List UInt8) : (Lib.trimS l cs).isEmpty = l.all (fun c => cs.contains c) := by
  unfold Lib.trimS Lib.trimLeftS Lib.trimRightS
  rw [isEmpty_dropWhile, List.all_reverse, all_dropWhile, List.all_reverse]

theorem contains_letters (c : UInt8) (w : World) : Calls Tryd.prog 57 #[.string ⟨#[97, 98, 99, 100, 101, 102, 103, 104, 105, 106, 107, 108, 109, 110, 111, 112, 113, 114, 115, 116, 117, 118, 119, 120, 121, 122, 65, 66, 67, 68, 69, 70, 71, 72, 73, 74, 75, 76, 77, 78, 79, 80, 81, 82, 83, 84, 85, 86, 87, 88, 89, 90]⟩, .string ⟨#[c]⟩] w fun e w' => e = .returned (.bool (isLetter c)) ∧ w' = w := by
  have h := Any.strings_Contains_one Tryd.lays144 ⟨#[97, 98, 99, 100, 101, 102, 103, 104, 105, 106, 107, 108, 109, 110, 111, 112, 113, 114, 115, 116, 117, 118, 119, 120, 121, 122, 65, 66, 67, 68, 69, 70, 71, 72, 73, 74, 75, 76, 77, 78, 79, 80, 81, 82, 83, 84, 85, 86, 87, 88, 89, 90]⟩ c w
  rw [show decide (0 ≤ Lib.indexByte (ByteArray.mk #[97, 98, 99, 100, 101, 102, 103, 104, 105, 106, 107, 108, 109, 110, 111, 112, 113, 114, 115, 116, 117, 118, 119, 120, 121, 122, 65, 66, 67, 68, 69, 70, 71, 72, 73, 74, 75, 76, 77, 78, 79, 80, 81, 82, 83, 84, 85, 86, 87, 88, 89, 90]).data.toList c) = isLetter c from (Lib.contains_iff_indexByte _ _).symm] at h
  exact h
theorem trim_others (s : ByteArray) (w : World) (hs : s.size ≤ 140737488351232) : Calls Tryd.prog 58 #[.string s, .string ⟨#[97, 98, 99, 100, 101, 102, 103, 104, 105, 106, 107, 108, 109, 110, 111, 112, 113, 114, 115, 116, 117, 118, 119, 120, 121, 122, 65, 66, 67, 68, 69, 70, 71, 72, 73, 74, 75, 76, 77, 78, 79, 80, 81, 82, 83, 84, 85, 86, 87, 88, 89, 90, 48, 49, 50, 51, 52, 53, 54, 55, 56, 57, 95]⟩] w fun e w' => (∃ r : ByteArray, e = .returned (.string r) ∧ r.toList.isEmpty = allOther s.data.toList) ∧ Below w.heap.size w w' := by
  refine (Any.strings_Trim_laid Tryd.lays160 (by kernel_rfl) s ⟨#[97, 98, 99, 100, 101, 102, 103, 104, 105, 106, 107, 108, 109, 110, 111, 112, 113, 114, 115, 116, 117, 118, 119, 120, 121, 122, 65, 66, 67, 68, 69, 70, 71, 72, 73, 74, 75, 76, 77, 78, 79, 80, 81, 82, 83, 84, 85, 86, 87, 88, 89, 90, 48, 49, 50, 51, 52, 53, 54, 55, 56, 57, 95]⟩ w (by omega) (by decide) (ascii_of_all (by decide))).mono ?_
  rintro e w' ⟨rfl, hb⟩
  refine ⟨⟨_, rfl, ?_⟩, hb⟩
  rw [Lib.toList_data]
  exact trimS_isEmpty _ _

set_option maxRecDepth 100000 in
set_option maxHeartbeats 1000000 in
theorem named_calls (w : World) (s : ByteArray) :
    Calls Tryd.prog 49 #[.string s] w fun e w' => e = .returned (.bool (namedB s)) ∧ Below w.heap.size w w' := by
  rcases Nat.eq_zero_or_pos s.size with h0 | h0
  · obtain rfl : s = ByteArray.empty := by
      rcases s with ⟨⟨l⟩⟩
      simp [ByteArray.size] at h0
      subst h0
      rfl
    go_enter Tryd.func49, Tryd.ntmps49
    go_wp2
    go_ret
    exact ⟨rfl, Below.refl _ _⟩
  · have hlen : s.data.toList.length = s.size := rfl
    by_cases h32 : s.size ≤ 32
    · have hs : s.size ≤ 140737488351232 := by omega
      obtain ⟨c, l, hl⟩ : ∃ c l, s.data.toList = c :: l := by
        rcases h : s.data.toList with _ | ⟨c, l⟩
        · rw [h] at hlen
          simp at hlen
          omega
        · exact ⟨c, l, rfl⟩
      have hx : s.extract 0 1 = ⟨#[c]⟩ := WideShapes.bytes_inj (by rw [Lib.extract_data, hl]; rfl)
      have ht : ¬ s.toList = [] := by rw [Lib.toList_data, hl]; simp
      have hte : s.toList.isEmpty = false := by rw [Lib.toList_data, hl]; rfl
      have h64 : (s.size : Int) ≤ 32 := by omega
      have h65 : 1 ≤ (s.size : Int) := by omega
      have HN := Aside0.mk (show namedB s = (isLetter c && allOther s.data.toList) by
        unfold namedB namedL
        rw [hlen, decide_eq_true h32, decide_eq_true (by omega : 1 ≤ s.size), hl]
        rfl)
      clear hl hlen
      cases hb : isLetter c with
      | false =>
        go_enter Tryd.func49, Tryd.ntmps49
        go_wp2_with (go_at_call 57; refine (contains_letters c w).mono ?_; rintro e w' ⟨rfl, rfl⟩)
        go_ret
        refine ⟨?_, Below.refl _ _⟩
        rw [HN.out, hb]
        rfl
      | true =>
        go_enter Tryd.func49, Tryd.ntmps49
        go_wp2_with (first | (go_at_call 57; refine (contains_letters c w).mono ?_; rintro e w' ⟨rfl, rfl⟩) | (go_at_call 58; refine (trim_others s _ hs).mono ?_; rintro e w' ⟨⟨r, rfl, hr⟩, hbel⟩))
        go_ret
        refine ⟨?_, hbel⟩
        rw [HN.out, hb, Bool.true_and]
        rfl
    · have hx1 : ¬ (s.size : Int) ≤ 32 := by omega
      have ht : ¬ s.toList = [] := by
        rw [Lib.toList_data]
        intro h
        rw [h] at hlen
        simp at hlen
        omega
      have h1 : (namedB s) = false := by
        unfold namedB namedL
        rw [hlen, decide_eq_false h32]
        simp
      have HN := Aside0.mk h1
      have hte : s.toList.isEmpty = false := by simpa using ht
      clear h1 hlen
      go_enter Tryd.func49, Tryd.ntmps49
      go_wp2
      go_ret
      rw [HN.out]
      exact ⟨rfl, Below.refl _ _⟩

/-! ### may -/
abbrev Term.v0 (t : Term) : Bool := !t.f0 && t.f1 == 0
/-- A base type's names. -/
def baseB (s : ByteArray) : Bool := s.data.toList == [98, 111, 111, 108] || s.data.toList == [105, 110, 116] || s.data.toList == [116, 101, 120, 116] || s.data.toList == [117, 110, 105, 116]
set_option maxRecDepth 100000 in
set_option maxHeartbeats 1000000 in
theorem indexStr_calls (w : World) (A : Option Addr) (c : Nat) (xs : List ByteArray) (s : ByteArray) (hr : Kd.string.C w A xs.length xs) (hl : xs.length * 16 ≤ 140737488355328) :
    Calls Tryd.prog 64 #[.slice A xs.length c, .string s] w fun e w' => e = .returned (.int .i64 (fidx (fun x : ByteArray => s.toList == x.toList) xs)) ∧ w' = w := by
  have HR := Aside0.mk hr
  clear hr
  go_enter Tryd.func64, Tryd.ntmps64
  go_wp2
  go_loop [8] (fun i => ∃ k : Nat, i = .int .i64 k ∧ Aside0 (k ≤ xs.length ∧ ∀ x ∈ xs.take k, (s.toList == x.toList) = false)) (fun i => xs.length - (intOf i).toNat)
  case atStart => exact ⟨0, rfl, ⟨Nat.zero_le _, by simp⟩⟩
  case round =>
    obtain ⟨k, rfl, HK⟩ := hrel
    have hk := HK.out.1
    by_cases hlt : k < xs.length
    · obtain ⟨ad, rfl, hc⟩ := C_strN HR.out k hlt
      obtain ⟨x, hx⟩ : ∃ x, x = xs[k] := ⟨_, rfl⟩
      rw [← hx] at hc
      have HX := Aside0.mk hx
      clear hx
      cases h0 : s.toList == x.toList with
      | true =>
        go_wp2
        go_ret
        refine ⟨?_, rfl⟩
        rw [fidx_hit _ xs k hlt HK.out.2 (by rw [← HX.out]; exact h0)]
        rfl
      | false =>
        have HF := Aside0.mk h0
        go_wp2
        go_round
        case rel => exact ⟨k + 1, by go_num, ⟨by omega, take_all_snoc hlt HK.out.2 (by rw [← HX.out]; exact HF.out)⟩⟩
        case measure => simp [intOf]; omega
    · go_wp2
      go_ret
      refine ⟨?_, rfl⟩
      rw [fidx_none _ xs (by have h := HK.out.2; rw [List.take_of_length_le (by omega)] at h; exact h)]
      rfl
def baseNames : List ByteArray := [⟨#[98, 111, 111, 108]⟩, ⟨#[105, 110, 116]⟩, ⟨#[116, 101, 120, 116]⟩, ⟨#[117, 110, 105, 116]⟩]
theorem baseB_any (s : ByteArray) : decide (0 ≤ fidx (fun x : ByteArray => s.toList == x.toList) baseNames) = baseB s := by
  rw [fidx_ge]
  unfold baseB baseNames
  simp only [List.any_cons, List.any_nil, Lib.toList_data, Bool.or_false, Bool.or_assoc]
set_option maxRecDepth 100000 in
set_option maxHeartbeats 1000000 in
theorem base_calls (s : ByteArray) (w : World) : Calls Tryd.prog 48 #[.string s] w fun e w' => e = .returned (.bool (baseB s)) ∧ Below w.heap.size w w' := by
  go_enter Tryd.func48, Tryd.ntmps48
  go_wp2_with (first | (go_at_call 56; go_in) | (go_at_call 64; refine (indexStr_calls _ (some ⟨w.heap.size, 0, none⟩) 4 baseNames s (C_lit Value.string (fun _ => rfl) w baseNames 9 (by decide)) (by decide)).mono ?_; rintro e w' ⟨rfl, rfl⟩))
  go_ret
  refine ⟨?_, below_alloc (Below.refl _ _) _⟩
  rw [← baseB_any]
  rfl
def zeroT (t : Term) : Bool := !t.f0 && t.f1 == 0
/-- A node's cells. -/
def nodeV (n : Node) : Value := .agg #[.int .u8 n.f0, .int .i64 n.f1, .string n.f2, .int .i64 n.f3, .bool n.f4.f0, .int .u64 n.f4.f1, .bool n.f5.f0, .int .u64 n.f5.f1, .bool n.f6.f0, .int .u64 n.f6.f1]
/-- May a node be, of this kind, module, name, with so many below it, and these PC and E? -/
def mayV (k m : Int) (s : ByteArray) (d : Int) (pv : Bool) (p : Int) (ev : Bool) (e : Int) : Bool :=
  if k = 1 then decide (m = 0) && baseB s && decide (d = 0) && (!pv && p == 0) && (!ev && e == 0)
  else if k = 2 then decide (0 ≤ m) && decide (m ≤ 16) && namedB s && decide (d = 0) && (!pv && p == 0) && (!ev && e == 0)
  else if k = 3 then s.toList.isEmpty && decide (m = 0) && decide (0 ≤ d) && (!pv && p == 0) && (!ev && e == 0)
  else if k = 4 then s.toList.isEmpty && decide (m = 0) && decide (d = 1) && (!pv && p == 0) && (!ev && e == 0)
  else if k = 5 then s.toList.isEmpty && decide (m = 0) && decide (d = 2)
  else false
def mayB (n : Node) : Bool := mayV n.f0 n.f1 n.f2 n.f3 n.f5.f0 n.f5.f1 n.f6.f0 n.f6.f1
theorem ret_bool {a b : Bool} (h : a = b) : Ending.returned (.bool a) = .returned (.bool b) := by rw [h]

theorem eqTerm (d : Nat) (w : World) (x0 y0 : Bool) (x1 y1 : Int) :
    (Op.equalIn (d + 2) 34 (.agg #[.bool x0, .int .u64 x1]) (.agg #[.bool y0, .int .u64 y1])).run Tryd.prog w = .ok (x0 == y0 && (x1 == y1)) w := by
  refine eqA_of Tryd.underlying34 (by kernel_rfl) ?_
  refine eqf_cons (by rfl) (by go_simp; rfl) (by go_simp; rfl) (by go_simp) ?_
  exact eqf_last (by rfl) (by go_simp; rfl) (by go_simp; rfl) (by go_simp)
def kidsE1 : Array MapEntry := #[{ key := .int .u8 4, val := .int .i64 1, born := 0 }]
def kidsE2 : Array MapEntry := #[{ key := .int .u8 4, val := .int .i64 1, born := 0 }, { key := .int .u8 5, val := .int .i64 2, born := 1 }]
theorem kids_make (W : World) : (Instr.makeMap 80 none).run Tryd.prog W = .ok (.map (some W.heap.size)) (W.alloc (.map #[] 0)) := rfl
theorem kids_upd1 (W : World) (o : Obj) : (Instr.mapUpdate 80 (.map (some (W.heap.size + 1))) (.int .u8 4) (.int .i64 1)).run Tryd.prog ((W.alloc o).alloc (.map #[] 0)) = .ok () ((W.alloc o).alloc (.map kidsE1 1)) := by
  have h := run_mapUpdate_last (P := Tryd.prog) (W.alloc o) 80 31 3 .u8 (by kernel_rfl) (by kernel_rfl) #[] 0 4 (.int .i64 1) rfl
  simpa [kidsE1] using h
theorem kids_upd2 (W : World) (o : Obj) : (Instr.mapUpdate 80 (.map (some (W.heap.size + 1))) (.int .u8 5) (.int .i64 2)).run Tryd.prog ((W.alloc o).alloc (.map kidsE1 1)) = .ok () ((W.alloc o).alloc (.map kidsE2 2)) := by
  have h := run_mapUpdate_last (P := Tryd.prog) (W.alloc o) 80 31 3 .u8 (by kernel_rfl) (by kernel_rfl) kidsE1 1 5 (.int .i64 2) rfl
  simpa [kidsE1, kidsE2] using h
theorem kids_look4 (W : World) (o : Obj) : (Instr.lookup 80 (.map (some (W.heap.size + 1))) (.int .u8 4) true).run Tryd.prog ((W.alloc o).alloc (.map kidsE2 2)) = .ok (.tuple #[.int .i64 1, .bool true]) ((W.alloc o).alloc (.map kidsE2 2)) := by
  have h := run_lookup_last (P := Tryd.prog) (W.alloc o) 80 31 3 .u8 (by kernel_rfl) (by kernel_rfl) kidsE2 2 4 (.int .i64 1) 0 rfl
  simpa using h
theorem kids_look5 (W : World) (o : Obj) : (Instr.lookup 80 (.map (some (W.heap.size + 1))) (.int .u8 5) true).run Tryd.prog ((W.alloc o).alloc (.map kidsE2 2)) = .ok (.tuple #[.int .i64 2, .bool true]) ((W.alloc o).alloc (.map kidsE2 2)) := by
  have h := run_lookup_last (P := Tryd.prog) (W.alloc o) 80 31 3 .u8 (by kernel_rfl) (by kernel_rfl) kidsE2 2 5 (.int .i64 2) 1 rfl
  simpa using h
theorem kids_look3 (W : World) (o : Obj) : (Instr.lookup 80 (.map (some (W.heap.size + 1))) (.int .u8 3) true).run Tryd.prog ((W.alloc o).alloc (.map kidsE2 2)) = .ok (.tuple #[.int .i64 0, .bool false]) ((W.alloc o).alloc (.map kidsE2 2)) := by
  have h := run_lookup_none (P := Tryd.prog) (W.alloc o) 80 31 3 .u8 (.int .i64 0) (by kernel_rfl) (by kernel_rfl) kidsE2 2 3 rfl (fun w => by kernel_rfl)
  simpa using h

attribute [local go_sem high] eqTerm
set_option maxRecDepth 100000 in
set_option maxHeartbeats 4000000 in
theorem may_calls (k m d : Int) (s : ByteArray) (lv pv ev : Bool) (l p e : Int) (w : World) :
    Calls Tryd.prog 36 #[.agg #[.int .u8 k, .int .i64 m, .string s, .int .i64 d, .bool lv, .int .u64 l, .bool pv, .int .u64 p, .bool ev, .int .u64 e]] w fun e' w' => e' = .returned (.bool (mayV k m s d pv p ev e)) ∧ Below w.heap.size w w' := by
  have h1 := kids_make
  have h2 := kids_upd1
  have h3 := kids_upd2
  by_cases hk1 : k = 1
  · subst hk1
    have hb : ∃ b, b = baseB s := ⟨_, rfl⟩
    obtain ⟨b, hb⟩ := hb
    have HB := Aside0.mk hb
    clear hb
    cases b
    all_goals
      go_enter Tryd.func36, Tryd.ntmps36
      go_wp2_with (go_at_call 48; refine (base_calls s _).mono ?_; rintro e' w' ⟨rfl, hb⟩; rw [← HB.out]; have HBel := Aside0.mk hb; obtain ⟨hc, hf⟩ := bcell hb; clear hb)
      all_goals
        go_ret
        refine ⟨ret_bool ?_, by repeat (first | exact Below.refl _ _ | exact below_step (below_alloc (Below.refl _ _) _) HBel.out | apply below_alloc)⟩
        unfold mayV
        rw [← HB.out]
        simp_all
  by_cases hk2 : k = 2
  · subst hk2
    have hb : ∃ b, b = namedB s := ⟨_, rfl⟩
    obtain ⟨b, hb⟩ := hb
    have HB := Aside0.mk hb
    clear hb
    cases b
    all_goals
      go_enter Tryd.func36, Tryd.ntmps36
      go_wp2_with (go_at_call 49; refine (named_calls _ s).mono ?_; rintro e' w' ⟨rfl, hb⟩; rw [← HB.out]; have HBel := Aside0.mk hb; obtain ⟨hc, hf⟩ := bcell hb; clear hb)
      all_goals
        go_ret
        refine ⟨ret_bool ?_, by repeat (first | exact Below.refl _ _ | exact below_step (below_alloc (Below.refl _ _) _) HBel.out | apply below_alloc)⟩
        unfold mayV
        rw [← HB.out]
        first | (simp_all; done) | (simp_all; intros; omega) | omega
  by_cases hk3 : k = 3
  · subst hk3
    have h4 := kids_look3
    go_enter Tryd.func36, Tryd.ntmps36
    go_wp2
    all_goals
      go_ret
      exact ⟨ret_bool (by first | (simp_all [mayV]; done) | (simp_all [mayV]; intros; omega)), by repeat (first | exact Below.refl _ _ | apply below_alloc)⟩
  by_cases hk4 : k = 4
  · subst hk4
    have h4 := kids_look4
    go_enter Tryd.func36, Tryd.ntmps36
    go_wp2
    all_goals
      go_ret
      exact ⟨ret_bool (by first | (simp_all [mayV]; done) | (simp_all [mayV]; intros; omega)), by repeat (first | exact Below.refl _ _ | apply below_alloc)⟩
  by_cases hk5 : k = 5
  · subst hk5
    have h4 := kids_look5
    go_enter Tryd.func36, Tryd.ntmps36
    go_wp2
    all_goals
      go_ret
      exact ⟨ret_bool (by first | (simp_all [mayV]; done) | (simp_all [mayV]; intros; omega)), by repeat (first | exact Below.refl _ _ | apply below_alloc)⟩
  have HS := Aside0.mk (show mayV k m s d pv p ev e = false by unfold mayV; rw [if_neg hk1, if_neg hk2, if_neg hk3, if_neg hk4, if_neg hk5])
  have e1 : (k == 1) = false := beq_eq_false_iff_ne.mpr hk1
  have e2 : (k == 2) = false := beq_eq_false_iff_ne.mpr hk2
  have e3 : (k == 3) = false := beq_eq_false_iff_ne.mpr hk3
  have e4 : (k == 4) = false := beq_eq_false_iff_ne.mpr hk4
  have e5 : (k == 5) = false := beq_eq_false_iff_ne.mpr hk5
  clear hk1 hk2 hk3 hk4 hk5
  go_enter Tryd.func36, Tryd.ntmps36
  go_wp2
  go_ret
  rw [HS.out]
  exact ⟨rfl, by repeat (first | exact Below.refl _ _ | apply below_alloc)⟩
end Go.Proofs.YtoohandacpalpaaDoor
