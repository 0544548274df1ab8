import Derived.Test.YtoohandacpalpaaDoorTyT
namespace Go.Proofs.YtoohandacpalpaaDoor
open Go.RowKit Go.Shelf Go.Proofs.YtoohandacpalpaaDoorW.PrintWords Go.Proofs.YtoohandacpalpaaDoorW.PrintLast Go.Proofs.YtoohandacpalpaaDoorW.PrintMore
set_option linter.unusedVariables false
set_option linter.unusedSimpArgs false

/-- The list in a new box. -/
theorem OpenAt.rebox {w : World} {B b : Nat} {xs : List Int} {v : Value} (hB : B ≤ w.heap.size) (h3 : (Kd.int .i64).R 3 w B (fun k => k ≠ b) v xs) : OpenAt (w.alloc (.cells #[v] 59)) B w.heap.size xs :=
  ⟨v, blk_new _ _, hB, Kd.R_below (Kd.R_mono (Kd.R_bound h3) (fun k hk => by have := hk.2.2.1; omega)) (below_alloc (Below.refl _ _) _)⟩

set_option maxRecDepth 100000 in
set_option maxHeartbeats 4000000 in
theorem deep_calls (w : World) (A : Option Addr) (c : Nat) (body : List Node) (hr : Kd.C kNode w A body.length body) :
    Calls Tryd.prog 18 #[.slice A body.length c] w fun e w' => e = .returned (.int .i64 (deepB body)) ∧ Below w.heap.size w w' := by
  by_cases hcz : checkB body = 0
  · have hl128 : body.length ≤ 128 := ((check_iff body).1 hcz).1
    have HS := Aside0.mk (show deepB body = deepL body [1] 0 by unfold deepB; rw [if_pos hcz])
    have HC := Aside0.mk (check_calls w A c body hr)
    rw [hcz] at HC
    have HR := Aside0.mk hr
    clear hr hcz
    go_enter Tryd.func18, Tryd.ntmps18
    go_wp2_with (go_at_call 14; refine HC.out.mono ?_; rintro e w0 ⟨rfl, hb0⟩; have HB0 := Aside0.mk hb0; clear hb0)
    go_loopg [2, 12] 129 (fun g d i W => ∃ (k : Nat) (xs : List Int) (dd : Int), i = .int .i64 k ∧ d = .int .i64 dd ∧ Aside0 (k ≤ body.length ∧ 129 - k ≤ g ∧ xs.length ≤ k + 1 ∧ deepL (body.drop k) xs dd = deepL body [1] 0) ∧ Aside0 (OpenAt W w0.heap.size (w0.heap.size + 1) xs) ∧ Aside0 (Below w0.heap.size w0 W ∧ w0.heap.size + 2 ≤ W.heap.size))
    case atStart => exact ⟨0, [1], 0, rfl, rfl, ⟨Nat.zero_le _, by omega, by simp, rfl⟩, ⟨OpenAt.new w0⟩, ⟨by repeat (first | exact Below.refl _ _ | apply below_alloc), by simp⟩⟩
    case round =>
      obtain ⟨k, xs, dd, rfl, rfl, HK, HO, HB⟩ := hrel
      have hk := HK.out.1
      by_cases hlt : k < body.length
      · obtain ⟨ad, rfl, c0, c1, c2, c3, c4, c5, c6, c7, c8, c9⟩ := C_nodeN (Kd.C_below (Kd.C_below HR.out HB0.out) HB.out.1) k hlt
        obtain ⟨n, hn⟩ : ∃ n, n = body[k] := ⟨_, rfl⟩
        rw [← hn] at c0 c1 c2 c3 c4 c5 c6 c7 c8 c9
        have HN := Aside0.mk hn
        clear hn
        obtain ⟨d, hd⟩ : ∃ d, d = (takes xs n.f3).1 := ⟨_, rfl⟩
        obtain ⟨ys, hys⟩ : ∃ ys, ys = (takes xs n.f3).2 := ⟨_, rfl⟩
        have HD := Aside0.mk hd
        have HY := Aside0.mk hys
        have hlx := HK.out.2.2.1
        have HT : Aside0 (∀ W : World, OpenAt W w0.heap.size (w0.heap.size + 1) xs → w0.heap.size ≤ W.heap.size → Calls Tryd.prog 35 #[.pointer (some ⟨w0.heap.size + 1, 0, none⟩), .int .i64 n.f3] W fun e w' => e = .returned (.int .i64 d) ∧ OpenAt w' w0.heap.size (w0.heap.size + 1) ys ∧ Kept W w' (OpenS W w0.heap.size) ∧ Below w0.heap.size W w') :=
          ⟨fun W h1 h2 => by rw [hd, hys]; exact takes_calls W _ _ xs n.f3 h2 h1 (by omega)⟩
        clear hd hys hlx
        go_wp2_with (go_at_call 35; refine (HT.out _ (HO.out.alloc _) (by have := HB.out; simp; omega)).mono ?_; rintro e w1 ⟨rfl, hO1, hK1, hB1⟩; have HO1 := Aside0.mk hO1; have HB1 : Aside0 (Below w0.heap.size w0 w1 ∧ w0.heap.size + 2 ≤ w1.heap.size) := ⟨(below_step' HB.out.1 _).trans hB1, by have h1 := HB.out.2; have h2 := hK1.1; simp at h2; omega⟩; clear hO1 hK1 hB1)
        go_roundg (gk - 1)
        case measure => have := HK.out; omega
        case rel =>
          have hkk := HK.out
          have hl1 := takes_len xs n.f3
          refine ⟨k + 1, ys, max dd d, by go_num, rfl, ⟨by omega, by omega, by rw [HY.out]; omega, ?_⟩, HO1, HB1⟩
          rw [← hkk.2.2.2, List.drop_eq_getElem_cons hlt, deepL, ← HN.out, ← HD.out, ← HY.out]
      · have hd1 : decide (k < body.length) = false := decide_eq_false hlt
        have hkl : body.drop k = [] := List.drop_eq_nil_of_le (by omega)
        have HE := Aside0.mk (show deepB body = dd by rw [HS.out, ← HK.out.2.2.2, hkl, deepL])
        clear hkl
        go_wp2
        go_ret
        rw [HE.out]
        exact ⟨rfl, below_step HB0.out HB.out.1⟩
  · have HS := Aside0.mk (show deepB body = 0 by unfold deepB; rw [if_neg hcz])
    have HC := Aside0.mk (check_calls w A c body hr)
    obtain ⟨q, hq⟩ : ∃ q, q = checkB body := ⟨_, rfl⟩
    rw [← hq] at HC
    have e0 : (q != 0) = true := bne_iff_ne.mpr (by rw [hq]; exact hcz)
    clear hq hcz
    go_enter Tryd.func18, Tryd.ntmps18
    go_wp2_with (go_at_call 14; refine HC.out.mono ?_; rintro e w0 ⟨rfl, hb0⟩; have HB0 := Aside0.mk hb0; clear hb0)
    go_ret
    rw [HS.out]
    exact ⟨rfl, HB0.out⟩

set_option maxRecDepth 100000 in
set_option maxHeartbeats 4000000 in
theorem end_calls (w : World) (A : Option Addr) (c : Nat) (body : List Node) (at_ : Int) (hr : Kd.C kNode w A body.length body) :
    Calls Tryd.prog 16 #[.slice A body.length c, .int .i64 at_] w fun e w' => e = .returned (.int .i64 (endB body at_)) ∧ Below w.heap.size w w' := by
  by_cases h0 : at_ < 0
  · have HS := Aside0.mk (show endB body at_ = 0 by unfold endB; rw [if_pos h0])
    go_enter Tryd.func16, Tryd.ntmps16
    go_wp2
    go_ret
    rw [HS.out]
    exact ⟨rfl, Below.refl _ _⟩
  have g0 : decide (at_ < 0) = false := decide_eq_false h0
  by_cases h1 : at_ ≥ body.length
  · have HS := Aside0.mk (show endB body at_ = 0 by unfold endB; rw [if_neg h0, if_pos h1])
    have g1 : decide ((body.length : Int) ≤ at_) = true := decide_eq_true h1
    clear h0 h1
    go_enter Tryd.func16, Tryd.ntmps16
    go_wp2
    go_ret
    rw [HS.out]
    exact ⟨rfl, Below.refl _ _⟩
  have g1 : decide ((body.length : Int) ≤ at_) = false := decide_eq_false h1
  by_cases hcz : checkB body = 0
  · have hl128 : body.length ≤ 128 := ((check_iff body).1 hcz).1
    obtain ⟨p, rfl⟩ : ∃ p : Nat, at_ = p := ⟨at_.toNat, by omega⟩
    have hp : p < body.length := by omega
    obtain ⟨m, hen, hle, hend⟩ : ∃ m, endL (body.drop p) [1] = some m ∧ p + m ≤ body.length ∧ endB body p = ((p + m : Nat) : Int) := by
      obtain ⟨s, hs, hd, hle, hend, _, _, _⟩ := tree_at body hcz p hp
      exact ⟨s.flat.length, by rw [hd]; exact endL_tree s hs _, hle, hend⟩
    have HE := Aside0.mk hen
    have HS := Aside0.mk hend
    have HC := Aside0.mk (check_calls w A c body hr)
    rw [hcz] at HC
    have HR := Aside0.mk hr
    have g2 : decide (body.length ≤ p) = false := decide_eq_false (by omega)
    clear hr hcz hend hen h0 h1
    go_enter Tryd.func16, Tryd.ntmps16
    go_wp2_with (go_at_call 14; refine HC.out.mono ?_; rintro e w0 ⟨rfl, hb0⟩; have HB0 := Aside0.mk hb0; clear hb0)
    go_loopg [1, 5] 129 (fun g i q W => ∃ (k b : Nat) (xs : List Int), i = .int .i64 k ∧ q = .pointer (some ⟨b, 0, none⟩) ∧ Aside0 (p ≤ k ∧ k ≤ body.length ∧ 129 - k ≤ g ∧ xs.length ≤ k + 1 ∧ (endL (body.drop k) xs).map (fun j => k + j) = some (p + m)) ∧ Aside0 (OpenAt W w0.heap.size b xs) ∧ Aside0 (Below w0.heap.size w0 W ∧ w0.heap.size + 2 ≤ W.heap.size))
    case atStart => exact ⟨p, w0.heap.size + 1, [1], rfl, by simp, ⟨Nat.le_refl _, by omega, by omega, by simp, by rw [HE.out]; rfl⟩, ⟨OpenAt.new w0⟩, ⟨by repeat (first | exact Below.refl _ _ | apply below_alloc), by simp⟩⟩
    case round =>
      obtain ⟨k, b, xs, rfl, rfl, HK, HO, HB⟩ := hrel
      have hk := HK.out.2.1
      obtain ⟨v, hb, hBb, HRo⟩ := HO.out
      obtain ⟨A0, c0, rfl⟩ := Kd.R_slice HRo
      have hcell := blk_cell hb 0
      have HCo := Aside0.mk (Kd.R_reads' HRo).2.2
      clear hb HRo
      have hx : xs.length * 8 ≤ 140737488355328 := by have := HK.out; omega
      obtain ⟨f, hf⟩ : ∃ f, f = xs.any (fun x => decide (x > 0)) := ⟨_, rfl⟩
      have HFF := Aside0.mk hf
      have HFU := Aside0.mk (full_calls wr A0 c0 xs HCo.out hx)
      rw [← hf] at HFU
      clear hf
      cases f with
      | false =>
        have HKM := Aside0.mk (show (k : Int) = ((p + m : Nat) : Int) by
          have h2 := HK.out.2.2.2.2
          rw [endL_stop _ _ HFF.out.symm] at h2
          simp at h2
          omega)
        go_wp2_with (go_at_call 37; refine HFU.out.mono ?_; rintro e w1 ⟨rfl, rfl⟩)
        go_ret
        refine ⟨?_, below_step HB0.out HB.out.1⟩
        rw [HS.out, ← HKM.out]
        rfl
      | true =>
        have hlt : k < body.length := by
          have h2 := HK.out.2.2.2.2
          rcases Nat.lt_or_ge k body.length with h | h
          · exact h
          · rw [List.drop_eq_nil_of_le (by omega), endL, if_pos HFF.out.symm] at h2
            simp at h2
        obtain ⟨ad, rfl, c0', c1, c2, c3, c4, c5, c6, c7, c8, c9⟩ := C_nodeN (Kd.C_below (Kd.C_below HR.out HB0.out) HB.out.1) k hlt
        obtain ⟨n, hn⟩ : ∃ n, n = body[k] := ⟨_, rfl⟩
        rw [← hn] at c3
        have HN := Aside0.mk hn
        clear hn c0' c1 c2 c4 c5 c6 c7 c8 c9
        obtain ⟨d, hd⟩ : ∃ d, d = (takes xs n.f3).1 := ⟨_, rfl⟩
        obtain ⟨ys, hys⟩ : ∃ ys, ys = (takes xs n.f3).2 := ⟨_, rfl⟩
        have HD := Aside0.mk hd
        have HY := Aside0.mk hys
        have hlx := HK.out.2.2.2.1
        have HT : Aside0 (∀ W : World, OpenAt W w0.heap.size b xs → w0.heap.size ≤ W.heap.size → Calls Tryd.prog 35 #[.pointer (some ⟨b, 0, none⟩), .int .i64 n.f3] W fun e w' => e = .returned (.int .i64 d) ∧ OpenAt w' w0.heap.size b ys ∧ Kept W w' (OpenS W w0.heap.size) ∧ Below w0.heap.size W w') :=
          ⟨fun W h1 h2 => by rw [hd, hys]; exact takes_calls W _ _ xs n.f3 h2 h1 (by omega)⟩
        clear hd hys hlx
        go_wp2_with (first | (go_at_call 37; refine HFU.out.mono ?_; rintro e w1 ⟨rfl, rfl⟩) | (go_at_call 35; refine (HT.out _ HO.out (by have := HB.out; omega)).mono ?_; rintro e w2 ⟨rfl, hO1, hK1, hB1⟩; have HB1 : Aside0 (Below w0.heap.size w0 w2 ∧ w0.heap.size + 2 ≤ w2.heap.size) := ⟨HB.out.1.trans hB1, by have h1 := HB.out.2; have h2 := hK1.1; omega⟩; obtain ⟨v2, hb2, hBb2, HR2⟩ := hO1; have hcell2 := blk_cell hb2 0; obtain ⟨A2, c2, rfl⟩ := Kd.R_slice HR2; have HO1 := Aside0.mk HR2; clear hK1 hB1 hb2 HR2))
        go_roundg (gk - 1)
        case measure => have := HK.out; omega
        case rel =>
          have hkk := HK.out
          have hl1 := takes_len xs n.f3
          refine ⟨k + 1, _, ys, by go_num, rfl, ⟨by omega, by omega, by omega, by rw [HY.out]; omega, ?_⟩, ⟨OpenAt.rebox (by have := HB1.out.2; omega) HO1.out⟩, ⟨below_step' HB1.out.1 _, by have := HB1.out.2; simp; omega⟩⟩
          have h2 := hkk.2.2.2.2
          rw [List.drop_eq_getElem_cons hlt, endL, if_pos HFF.out.symm, ← HN.out, ← HY.out, Option.map_map] at h2
          rw [← h2]
          congr 1
          funext j
          simp
          omega
  · have HS := Aside0.mk (show endB body at_ = 0 by unfold endB; rw [if_neg h0, if_neg h1, if_neg hcz])
    have HC := Aside0.mk (check_calls w A c body hr)
    obtain ⟨q, hq⟩ : ∃ q, q = checkB body := ⟨_, rfl⟩
    rw [← hq] at HC
    have e0 : (q != 0) = true := bne_iff_ne.mpr (by rw [hq]; exact hcz)
    clear hq hcz h0 h1
    go_enter Tryd.func16, Tryd.ntmps16
    go_wp2_with (go_at_call 14; refine HC.out.mono ?_; rintro e w0 ⟨rfl, hb0⟩; have HB0 := Aside0.mk hb0; clear hb0)
    go_ret
    rw [HS.out]
    exact ⟨rfl, HB0.out⟩

/-! ### Same -/
/-- Are two nodes the same, but for their terms? -/
def sameN (x y : Node) : Bool := x.f0 == y.f0 && x.f1 == y.f1 && x.f2.toList == y.f2.toList && x.f3 == y.f3
def sameV (k m : Int) (s : ByteArray) (d : Int) (k2 m2 : Int) (s2 : ByteArray) (d2 : Int) : Bool := k == k2 && m == m2 && s.toList == s2.toList && d == d2
def sameL : List Node → List Node → Bool
  | [], [] => true
  | x :: xs, y :: ys => sameN x y && sameL xs ys
  | _, _ => false
set_option maxRecDepth 100000 in
set_option maxHeartbeats 4000000 in
theorem same1_calls (k m d : Int) (s : ByteArray) (lv pv ev : Bool) (l p e : Int) (k2 m2 d2 : Int) (s2 : ByteArray) (lv2 pv2 ev2 : Bool) (l2 p2 e2 : Int) (w : World) :
    Calls Tryd.prog 40 #[.agg #[.int .u8 k, .int .i64 m, .string s, .int .i64 d, .bool lv, .int .u64 l, .bool pv, .int .u64 p, .bool ev, .int .u64 e], .agg #[.int .u8 k2, .int .i64 m2, .string s2, .int .i64 d2, .bool lv2, .int .u64 l2, .bool pv2, .int .u64 p2, .bool ev2, .int .u64 e2]] w fun e' w' => e' = .returned (.bool (sameV k m s d k2 m2 s2 d2)) ∧ Below w.heap.size w w' := by
  go_enter Tryd.func40, Tryd.ntmps40
  go_wp2
  all_goals
    go_ret
    exact ⟨ret_bool (by simp_all [sameV]), by repeat (first | exact Below.refl _ _ | apply below_alloc)⟩
theorem sameL_len : ∀ (xs ys : List Node), xs.length ≠ ys.length → sameL xs ys = false
  | [], [], h => absurd rfl h
  | [], _ :: _, _ => rfl
  | _ :: _, [], _ => rfl
  | x :: xs, y :: ys, h => by rw [sameL, sameL_len xs ys (by simpa using h), Bool.and_false]
set_option maxRecDepth 100000 in
set_option maxHeartbeats 4000000 in
theorem equalSame_calls (w : World) (A A2 : Option Addr) (c c2 : Nat) (xs ys : List Node) (hr : Kd.C kNode w A xs.length xs) (hr2 : Kd.C kNode w A2 ys.length ys) :
    Calls Tryd.prog 39 #[.slice A xs.length c, .slice A2 ys.length c2, .func (.func 40) #[] #[]] w fun e w' => e = .returned (.bool (sameL xs ys)) ∧ Below w.heap.size w w' := by
  have hm1 : xs.length ≤ 9223372036854775807 := hr.2.1
  have hm2 : ys.length ≤ 9223372036854775807 := hr2.2.1
  by_cases hl : xs.length = ys.length
  · have g0 : ((xs.length : Int) != (ys.length : Int)) = false := bne_eq_false_iff_eq.mpr (by omega)
    have HR := Aside0.mk hr
    have HR2 := Aside0.mk hr2
    have HL := Aside0.mk hl
    clear hr hr2 hl
    go_enter Tryd.func39, Tryd.ntmps39
    go_wp2
    go_loopg [17] (xs.length + 1) (fun g i W => ∃ (k : Nat), i = .int .i64 k ∧ Aside0 (k ≤ xs.length ∧ xs.length + 1 - k ≤ g ∧ sameL (xs.drop k) (ys.drop k) = sameL xs ys) ∧ Aside0 (Below w.heap.size w W))
    case atStart => exact ⟨0, rfl, ⟨Nat.zero_le _, by omega, rfl⟩, ⟨Below.refl _ _⟩⟩
    case round =>
      obtain ⟨k, rfl, HK, HB⟩ := hrel
      have hk := HK.out.1
      by_cases hlt : k < xs.length
      · have hlt2 : k < ys.length := by have := HL.out; omega
        obtain ⟨ad, rfl, c0, c1, c2', c3, c4, c5, c6, c7, c8, c9⟩ := C_nodeN (Kd.C_below HR.out HB.out) k hlt
        obtain ⟨bd, rfl, d0, d1, d2, d3, d4, d5, d6, d7, d8, d9⟩ := C_nodeN (Kd.C_below HR2.out HB.out) k hlt2
        obtain ⟨n, hn⟩ : ∃ n, n = xs[k] := ⟨_, rfl⟩
        obtain ⟨m, hm⟩ : ∃ m, m = ys[k] := ⟨_, rfl⟩
        rw [← hn] at c0 c1 c2' c3 c4 c5 c6 c7 c8 c9
        rw [← hm] at d0 d1 d2 d3 d4 d5 d6 d7 d8 d9
        have d0' := fun o => pw_cell_below (below_alloc (Below.refl wr.heap.size wr) o) d0
        have d1' := fun o => pw_cell_below (below_alloc (Below.refl wr.heap.size wr) o) d1
        have d2' := fun o => pw_cell_below (below_alloc (Below.refl wr.heap.size wr) o) d2
        have d3' := fun o => pw_cell_below (below_alloc (Below.refl wr.heap.size wr) o) d3
        have d4' := fun o => pw_cell_below (below_alloc (Below.refl wr.heap.size wr) o) d4
        have d5' := fun o => pw_cell_below (below_alloc (Below.refl wr.heap.size wr) o) d5
        have d6' := fun o => pw_cell_below (below_alloc (Below.refl wr.heap.size wr) o) d6
        have d7' := fun o => pw_cell_below (below_alloc (Below.refl wr.heap.size wr) o) d7
        have d8' := fun o => pw_cell_below (below_alloc (Below.refl wr.heap.size wr) o) d8
        have d9' := fun o => pw_cell_below (below_alloc (Below.refl wr.heap.size wr) o) d9
        have HN := Aside0.mk hn
        have HM := Aside0.mk hm
        clear hn hm d0 d1 d2 d3 d4 d5 d6 d7 d8 d9
        obtain ⟨r, hr⟩ : ∃ r, r = sameN n m := ⟨_, rfl⟩
        have HRR := Aside0.mk hr
        have HS : Aside0 (∀ W : World, Calls Tryd.prog 40 #[.agg #[.int .u8 n.f0, .int .i64 n.f1, .string n.f2, .int .i64 n.f3, .bool n.f4.f0, .int .u64 n.f4.f1, .bool n.f5.f0, .int .u64 n.f5.f1, .bool n.f6.f0, .int .u64 n.f6.f1], .agg #[.int .u8 m.f0, .int .i64 m.f1, .string m.f2, .int .i64 m.f3, .bool m.f4.f0, .int .u64 m.f4.f1, .bool m.f5.f0, .int .u64 m.f5.f1, .bool m.f6.f0, .int .u64 m.f6.f1]] W fun e' w' => e' = .returned (.bool r) ∧ Below W.heap.size W w') :=
          ⟨fun W => by rw [hr]; exact same1_calls _ _ _ _ _ _ _ _ _ _ _ _ _ _ _ _ _ _ _ _ W⟩
        have HD := Aside0.mk (show sameL xs ys = (r && sameL (xs.drop (k + 1)) (ys.drop (k + 1))) by
          rw [← HK.out.2.2, List.drop_eq_getElem_cons hlt, List.drop_eq_getElem_cons hlt2, sameL, ← HN.out, ← HM.out, hr])
        clear hr
        cases r
        all_goals go_wp2_with (go_at_call 40; refine (HS.out _).mono ?_; rintro e w1 ⟨rfl, hB1⟩; have HB1 := Aside0.mk hB1; clear hB1)
        · go_ret
          refine ⟨?_, below_step (below_step' (below_step' HB.out _) _) HB1.out⟩
          rw [HD.out]
          rfl
        · go_roundg (gk - 1)
          case measure => have := HK.out; omega
          case rel => exact ⟨k + 1, by go_num, ⟨by omega, by have := HK.out; omega, by rw [HD.out, Bool.true_and]⟩, ⟨below_step (below_step' (below_step' HB.out _) _) HB1.out⟩⟩
      · have hd1 : decide (k < xs.length) = false := decide_eq_false hlt
        have HE := Aside0.mk (show sameL xs ys = true by
          have := HL.out
          rw [← HK.out.2.2, List.drop_eq_nil_of_le (by omega), List.drop_eq_nil_of_le (by omega)]; rfl)
        go_wp2
        go_ret
        rw [HE.out]
        exact ⟨rfl, HB.out⟩
  · have g0 : ((xs.length : Int) != (ys.length : Int)) = true := bne_iff_ne.mpr (by omega)
    have HE := Aside0.mk (sameL_len xs ys hl)
    clear hl
    go_enter Tryd.func39, Tryd.ntmps39
    go_wp2
    go_ret
    rw [HE.out]
    exact ⟨rfl, Below.refl _ _⟩
theorem same_calls (w : World) (A A2 : Option Addr) (c c2 : Nat) (xs ys : List Node) (hr : Kd.C kNode w A xs.length xs) (hr2 : Kd.C kNode w A2 ys.length ys) :
    Calls Tryd.prog 20 #[.slice A xs.length c, .slice A2 ys.length c2] w fun e w' => e = .returned (.bool (sameL xs ys)) ∧ Below w.heap.size w w' := by
  go_enter Tryd.func20, Tryd.ntmps20
  go_wp2_with (go_at_call 39; refine (equalSame_calls w A A2 c c2 xs ys hr hr2).mono ?_; rintro e w1 ⟨rfl, hB1⟩)
  go_ret
  exact ⟨rfl, hB1⟩
end Go.Proofs.YtoohandacpalpaaDoor
