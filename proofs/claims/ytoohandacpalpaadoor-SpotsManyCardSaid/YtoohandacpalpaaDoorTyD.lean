import Derived.Test.YtoohandacpalpaaDoorTyC
namespace Go.Proofs.YtoohandacpalpaaDoor
open Go.RowKit Go.Shelf Go.Proofs.YtoohandacpalpaaDoorW.PrintWords Go.Proofs.YtoohandacpalpaaDoorW.PrintLast Go.Proofs.YtoohandacpalpaaDoorW.PrintMore
set_option linter.unusedVariables false
set_option linter.unusedSimpArgs false

/-- Node j of a body that is read: its cells. -/
theorem C_nodeN {w : World} {A : Option Addr} {xs : List Node} (h : Kd.C kNode w A xs.length xs) (j : Nat) (hj : j < xs.length) : ∃ ad, A = some ad ∧
    w.cell? (ad.add (j * 10)) = some (.int .u8 xs[j].f0) ∧ w.cell? ⟨(ad.add (j * 10)).block, (ad.add (j * 10)).off + 1, none⟩ = some (.int .i64 xs[j].f1) ∧ w.cell? ⟨(ad.add (j * 10)).block, (ad.add (j * 10)).off + 2, none⟩ = some (.string xs[j].f2) ∧
    w.cell? ⟨(ad.add (j * 10)).block, (ad.add (j * 10)).off + 3, none⟩ = some (.int .i64 xs[j].f3) ∧ w.cell? ⟨(ad.add (j * 10)).block, (ad.add (j * 10)).off + 4, none⟩ = some (.bool xs[j].f4.f0) ∧ w.cell? ⟨(ad.add (j * 10)).block, (ad.add (j * 10)).off + 5, none⟩ = some (.int .u64 xs[j].f4.f1) ∧
    w.cell? ⟨(ad.add (j * 10)).block, (ad.add (j * 10)).off + 6, none⟩ = some (.bool xs[j].f5.f0) ∧ w.cell? ⟨(ad.add (j * 10)).block, (ad.add (j * 10)).off + 7, none⟩ = some (.int .u64 xs[j].f5.f1) ∧ w.cell? ⟨(ad.add (j * 10)).block, (ad.add (j * 10)).off + 8, none⟩ = some (.bool xs[j].f6.f0) ∧ w.cell? ⟨(ad.add (j * 10)).block, (ad.add (j * 10)).off + 9, none⟩ = some (.int .u64 xs[j].f6.f1) := by
  obtain ⟨ad, e, hc⟩ := at_T36 h (j : Int) (by omega) (by omega)
  refine ⟨ad, e, ?_⟩
  have e2 : rd_T36 xs (j : Int) = xs[j] := by
    rw [rd_T36, Int.toNat_natCast, List.getD_eq_getElem?_getD, List.getElem?_eq_getElem hj]
    rfl
  rw [e2, Int.toNat_natCast] at hc
  exact hc

/-! ### Check -/
/-- Node by node, from what is open on: the error's number. -/
def checkL : List Node → List Int → Int
  | [], o => if o.any (fun x => decide (x > 0)) then 4 else 0
  | n :: t, o =>
    if (takes o (max 0 n.f3)).1 = 0 then 4 else if mayB n = false then 4 else if n.f3 > 8 then 3 else if (takes o (max 0 n.f3)).1 > 16 then 3 else checkL t (takes o (max 0 n.f3)).2
def checkB (body : List Node) : Int := if body.length = 0 then 1 else if body.length > 128 then 3 else checkL body [1]
theorem takes_len (xs : List Int) (kids : Int) : (takes xs kids).2.length ≤ xs.length + 1 := by
  have := popZ_le xs
  unfold takes
  simp only
  split
  · show (popZ xs).length ≤ _; omega
  · simp; omega
theorem OpenAt.alloc {w : World} {B b : Nat} {xs : List Int} (h : OpenAt w B b xs) (o : Obj) : OpenAt (w.alloc o) B b xs := by
  obtain ⟨v, h1, h2, h3⟩ := h
  exact ⟨v, blk_alloc h1 o, h2, Kd.R_below h3 (below_alloc (Below.refl _ _) _)⟩
theorem OpenAt.below {w w' : World} {B b : Nat} {xs : List Int} (h : OpenAt w B b xs) (hb : Below w.heap.size w w') : OpenAt w' B b xs := by
  obtain ⟨v, h1, h2, h3⟩ := h
  exact ⟨v, (hb.block _ (blk_lt h1)).trans h1, h2, Kd.R_below h3 hb⟩
theorem OpenAt.new (w : World) : OpenAt ((w.alloc (.cells #[.int .i64 1] 3)).alloc (.cells #[.slice (some ⟨w.heap.size, 0, none⟩) 1 1] 59)) w.heap.size (w.heap.size + 1) [1] := by
  refine ⟨_, by simpa using blk_new (w.alloc (.cells #[.int .i64 1] 3)) (.cells #[.slice (some ⟨w.heap.size, 0, none⟩) 1 1] 59), by omega, ?_⟩
  have h := own_lit w w.heap.size 3 .i64 [1] (Nat.le_refl _) (by simp)
  have h2 : (Kd.int .i64).R 3 (w.alloc (.cells #[.int .i64 1] 3)) w.heap.size (fun k => k ≠ w.heap.size + 1) (.slice (some ⟨w.heap.size, 0, none⟩) 1 1) [1] :=
    Kd.R_of_own (enc := Value.int .i64) (h1 := fun _ => rfl) h (fun k hk => by simp [Value.ownBlock] at hk; omega)
  exact Kd.R_below h2 (below_alloc (Below.refl _ _) _)

set_option maxRecDepth 100000 in
set_option maxHeartbeats 4000000 in
theorem check_calls (w : World) (A : Option Addr) (c : Nat) (body : List Node) (hr : Kd.C kNode w A body.length body) :
    Calls Tryd.prog 14 #[.slice A body.length c] w fun e w' => e = .returned (.int .i64 (checkB body)) ∧ Below w.heap.size w w' := by
  by_cases h0 : body.length = 0
  · have HS := Aside0.mk (show checkB body = 1 by unfold checkB; rw [if_pos h0])
    go_enter Tryd.func14, Tryd.ntmps14
    go_wp2
    go_ret
    rw [HS.out]
    exact ⟨rfl, Below.refl _ _⟩
  by_cases h1 : 128 < body.length
  · have HS := Aside0.mk (show checkB body = 3 by unfold checkB; rw [if_neg h0, if_pos h1])
    go_enter Tryd.func14, Tryd.ntmps14
    go_wp2
    go_ret
    rw [HS.out]
    exact ⟨rfl, Below.refl _ _⟩
  have HS := Aside0.mk (show checkB body = checkL body [1] by unfold checkB; rw [if_neg h0, if_neg h1])
  have HR := Aside0.mk hr
  have q0 : ((body.length : Int) == 0) = false := beq_eq_false_iff_ne.mpr (by omega)
  have q1 : decide (128 < (body.length : Int)) = false := decide_eq_false (by omega)
  have hlen : body.length ≤ 128 := by omega
  clear hr h0 h1
  go_enter Tryd.func14, Tryd.ntmps14
  go_wp2
  go_loopg [18] 129 (fun g i W => ∃ (k : Nat) (xs : List Int), i = .int .i64 k ∧ Aside0 (k ≤ body.length ∧ 129 - k ≤ g ∧ xs.length ≤ k + 1 ∧ checkL (body.drop k) xs = checkL body [1]) ∧ Aside0 (OpenAt W w.heap.size (w.heap.size + 1) xs) ∧ Aside0 (Below w.heap.size w W ∧ w.heap.size + 2 ≤ W.heap.size))
  case atStart => exact ⟨0, [1], rfl, ⟨Nat.zero_le _, by omega, by simp, rfl⟩, ⟨OpenAt.new w⟩, ⟨by repeat (first | exact Below.refl _ _ | apply below_alloc), by simp⟩⟩
  case round =>
    obtain ⟨k, xs, rfl, HK, HO, HB⟩ := hrel
    have hk := HK.out.1
    by_cases hlt : k < body.length
    · obtain ⟨ad, rfl, c0, c1, c2, c3, c4, c5, c6, c7, c8, c9⟩ := C_nodeN (Kd.C_below HR.out HB.out.1) k hlt
      obtain ⟨n, hn⟩ : ∃ n, n = body[k] := ⟨_, rfl⟩
      rw [← hn] at c0 c1 c2 c3 c4 c5 c6 c7 c8 c9
      have HN := Aside0.mk hn
      clear hn
      obtain ⟨d, hd⟩ : ∃ d, d = (takes xs (max 0 n.f3)).1 := ⟨_, rfl⟩
      obtain ⟨ys, hys⟩ : ∃ ys, ys = (takes xs (max 0 n.f3)).2 := ⟨_, rfl⟩
      obtain ⟨m, hm⟩ : ∃ m, m = mayB n := ⟨_, rfl⟩
      have HD := Aside0.mk hd
      have HY := Aside0.mk hys
      have HMB := Aside0.mk hm
      have HM : Aside0 (∀ W : World, Calls Tryd.prog 36 #[.agg #[.int .u8 n.f0, .int .i64 n.f1, .string n.f2, .int .i64 n.f3, .bool n.f4.f0, .int .u64 n.f4.f1, .bool n.f5.f0, .int .u64 n.f5.f1, .bool n.f6.f0, .int .u64 n.f6.f1]] W fun e' w' => e' = .returned (.bool m) ∧ Below W.heap.size W w') :=
        ⟨fun W => by rw [hm]; exact may_calls _ _ _ _ _ _ _ _ _ _ W⟩
      have hlx := HK.out.2.2.1
      have HT : Aside0 (∀ W : World, OpenAt W w.heap.size (w.heap.size + 1) xs → w.heap.size ≤ W.heap.size → Calls Tryd.prog 35 #[.pointer (some ⟨w.heap.size + 1, 0, none⟩), .int .i64 (max 0 n.f3)] W fun e w' => e = .returned (.int .i64 d) ∧ OpenAt w' w.heap.size (w.heap.size + 1) ys ∧ Kept W w' (OpenS W w.heap.size) ∧ Below w.heap.size W w') :=
        ⟨fun W h1 h2 => by rw [hd, hys]; exact takes_calls W _ _ xs (max 0 n.f3) h2 h1 (by omega)⟩
      clear hd hys hm hlx
      by_cases hd0 : d = 0
      · have e0 : (d == 0) = true := beq_iff_eq.mpr hd0
        have HC := Aside0.mk hd0
        clear hd0
        go_wp2_with (first | (go_at_call 35; refine (HT.out _ (HO.out.alloc _) (by have := HB.out; simp; omega)).mono ?_; rintro e w1 ⟨rfl, hO1, hK1, hB1⟩; have hbx := blk_kept (blk_new wr _) hK1 (by rintro ⟨_, c, t, h1, h2⟩; rw [blk_new] at h1; injection h1 with h1; injection h1 with _ h1; revert h2; subst h1; decide); have hbc := fun o => blk_cell hbx o; have HO1 := Aside0.mk hO1; have HB1 : Aside0 (Below w.heap.size w w1 ∧ w.heap.size + 2 ≤ w1.heap.size) := ⟨(below_step' HB.out.1 _).trans hB1, by have h1 := HB.out.2; have h2 := hK1.1; simp at h2; omega⟩; have HBX := Aside0.mk hbx; clear hO1 hK1 hB1 hbx) | (go_at_call 36; refine (HM.out _).mono ?_; rintro e w2 ⟨rfl, hB2⟩; obtain ⟨hc2, hf2⟩ := bcell hB2; have hl2 : wr.heap.size < w1.heap.size := blk_lt HBX.out; have HB2 := Aside0.mk hB2; clear hB2))
        go_ret
        refine ⟨?_, HB1.out.1⟩
        rw [HS.out, ← HK.out.2.2.2, List.drop_eq_getElem_cons hlt, checkL, ← HN.out, ← HD.out, if_pos HC.out]
        rfl
      have e0 : (d == 0) = false := beq_eq_false_iff_ne.mpr hd0
      have HC0 := Aside0.mk hd0
      clear hd0
      by_cases hm0 : m = false
      · subst hm0
        go_wp2_with (first | (go_at_call 35; refine (HT.out _ (HO.out.alloc _) (by have := HB.out; simp; omega)).mono ?_; rintro e w1 ⟨rfl, hO1, hK1, hB1⟩; have hbx := blk_kept (blk_new wr _) hK1 (by rintro ⟨_, c, t, h1, h2⟩; rw [blk_new] at h1; injection h1 with h1; injection h1 with _ h1; revert h2; subst h1; decide); have hbc := fun o => blk_cell hbx o; have HO1 := Aside0.mk hO1; have HB1 : Aside0 (Below w.heap.size w w1 ∧ w.heap.size + 2 ≤ w1.heap.size) := ⟨(below_step' HB.out.1 _).trans hB1, by have h1 := HB.out.2; have h2 := hK1.1; simp at h2; omega⟩; have HBX := Aside0.mk hbx; clear hO1 hK1 hB1 hbx) | (go_at_call 36; refine (HM.out _).mono ?_; rintro e w2 ⟨rfl, hB2⟩; obtain ⟨hc2, hf2⟩ := bcell hB2; have hl2 : wr.heap.size < w1.heap.size := blk_lt HBX.out; have HB2 := Aside0.mk hB2; clear hB2))
        go_ret
        refine ⟨?_, below_step HB1.out.1 HB2.out⟩
        rw [HS.out, ← HK.out.2.2.2, List.drop_eq_getElem_cons hlt, checkL, ← HN.out, ← HD.out, if_neg HC0.out, if_pos HMB.out.symm]
        rfl
      obtain rfl : m = true := by simpa using hm0
      clear hm0
      by_cases h8 : 8 < n.f3
      · have e8 : decide (8 < n.f3) = true := decide_eq_true h8
        have HC8 := Aside0.mk h8
        clear h8
        go_wp2_with (first | (go_at_call 35; refine (HT.out _ (HO.out.alloc _) (by have := HB.out; simp; omega)).mono ?_; rintro e w1 ⟨rfl, hO1, hK1, hB1⟩; have hbx := blk_kept (blk_new wr _) hK1 (by rintro ⟨_, c, t, h1, h2⟩; rw [blk_new] at h1; injection h1 with h1; injection h1 with _ h1; revert h2; subst h1; decide); have hbc := fun o => blk_cell hbx o; have HO1 := Aside0.mk hO1; have HB1 : Aside0 (Below w.heap.size w w1 ∧ w.heap.size + 2 ≤ w1.heap.size) := ⟨(below_step' HB.out.1 _).trans hB1, by have h1 := HB.out.2; have h2 := hK1.1; simp at h2; omega⟩; have HBX := Aside0.mk hbx; clear hO1 hK1 hB1 hbx) | (go_at_call 36; refine (HM.out _).mono ?_; rintro e w2 ⟨rfl, hB2⟩; obtain ⟨hc2, hf2⟩ := bcell hB2; have hl2 : wr.heap.size < w1.heap.size := blk_lt HBX.out; have HB2 := Aside0.mk hB2; clear hB2))
        go_ret
        refine ⟨?_, below_step HB1.out.1 HB2.out⟩
        rw [HS.out, ← HK.out.2.2.2, List.drop_eq_getElem_cons hlt, checkL, ← HN.out, ← HD.out, if_neg HC0.out, if_neg (by rw [← HMB.out]; simp), if_pos (by have := HC8.out; omega)]
        rfl
      have e8 : decide (8 < n.f3) = false := decide_eq_false h8
      have HC8 := Aside0.mk h8
      clear h8
      by_cases h16 : 16 < d
      · have e16 : decide (16 < d) = true := decide_eq_true h16
        have HC16 := Aside0.mk h16
        clear h16
        go_wp2_with (first | (go_at_call 35; refine (HT.out _ (HO.out.alloc _) (by have := HB.out; simp; omega)).mono ?_; rintro e w1 ⟨rfl, hO1, hK1, hB1⟩; have hbx := blk_kept (blk_new wr _) hK1 (by rintro ⟨_, c, t, h1, h2⟩; rw [blk_new] at h1; injection h1 with h1; injection h1 with _ h1; revert h2; subst h1; decide); have hbc := fun o => blk_cell hbx o; have HO1 := Aside0.mk hO1; have HB1 : Aside0 (Below w.heap.size w w1 ∧ w.heap.size + 2 ≤ w1.heap.size) := ⟨(below_step' HB.out.1 _).trans hB1, by have h1 := HB.out.2; have h2 := hK1.1; simp at h2; omega⟩; have HBX := Aside0.mk hbx; clear hO1 hK1 hB1 hbx) | (go_at_call 36; refine (HM.out _).mono ?_; rintro e w2 ⟨rfl, hB2⟩; obtain ⟨hc2, hf2⟩ := bcell hB2; have hl2 : wr.heap.size < w1.heap.size := blk_lt HBX.out; have HB2 := Aside0.mk hB2; clear hB2))
        go_ret
        refine ⟨?_, below_step HB1.out.1 HB2.out⟩
        rw [HS.out, ← HK.out.2.2.2, List.drop_eq_getElem_cons hlt, checkL, ← HN.out, ← HD.out, if_neg HC0.out, if_neg (by rw [← HMB.out]; simp), if_neg (by have := HC8.out; omega), if_pos (by have := HC16.out; omega)]
        rfl
      have e16 : decide (16 < d) = false := decide_eq_false h16
      have HC16 := Aside0.mk h16
      clear h16
      go_wp2_with (first | (go_at_call 35; refine (HT.out _ (HO.out.alloc _) (by have := HB.out; simp; omega)).mono ?_; rintro e w1 ⟨rfl, hO1, hK1, hB1⟩; have hbx := blk_kept (blk_new wr _) hK1 (by rintro ⟨_, c, t, h1, h2⟩; rw [blk_new] at h1; injection h1 with h1; injection h1 with _ h1; revert h2; subst h1; decide); have hbc := fun o => blk_cell hbx o; have HO1 := Aside0.mk hO1; have HB1 : Aside0 (Below w.heap.size w w1 ∧ w.heap.size + 2 ≤ w1.heap.size) := ⟨(below_step' HB.out.1 _).trans hB1, by have h1 := HB.out.2; have h2 := hK1.1; simp at h2; omega⟩; have HBX := Aside0.mk hbx; clear hO1 hK1 hB1 hbx) | (go_at_call 36; refine (HM.out _).mono ?_; rintro e w2 ⟨rfl, hB2⟩; obtain ⟨hc2, hf2⟩ := bcell hB2; have hl2 : wr.heap.size < w1.heap.size := blk_lt HBX.out; have HB2 := Aside0.mk hB2; clear hB2))
      go_roundg (gk - 1)
      case measure => have := HK.out; omega
      case rel =>
        have hkk := HK.out
        have hl1 := takes_len xs (max 0 n.f3)
        refine ⟨k + 1, ys, by go_num, ⟨by omega, by omega, by rw [HY.out]; omega, ?_⟩, ⟨HO1.out.below HB2.out⟩, ⟨below_step HB1.out.1 HB2.out, Nat.le_trans HB1.out.2 HB2.out.size⟩⟩
        rw [← hkk.2.2.2, List.drop_eq_getElem_cons hlt, checkL, ← HN.out, ← HD.out, if_neg HC0.out, if_neg (by rw [← HMB.out]; simp), if_neg (by have := HC8.out; omega), if_neg (by have := HC16.out; omega), ← HY.out]
    · have hd1 : decide (k < body.length) = false := decide_eq_false hlt
      obtain ⟨v, hb, hBb, HRo⟩ := HO.out
      obtain ⟨A0, c0, rfl⟩ := Kd.R_slice HRo
      have hcell := blk_cell hb 0
      have HCo := Aside0.mk (Kd.R_reads' HRo).2.2
      have hkl : k = body.length := by omega
      have HKL := Aside0.mk hkl
      clear hb HRo hkl
      have hx : xs.length * 8 ≤ 140737488355328 := by have := HK.out; omega
      obtain ⟨f, hf⟩ : ∃ f, f = xs.any (fun x => decide (x > 0)) := ⟨_, rfl⟩
      have HFF := Aside0.mk hf
      have HFU := Aside0.mk (full_calls wr A0 c0 xs HCo.out hx)
      rw [← hf] at HFU
      clear hf
      have HE := Aside0.mk (show checkB body = if f = true then 4 else 0 by
        have h2 := HK.out.2.2.2
        rw [List.drop_eq_nil_of_le (by have := HKL.out; omega)] at h2
        rw [HS.out, ← h2, checkL, HFF.out])
      cases f
      all_goals
        go_wp2_with (go_at_call 37; refine HFU.out.mono ?_; rintro e w1 ⟨rfl, rfl⟩)
        go_ret
        refine ⟨?_, HB.out.1⟩
        rw [HE.out]
        rfl
end Go.Proofs.YtoohandacpalpaaDoor
