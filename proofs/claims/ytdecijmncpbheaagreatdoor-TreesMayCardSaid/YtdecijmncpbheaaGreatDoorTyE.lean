import Derived.Test.YtdecijmncpbheaaGreatDoorMA

namespace Go.Proofs.YtdecijmncpbheaaGreatDoor
open Go.RowKit Go.Shelf Go.Proofs.YtdecijmncpbheaaGreatDoorW.PrintWords Go.Proofs.YtdecijmncpbheaaGreatDoorW.PrintLast Go.Proofs.YtdecijmncpbheaaGreatDoorW.PrintMore
set_option linter.unusedVariables false
set_option linter.unusedSimpArgs false

/-- The list in a new box. -/
theorem OpenAt.rebox {w : World} {B b : Nat} {xs : List Int} {v : Value} (hB : B ≤ w.heap.size) (h3 : (Kd.int .i64).R 3 w B (fun k => k ≠ b) v xs) : OpenAt (w.alloc (.cells #[v] 136)) B w.heap.size xs :=
  ⟨v, blk_new _ _, hB, Kd.R_below (Kd.R_mono (Kd.R_bound h3) (fun k hk => by have := hk.2.2.1; omega)) (below_alloc (Below.refl _ _) _)⟩

set_option maxRecDepth 100000 in
set_option maxHeartbeats 4000000 in
theorem end_calls (w : World) (A : Option Addr) (c : Nat) (body : List Node) (at_ : Int) (hr : Kd.C kNode w A body.length body) :
    Calls Tryz.prog 26 #[.slice A body.length c, .int .i64 at_] w fun e w' => e = .returned (.int .i64 (endB body at_)) ∧ Below w.heap.size w w' := by
  by_cases h0 : at_ < 0
  · have HS := Aside0.mk (show endB body at_ = 0 by unfold endB; rw [if_pos h0])
    go_enter Tryz.func26, Tryz.ntmps26
    go_wp2
    go_ret
    rw [HS.out]
    exact ⟨rfl, Below.refl _ _⟩
  have g0 : decide (at_ < 0) = false := decide_eq_false h0
  by_cases h1 : at_ ≥ body.length
  · have HS := Aside0.mk (show endB body at_ = 0 by unfold endB; rw [if_neg h0, if_pos h1])
    have g1 : decide ((body.length : Int) ≤ at_) = true := decide_eq_true h1
    clear h0 h1
    go_enter Tryz.func26, Tryz.ntmps26
    go_wp2
    go_ret
    rw [HS.out]
    exact ⟨rfl, Below.refl _ _⟩
  have g1 : decide ((body.length : Int) ≤ at_) = false := decide_eq_false h1
  by_cases hcz : checkB body = 0
  · have hl128 : body.length ≤ 128 := ((check_iff body).1 hcz).1
    obtain ⟨p, rfl⟩ : ∃ p : Nat, at_ = p := ⟨at_.toNat, by omega⟩
    have hp : p < body.length := by omega
    obtain ⟨m, hen, hle, hend⟩ : ∃ m, endL (body.drop p) [1] = some m ∧ p + m ≤ body.length ∧ endB body p = ((p + m : Nat) : Int) := by
      obtain ⟨s, hs, hd, hle, hend, _, _, _⟩ := tree_at body hcz p hp
      exact ⟨s.flat.length, by rw [hd]; exact endL_tree s hs _, hle, hend⟩
    have HE := Aside0.mk hen
    have HS := Aside0.mk hend
    have HC := Aside0.mk (check_calls w A c body hr)
    rw [hcz] at HC
    have HR := Aside0.mk hr
    have g2 : decide (body.length ≤ p) = false := decide_eq_false (by omega)
    clear hr hcz hend hen h0 h1
    go_enter Tryz.func26, Tryz.ntmps26
    go_wp2_with (go_at_call 25; refine HC.out.mono ?_; rintro e w0 ⟨rfl, hb0⟩; have HB0 := Aside0.mk hb0; clear hb0)
    go_loopg [1, 5] 129 (fun g i q W => ∃ (k b : Nat) (xs : List Int), i = .int .i64 k ∧ q = .pointer (some ⟨b, 0, none⟩) ∧ Aside0 (p ≤ k ∧ k ≤ body.length ∧ 129 - k ≤ g ∧ xs.length ≤ k + 1 ∧ (endL (body.drop k) xs).map (fun j => k + j) = some (p + m)) ∧ Aside0 (OpenAt W w0.heap.size b xs) ∧ Aside0 (Below w0.heap.size w0 W ∧ w0.heap.size + 2 ≤ W.heap.size))
    case atStart => exact ⟨p, w0.heap.size + 1, [1], rfl, by simp, ⟨Nat.le_refl _, by omega, by omega, by simp, by rw [HE.out]; rfl⟩, ⟨OpenAt.new w0⟩, ⟨by repeat (first | exact Below.refl _ _ | apply below_alloc), by simp⟩⟩
    case round =>
      obtain ⟨k, b, xs, rfl, rfl, HK, HO, HB⟩ := hrel
      have hk := HK.out.2.1
      obtain ⟨v, hb, hBb, HRo⟩ := HO.out
      obtain ⟨A0, c0, rfl⟩ := Kd.R_slice HRo
      have hcell := blk_cell hb 0
      have HCo := Aside0.mk (Kd.R_reads' HRo).2.2
      clear hb HRo
      have hx : xs.length * 8 ≤ 140737488355328 := by have := HK.out; omega
      obtain ⟨f, hf⟩ : ∃ f, f = xs.any (fun x => decide (x > 0)) := ⟨_, rfl⟩
      have HFF := Aside0.mk hf
      have HFU := Aside0.mk (full_calls wr A0 c0 xs HCo.out hx)
      rw [← hf] at HFU
      clear hf
      cases f with
      | false =>
        have HKM := Aside0.mk (show (k : Int) = ((p + m : Nat) : Int) by
          have h2 := HK.out.2.2.2.2
          rw [endL_stop _ _ HFF.out.symm] at h2
          simp at h2
          omega)
        go_wp2_with (go_at_call 103; refine HFU.out.mono ?_; rintro e w1 ⟨rfl, rfl⟩)
        go_ret
        refine ⟨?_, below_step HB0.out HB.out.1⟩
        rw [HS.out, ← HKM.out]
        rfl
      | true =>
        have hlt : k < body.length := by
          have h2 := HK.out.2.2.2.2
          rcases Nat.lt_or_ge k body.length with h | h
          · exact h
          · rw [List.drop_eq_nil_of_le (by omega), endL, if_pos HFF.out.symm] at h2
            simp at h2
        obtain ⟨ad, rfl, c0', c1, c2, c3, c4, c5, c6, c7, c8, c9⟩ := C_nodeN (Kd.C_below (Kd.C_below HR.out HB0.out) HB.out.1) k hlt
        obtain ⟨n, hn⟩ : ∃ n, n = body[k] := ⟨_, rfl⟩
        rw [← hn] at c3
        have HN := Aside0.mk hn
        clear hn c0' c1 c2 c4 c5 c6 c7 c8 c9
        obtain ⟨d, hd⟩ : ∃ d, d = (takes xs n.f3).1 := ⟨_, rfl⟩
        obtain ⟨ys, hys⟩ : ∃ ys, ys = (takes xs n.f3).2 := ⟨_, rfl⟩
        have HD := Aside0.mk hd
        have HY := Aside0.mk hys
        have hlx := HK.out.2.2.2.1
        have HT : Aside0 (∀ W : World, OpenAt W w0.heap.size b xs → w0.heap.size ≤ W.heap.size → Calls Tryz.prog 101 #[.pointer (some ⟨b, 0, none⟩), .int .i64 n.f3] W fun e w' => e = .returned (.int .i64 d) ∧ OpenAt w' w0.heap.size b ys ∧ Kept W w' (OpenS W w0.heap.size) ∧ Below w0.heap.size W w') :=
          ⟨fun W h1 h2 => by rw [hd, hys]; exact takes_calls W _ _ xs n.f3 h2 h1 (by omega)⟩
        clear hd hys hlx
        go_wp2_with (first | (go_at_call 103; refine HFU.out.mono ?_; rintro e w1 ⟨rfl, rfl⟩) | (go_at_call 101; refine (HT.out _ HO.out (by have := HB.out; omega)).mono ?_; rintro e w2 ⟨rfl, hO1, hK1, hB1⟩; have HB1 : Aside0 (Below w0.heap.size w0 w2 ∧ w0.heap.size + 2 ≤ w2.heap.size) := ⟨HB.out.1.trans hB1, by have h1 := HB.out.2; have h2 := hK1.1; omega⟩; obtain ⟨v2, hb2, hBb2, HR2⟩ := hO1; have hcell2 := blk_cell hb2 0; obtain ⟨A2, c2, rfl⟩ := Kd.R_slice HR2; have HO1 := Aside0.mk HR2; clear hK1 hB1 hb2 HR2))
        go_roundg (gk - 1)
        case measure => have := HK.out; omega
        case rel =>
          have hkk := HK.out
          have hl1 := takes_len xs n.f3
          refine ⟨k + 1, _, ys, by go_num, rfl, ⟨by omega, by omega, by omega, by rw [HY.out]; omega, ?_⟩, ⟨OpenAt.rebox (by have := HB1.out.2; omega) HO1.out⟩, ⟨below_step' HB1.out.1 _, by have := HB1.out.2; simp; omega⟩⟩
          have h2 := hkk.2.2.2.2
          rw [List.drop_eq_getElem_cons hlt, endL, if_pos HFF.out.symm, ← HN.out, ← HY.out, Option.map_map] at h2
          rw [← h2]
          congr 1
          funext j
          simp
          omega
  · have HS := Aside0.mk (show endB body at_ = 0 by unfold endB; rw [if_neg h0, if_neg h1, if_neg hcz])
    have HC := Aside0.mk (check_calls w A c body hr)
    obtain ⟨q, hq⟩ : ∃ q, q = checkB body := ⟨_, rfl⟩
    rw [← hq] at HC
    have e0 : (q != 0) = true := bne_iff_ne.mpr (by rw [hq]; exact hcz)
    clear hq hcz h0 h1
    go_enter Tryz.func26, Tryz.ntmps26
    go_wp2_with (go_at_call 25; refine HC.out.mono ?_; rintro e w0 ⟨rfl, hb0⟩; have HB0 := Aside0.mk hb0; clear hb0)
    go_ret
    rw [HS.out]
    exact ⟨rfl, HB0.out⟩

end Go.Proofs.YtdecijmncpbheaaGreatDoor
