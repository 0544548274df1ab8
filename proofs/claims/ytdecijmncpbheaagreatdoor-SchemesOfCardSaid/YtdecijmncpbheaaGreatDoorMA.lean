
/- Several texts as one: TyA, TyB, TyC, TyD, TySm, TyT, TyP, TyS, Ed. -/
import Derived.Test.YtdecijmncpbheaaGreatDoorK
import Derived.Test.YtdecijmncpbheaaGreatDoorB
import Derived.StillTailTactics
import Derived.WalkSpells
import Derived.Deep.LoopGhost
import Derived.Deep.QuietTactic
import Derived.BigQuiet
import Derived.IntWalk
import Derived.Test.YtdecijmncpbheaaGreatDoorSh

namespace Go.Proofs.YtdecijmncpbheaaGreatDoor
open Go.RowKit Go.Proofs.YtdecijmncpbheaaGreatDoorW.PrintWords Go.Proofs.YtdecijmncpbheaaGreatDoorW.PrintLast Go.Proofs.YtdecijmncpbheaaGreatDoorW.PrintMore
set_option linter.unusedVariables false
set_option linter.unusedSimpArgs false

theorem info3 : (Tryz.prog.info? 3).map (fun i => (i.zero, i.size, i.bytes)) = some (some (.int .i64 0), 1, 8) := by kernel_rfl

/-- A list 'open' behind a pointer: its box (block b), and its row. -/
def OpenAt (w : World) (B b : Nat) (xs : List Int) : Prop :=
  ∃ v, w.heap[b]? = some (.cells #[v] 136 (0, 0)) ∧ B ≤ b ∧ Kd.R (Kd.int .i64) 3 w B (fun k => k ≠ b) v xs
/-- Which blocks a call on such a list may turn. -/
def OpenS (w : World) (B : Nat) (k : Nat) : Prop := B ≤ k ∧ ∃ c t, w.heap[k]? = some (.cells c t (0, 0)) ∧ (t = 136 ∨ t = 3)

set_option maxHeartbeats 1000000 in
theorem more_calls (w : World) (B b : Nat) (xs ys : List Int) (A : Option Addr) (c : Nat) (hB : B ≤ w.heap.size) (ho : OpenAt w B b xs) (hr : Kd.C (Kd.int .i64) w A ys.length ys) (hc : ys.length ≤ c) (hl : (xs.length + ys.length) * 8 ≤ 140737488355328) :
    Calls Tryz.prog 162 #[.pointer (some ⟨b, 0, none⟩), .slice A ys.length c] w fun e w' => e = .returned (.tuple #[]) ∧ OpenAt w' B b (xs ++ ys) ∧ Kept w w' (OpenS w B) ∧ Below B w w' := by
  obtain ⟨v, hb, hBb, HO⟩ := ho
  have hcell : w.cell? ⟨b, 0, none⟩ = some v := by simpa [World.cell?] using blk_cell hb 0
  obtain ⟨A0, c0, rfl⟩ := Kd.R_slice HO
  have hlt := blk_lt hb
  have HH := Aside0.mk hb
  clear hb
  go_enter Tryz.func162, Tryz.ntmps162
  go_wp2_with (at_builtin; refine wpList_append_R rfl (Kd.int .i64) B (.tmp 7) (.tmp 8) 136 135 3 3 (.int .i64 0) 8 rfl (by kernel_rfl) (by kernel_rfl) info3 rfl (by decide) (by decide) (.slice A0 xs.length c0) xs ys A ys.length c (fun k => k ≠ b) (fun _ => False) rfl rfl HO hr (fun x cs h => h) (fun _ h => h.elim) (fun k hk => by omega) hB hl ?_; intro v1 w1 HO1 hg hat; obtain ⟨A1, c1, rfl⟩ := Kd.R_slice HO1; have hb1 := blk_grown HH.out hg (fun h => (HO.1 b h.symm) rfl); have hc1 := blk_cell hb1 0; have hf1 := blk_frozen hb1 0; have HB1 := Aside0.mk hb1; clear hb1)
  go_end0
  refine ⟨rfl, ?_, ?_, ((Below.refl B w).grown hg hB (fun k hk => (Kd.R_bound HO).1 k hk |>.2.1)).setCell hBb _⟩
  · rw [← List.length_append]
    exact ⟨_, by simpa using blk_set HB1.out 0 (.slice A1 (xs ++ ys).length c1), hBb, Kd.R_far HO1 (fun k hk => hk) _⟩
  · refine (Kept.of_grown hg (Kept.refl w _) ?_).setCell (.inl ⟨hBb, _, _, HH.out, .inl rfl⟩) _
    intro k hk
    refine .inl ⟨(Kd.R_bound HO).1 k hk |>.2.1, ?_⟩
    obtain ⟨cells, hc⟩ := own_typed (Kd.R_own HO).choose_spec k hk
    exact ⟨cells, _, hc, .inr rfl⟩

/-! ### takes -/
theorem R_cellI {W : World} {e base g n cap : Nat} {ok : Nat → Prop} {xs : List Int} (h : (Kd.int .i64).R e W base ok (.slice (some ⟨g, 0, none⟩) n cap) xs) (i : Int) (h0 : 0 ≤ i) (hi : i < n) : W.cell? ⟨g, i.toNat, none⟩ = some (.int .i64 (rd xs i)) ∧ W.frozen? ⟨g, i.toNat, none⟩ = false :=
  Kd.R_celln 0 h i h0 hi
/-- What is left when the noughts at the end are gone. -/
def popZ (xs : List Int) : List Int := (xs.reverse.dropWhile (· == 0)).reverse
theorem popZ_snoc (xs : List Int) (x : Int) : popZ (xs ++ [x]) = if x = 0 then popZ xs else xs ++ [x] := by
  unfold popZ
  by_cases h : x = 0
  · simp [h]
  · simp [h]
theorem popZ_le (xs : List Int) : (popZ xs).length ≤ xs.length := by
  unfold popZ
  rw [List.length_reverse]
  exact Nat.le_trans (List.dropWhile_sublist _).length_le (by simp)
theorem last_split (ys : List Int) (i : Int) (hi : i = (ys.length : Int) - 1) (h0 : 0 < ys.length) : ys = ys.take i.toNat ++ [rd ys i] := by
  have hl : i.toNat < ys.length := by omega
  have h1 : ys.drop i.toNat = [rd ys i] := by
    rw [List.drop_eq_getElem_cons hl, List.drop_eq_nil_of_le (by omega)]
    simp [rd, List.getD_eq_getElem?_getD, List.getElem?_eq_getElem hl]
  rw [← h1, List.take_append_drop]
theorem popZ_pop (ys : List Int) (i : Int) (hi : i = (ys.length : Int) - 1) (h0 : 0 < ys.length) (hx : 0 = rd ys i) : popZ (ys.take i.toNat) = popZ ys := by
  conv => rhs; rw [last_split ys i hi h0, ← hx, popZ_snoc, if_pos rfl]
theorem popZ_stay (ys : List Int) (i : Int) (hi : i = (ys.length : Int) - 1) (h0 : 0 < ys.length) (hx : ¬ rd ys i = 0) : popZ ys = ys := by
  conv => lhs; rw [last_split ys i hi h0, popZ_snoc, if_neg hx]
  rw [← last_split ys i hi h0]
/-- 'takes' of the list, and its answer. -/
def takes (xs : List Int) (kids : Int) : Int × List Int :=
  let ys := popZ xs
  if ys.length = 0 then (0, ys) else ((ys.length : Int), ys.set (ys.length - 1) (wrap64 (ys.getD (ys.length - 1) 0 - 1)) ++ [kids])

theorem takes_zero (xs : List Int) (kids : Int) (h : popZ [] = popZ xs) : takes xs kids = (0, []) := by
  unfold takes
  rw [← h]
  simp [popZ]
theorem takes_more (xs ys : List Int) (kids i x : Int) (hi : i = (ys.length : Int) - 1) (h0 : 0 < ys.length) (hx : x = rd ys i) (hn : ¬ x = 0) (h : popZ ys = popZ xs) : takes xs kids = ((ys.length : Int), ys.set i.toNat (wrap64 (x - 1)) ++ [kids]) := by
  have e := popZ_stay ys i hi h0 (by rw [← hx]; exact hn)
  unfold takes
  rw [← h, e, if_neg (by omega)]
  have e2 : i.toNat = ys.length - 1 := by omega
  rw [hx, rd, e2]

theorem OpenS_back {w W : World} {B : Nat} {S : Nat → Prop} (hk : Kept w W S) (hS : ∀ k, S k → OpenS w B k ∨ w.heap.size ≤ k) : ∀ k, OpenS W B k → OpenS w B k ∨ w.heap.size ≤ k := by
  intro k h
  by_cases hs : S k
  · exact hS k hs
  · by_cases hlt : k < w.heap.size
    · obtain ⟨h1, c, t, h2, h3⟩ := h
      rw [hk.2 k hlt hs] at h2
      exact .inl ⟨h1, c, t, h2, h3⟩
    · exact .inr (by omega)

set_option maxRecDepth 100000 in
set_option maxHeartbeats 1000000 in
theorem takes_calls (w : World) (B b : Nat) (xs : List Int) (kids : Int) (hB : B ≤ w.heap.size) (ho : OpenAt w B b xs) (hl : (xs.length + 1) * 8 ≤ 140737488355328) :
    Calls Tryz.prog 101 #[.pointer (some ⟨b, 0, none⟩), .int .i64 kids] w fun e w' => e = .returned (.int .i64 (takes xs kids).1) ∧ OpenAt w' B b (takes xs kids).2 ∧ Kept w w' (OpenS w B) ∧ Below B w w' := by
  obtain ⟨v, hb0, hBb, hR0⟩ := ho
  obtain ⟨A0, cap, rfl⟩ := Kd.R_slice hR0
  have hSb : OpenS w B b := ⟨hBb, _, _, hb0, .inl rfl⟩
  have hSg : ∀ k, (Value.slice A0 xs.length cap).ownBlock = some k → OpenS w B k := by
    intro k hk
    obtain ⟨cells, hc⟩ := own_typed (Kd.R_own hR0).choose_spec k hk
    exact ⟨(Kd.R_bound hR0).1 k hk |>.2.1, cells, _, hc, .inr rfl⟩
  have HSG := Aside0.mk hSg
  have HSB := Aside0.mk hSb
  have HO := Aside0.mk hb0
  have HR0 := Aside0.mk hR0
  have HL := Aside0.mk (blk_lt hb0)
  clear hSg hSb hb0 hR0
  go_enter Tryz.func101, Tryz.ntmps101
  go_wp2
  go_loopg [] xs.length (fun k W => ∃ ys : List Int, Aside0 (popZ ys = popZ xs ∧ ys.length ≤ xs.length ∧ ys.length ≤ k) ∧ Aside0 (W.heap[b]? = some (.cells #[.slice A0 ys.length cap] 136 (0, 0))) ∧ Aside0 ((Kd.int .i64).R 3 W B (fun k => k ≠ b) (.slice A0 ys.length cap) ys) ∧ Aside0 (Kept w W (fun k => k = b) ∧ Below B w W))
  case atStart => exact ⟨xs, ⟨rfl, Nat.le_refl _, Nat.le_refl _⟩, HO, HR0, ⟨Kept.refl _ _, Below.refl _ _⟩⟩
  case round =>
    clear HO HR0
    obtain ⟨ys, HA, HH, HR0, HK⟩ := hrel
    have HR := HR0.out
    have hcell := blk_cell HH.out 0
    have hfz := blk_frozen HH.out 0
    clear HR0
    rcases Nat.eq_zero_or_pos ys.length with h0 | h0
    · obtain rfl := List.eq_nil_of_length_eq_zero h0
      go_wp2
      go_quiet (fail)
      go_wp2
      go_ret
      have e := takes_zero xs kids HA.out.1
      rw [e]
      exact ⟨rfl, ⟨_, HH.out, hBb, HR⟩, HK.out.1.mono (by rintro k rfl; exact HSB.out), pw_below_drewN HK.out.2 _⟩
    · obtain ⟨g, cap', hv, hBg, hgl, cells, hgc⟩ := Kd.R_form HR h0
      injection hv with hv1 hv2 hv3
      subst hv3
      subst hv1
      have HG := Aside0.mk hgc
      clear hgc
      have hcl := (R_cellI HR ((ys.length : Int) - 1) (by omega) (by omega)).1
      have hcf := (R_cellI HR ((ys.length : Int) - 1) (by omega) (by omega)).2
      have hA := HA.out
      obtain ⟨n, hn⟩ : ∃ n, n = ys.length := ⟨_, rfl⟩
      rw [← hn] at hcell hcl HH HR hcf
      have h1 : 1 ≤ n := by omega
      have hnc : n ≤ cap := (Kd.R_reads' HR).2.1
      have hd : decide (0 < n) = true := decide_eq_true (by omega)
      have h2 : n ≤ xs.length := by omega
      have HN := Aside0.mk hn
      clear h0 hn hA
      obtain ⟨i, hi⟩ : ∃ i : Int, i = (n : Int) - 1 := ⟨_, rfl⟩
      obtain ⟨x, hx⟩ : ∃ x, x = rd ys i := ⟨_, rfl⟩
      rw [← hi] at hcl hcf
      rw [← hx] at hcl
      have hi0 : 0 ≤ i := by omega
      have hin : i < (n : Int) := by omega
      have HI := Aside0.mk hi
      have hw : IntKind.i64.wrap ((n : Int) - 1) = i := by rw [hi]; exact IntWalk.i64_in _ (by omega)
      clear hi
      have HX := Aside0.mk hx
      clear hx
      by_cases hx : x = 0
      · subst hx
        go_wp2
        go_quiet (fail)
        go_wp2
        obtain ⟨W, hW⟩ : ∃ W, W = wr.drewN nq := ⟨_, rfl⟩
        rw [← hW]
        have hc1 : W.cell? ⟨b, 0, none⟩ = some (.slice (some ⟨g, 0, none⟩) n cap) := by rw [hW]; exact hcell
        have hf1 : W.frozen? ⟨b, 0, none⟩ = false := by rw [hW]; exact hfz
        have HW := Aside0.mk hW
        have hic : i ≤ (cap : Int) := by omega
        clear hW hcell hfz hcl hcf
        go_still_tail 10, (by kernel_rfl)
        change wpList _ _ _ _ _ W.drew
        obtain ⟨W2, hW2⟩ : ∃ W2, W2 = W.drew := ⟨_, rfl⟩
        rw [← hW2]
        have hc2 : W2.cell? ⟨b, 0, none⟩ = some (.slice (some ⟨g, 0, none⟩) n cap) := by rw [hW2]; exact hc1
        have hf2 : W2.frozen? ⟨b, 0, none⟩ = false := by rw [hW2]; exact hf1
        have HW2 := Aside0.mk hW2
        clear hc1 hf1 hW2
        go_wp2
        go_roundg (gk - 1)
        case measure => have := HA.out; have := HN.out; omega
        case rel =>
          have hn := HN.out
          have hiN := HI.out
          subst hn
          have hA := HA.out
          have hk : Kept w W2 (fun k => k = b) := by rw [HW2.out, HW.out]; exact HK.out.1
          have hbl : Below B w W2 := by rw [HW2.out, HW.out]; exact (pw_below_drewN HK.out.2 _).drew
          have hR : (Kd.int .i64).R 3 W2 B (fun k => k ≠ b) (.slice (some ⟨g, 0, none⟩) ys.length cap) ys := by rw [HW2.out, HW.out]; exact HR
          have hbb : W2.heap[b]? = some (.cells #[.slice (some ⟨g, 0, none⟩) ys.length cap] 136 (0, 0)) := by rw [HW2.out, HW.out]; exact HH.out
          have hlen : (ys.take i.toNat).length = i.toNat := by rw [List.length_take]; omega
          refine ⟨ys.take i.toNat, ⟨(popZ_pop ys i hiN h1 HX.out).trans hA.1, by rw [hlen]; omega, by rw [hlen]; omega⟩, ⟨?_⟩, ⟨?_⟩, ⟨hk.setCell (.inl rfl) _, hbl.setCell hBb _⟩⟩
          · rw [hlen]; simpa using blk_set hbb 0 (.slice (some ⟨g, 0, none⟩) i.toNat cap)
          · rw [hlen]; exact Kd.R_far (Kd.R_take hR (by omega)) (fun k hk => hk) _
      · have hx1 : (x == 0) = false := beq_eq_false_iff_ne.mpr hx
        have hz : ((n : Int) == 0) = false := beq_eq_false_iff_ne.mpr (by omega)
        have HXN := Aside0.mk hx
        clear hx
        go_wp2
        go_quiet (fail)
        go_wp2_with fail
        have hgb : g ≠ b := HR.1 g (by simp [Value.ownBlock])
        have hn := HN.out
        have hW : (Kd.int .i64).R 3 (((wr.drewN nq).setCell { block := g, off := i.toNat } (Value.int IntKind.i64 (wrap64 (x - 1))))) B (fun k => k ≠ b) (.slice (some ⟨g, 0, none⟩) n cap) (ys.set i.toNat (wrap64 (x - 1))) := Kd.R_putn (W := wr.drewN nq) HR i (wrap64 (x - 1))
        have hk : Kept w (((wr.drewN nq).setCell { block := g, off := i.toNat } (Value.int IntKind.i64 (wrap64 (x - 1)))).alloc (Obj.cells #[Value.int IntKind.i64 kids] 3)) (OpenS w B) :=
          Kept.alloc (Kept.setCell (W := wr.drewN nq) (HK.out.1.mono (by rintro k rfl; exact HSB.out)) (.inl (HSG.out g (by simp [Value.ownBlock]))) _) _
        have hB' := Nat.le_trans hB hk.1
        have hbl := ((pw_below_drewN HK.out.2 nq).setCell (p := { block := g, off := i.toNat }) hBg (Value.int IntKind.i64 (wrap64 (x - 1)))).alloc (by have := HK.out.1.1; simp [World.setCell]; omega) (Obj.cells #[Value.int IntKind.i64 kids] 3)
        refine (more_calls _ B b (ys.set i.toNat (wrap64 (x - 1))) [kids] (some ⟨wr.heap.size, 0, none⟩) 1 hB' ⟨.slice (some ⟨g, 0, none⟩) n cap, ?_, hBb, ?_⟩ ?_ (by simp) ?_).mono ?_
        · exact blk_alloc (blk_far (w := wr.drewN nq) HH.out (fun h => hgb h.symm) _) _
        · exact Kd.R_below hW (below_alloc (Below.refl _ _) _)
        · simpa using C_one_new .i64 ((wr.drewN nq).setCell { block := g, off := i.toNat } (Value.int IntKind.i64 (wrap64 (x - 1)))) kids 3
        · simp; omega
        · rintro e w' ⟨rfl, ho', hk', hbl'⟩
          go_wp2
          go_ret
          have hn := HN.out
          subst hn
          have e := takes_more xs ys kids i x HI.out h1 HX.out HXN.out HA.out.1
          rw [e]
          exact ⟨rfl, ho', hk.then_ hk' (OpenS_back hk (fun k h => .inl h)), hbl.trans hbl'⟩
end Go.Proofs.YtdecijmncpbheaaGreatDoor

namespace Go.Proofs.YtdecijmncpbheaaGreatDoor
open Go.RowKit Go.Proofs.YtdecijmncpbheaaGreatDoorW.PrintWords Go.Proofs.YtdecijmncpbheaaGreatDoorW.PrintLast Go.Proofs.YtdecijmncpbheaaGreatDoorW.PrintMore
set_option linter.unusedVariables false
set_option linter.unusedSimpArgs false

/-! ### full -/
/-- The place of the first one of which p holds; -1: there is none. -/
def fidx {α : Type} (p : α → Bool) (xs : List α) : Int := match xs.findIdx? p with | some i => (i : Int) | none => -1
theorem fidx_ge {α : Type} (p : α → Bool) (xs : List α) : decide (0 ≤ fidx p xs) = xs.any p := by
  unfold fidx
  cases h : xs.findIdx? p with
  | none =>
    rw [List.findIdx?_eq_none_iff] at h
    have : xs.any p = false := by rw [List.any_eq_false]; intro x hx; simp [h x hx]
    rw [this]; rfl
  | some i =>
    rw [List.findIdx?_eq_some_iff_getElem] at h
    obtain ⟨hl, hp, _⟩ := h
    have : xs.any p = true := List.any_eq_true.2 ⟨_, List.getElem_mem hl, hp⟩
    rw [this]; simp
theorem fidx_hit {α : Type} (p : α → Bool) (xs : List α) (k : Nat) (hk : k < xs.length) (h0 : ∀ x ∈ xs.take k, p x = false) (h1 : p xs[k] = true) : fidx p xs = k := by
  have : xs.findIdx? p = some k := by
    rw [List.findIdx?_eq_some_iff_getElem]
    refine ⟨hk, h1, fun j hj => ?_⟩
    have := h0 xs[j] (List.mem_take_iff_getElem.2 ⟨j, by omega, rfl⟩)
    simp [this]
  unfold fidx; rw [this]
theorem fidx_none {α : Type} (p : α → Bool) (xs : List α) (h0 : ∀ x ∈ xs, p x = false) : fidx p xs = -1 := by
  have : xs.findIdx? p = none := by rw [List.findIdx?_eq_none_iff]; exact h0
  unfold fidx; rw [this]

set_option maxRecDepth 100000 in
set_option maxHeartbeats 1000000 in
theorem indexPos_calls (w : World) (A : Option Addr) (c : Nat) (xs : List Int) (hr : Kd.C (Kd.int .i64) w A xs.length xs) (hl : xs.length * 8 ≤ 140737488355328) :
    Calls Tryz.prog 203 #[.slice A xs.length c, .func (.func 166) #[] #[]] w fun e w' => e = .returned (.int .i64 (fidx (fun x => decide (x > 0)) xs)) ∧ w' = w := by
  have HR := Aside0.mk hr
  clear hr
  go_enter Tryz.func203, Tryz.ntmps203
  go_wp2
  go_loop [8] (fun i => ∃ k : Nat, i = .int .i64 k ∧ Aside0 (k ≤ xs.length ∧ ∀ x ∈ xs.take k, decide (x > 0) = false)) (fun i => xs.length - (intOf i).toNat)
  case atStart => exact ⟨0, rfl, ⟨Nat.zero_le _, by simp⟩⟩
  case round =>
    obtain ⟨k, rfl, HK⟩ := hrel
    have hk := HK.out.1
    by_cases hlt : k < xs.length
    · obtain ⟨ad, rfl, hc⟩ := C_intN HR.out k hlt
      obtain ⟨x, hx⟩ : ∃ x, x = xs[k] := ⟨_, rfl⟩
      rw [← hx] at hc
      have HX := Aside0.mk hx
      clear hx
      by_cases h0 : 0 < x
      · go_wp2
        go_ret
        refine ⟨?_, rfl⟩
        rw [fidx_hit _ xs k hlt HK.out.2 (by rw [← HX.out]; exact decide_eq_true h0)]
        rfl
      · go_wp2
        go_round
        case rel => exact ⟨k + 1, by go_num, ⟨by omega, take_all_snoc hlt HK.out.2 (by rw [← HX.out]; exact decide_eq_false h0)⟩⟩
        case measure => simp [intOf]; omega
    · go_wp2
      go_ret
      refine ⟨?_, rfl⟩
      rw [fidx_none _ xs (by have h := HK.out.2; rw [List.take_of_length_le (by omega)] at h; exact h)]
      rfl

theorem full_calls (w : World) (A : Option Addr) (c : Nat) (xs : List Int) (hr : Kd.C (Kd.int .i64) w A xs.length xs) (hl : xs.length * 8 ≤ 140737488355328) :
    Calls Tryz.prog 103 #[.slice A xs.length c] w fun e w' => e = .returned (.bool (!xs.any (fun x => decide (x > 0)))) ∧ w' = w := by
  go_enter Tryz.func103, Tryz.ntmps103
  go_wp2_with (first | (go_at_call 165; go_in) | (go_at_call 203; refine (indexPos_calls w A c xs hr hl).mono ?_; rintro e w' ⟨rfl, rfl⟩))
  go_ret
  have e := fidx_ge (fun x : Int => decide (x > 0)) xs
  refine ⟨?_, rfl⟩
  rw [← e]
  rfl
end Go.Proofs.YtdecijmncpbheaaGreatDoor

namespace Go.Proofs.YtdecijmncpbheaaGreatDoor
open Go.RowKit Go.Shelf Go.Proofs.YtdecijmncpbheaaGreatDoorW.PrintWords Go.Proofs.YtdecijmncpbheaaGreatDoorW.PrintLast Go.Proofs.YtdecijmncpbheaaGreatDoorW.PrintMore
set_option linter.unusedVariables false
set_option linter.unusedSimpArgs false

/-! ### names -/
def lettersL : List UInt8 := [97, 98, 99, 100, 101, 102, 103, 104, 105, 106, 107, 108, 109, 110, 111, 112, 113, 114, 115, 116, 117, 118, 119, 120, 121, 122, 65, 66, 67, 68, 69, 70, 71, 72, 73, 74, 75, 76, 77, 78, 79, 80, 81, 82, 83, 84, 85, 86, 87, 88, 89, 90]
def othersL : List UInt8 := [97, 98, 99, 100, 101, 102, 103, 104, 105, 106, 107, 108, 109, 110, 111, 112, 113, 114, 115, 116, 117, 118, 119, 120, 121, 122, 65, 66, 67, 68, 69, 70, 71, 72, 73, 74, 75, 76, 77, 78, 79, 80, 81, 82, 83, 84, 85, 86, 87, 88, 89, 90, 48, 49, 50, 51, 52, 53, 54, 55, 56, 57, 95]
def isLetter (c : UInt8) : Bool := lettersL.contains c
def isOther (c : UInt8) : Bool := othersL.contains c
def allOther (l : List UInt8) : Bool := l.all isOther
/-- May a named type have these bytes for a name? -/
def namedL (l : List UInt8) : Bool := decide (1 ≤ l.length) && decide (l.length ≤ 32) && isLetter (l.headD 0) && allOther l
def namedB (s : ByteArray) : Bool := namedL s.data.toList

theorem all_dropWhile {α : Type} (p : α → Bool) (l : List α) : (l.dropWhile p).all p = l.all p := by
  induction l with
  | nil => rfl
  | cons a t ih =>
    rw [List.dropWhile_cons]
    by_cases h : p a = true
    · rw [if_pos h, ih, List.all_cons, h, Bool.true_and]
    · rw [if_neg h]
theorem isEmpty_dropWhile {α : Type} (p : α → Bool) (l : List α) : (l.dropWhile p).isEmpty = l.all p := by
  induction l with
  | nil => rfl
  | cons a t ih =>
    rw [List.dropWhile_cons]
    by_cases h : p a = true
    · rw [if_pos h, ih, List.all_cons, h, Bool.true_and]
    · rw [if_neg h, List.all_cons]
      simp [h]
theorem trimS_isEmpty (l cs : List UInt8) : (Lib.trimS l cs).isEmpty = l.all (fun c => cs.contains c) := by
  unfold Lib.trimS Lib.trimLeftS Lib.trimRightS
  rw [isEmpty_dropWhile, List.all_reverse, all_dropWhile, List.all_reverse]

theorem contains_letters (c : UInt8) (w : World) : Calls Tryz.prog 201 #[.string ⟨#[97, 98, 99, 100, 101, 102, 103, 104, 105, 106, 107, 108, 109, 110, 111, 112, 113, 114, 115, 116, 117, 118, 119, 120, 121, 122, 65, 66, 67, 68, 69, 70, 71, 72, 73, 74, 75, 76, 77, 78, 79, 80, 81, 82, 83, 84, 85, 86, 87, 88, 89, 90]⟩, .string ⟨#[c]⟩] w fun e w' => e = .returned (.bool (isLetter c)) ∧ w' = w := by
  have h := Any.strings_Contains_one Tryz.lays144 ⟨#[97, 98, 99, 100, 101, 102, 103, 104, 105, 106, 107, 108, 109, 110, 111, 112, 113, 114, 115, 116, 117, 118, 119, 120, 121, 122, 65, 66, 67, 68, 69, 70, 71, 72, 73, 74, 75, 76, 77, 78, 79, 80, 81, 82, 83, 84, 85, 86, 87, 88, 89, 90]⟩ c w
  rw [show decide (0 ≤ Lib.indexByte (ByteArray.mk #[97, 98, 99, 100, 101, 102, 103, 104, 105, 106, 107, 108, 109, 110, 111, 112, 113, 114, 115, 116, 117, 118, 119, 120, 121, 122, 65, 66, 67, 68, 69, 70, 71, 72, 73, 74, 75, 76, 77, 78, 79, 80, 81, 82, 83, 84, 85, 86, 87, 88, 89, 90]).data.toList c) = isLetter c from (Lib.contains_iff_indexByte _ _).symm] at h
  exact h
theorem trim_others (s : ByteArray) (w : World) (hs : s.size ≤ 140737488351232) : Calls Tryz.prog 202 #[.string s, .string ⟨#[97, 98, 99, 100, 101, 102, 103, 104, 105, 106, 107, 108, 109, 110, 111, 112, 113, 114, 115, 116, 117, 118, 119, 120, 121, 122, 65, 66, 67, 68, 69, 70, 71, 72, 73, 74, 75, 76, 77, 78, 79, 80, 81, 82, 83, 84, 85, 86, 87, 88, 89, 90, 48, 49, 50, 51, 52, 53, 54, 55, 56, 57, 95]⟩] w fun e w' => (∃ r : ByteArray, e = .returned (.string r) ∧ r.toList.isEmpty = allOther s.data.toList) ∧ Below w.heap.size w w' := by
  refine (Any.strings_Trim_laid Tryz.lays160 (by kernel_rfl) s ⟨#[97, 98, 99, 100, 101, 102, 103, 104, 105, 106, 107, 108, 109, 110, 111, 112, 113, 114, 115, 116, 117, 118, 119, 120, 121, 122, 65, 66, 67, 68, 69, 70, 71, 72, 73, 74, 75, 76, 77, 78, 79, 80, 81, 82, 83, 84, 85, 86, 87, 88, 89, 90, 48, 49, 50, 51, 52, 53, 54, 55, 56, 57, 95]⟩ w (by omega) (by decide) (ascii_of_all (by decide))).mono ?_
  rintro e w' ⟨rfl, hb⟩
  refine ⟨⟨_, rfl, ?_⟩, hb⟩
  rw [Lib.toList_data]
  exact trimS_isEmpty _ _

set_option maxRecDepth 100000 in
set_option maxHeartbeats 1000000 in
theorem named_calls (w : World) (s : ByteArray) :
    Calls Tryz.prog 164 #[.string s] w fun e w' => e = .returned (.bool (namedB s)) ∧ Below w.heap.size w w' := by
  rcases Nat.eq_zero_or_pos s.size with h0 | h0
  · obtain rfl : s = ByteArray.empty := by
      rcases s with ⟨⟨l⟩⟩
      simp [ByteArray.size] at h0
      subst h0
      rfl
    go_enter Tryz.func164, Tryz.ntmps164
    go_wp2
    go_ret
    exact ⟨rfl, Below.refl _ _⟩
  · have hlen : s.data.toList.length = s.size := rfl
    by_cases h32 : s.size ≤ 32
    · have hs : s.size ≤ 140737488351232 := by omega
      obtain ⟨c, l, hl⟩ : ∃ c l, s.data.toList = c :: l := by
        rcases h : s.data.toList with _ | ⟨c, l⟩
        · rw [h] at hlen
          simp at hlen
          omega
        · exact ⟨c, l, rfl⟩
      have hx : s.extract 0 1 = ⟨#[c]⟩ := WideShapes.bytes_inj (by rw [Lib.extract_data, hl]; rfl)
      have ht : ¬ s.toList = [] := by rw [Lib.toList_data, hl]; simp
      have hte : s.toList.isEmpty = false := by rw [Lib.toList_data, hl]; rfl
      have h64 : (s.size : Int) ≤ 32 := by omega
      have h65 : 1 ≤ (s.size : Int) := by omega
      have HN := Aside0.mk (show namedB s = (isLetter c && allOther s.data.toList) by
        unfold namedB namedL
        rw [hlen, decide_eq_true h32, decide_eq_true (by omega : 1 ≤ s.size), hl]
        rfl)
      clear hl hlen
      cases hb : isLetter c with
      | false =>
        go_enter Tryz.func164, Tryz.ntmps164
        go_wp2_with (go_at_call 201; refine (contains_letters c w).mono ?_; rintro e w' ⟨rfl, rfl⟩)
        go_ret
        refine ⟨?_, Below.refl _ _⟩
        rw [HN.out, hb]
        rfl
      | true =>
        go_enter Tryz.func164, Tryz.ntmps164
        go_wp2_with (first | (go_at_call 201; refine (contains_letters c w).mono ?_; rintro e w' ⟨rfl, rfl⟩) | (go_at_call 202; refine (trim_others s _ hs).mono ?_; rintro e w' ⟨⟨r, rfl, hr⟩, hbel⟩))
        go_ret
        refine ⟨?_, hbel⟩
        rw [HN.out, hb, Bool.true_and]
        rfl
    · have hx1 : ¬ (s.size : Int) ≤ 32 := by omega
      have ht : ¬ s.toList = [] := by
        rw [Lib.toList_data]
        intro h
        rw [h] at hlen
        simp at hlen
        omega
      have h1 : (namedB s) = false := by
        unfold namedB namedL
        rw [hlen, decide_eq_false h32]
        simp
      have HN := Aside0.mk h1
      have hte : s.toList.isEmpty = false := by simpa using ht
      clear h1 hlen
      go_enter Tryz.func164, Tryz.ntmps164
      go_wp2
      go_ret
      rw [HN.out]
      exact ⟨rfl, Below.refl _ _⟩

/-! ### may -/
abbrev Term.v0 (t : Term) : Bool := !t.f0 && t.f1 == 0
/-- A base type's names. -/
def baseB (s : ByteArray) : Bool := s.data.toList == [98, 111, 111, 108] || s.data.toList == [105, 110, 116] || s.data.toList == [116, 101, 120, 116] || s.data.toList == [117, 110, 105, 116]
set_option maxRecDepth 100000 in
set_option maxHeartbeats 1000000 in
theorem indexStr_calls (w : World) (A : Option Addr) (c : Nat) (xs : List ByteArray) (s : ByteArray) (hr : Kd.string.C w A xs.length xs) (hl : xs.length * 16 ≤ 140737488355328) :
    Calls Tryz.prog 229 #[.slice A xs.length c, .string s] w fun e w' => e = .returned (.int .i64 (fidx (fun x : ByteArray => s.toList == x.toList) xs)) ∧ w' = w := by
  have HR := Aside0.mk hr
  clear hr
  go_enter Tryz.func229, Tryz.ntmps229
  go_wp2
  go_loop [8] (fun i => ∃ k : Nat, i = .int .i64 k ∧ Aside0 (k ≤ xs.length ∧ ∀ x ∈ xs.take k, (s.toList == x.toList) = false)) (fun i => xs.length - (intOf i).toNat)
  case atStart => exact ⟨0, rfl, ⟨Nat.zero_le _, by simp⟩⟩
  case round =>
    obtain ⟨k, rfl, HK⟩ := hrel
    have hk := HK.out.1
    by_cases hlt : k < xs.length
    · obtain ⟨ad, rfl, hc⟩ := C_strN HR.out k hlt
      obtain ⟨x, hx⟩ : ∃ x, x = xs[k] := ⟨_, rfl⟩
      rw [← hx] at hc
      have HX := Aside0.mk hx
      clear hx
      cases h0 : s.toList == x.toList with
      | true =>
        go_wp2
        go_ret
        refine ⟨?_, rfl⟩
        rw [fidx_hit _ xs k hlt HK.out.2 (by rw [← HX.out]; exact h0)]
        rfl
      | false =>
        have HF := Aside0.mk h0
        go_wp2
        go_round
        case rel => exact ⟨k + 1, by go_num, ⟨by omega, take_all_snoc hlt HK.out.2 (by rw [← HX.out]; exact HF.out)⟩⟩
        case measure => simp [intOf]; omega
    · go_wp2
      go_ret
      refine ⟨?_, rfl⟩
      rw [fidx_none _ xs (by have h := HK.out.2; rw [List.take_of_length_le (by omega)] at h; exact h)]
      rfl
def baseNames : List ByteArray := [⟨#[98, 111, 111, 108]⟩, ⟨#[105, 110, 116]⟩, ⟨#[116, 101, 120, 116]⟩, ⟨#[117, 110, 105, 116]⟩]
theorem baseB_any (s : ByteArray) : decide (0 ≤ fidx (fun x : ByteArray => s.toList == x.toList) baseNames) = baseB s := by
  rw [fidx_ge]
  unfold baseB baseNames
  simp only [List.any_cons, List.any_nil, Lib.toList_data, Bool.or_false, Bool.or_assoc]
set_option maxRecDepth 100000 in
set_option maxHeartbeats 1000000 in
theorem base_calls (s : ByteArray) (w : World) : Calls Tryz.prog 163 #[.string s] w fun e w' => e = .returned (.bool (baseB s)) ∧ Below w.heap.size w w' := by
  go_enter Tryz.func163, Tryz.ntmps163
  go_wp2_with (first | (go_at_call 200; go_in) | (go_at_call 229; refine (indexStr_calls _ (some ⟨w.heap.size, 0, none⟩) 4 baseNames s (C_lit Value.string (fun _ => rfl) w baseNames 9 (by decide)) (by decide)).mono ?_; rintro e w' ⟨rfl, rfl⟩))
  go_ret
  refine ⟨?_, below_alloc (Below.refl _ _) _⟩
  rw [← baseB_any]
  rfl
/-- May a node be, of this kind, module, name, with so many below it, and these PC and E? -/
def mayV (k m : Int) (s : ByteArray) (d : Int) (pv : Bool) (p : Int) (ev : Bool) (e : Int) : Bool :=
  if k = 1 then decide (m = 0) && baseB s && decide (d = 0) && (!pv && p == 0) && (!ev && e == 0)
  else if k = 2 then decide (0 ≤ m) && decide (m ≤ 16) && namedB s && decide (d = 0) && (!pv && p == 0) && (!ev && e == 0)
  else if k = 3 then s.toList.isEmpty && decide (m = 0) && decide (0 ≤ d) && (!pv && p == 0) && (!ev && e == 0)
  else if k = 4 then s.toList.isEmpty && decide (m = 0) && decide (d = 1) && (!pv && p == 0) && (!ev && e == 0)
  else if k = 5 then s.toList.isEmpty && decide (m = 0) && decide (d = 2)
  else false
def mayB (n : Node) : Bool := mayV n.f0 n.f1 n.f2 n.f3 n.f5.f0 n.f5.f1 n.f6.f0 n.f6.f1
theorem ret_bool {a b : Bool} (h : a = b) : Ending.returned (.bool a) = .returned (.bool b) := by rw [h]

theorem eqTerm (d : Nat) (w : World) (x0 y0 : Bool) (x1 y1 : Int) :
    (Op.equalIn (d + 2) 100 (.agg #[.bool x0, .int .u64 x1]) (.agg #[.bool y0, .int .u64 y1])).run Tryz.prog w = .ok (x0 == y0 && (x1 == y1)) w := by
  refine eqA_of Tryz.underlying100 (by kernel_rfl) ?_
  refine eqf_cons (by rfl) (by go_simp; rfl) (by go_simp; rfl) (by go_simp) ?_
  exact eqf_last (by rfl) (by go_simp; rfl) (by go_simp; rfl) (by go_simp)
def kidsE1 : Array MapEntry := #[{ key := .int .u8 4, val := .int .i64 1, born := 0 }]
def kidsE2 : Array MapEntry := #[{ key := .int .u8 4, val := .int .i64 1, born := 0 }, { key := .int .u8 5, val := .int .i64 2, born := 1 }]
theorem kids_make (W : World) : (Instr.makeMap 256 none).run Tryz.prog W = .ok (.map (some W.heap.size)) (W.alloc (.map #[] 0)) := rfl
theorem kids_upd1 (W : World) (o : Obj) : (Instr.mapUpdate 256 (.map (some (W.heap.size + 1))) (.int .u8 4) (.int .i64 1)).run Tryz.prog ((W.alloc o).alloc (.map #[] 0)) = .ok () ((W.alloc o).alloc (.map kidsE1 1)) := by
  have h := run_mapUpdate_last (P := Tryz.prog) (W.alloc o) 256 117 3 .u8 (by kernel_rfl) (by kernel_rfl) #[] 0 4 (.int .i64 1) rfl
  simpa [kidsE1] using h
theorem kids_upd2 (W : World) (o : Obj) : (Instr.mapUpdate 256 (.map (some (W.heap.size + 1))) (.int .u8 5) (.int .i64 2)).run Tryz.prog ((W.alloc o).alloc (.map kidsE1 1)) = .ok () ((W.alloc o).alloc (.map kidsE2 2)) := by
  have h := run_mapUpdate_last (P := Tryz.prog) (W.alloc o) 256 117 3 .u8 (by kernel_rfl) (by kernel_rfl) kidsE1 1 5 (.int .i64 2) rfl
  simpa [kidsE1, kidsE2] using h
theorem kids_look4 (W : World) (o : Obj) : (Instr.lookup 256 (.map (some (W.heap.size + 1))) (.int .u8 4) true).run Tryz.prog ((W.alloc o).alloc (.map kidsE2 2)) = .ok (.tuple #[.int .i64 1, .bool true]) ((W.alloc o).alloc (.map kidsE2 2)) := by
  have h := run_lookup_last (P := Tryz.prog) (W.alloc o) 256 117 3 .u8 (by kernel_rfl) (by kernel_rfl) kidsE2 2 4 (.int .i64 1) 0 rfl
  simpa using h
theorem kids_look5 (W : World) (o : Obj) : (Instr.lookup 256 (.map (some (W.heap.size + 1))) (.int .u8 5) true).run Tryz.prog ((W.alloc o).alloc (.map kidsE2 2)) = .ok (.tuple #[.int .i64 2, .bool true]) ((W.alloc o).alloc (.map kidsE2 2)) := by
  have h := run_lookup_last (P := Tryz.prog) (W.alloc o) 256 117 3 .u8 (by kernel_rfl) (by kernel_rfl) kidsE2 2 5 (.int .i64 2) 1 rfl
  simpa using h
theorem kids_look3 (W : World) (o : Obj) : (Instr.lookup 256 (.map (some (W.heap.size + 1))) (.int .u8 3) true).run Tryz.prog ((W.alloc o).alloc (.map kidsE2 2)) = .ok (.tuple #[.int .i64 0, .bool false]) ((W.alloc o).alloc (.map kidsE2 2)) := by
  have h := run_lookup_none (P := Tryz.prog) (W.alloc o) 256 117 3 .u8 (.int .i64 0) (by kernel_rfl) (by kernel_rfl) kidsE2 2 3 rfl (fun w => by kernel_rfl)
  simpa using h

attribute [local go_sem high] eqTerm
set_option maxRecDepth 100000 in
set_option maxHeartbeats 4000000 in
theorem may_calls (k m d : Int) (s : ByteArray) (lv pv ev : Bool) (l p e : Int) (w : World) :
    Calls Tryz.prog 102 #[.agg #[.int .u8 k, .int .i64 m, .string s, .int .i64 d, .bool lv, .int .u64 l, .bool pv, .int .u64 p, .bool ev, .int .u64 e]] w fun e' w' => e' = .returned (.bool (mayV k m s d pv p ev e)) ∧ Below w.heap.size w w' := by
  have h1 := kids_make
  have h2 := kids_upd1
  have h3 := kids_upd2
  by_cases hk1 : k = 1
  · subst hk1
    have hb : ∃ b, b = baseB s := ⟨_, rfl⟩
    obtain ⟨b, hb⟩ := hb
    have HB := Aside0.mk hb
    clear hb
    cases b
    all_goals
      go_enter Tryz.func102, Tryz.ntmps102
      go_wp2_with (go_at_call 163; refine (base_calls s _).mono ?_; rintro e' w' ⟨rfl, hb⟩; rw [← HB.out]; have HBel := Aside0.mk hb; obtain ⟨hc, hf⟩ := bcell hb; clear hb)
      all_goals
        go_ret
        refine ⟨ret_bool ?_, by repeat (first | exact Below.refl _ _ | exact below_step (below_alloc (Below.refl _ _) _) HBel.out | apply below_alloc)⟩
        unfold mayV
        rw [← HB.out]
        simp_all
  by_cases hk2 : k = 2
  · subst hk2
    have hb : ∃ b, b = namedB s := ⟨_, rfl⟩
    obtain ⟨b, hb⟩ := hb
    have HB := Aside0.mk hb
    clear hb
    cases b
    all_goals
      go_enter Tryz.func102, Tryz.ntmps102
      go_wp2_with (go_at_call 164; refine (named_calls _ s).mono ?_; rintro e' w' ⟨rfl, hb⟩; rw [← HB.out]; have HBel := Aside0.mk hb; obtain ⟨hc, hf⟩ := bcell hb; clear hb)
      all_goals
        go_ret
        refine ⟨ret_bool ?_, by repeat (first | exact Below.refl _ _ | exact below_step (below_alloc (Below.refl _ _) _) HBel.out | apply below_alloc)⟩
        unfold mayV
        rw [← HB.out]
        first | (simp_all; done) | (simp_all; intros; omega) | omega
  by_cases hk3 : k = 3
  · subst hk3
    have h4 := kids_look3
    go_enter Tryz.func102, Tryz.ntmps102
    go_wp2
    all_goals
      go_ret
      exact ⟨ret_bool (by first | (simp_all [mayV]; done) | (simp_all [mayV]; intros; omega)), by repeat (first | exact Below.refl _ _ | apply below_alloc)⟩
  by_cases hk4 : k = 4
  · subst hk4
    have h4 := kids_look4
    go_enter Tryz.func102, Tryz.ntmps102
    go_wp2
    all_goals
      go_ret
      exact ⟨ret_bool (by first | (simp_all [mayV]; done) | (simp_all [mayV]; intros; omega)), by repeat (first | exact Below.refl _ _ | apply below_alloc)⟩
  by_cases hk5 : k = 5
  · subst hk5
    have h4 := kids_look5
    go_enter Tryz.func102, Tryz.ntmps102
    go_wp2
    all_goals
      go_ret
      exact ⟨ret_bool (by first | (simp_all [mayV]; done) | (simp_all [mayV]; intros; omega)), by repeat (first | exact Below.refl _ _ | apply below_alloc)⟩
  have HS := Aside0.mk (show mayV k m s d pv p ev e = false by unfold mayV; rw [if_neg hk1, if_neg hk2, if_neg hk3, if_neg hk4, if_neg hk5])
  have e1 : (k == 1) = false := beq_eq_false_iff_ne.mpr hk1
  have e2 : (k == 2) = false := beq_eq_false_iff_ne.mpr hk2
  have e3 : (k == 3) = false := beq_eq_false_iff_ne.mpr hk3
  have e4 : (k == 4) = false := beq_eq_false_iff_ne.mpr hk4
  have e5 : (k == 5) = false := beq_eq_false_iff_ne.mpr hk5
  clear hk1 hk2 hk3 hk4 hk5
  go_enter Tryz.func102, Tryz.ntmps102
  go_wp2
  go_ret
  rw [HS.out]
  exact ⟨rfl, by repeat (first | exact Below.refl _ _ | apply below_alloc)⟩
end Go.Proofs.YtdecijmncpbheaaGreatDoor

namespace Go.Proofs.YtdecijmncpbheaaGreatDoor
open Go.RowKit Go.Shelf Go.Proofs.YtdecijmncpbheaaGreatDoorW.PrintWords Go.Proofs.YtdecijmncpbheaaGreatDoorW.PrintLast Go.Proofs.YtdecijmncpbheaaGreatDoorW.PrintMore
set_option linter.unusedVariables false
set_option linter.unusedSimpArgs false

/-- Node j of a body that is read: its cells. -/
theorem C_nodeN {w : World} {A : Option Addr} {xs : List Node} (h : Kd.C kNode w A xs.length xs) (j : Nat) (hj : j < xs.length) : ∃ ad, A = some ad ∧
    w.cell? (ad.add (j * 10)) = some (.int .u8 xs[j].f0) ∧ w.cell? ⟨(ad.add (j * 10)).block, (ad.add (j * 10)).off + 1, none⟩ = some (.int .i64 xs[j].f1) ∧ w.cell? ⟨(ad.add (j * 10)).block, (ad.add (j * 10)).off + 2, none⟩ = some (.string xs[j].f2) ∧
    w.cell? ⟨(ad.add (j * 10)).block, (ad.add (j * 10)).off + 3, none⟩ = some (.int .i64 xs[j].f3) ∧ w.cell? ⟨(ad.add (j * 10)).block, (ad.add (j * 10)).off + 4, none⟩ = some (.bool xs[j].f4.f0) ∧ w.cell? ⟨(ad.add (j * 10)).block, (ad.add (j * 10)).off + 5, none⟩ = some (.int .u64 xs[j].f4.f1) ∧
    w.cell? ⟨(ad.add (j * 10)).block, (ad.add (j * 10)).off + 6, none⟩ = some (.bool xs[j].f5.f0) ∧ w.cell? ⟨(ad.add (j * 10)).block, (ad.add (j * 10)).off + 7, none⟩ = some (.int .u64 xs[j].f5.f1) ∧ w.cell? ⟨(ad.add (j * 10)).block, (ad.add (j * 10)).off + 8, none⟩ = some (.bool xs[j].f6.f0) ∧ w.cell? ⟨(ad.add (j * 10)).block, (ad.add (j * 10)).off + 9, none⟩ = some (.int .u64 xs[j].f6.f1) := by
  obtain ⟨ad, e, hc⟩ := at_T119 h (j : Int) (by omega) (by omega)
  refine ⟨ad, e, ?_⟩
  have e2 : rd_T119 xs (j : Int) = xs[j] := by
    rw [rd_T119, Int.toNat_natCast, List.getD_eq_getElem?_getD, List.getElem?_eq_getElem hj]
    rfl
  rw [e2, Int.toNat_natCast] at hc
  exact hc

/-! ### Check -/
/-- Node by node, from what is open on: the error's number. -/
def checkL : List Node → List Int → Int
  | [], o => if o.any (fun x => decide (x > 0)) then 4 else 0
  | n :: t, o =>
    if (takes o (max 0 n.f3)).1 = 0 then 4 else if mayB n = false then 4 else if n.f3 > 8 then 3 else if (takes o (max 0 n.f3)).1 > 16 then 3 else checkL t (takes o (max 0 n.f3)).2
def checkB (body : List Node) : Int := if body.length = 0 then 1 else if body.length > 128 then 3 else checkL body [1]
theorem takes_len (xs : List Int) (kids : Int) : (takes xs kids).2.length ≤ xs.length + 1 := by
  have := popZ_le xs
  unfold takes
  simp only
  split
  · show (popZ xs).length ≤ _; omega
  · simp; omega
theorem OpenAt.alloc {w : World} {B b : Nat} {xs : List Int} (h : OpenAt w B b xs) (o : Obj) : OpenAt (w.alloc o) B b xs := by
  obtain ⟨v, h1, h2, h3⟩ := h
  exact ⟨v, blk_alloc h1 o, h2, Kd.R_below h3 (below_alloc (Below.refl _ _) _)⟩
theorem OpenAt.below {w w' : World} {B b : Nat} {xs : List Int} (h : OpenAt w B b xs) (hb : Below w.heap.size w w') : OpenAt w' B b xs := by
  obtain ⟨v, h1, h2, h3⟩ := h
  exact ⟨v, (hb.block _ (blk_lt h1)).trans h1, h2, Kd.R_below h3 hb⟩
theorem OpenAt.new (w : World) : OpenAt ((w.alloc (.cells #[.int .i64 1] 3)).alloc (.cells #[.slice (some ⟨w.heap.size, 0, none⟩) 1 1] 136)) w.heap.size (w.heap.size + 1) [1] := by
  refine ⟨_, by simpa using blk_new (w.alloc (.cells #[.int .i64 1] 3)) (.cells #[.slice (some ⟨w.heap.size, 0, none⟩) 1 1] 136), by omega, ?_⟩
  have h := own_lit w w.heap.size 3 .i64 [1] (Nat.le_refl _) (by simp)
  have h2 : (Kd.int .i64).R 3 (w.alloc (.cells #[.int .i64 1] 3)) w.heap.size (fun k => k ≠ w.heap.size + 1) (.slice (some ⟨w.heap.size, 0, none⟩) 1 1) [1] :=
    Kd.R_of_own (enc := Value.int .i64) (h1 := fun _ => rfl) h (fun k hk => by simp [Value.ownBlock] at hk; omega)
  exact Kd.R_below h2 (below_alloc (Below.refl _ _) _)

set_option maxRecDepth 100000 in
set_option maxHeartbeats 4000000 in
theorem check_calls (w : World) (A : Option Addr) (c : Nat) (body : List Node) (hr : Kd.C kNode w A body.length body) :
    Calls Tryz.prog 25 #[.slice A body.length c] w fun e w' => e = .returned (.int .i64 (checkB body)) ∧ Below w.heap.size w w' := by
  by_cases h0 : body.length = 0
  · have HS := Aside0.mk (show checkB body = 1 by unfold checkB; rw [if_pos h0])
    go_enter Tryz.func25, Tryz.ntmps25
    go_wp2
    go_ret
    rw [HS.out]
    exact ⟨rfl, Below.refl _ _⟩
  by_cases h1 : 128 < body.length
  · have HS := Aside0.mk (show checkB body = 3 by unfold checkB; rw [if_neg h0, if_pos h1])
    go_enter Tryz.func25, Tryz.ntmps25
    go_wp2
    go_ret
    rw [HS.out]
    exact ⟨rfl, Below.refl _ _⟩
  have HS := Aside0.mk (show checkB body = checkL body [1] by unfold checkB; rw [if_neg h0, if_neg h1])
  have HR := Aside0.mk hr
  have q0 : ((body.length : Int) == 0) = false := beq_eq_false_iff_ne.mpr (by omega)
  have q1 : decide (128 < (body.length : Int)) = false := decide_eq_false (by omega)
  have hlen : body.length ≤ 128 := by omega
  clear hr h0 h1
  go_enter Tryz.func25, Tryz.ntmps25
  go_wp2
  go_loopg [18] 129 (fun g i W => ∃ (k : Nat) (xs : List Int), i = .int .i64 k ∧ Aside0 (k ≤ body.length ∧ 129 - k ≤ g ∧ xs.length ≤ k + 1 ∧ checkL (body.drop k) xs = checkL body [1]) ∧ Aside0 (OpenAt W w.heap.size (w.heap.size + 1) xs) ∧ Aside0 (Below w.heap.size w W ∧ w.heap.size + 2 ≤ W.heap.size))
  case atStart => exact ⟨0, [1], rfl, ⟨Nat.zero_le _, by omega, by simp, rfl⟩, ⟨OpenAt.new w⟩, ⟨by repeat (first | exact Below.refl _ _ | apply below_alloc), by simp⟩⟩
  case round =>
    obtain ⟨k, xs, rfl, HK, HO, HB⟩ := hrel
    have hk := HK.out.1
    by_cases hlt : k < body.length
    · obtain ⟨ad, rfl, c0, c1, c2, c3, c4, c5, c6, c7, c8, c9⟩ := C_nodeN (Kd.C_below HR.out HB.out.1) k hlt
      obtain ⟨n, hn⟩ : ∃ n, n = body[k] := ⟨_, rfl⟩
      rw [← hn] at c0 c1 c2 c3 c4 c5 c6 c7 c8 c9
      have HN := Aside0.mk hn
      clear hn
      obtain ⟨d, hd⟩ : ∃ d, d = (takes xs (max 0 n.f3)).1 := ⟨_, rfl⟩
      obtain ⟨ys, hys⟩ : ∃ ys, ys = (takes xs (max 0 n.f3)).2 := ⟨_, rfl⟩
      obtain ⟨m, hm⟩ : ∃ m, m = mayB n := ⟨_, rfl⟩
      have HD := Aside0.mk hd
      have HY := Aside0.mk hys
      have HMB := Aside0.mk hm
      have HM : Aside0 (∀ W : World, Calls Tryz.prog 102 #[.agg #[.int .u8 n.f0, .int .i64 n.f1, .string n.f2, .int .i64 n.f3, .bool n.f4.f0, .int .u64 n.f4.f1, .bool n.f5.f0, .int .u64 n.f5.f1, .bool n.f6.f0, .int .u64 n.f6.f1]] W fun e' w' => e' = .returned (.bool m) ∧ Below W.heap.size W w') :=
        ⟨fun W => by rw [hm]; exact may_calls _ _ _ _ _ _ _ _ _ _ W⟩
      have hlx := HK.out.2.2.1
      have HT : Aside0 (∀ W : World, OpenAt W w.heap.size (w.heap.size + 1) xs → w.heap.size ≤ W.heap.size → Calls Tryz.prog 101 #[.pointer (some ⟨w.heap.size + 1, 0, none⟩), .int .i64 (max 0 n.f3)] W fun e w' => e = .returned (.int .i64 d) ∧ OpenAt w' w.heap.size (w.heap.size + 1) ys ∧ Kept W w' (OpenS W w.heap.size) ∧ Below w.heap.size W w') :=
        ⟨fun W h1 h2 => by rw [hd, hys]; exact takes_calls W _ _ xs (max 0 n.f3) h2 h1 (by omega)⟩
      clear hd hys hm hlx
      by_cases hd0 : d = 0
      · have e0 : (d == 0) = true := beq_iff_eq.mpr hd0
        have HC := Aside0.mk hd0
        clear hd0
        go_wp2_with (first | (go_at_call 101; refine (HT.out _ (HO.out.alloc _) (by have := HB.out; simp; omega)).mono ?_; rintro e w1 ⟨rfl, hO1, hK1, hB1⟩; have hbx := blk_kept (blk_new wr _) hK1 (by rintro ⟨_, c, t, h1, h2⟩; rw [blk_new] at h1; injection h1 with h1; injection h1 with _ h1; revert h2; subst h1; decide); have hbc := fun o => blk_cell hbx o; have HO1 := Aside0.mk hO1; have HB1 : Aside0 (Below w.heap.size w w1 ∧ w.heap.size + 2 ≤ w1.heap.size) := ⟨(below_step' HB.out.1 _).trans hB1, by have h1 := HB.out.2; have h2 := hK1.1; simp at h2; omega⟩; have HBX := Aside0.mk hbx; clear hO1 hK1 hB1 hbx) | (go_at_call 102; refine (HM.out _).mono ?_; rintro e w2 ⟨rfl, hB2⟩; obtain ⟨hc2, hf2⟩ := bcell hB2; have hl2 : wr.heap.size < w1.heap.size := blk_lt HBX.out; have HB2 := Aside0.mk hB2; clear hB2))
        go_ret
        refine ⟨?_, HB1.out.1⟩
        rw [HS.out, ← HK.out.2.2.2, List.drop_eq_getElem_cons hlt, checkL, ← HN.out, ← HD.out, if_pos HC.out]
        rfl
      have e0 : (d == 0) = false := beq_eq_false_iff_ne.mpr hd0
      have HC0 := Aside0.mk hd0
      clear hd0
      by_cases hm0 : m = false
      · subst hm0
        go_wp2_with (first | (go_at_call 101; refine (HT.out _ (HO.out.alloc _) (by have := HB.out; simp; omega)).mono ?_; rintro e w1 ⟨rfl, hO1, hK1, hB1⟩; have hbx := blk_kept (blk_new wr _) hK1 (by rintro ⟨_, c, t, h1, h2⟩; rw [blk_new] at h1; injection h1 with h1; injection h1 with _ h1; revert h2; subst h1; decide); have hbc := fun o => blk_cell hbx o; have HO1 := Aside0.mk hO1; have HB1 : Aside0 (Below w.heap.size w w1 ∧ w.heap.size + 2 ≤ w1.heap.size) := ⟨(below_step' HB.out.1 _).trans hB1, by have h1 := HB.out.2; have h2 := hK1.1; simp at h2; omega⟩; have HBX := Aside0.mk hbx; clear hO1 hK1 hB1 hbx) | (go_at_call 102; refine (HM.out _).mono ?_; rintro e w2 ⟨rfl, hB2⟩; obtain ⟨hc2, hf2⟩ := bcell hB2; have hl2 : wr.heap.size < w1.heap.size := blk_lt HBX.out; have HB2 := Aside0.mk hB2; clear hB2))
        go_ret
        refine ⟨?_, below_step HB1.out.1 HB2.out⟩
        rw [HS.out, ← HK.out.2.2.2, List.drop_eq_getElem_cons hlt, checkL, ← HN.out, ← HD.out, if_neg HC0.out, if_pos HMB.out.symm]
        rfl
      obtain rfl : m = true := by simpa using hm0
      clear hm0
      by_cases h8 : 8 < n.f3
      · have e8 : decide (8 < n.f3) = true := decide_eq_true h8
        have HC8 := Aside0.mk h8
        clear h8
        go_wp2_with (first | (go_at_call 101; refine (HT.out _ (HO.out.alloc _) (by have := HB.out; simp; omega)).mono ?_; rintro e w1 ⟨rfl, hO1, hK1, hB1⟩; have hbx := blk_kept (blk_new wr _) hK1 (by rintro ⟨_, c, t, h1, h2⟩; rw [blk_new] at h1; injection h1 with h1; injection h1 with _ h1; revert h2; subst h1; decide); have hbc := fun o => blk_cell hbx o; have HO1 := Aside0.mk hO1; have HB1 : Aside0 (Below w.heap.size w w1 ∧ w.heap.size + 2 ≤ w1.heap.size) := ⟨(below_step' HB.out.1 _).trans hB1, by have h1 := HB.out.2; have h2 := hK1.1; simp at h2; omega⟩; have HBX := Aside0.mk hbx; clear hO1 hK1 hB1 hbx) | (go_at_call 102; refine (HM.out _).mono ?_; rintro e w2 ⟨rfl, hB2⟩; obtain ⟨hc2, hf2⟩ := bcell hB2; have hl2 : wr.heap.size < w1.heap.size := blk_lt HBX.out; have HB2 := Aside0.mk hB2; clear hB2))
        go_ret
        refine ⟨?_, below_step HB1.out.1 HB2.out⟩
        rw [HS.out, ← HK.out.2.2.2, List.drop_eq_getElem_cons hlt, checkL, ← HN.out, ← HD.out, if_neg HC0.out, if_neg (by rw [← HMB.out]; simp), if_pos (by have := HC8.out; omega)]
        rfl
      have e8 : decide (8 < n.f3) = false := decide_eq_false h8
      have HC8 := Aside0.mk h8
      clear h8
      by_cases h16 : 16 < d
      · have e16 : decide (16 < d) = true := decide_eq_true h16
        have HC16 := Aside0.mk h16
        clear h16
        go_wp2_with (first | (go_at_call 101; refine (HT.out _ (HO.out.alloc _) (by have := HB.out; simp; omega)).mono ?_; rintro e w1 ⟨rfl, hO1, hK1, hB1⟩; have hbx := blk_kept (blk_new wr _) hK1 (by rintro ⟨_, c, t, h1, h2⟩; rw [blk_new] at h1; injection h1 with h1; injection h1 with _ h1; revert h2; subst h1; decide); have hbc := fun o => blk_cell hbx o; have HO1 := Aside0.mk hO1; have HB1 : Aside0 (Below w.heap.size w w1 ∧ w.heap.size + 2 ≤ w1.heap.size) := ⟨(below_step' HB.out.1 _).trans hB1, by have h1 := HB.out.2; have h2 := hK1.1; simp at h2; omega⟩; have HBX := Aside0.mk hbx; clear hO1 hK1 hB1 hbx) | (go_at_call 102; refine (HM.out _).mono ?_; rintro e w2 ⟨rfl, hB2⟩; obtain ⟨hc2, hf2⟩ := bcell hB2; have hl2 : wr.heap.size < w1.heap.size := blk_lt HBX.out; have HB2 := Aside0.mk hB2; clear hB2))
        go_ret
        refine ⟨?_, below_step HB1.out.1 HB2.out⟩
        rw [HS.out, ← HK.out.2.2.2, List.drop_eq_getElem_cons hlt, checkL, ← HN.out, ← HD.out, if_neg HC0.out, if_neg (by rw [← HMB.out]; simp), if_neg (by have := HC8.out; omega), if_pos (by have := HC16.out; omega)]
        rfl
      have e16 : decide (16 < d) = false := decide_eq_false h16
      have HC16 := Aside0.mk h16
      clear h16
      go_wp2_with (first | (go_at_call 101; refine (HT.out _ (HO.out.alloc _) (by have := HB.out; simp; omega)).mono ?_; rintro e w1 ⟨rfl, hO1, hK1, hB1⟩; have hbx := blk_kept (blk_new wr _) hK1 (by rintro ⟨_, c, t, h1, h2⟩; rw [blk_new] at h1; injection h1 with h1; injection h1 with _ h1; revert h2; subst h1; decide); have hbc := fun o => blk_cell hbx o; have HO1 := Aside0.mk hO1; have HB1 : Aside0 (Below w.heap.size w w1 ∧ w.heap.size + 2 ≤ w1.heap.size) := ⟨(below_step' HB.out.1 _).trans hB1, by have h1 := HB.out.2; have h2 := hK1.1; simp at h2; omega⟩; have HBX := Aside0.mk hbx; clear hO1 hK1 hB1 hbx) | (go_at_call 102; refine (HM.out _).mono ?_; rintro e w2 ⟨rfl, hB2⟩; obtain ⟨hc2, hf2⟩ := bcell hB2; have hl2 : wr.heap.size < w1.heap.size := blk_lt HBX.out; have HB2 := Aside0.mk hB2; clear hB2))
      go_roundg (gk - 1)
      case measure => have := HK.out; omega
      case rel =>
        have hkk := HK.out
        have hl1 := takes_len xs (max 0 n.f3)
        refine ⟨k + 1, ys, by go_num, ⟨by omega, by omega, by rw [HY.out]; omega, ?_⟩, ⟨HO1.out.below HB2.out⟩, ⟨below_step HB1.out.1 HB2.out, Nat.le_trans HB1.out.2 HB2.out.size⟩⟩
        rw [← hkk.2.2.2, List.drop_eq_getElem_cons hlt, checkL, ← HN.out, ← HD.out, if_neg HC0.out, if_neg (by rw [← HMB.out]; simp), if_neg (by have := HC8.out; omega), if_neg (by have := HC16.out; omega), ← HY.out]
    · have hd1 : decide (k < body.length) = false := decide_eq_false hlt
      obtain ⟨v, hb, hBb, HRo⟩ := HO.out
      obtain ⟨A0, c0, rfl⟩ := Kd.R_slice HRo
      have hcell := blk_cell hb 0
      have HCo := Aside0.mk (Kd.R_reads' HRo).2.2
      have hkl : k = body.length := by omega
      have HKL := Aside0.mk hkl
      clear hb HRo hkl
      have hx : xs.length * 8 ≤ 140737488355328 := by have := HK.out; omega
      obtain ⟨f, hf⟩ : ∃ f, f = xs.any (fun x => decide (x > 0)) := ⟨_, rfl⟩
      have HFF := Aside0.mk hf
      have HFU := Aside0.mk (full_calls wr A0 c0 xs HCo.out hx)
      rw [← hf] at HFU
      clear hf
      have HE := Aside0.mk (show checkB body = if f = true then 4 else 0 by
        have h2 := HK.out.2.2.2
        rw [List.drop_eq_nil_of_le (by have := HKL.out; omega)] at h2
        rw [HS.out, ← h2, checkL, HFF.out])
      cases f
      all_goals
        go_wp2_with (go_at_call 103; refine HFU.out.mono ?_; rintro e w1 ⟨rfl, rfl⟩)
        go_ret
        refine ⟨?_, HB.out.1⟩
        rw [HE.out]
        rfl
end Go.Proofs.YtdecijmncpbheaaGreatDoor

namespace Go.Proofs.YtdecijmncpbheaaGreatDoor
open Go.RowKit Go.Shelf Go.Proofs.YtdecijmncpbheaaGreatDoorW.PrintWords Go.Proofs.YtdecijmncpbheaaGreatDoorW.PrintLast Go.Proofs.YtdecijmncpbheaaGreatDoorW.PrintMore
set_option linter.unusedVariables false
set_option linter.unusedSimpArgs false

/-! ### Same -/
/-- Are two nodes the same, but for their terms? -/
def sameN (x y : Node) : Bool := x.f0 == y.f0 && x.f1 == y.f1 && x.f2.toList == y.f2.toList && x.f3 == y.f3
def sameL : List Node → List Node → Bool
  | [], [] => true
  | x :: xs, y :: ys => sameN x y && sameL xs ys
  | _, _ => false
end Go.Proofs.YtdecijmncpbheaaGreatDoor

namespace Go.Proofs.YtdecijmncpbheaaGreatDoor
open Go.RowKit Go.Proofs.YtdecijmncpbheaaGreatDoorW.PrintWords Go.Proofs.YtdecijmncpbheaaGreatDoorW.PrintLast Go.Proofs.YtdecijmncpbheaaGreatDoorW.PrintMore
set_option linter.unusedVariables false
set_option linter.unusedSimpArgs false

/-- Trees side by side: a node, those below it, and the rest. -/
inductive Fo where
  | nil
  | cons (n : Node) (ks rest : Fo)
namespace Fo
def flat : Fo → List Node
  | nil => []
  | cons n ks r => n :: (flat ks ++ flat r)
def count : Fo → Nat
  | nil => 0
  | cons _ _ r => count r + 1
def height : Fo → Nat
  | nil => 0
  | cons _ ks r => max (height ks + 1) (height r)
/-- Each node may be, has as many below it as it says, not too many, and is not too deep. -/
def ok : Fo → Nat → Prop
  | nil, _ => True
  | cons n ks r, d => mayB n = true ∧ n.f3 = (count ks : Int) ∧ n.f3 ≤ 8 ∧ d ≤ 16 ∧ ok ks (d + 1) ∧ ok r d
theorem ok_height : ∀ (f : Fo) (d : Nat), ok f d → 0 < height f → d + height f ≤ 17
  | nil, _, _, h => absurd h (by simp [height])
  | cons n ks r, d, ⟨h1, h2, h3, h4, h5, h6⟩, _ => by
    have i1 := ok_height ks (d + 1) h5
    have i2 := ok_height r d h6
    simp only [height]
    omega
theorem height_pos : ∀ (f : Fo), 0 < count f → 0 < height f
  | nil, h => absurd h (by simp [count])
  | cons n ks r, _ => by simp only [height]; omega
theorem flat_len_pos (f : Fo) (h : 0 < count f) : 0 < f.flat.length := by
  cases f with
  | nil => simp [count] at h
  | cons n ks r => simp [flat]
theorem flat_nil_of_count (f : Fo) (h : count f = 0) : f = nil := by
  cases f with
  | nil => rfl
  | cons n ks r => simp [count] at h
end Fo

theorem wrap_small (x : Int) (h0 : 0 ≤ x) (h : x ≤ 100) : wrap64 x = x := by unfold wrap64; omega
theorem takes_snoc (os : List Int) (x k : Int) (h1 : 1 ≤ x) (h8 : x ≤ 8) : takes (os ++ [x]) k = ((os.length : Int) + 1, os ++ [x - 1] ++ [k]) := by
  have e : popZ (os ++ [x]) = os ++ [x] := by rw [popZ_snoc, if_neg (by omega)]
  unfold takes
  rw [e]
  have e2 : (os ++ [x]).length = os.length + 1 := by simp
  simp only [e2, Nat.add_sub_cancel]
  rw [if_neg (by omega)]
  have e3 : (os ++ [x]).getD os.length 0 = x := by simp [List.getD_eq_getElem?_getD]
  have e4 : (os ++ [x]).set os.length (wrap64 (x - 1)) = os ++ [wrap64 (x - 1)] := by
    rw [List.set_append_right _ _ (Nat.le_refl _)]; simp
  rw [e3, e4, wrap_small _ (by omega) (by omega)]
  simp
theorem takes_zero' (os : List Int) (k : Int) : takes (os ++ [0]) k = takes os k := by
  unfold takes
  rw [popZ_snoc, if_pos rfl]
theorem takes_nil (k : Int) : takes [] k = (0, []) := by simp [takes, popZ]
theorem checkL_zero (l : List Node) (os : List Int) : checkL l (os ++ [0]) = checkL l os := by
  cases l with
  | nil => simp [checkL]
  | cons n t => rw [checkL, checkL, takes_zero']
theorem mayB_kids {n : Node} (h : mayB n = true) : 0 ≤ n.f3 := by
  unfold mayB mayV at h
  repeat' split at h
  all_goals simp at h
  all_goals omega

/-- A forest at its place: what Check makes of it. -/
theorem checkL_fo : ∀ (f : Fo) (os : List Int) (x : Int) (r : List Node), f.ok (os.length + 1) → (f.count : Int) ≤ x → x ≤ 8 → checkL (f.flat ++ r) (os ++ [x]) = checkL r (os ++ [x - f.count])
  | .nil, os, x, r, _, _, _ => by simp [Fo.flat, Fo.count]
  | .cons n ks rest, os, x, r, ⟨h1, h2, h3, h4, h5, h6⟩, hc, h8 => by
    simp only [Fo.count] at hc
    have hk := mayB_kids h1
    have e1 : max 0 n.f3 = n.f3 := by omega
    simp only [Fo.flat, List.cons_append, List.append_assoc]
    rw [checkL, e1, takes_snoc os x n.f3 (by omega) h8]
    rw [if_neg (by simp only; omega), if_neg (by rw [h1]; simp), if_neg (by omega), if_neg (by simp only; omega)]
    simp only
    rw [checkL_fo ks (os ++ [x - 1]) n.f3 _ (by simpa using h5) (by omega) h3, h2, Int.sub_self, checkL_zero, checkL_fo rest os (x - 1) r h6 (by omega) (by omega)]
    simp only [Fo.count]
    congr 3
    omega
theorem checkL_back : ∀ (m : Nat) (l : List Node) (os : List Int) (x : Nat), l.length ≤ m → x ≤ 8 → checkL l (os ++ [(x : Int)]) = 0 →
    ∃ (f : Fo) (r : List Node), f.count = x ∧ f.ok (os.length + 1) ∧ l = f.flat ++ r ∧ checkL r os = 0 := by
  intro m
  induction m with
  | zero =>
    intro l os x hl h8 h
    obtain rfl := List.eq_nil_of_length_eq_zero (by omega : l.length = 0)
    cases x with
    | zero => exact ⟨.nil, [], rfl, trivial, rfl, by rw [← checkL_zero]; exact h⟩
    | succ x => rw [checkL, if_pos (by first | (simp; done) | (simp; omega))] at h; exact absurd h (by decide)
  | succ m ih =>
    intro l os x
    induction x with
    | zero => intro hl h8 h; exact ⟨.nil, l, rfl, trivial, rfl, by rw [← checkL_zero]; exact h⟩
    | succ x _ =>
      intro hl h8 h
      cases l with
      | nil => rw [checkL, if_pos (by first | (simp; done) | (simp; omega))] at h; exact absurd h (by decide)
      | cons n t =>
        rw [checkL, takes_snoc os _ _ (by omega) (by omega)] at h
        simp only at h
        split at h
        · omega
        split at h
        · omega
        split at h
        · omega
        split at h
        · omega
        rename_i h1 h2 h3 h4
        have hm : mayB n = true := by simpa using h2
        have hk := mayB_kids hm
        have e1 : max 0 n.f3 = (n.f3.toNat : Int) := by omega
        rw [e1] at h
        simp only [List.length_cons] at hl
        obtain ⟨ks, r, hc, hok, hr, hrest⟩ := ih t (os ++ [((x + 1 : Nat) : Int) - 1]) n.f3.toNat (by omega) (by omega) h
        have hlr : r.length ≤ m := by
          have := congrArg List.length hr
          simp at this
          omega
        have e2 : ((x + 1 : Nat) : Int) - 1 = (x : Int) := by omega
        rw [e2] at hrest
        obtain ⟨f, r2, hc2, hok2, hr2, hrest2⟩ := ih r os x hlr (by omega) hrest
        refine ⟨.cons n ks f, r2, by simp [Fo.count, hc2], ⟨hm, by omega, by omega, by omega, by simpa using hok, hok2⟩, ?_, hrest2⟩
        simp only [Fo.flat, List.cons_append, List.append_assoc]
        rw [hr, hr2]
theorem checkL_empty (r : List Node) (h : checkL r [] = 0) : r = [] := by
  cases r with
  | nil => rfl
  | cons n t => rw [checkL, takes_nil, if_pos rfl] at h; omega
/-- A tree: a forest of one. -/
def isTree (f : Fo) : Prop := f.count = 1 ∧ f.ok 1
theorem check_iff (body : List Node) : checkB body = 0 ↔ body.length ≤ 128 ∧ ∃ f, isTree f ∧ body = f.flat := by
  constructor
  · intro h
    unfold checkB at h
    split at h
    · omega
    split at h
    · omega
    rename_i h1 h2
    obtain ⟨f, r, hc, hok, hr, hrest⟩ := checkL_back body.length body [] 1 (Nat.le_refl _) (by omega) h
    obtain rfl := checkL_empty r hrest
    exact ⟨by omega, f, ⟨hc, by simpa using hok⟩, by simpa using hr⟩
  · rintro ⟨hl, f, ⟨hc, hok⟩, rfl⟩
    have hp := Fo.flat_len_pos f (by omega)
    unfold checkB
    rw [if_neg (by omega), if_neg (by omega)]
    have h := checkL_fo f [] 1 [] (by simpa using hok) (by omega) (by omega)
    rw [List.append_nil, hc] at h
    rw [show ([1] : List Int) = [] ++ [1] from rfl, h]
    simp [checkL]

/-! ### Deep and End -/
/-- The greatest depth, from what is open on. -/
def deepL : List Node → List Int → Int → Int
  | [], _, d => d
  | n :: t, o, d => deepL t (takes o n.f3).2 (max d (takes o n.f3).1)
def deepB (body : List Node) : Int := if checkB body = 0 then deepL body [1] 0 else 0
theorem deepL_zero (l : List Node) (os : List Int) (d : Int) : deepL l (os ++ [0]) d = deepL l os d := by
  cases l with
  | nil => rfl
  | cons n t => rw [deepL, deepL, takes_zero']
theorem deepL_fo : ∀ (f : Fo) (os : List Int) (x d : Int) (r : List Node), f.ok (os.length + 1) → (f.count : Int) ≤ x → x ≤ 8 → deepL (f.flat ++ r) (os ++ [x]) d = deepL r (os ++ [x - f.count]) (if f.count = 0 then d else max d (os.length + f.height))
  | .nil, os, x, d, r, _, _, _ => by simp [Fo.flat, Fo.count]
  | .cons n ks rest, os, x, d, r, ⟨h1, h2, h3, h4, h5, h6⟩, hc, h8 => by
    simp only [Fo.count] at hc
    simp only [Fo.flat, List.cons_append, List.append_assoc]
    rw [deepL, takes_snoc os x n.f3 (by omega) h8]
    simp only
    rw [deepL_fo ks (os ++ [x - 1]) n.f3 _ _ (by simpa using h5) (by omega) h3, h2, Int.sub_self, deepL_zero, deepL_fo rest os (x - 1) _ r h6 (by omega) (by omega)]
    have e : x - 1 - (rest.count : Int) = x - ((Fo.cons n ks rest).count : Int) := by simp only [Fo.count]; omega
    rw [e]
    congr 1
    have q1 : (Fo.cons n ks rest).count ≠ 0 := by simp [Fo.count]
    rw [if_neg q1]
    simp only [Fo.height, List.length_append, List.length_singleton]
    have z1 : ks.count = 0 → ks.height = 0 := fun h => by rw [Fo.flat_nil_of_count ks h]; rfl
    have z2 : rest.count = 0 → rest.height = 0 := fun h => by rw [Fo.flat_nil_of_count rest h]; rfl
    split <;> split <;> (try have := z1 (by assumption)) <;> (try have := z2 (by assumption)) <;> omega
theorem deep_tree (f : Fo) (h : isTree f) (hl : f.flat.length ≤ 128) : deepB f.flat = f.height := by
  have hc : checkB f.flat = 0 := (check_iff _).2 ⟨hl, f, h, rfl⟩
  unfold deepB
  rw [if_pos hc]
  have e := deepL_fo f [] 1 0 [] (by simpa using h.2) (by rw [h.1]; omega) (by omega)
  rw [List.append_nil] at e
  rw [show ([1] : List Int) = [] ++ [1] from rfl, e, deepL, if_neg (by rw [h.1]; omega)]
  simp
end Go.Proofs.YtdecijmncpbheaaGreatDoor

namespace Go.Proofs.YtdecijmncpbheaaGreatDoor
open Go.RowKit Go.Proofs.YtdecijmncpbheaaGreatDoorW.PrintWords Go.Proofs.YtdecijmncpbheaaGreatDoorW.PrintLast Go.Proofs.YtdecijmncpbheaaGreatDoorW.PrintMore
set_option linter.unusedVariables false
set_option linter.unusedSimpArgs false

/-- Counts of what is open: none below nought, none great. -/
def openInv (o : List Int) : Prop := ∀ x ∈ o, 0 ≤ x ∧ x ≤ 8
theorem takes_inv : ∀ (m : Nat) (o : List Int) (k : Int), o.length ≤ m → openInv o → 0 ≤ k → k ≤ 8 → (takes o k).1 ≠ 0 → openInv (takes o k).2 ∧ (takes o k).2.sum = o.sum - 1 + k := by
  intro m
  induction m with
  | zero =>
    intro o k hl hi h0 h8 hn
    obtain rfl := List.eq_nil_of_length_eq_zero (by omega : o.length = 0)
    rw [takes_nil] at hn
    exact absurd rfl hn
  | succ m ih =>
    intro o k hl hi h0 h8 hn
    rcases List.eq_nil_or_concat o with rfl | ⟨p, x, rfl⟩
    · rw [takes_nil] at hn
      exact absurd rfl hn
    · rw [List.concat_eq_append] at hi hn hl ⊢
      have hx := hi x (by simp)
      by_cases hz : x = 0
      · subst hz
        rw [takes_zero'] at hn ⊢
        have := ih p k (by simp at hl; omega) (fun y hy => hi y (by simp [hy])) h0 h8 hn
        refine ⟨this.1, ?_⟩
        rw [this.2]
        simp
      · rw [takes_snoc p x k (by omega) hx.2]
        refine ⟨fun y hy => ?_, ?_⟩
        · simp only [List.mem_append, List.mem_singleton] at hy
          rcases hy with (hy | rfl) | rfl
          · exact hi y (by simp [hy])
          · omega
          · omega
        · simp only [List.sum_append, List.sum_cons, List.sum_nil]
          omega
theorem checkL_cons {n : Node} {t : List Node} {o : List Int} (h : checkL (n :: t) o = 0) : (takes o n.f3).1 ≠ 0 ∧ mayB n = true ∧ 0 ≤ n.f3 ∧ n.f3 ≤ 8 ∧ (takes o n.f3).1 ≤ 16 ∧ checkL t (takes o n.f3).2 = 0 := by
  rw [checkL] at h
  split at h
  · omega
  split at h
  · omega
  split at h
  · omega
  split at h
  · omega
  rename_i h1 h2 h3 h4
  have hm : mayB n = true := by simpa using h2
  have hk := mayB_kids hm
  have e : max 0 n.f3 = n.f3 := by omega
  rw [e] at h h1 h4
  exact ⟨h1, hm, hk, by omega, by omega, h⟩
theorem openInv_one : openInv [1] := fun x hx => by simp at hx; omega
theorem checkB_L {body : List Node} (h : checkB body = 0) : 0 < body.length ∧ body.length ≤ 128 ∧ checkL body [1] = 0 := by
  unfold checkB at h
  split at h
  · omega
  split at h
  · omega
  exact ⟨by omega, by omega, h⟩
theorem mem_f3 : ∀ (l : List Node) (o : List Int), openInv o → checkL l o = 0 → ∀ n ∈ l, 0 ≤ n.f3 ∧ n.f3 ≤ 8
  | [], _, _, _, _, hn => by simp at hn
  | m :: t, o, hi, h, n, hn => by
    obtain ⟨h1, h2, h3, h4, h5, h6⟩ := checkL_cons h
    rcases List.mem_cons.1 hn with rfl | hn
    · exact ⟨h3, h4⟩
    · exact mem_f3 t _ (takes_inv o.length o m.f3 (Nat.le_refl _) hi h3 h4 h1).1 h6 n hn
theorem check_f3 {body : List Node} (h : checkB body = 0) : ∀ n ∈ body, 0 ≤ n.f3 ∧ n.f3 ≤ 8 := mem_f3 body [1] openInv_one (checkB_L h).2.2

/-! ### forests that may be too deep -/
namespace Fo
def fit : Fo → Prop
  | nil => True
  | cons n ks r => mayB n = true ∧ n.f3 = (count ks : Int) ∧ n.f3 ≤ 8 ∧ fit ks ∧ fit r
theorem fit_of_ok : ∀ (f : Fo) (d : Nat), ok f d → fit f
  | nil, _, _ => trivial
  | cons n ks r, d, ⟨h1, h2, h3, h4, h5, h6⟩ => ⟨h1, h2, h3, fit_of_ok ks _ h5, fit_of_ok r _ h6⟩
end Fo
theorem body_tree {body : List Node} (h : checkB body = 0) : ∃ f : Fo, f.fit ∧ f.count = 1 ∧ body = f.flat ∧ deepB body = f.height ∧ 0 < f.height ∧ f.height ≤ 16 ∧ body.length ≤ 128 := by
  obtain ⟨hl, f, hf, rfl⟩ := (check_iff body).1 h
  refine ⟨f, Fo.fit_of_ok f 1 hf.2, hf.1, rfl, deep_tree f hf hl, Fo.height_pos f (by have := hf.1; omega), ?_, hl⟩
  have := Fo.ok_height f 1 hf.2 (Fo.height_pos f (by have := hf.1; omega))
  omega

end Go.Proofs.YtdecijmncpbheaaGreatDoor

namespace Go.Proofs.YtdecijmncpbheaaGreatDoor
open Go.RowKit Go.Proofs.YtdecijmncpbheaaGreatDoorW.PrintWords Go.Proofs.YtdecijmncpbheaaGreatDoorW.PrintLast Go.Proofs.YtdecijmncpbheaaGreatDoorW.PrintMore
set_option linter.unusedVariables false
set_option linter.unusedSimpArgs false
end Go.Proofs.YtdecijmncpbheaaGreatDoor

namespace Go.Proofs.YtdecijmncpbheaaGreatDoor
open Go.RowKit Go.Proofs.YtdecijmncpbheaaGreatDoorW.PrintWords Go.Proofs.YtdecijmncpbheaaGreatDoorW.PrintLast Go.Proofs.YtdecijmncpbheaaGreatDoorW.PrintMore
set_option linter.unusedVariables false
set_option linter.unusedSimpArgs false
/-- A kind whose elements are cells alone, with no rows of their own. -/
def Flat {α : Type} (d : Kd α) (enc : α → List Value) : Prop := ∀ w base ok x c, d.M w base ok x c ↔ c = enc x
theorem reps_set {α : Type} {R : α → List Value → Prop} {sz : Nat} {xs : List α} {cs : List Value} (h : Reps R sz xs cs) (i j : Nat) (hj : j < sz) (x' : α) (u : Value) (hx : ∀ c x, xs[i]? = some x → c.length = sz → R x c → R x' (c.set j u)) : Reps R sz (xs.set i x') (cs.set (i * sz + j) u) := by
  obtain ⟨hl, hr⟩ := h
  refine ⟨by simp [hl], fun k p hk => ?_⟩
  have hkl : k < xs.length := by have := (List.getElem?_eq_some_iff.1 hk).1; simpa using this
  have hmul : k * sz + sz ≤ cs.length := by rw [hl]; have := Nat.mul_le_mul_right sz (show k + 1 ≤ xs.length from hkl); rw [Nat.add_mul] at this; omega
  by_cases hki : k = i
  · subst hki
    rw [List.getElem?_set_self hkl] at hk
    injection hk with hk
    subst hk
    have e : ((cs.set (k * sz + j) u).drop (k * sz)).take sz = ((cs.drop (k * sz)).take sz).set j u := by
      rw [List.drop_set, if_neg (by omega), List.take_set]
      congr 1
      omega
    rw [e]
    exact hx _ xs[k] (List.getElem?_eq_getElem hkl) (by rw [List.length_take, List.length_drop]; omega) (hr k xs[k] (List.getElem?_eq_getElem hkl))
  · rw [List.getElem?_set_ne (fun h => hki h.symm)] at hk
    have e : ((cs.set (i * sz + j) u).drop (k * sz)).take sz = (cs.drop (k * sz)).take sz := by
      rw [List.drop_set]
      rcases Nat.lt_or_ge k i with hlt | hge
      · have := Nat.mul_le_mul_right sz (show k + 1 ≤ i from hlt)
        rw [Nat.add_mul] at this
        rw [if_neg (by omega), List.take_set, List.set_eq_of_length_le]
        rw [List.length_take, List.length_drop]
        omega
      · have := Nat.mul_le_mul_right sz (show i + 1 ≤ k by omega)
        rw [Nat.add_mul] at this
        rw [if_pos (by omega)]
    rw [e]
    exact hr k p hk
theorem R_edit {α : Type} {d : Kd α} {enc : α → List Value} (hf : Flat d enc) {e base g n cap : Nat} {W : World} {ok : Nat → Prop} {xs : List α} (h : d.R e W base ok (.slice (some ⟨g, 0, none⟩) n cap) xs) (i j : Nat) (hi : i < xs.length) (hj : j < d.sz) (x' : α) (u : Value) (hx : enc x' = (enc xs[i]).set j u) :
    d.R e (W.setCell ⟨g, i * d.sz + j, none⟩ u) base ok (.slice (some ⟨g, 0, none⟩) n cap) (xs.set i x') := by
  obtain ⟨rfl, _⟩ := Kd.R_reads' h
  obtain ⟨h0, inner, ho, hr⟩ := h
  refine ⟨h0, inner.set (i * d.sz + j) u, ?_, ?_⟩
  · rw [List.length_set]
    exact (ho.stored _ u).1
  · have hr' : Reps (d.M (W.setCell ⟨g, i * d.sz + j, none⟩ u) base (fun k => ok k ∧ some k ≠ (Value.slice (some ⟨g, 0, none⟩) xs.length cap).ownBlock)) d.sz xs inner :=
      ⟨hr.1, fun k p hk => (hf _ _ _ _ _).2 ((hf _ _ _ _ _).1 (hr.2 k p hk))⟩
    refine reps_set hr' i j hj x' u fun c x hx1 _ hM => ?_
    rw [List.getElem?_eq_getElem hi] at hx1
    injection hx1 with hx1
    subst hx1
    rw [hf] at hM ⊢
    rw [hM, hx]
/-- A literal's block is an own row. -/
theorem R_block {α : Type} {d : Kd α} {W : World} {g base : Nat} {cells : List Value} {t : TypeId} {xs : List α} {ok : Nat → Prop} (hb : W.heap[g]? = some (.cells cells.toArray t (0, 0))) (hg : base ≤ g) (hok : ok g) (hr : Reps (d.M W base (fun k => ok k ∧ some k ≠ some g)) d.sz xs cells) (hl : xs.length ≤ maxLen) :
    d.R t W base ok (.slice (some ⟨g, 0, none⟩) xs.length xs.length) xs := by
  refine ⟨fun k hk => ?_, cells, ⟨hr.1, .inr ⟨g, xs.length, cells.toArray, rfl, hg, hb, Nat.le_refl _, hl, by simpa using hr.1, ?_⟩⟩, hr⟩
  · simp only [Value.ownBlock, Option.some.injEq] at hk
    exact hk ▸ hok
  · rw [← hr.1, List.take_of_length_le (by simp)]
/-- A node's cells. -/
def nodeC (n : Node) : List Value := [.int .u8 n.f0, .int .i64 n.f1, .string n.f2, .int .i64 n.f3, .bool n.f4.f0, .int .u64 n.f4.f1, .bool n.f5.f0, .int .u64 n.f5.f1, .bool n.f6.f0, .int .u64 n.f6.f1]
theorem nodeM {w w1 : World} {base : Nat} {ok : Nat → Prop} {x : Node} {c : List Value} (h : kNode.K w x c) : kNode.M w1 base ok x c := by
  rw [k119_open h]
  exact k119_mkM w1 base ok x
theorem node_flat : Flat kNode nodeC := fun w base ok x c => ⟨k119_openM, fun h => by subst h; exact k119_mkM w base ok x⟩
theorem edit_f4 {e base g n cap : Nat} {W : World} {ok : Nat → Prop} {xs : List Node} (h : kNode.R e W base ok (.slice (some ⟨g, 0, none⟩) n cap) xs) (i : Nat) (hi : i < xs.length) (t : Term) :
    kNode.R e ((W.setCell ⟨g, i * 10 + 4, none⟩ (.bool t.f0)).setCell ⟨g, i * 10 + 5, none⟩ (.int .u64 t.f1)) base ok (.slice (some ⟨g, 0, none⟩) n cap) (xs.set i { xs[i] with f4 := t }) := by
  have h1 := R_edit node_flat h i 4 hi (by decide) { xs[i] with f4 := ⟨t.f0, xs[i].f4.f1⟩ } (.bool t.f0) (by simp [nodeC])
  have h2 := R_edit node_flat h1 i 5 (by simpa using hi) (by decide) { xs[i] with f4 := t } (.int .u64 t.f1) (by simp [nodeC])
  rwa [List.set_set] at h2
theorem edit_f5 {e base g n cap : Nat} {W : World} {ok : Nat → Prop} {xs : List Node} (h : kNode.R e W base ok (.slice (some ⟨g, 0, none⟩) n cap) xs) (i : Nat) (hi : i < xs.length) (t : Term) :
    kNode.R e ((W.setCell ⟨g, i * 10 + 6, none⟩ (.bool t.f0)).setCell ⟨g, i * 10 + 7, none⟩ (.int .u64 t.f1)) base ok (.slice (some ⟨g, 0, none⟩) n cap) (xs.set i { xs[i] with f5 := t }) := by
  have h1 := R_edit node_flat h i 6 hi (by decide) { xs[i] with f5 := ⟨t.f0, xs[i].f5.f1⟩ } (.bool t.f0) (by simp [nodeC])
  have h2 := R_edit node_flat h1 i 7 (by simpa using hi) (by decide) { xs[i] with f5 := t } (.int .u64 t.f1) (by simp [nodeC])
  rwa [List.set_set] at h2
theorem edit_f6 {e base g n cap : Nat} {W : World} {ok : Nat → Prop} {xs : List Node} (h : kNode.R e W base ok (.slice (some ⟨g, 0, none⟩) n cap) xs) (i : Nat) (hi : i < xs.length) (t : Term) :
    kNode.R e ((W.setCell ⟨g, i * 10 + 8, none⟩ (.bool t.f0)).setCell ⟨g, i * 10 + 9, none⟩ (.int .u64 t.f1)) base ok (.slice (some ⟨g, 0, none⟩) n cap) (xs.set i { xs[i] with f6 := t }) := by
  have h1 := R_edit node_flat h i 8 hi (by decide) { xs[i] with f6 := ⟨t.f0, xs[i].f6.f1⟩ } (.bool t.f0) (by simp [nodeC])
  have h2 := R_edit node_flat h1 i 9 (by simpa using hi) (by decide) { xs[i] with f6 := t } (.int .u64 t.f1) (by simp [nodeC])
  rwa [List.set_set] at h2
theorem C_termN {w : World} {A : Option Addr} {xs : List Term} (h : Kd.C kTerm w A xs.length xs) (j : Nat) (hj : j < xs.length) : ∃ ad, A = some ad ∧ w.cell? (ad.add (j * 2)) = some (.bool xs[j].f0) ∧ w.cell? ⟨(ad.add (j * 2)).block, (ad.add (j * 2)).off + 1, none⟩ = some (.int .u64 xs[j].f1) := by
  obtain ⟨ad, e, h0, h1⟩ := at_T100 h (j : Int) (by omega) (by omega)
  refine ⟨ad, e, ?_⟩
  have e2 : rd_T100 xs (j : Int) = xs[j] := by
    rw [rd_T100, Int.toNat_natCast, List.getD_eq_getElem?_getD, List.getElem?_eq_getElem hj]
    rfl
  rw [e2, Int.toNat_natCast] at h0 h1
  exact ⟨h0, h1⟩
namespace L07
theorem infoN : (Tryz.prog.info? 119).map (fun i => (i.zero, i.size, i.bytes)) = some (some (.agg #[.int .u8 0, .int .i64 0, .string ⟨#[]⟩, .int .i64 0, .bool false, .int .u64 0, .bool false, .int .u64 0, .bool false, .int .u64 0]), 10, 88) := by kernel_rfl
end L07
end Go.Proofs.YtdecijmncpbheaaGreatDoor
