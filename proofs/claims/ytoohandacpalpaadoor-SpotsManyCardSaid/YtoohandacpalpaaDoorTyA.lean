import Derived.Test.YtoohandacpalpaaDoorK
import Derived.Test.YtoohandacpalpaaDoorB
import Derived.StillTailTactics
import Derived.WalkSpells
import Derived.Deep.LoopGhost
import Derived.Deep.QuietTactic
import Derived.BigQuiet
import Derived.IntWalk
namespace Go.Proofs.YtoohandacpalpaaDoor
open Go.RowKit Go.Proofs.YtoohandacpalpaaDoorW.PrintWords Go.Proofs.YtoohandacpalpaaDoorW.PrintLast Go.Proofs.YtoohandacpalpaaDoorW.PrintMore
set_option linter.unusedVariables false
set_option linter.unusedSimpArgs false

theorem info3 : (Tryd.prog.info? 3).map (fun i => (i.zero, i.size, i.bytes)) = some (some (.int .i64 0), 1, 8) := by kernel_rfl

/-- A list 'open' behind a pointer: its box (block b), and its row. -/
def OpenAt (w : World) (B b : Nat) (xs : List Int) : Prop :=
  ∃ v, w.heap[b]? = some (.cells #[v] 59 (0, 0)) ∧ B ≤ b ∧ Kd.R (Kd.int .i64) 3 w B (fun k => k ≠ b) v xs
/-- Which blocks a call on such a list may turn. -/
def OpenS (w : World) (B : Nat) (k : Nat) : Prop := B ≤ k ∧ ∃ c t, w.heap[k]? = some (.cells c t (0, 0)) ∧ (t = 59 ∨ t = 3)

set_option maxHeartbeats 1000000 in
theorem more_calls (w : World) (B b : Nat) (xs ys : List Int) (A : Option Addr) (c : Nat) (hB : B ≤ w.heap.size) (ho : OpenAt w B b xs) (hr : Kd.C (Kd.int .i64) w A ys.length ys) (hc : ys.length ≤ c) (hl : (xs.length + ys.length) * 8 ≤ 140737488355328) :
    Calls Tryd.prog 47 #[.pointer (some ⟨b, 0, none⟩), .slice A ys.length c] w fun e w' => e = .returned (.tuple #[]) ∧ OpenAt w' B b (xs ++ ys) ∧ Kept w w' (OpenS w B) ∧ Below B w w' := by
  obtain ⟨v, hb, hBb, HO⟩ := ho
  have hcell : w.cell? ⟨b, 0, none⟩ = some v := by simpa [World.cell?] using blk_cell hb 0
  obtain ⟨A0, c0, rfl⟩ := Kd.R_slice HO
  have hlt := blk_lt hb
  have HH := Aside0.mk hb
  clear hb
  go_enter Tryd.func47, Tryd.ntmps47
  go_wp2_with (at_builtin; refine wpList_append_R rfl (Kd.int .i64) B (.tmp 7) (.tmp 8) 59 58 3 3 (.int .i64 0) 8 rfl (by kernel_rfl) (by kernel_rfl) info3 rfl (by decide) (by decide) (.slice A0 xs.length c0) xs ys A ys.length c (fun k => k ≠ b) (fun _ => False) rfl rfl HO hr (fun x cs h => h) (fun _ h => h.elim) (fun k hk => by omega) hB hl ?_; intro v1 w1 HO1 hg hat; obtain ⟨A1, c1, rfl⟩ := Kd.R_slice HO1; have hb1 := blk_grown HH.out hg (fun h => (HO.1 b h.symm) rfl); have hc1 := blk_cell hb1 0; have hf1 := blk_frozen hb1 0; have HB1 := Aside0.mk hb1; clear hb1)
  go_end0
  refine ⟨rfl, ?_, ?_, ((Below.refl B w).grown hg hB (fun k hk => (Kd.R_bound HO).1 k hk |>.2.1)).setCell hBb _⟩
  · rw [← List.length_append]
    exact ⟨_, by simpa using blk_set HB1.out 0 (.slice A1 (xs ++ ys).length c1), hBb, Kd.R_far HO1 (fun k hk => hk) _⟩
  · refine (Kept.of_grown hg (Kept.refl w _) ?_).setCell (.inl ⟨hBb, _, _, HH.out, .inl rfl⟩) _
    intro k hk
    refine .inl ⟨(Kd.R_bound HO).1 k hk |>.2.1, ?_⟩
    obtain ⟨cells, hc⟩ := own_typed (Kd.R_own HO).choose_spec k hk
    exact ⟨cells, _, hc, .inr rfl⟩

/-! ### takes -/
theorem R_cellI {W : World} {e base g n cap : Nat} {ok : Nat → Prop} {xs : List Int} (h : (Kd.int .i64).R e W base ok (.slice (some ⟨g, 0, none⟩) n cap) xs) (i : Int) (h0 : 0 ≤ i) (hi : i < n) : W.cell? ⟨g, i.toNat, none⟩ = some (.int .i64 (rd xs i)) ∧ W.frozen? ⟨g, i.toNat, none⟩ = false :=
  Kd.R_celln 0 h i h0 hi
/-- What is left when the noughts at the end are gone. -/
def popZ (xs : List Int) : List Int := (xs.reverse.dropWhile (· == 0)).reverse
theorem popZ_snoc (xs : List Int) (x : Int) : popZ (xs ++ [x]) = if x = 0 then popZ xs else xs ++ [x] := by
  unfold popZ
  by_cases h : x = 0
  · simp [h]
  · simp [h]
theorem popZ_nil : popZ [] = [] := rfl
theorem popZ_le (xs : List Int) : (popZ xs).length ≤ xs.length := by
  unfold popZ
  rw [List.length_reverse]
  exact Nat.le_trans (List.dropWhile_sublist _).length_le (by simp)
theorem last_split (ys : List Int) (i : Int) (hi : i = (ys.length : Int) - 1) (h0 : 0 < ys.length) : ys = ys.take i.toNat ++ [rd ys i] := by
  have hl : i.toNat < ys.length := by omega
  have h1 : ys.drop i.toNat = [rd ys i] := by
    rw [List.drop_eq_getElem_cons hl, List.drop_eq_nil_of_le (by omega)]
    simp [rd, List.getD_eq_getElem?_getD, List.getElem?_eq_getElem hl]
  rw [← h1, List.take_append_drop]
theorem popZ_pop (ys : List Int) (i : Int) (hi : i = (ys.length : Int) - 1) (h0 : 0 < ys.length) (hx : 0 = rd ys i) : popZ (ys.take i.toNat) = popZ ys := by
  conv => rhs; rw [last_split ys i hi h0, ← hx, popZ_snoc, if_pos rfl]
theorem popZ_stay (ys : List Int) (i : Int) (hi : i = (ys.length : Int) - 1) (h0 : 0 < ys.length) (hx : ¬ rd ys i = 0) : popZ ys = ys := by
  conv => lhs; rw [last_split ys i hi h0, popZ_snoc, if_neg hx]
  rw [← last_split ys i hi h0]
/-- 'takes' of the list, and its answer. -/
def takes (xs : List Int) (kids : Int) : Int × List Int :=
  let ys := popZ xs
  if ys.length = 0 then (0, ys) else ((ys.length : Int), ys.set (ys.length - 1) (wrap64 (ys.getD (ys.length - 1) 0 - 1)) ++ [kids])

theorem takes_zero (xs : List Int) (kids : Int) (h : popZ [] = popZ xs) : takes xs kids = (0, []) := by
  unfold takes
  rw [← h]
  simp [popZ]
theorem takes_more (xs ys : List Int) (kids i x : Int) (hi : i = (ys.length : Int) - 1) (h0 : 0 < ys.length) (hx : x = rd ys i) (hn : ¬ x = 0) (h : popZ ys = popZ xs) : takes xs kids = ((ys.length : Int), ys.set i.toNat (wrap64 (x - 1)) ++ [kids]) := by
  have e := popZ_stay ys i hi h0 (by rw [← hx]; exact hn)
  unfold takes
  rw [← h, e, if_neg (by omega)]
  have e2 : i.toNat = ys.length - 1 := by omega
  rw [hx, rd, e2]

theorem OpenS_back {w W : World} {B : Nat} {S : Nat → Prop} (hk : Kept w W S) (hS : ∀ k, S k → OpenS w B k ∨ w.heap.size ≤ k) : ∀ k, OpenS W B k → OpenS w B k ∨ w.heap.size ≤ k := by
  intro k h
  by_cases hs : S k
  · exact hS k hs
  · by_cases hlt : k < w.heap.size
    · obtain ⟨h1, c, t, h2, h3⟩ := h
      rw [hk.2 k hlt hs] at h2
      exact .inl ⟨h1, c, t, h2, h3⟩
    · exact .inr (by omega)

set_option maxRecDepth 100000 in
set_option maxHeartbeats 1000000 in
theorem takes_calls (w : World) (B b : Nat) (xs : List Int) (kids : Int) (hB : B ≤ w.heap.size) (ho : OpenAt w B b xs) (hl : (xs.length + 1) * 8 ≤ 140737488355328) :
    Calls Tryd.prog 35 #[.pointer (some ⟨b, 0, none⟩), .int .i64 kids] w fun e w' => e = .returned (.int .i64 (takes xs kids).1) ∧ OpenAt w' B b (takes xs kids).2 ∧ Kept w w' (OpenS w B) ∧ Below B w w' := by
  obtain ⟨v, hb0, hBb, hR0⟩ := ho
  obtain ⟨A0, cap, rfl⟩ := Kd.R_slice hR0
  have hSb : OpenS w B b := ⟨hBb, _, _, hb0, .inl rfl⟩
  have hSg : ∀ k, (Value.slice A0 xs.length cap).ownBlock = some k → OpenS w B k := by
    intro k hk
    obtain ⟨cells, hc⟩ := own_typed (Kd.R_own hR0).choose_spec k hk
    exact ⟨(Kd.R_bound hR0).1 k hk |>.2.1, cells, _, hc, .inr rfl⟩
  have HSG := Aside0.mk hSg
  have HSB := Aside0.mk hSb
  have HO := Aside0.mk hb0
  have HR0 := Aside0.mk hR0
  have HL := Aside0.mk (blk_lt hb0)
  clear hSg hSb hb0 hR0
  go_enter Tryd.func35, Tryd.ntmps35
  go_wp2
  go_loopg [] xs.length (fun k W => ∃ ys : List Int, Aside0 (popZ ys = popZ xs ∧ ys.length ≤ xs.length ∧ ys.length ≤ k) ∧ Aside0 (W.heap[b]? = some (.cells #[.slice A0 ys.length cap] 59 (0, 0))) ∧ Aside0 ((Kd.int .i64).R 3 W B (fun k => k ≠ b) (.slice A0 ys.length cap) ys) ∧ Aside0 (Kept w W (fun k => k = b) ∧ Below B w W))
  case atStart => exact ⟨xs, ⟨rfl, Nat.le_refl _, Nat.le_refl _⟩, HO, HR0, ⟨Kept.refl _ _, Below.refl _ _⟩⟩
  case round =>
    clear HO HR0
    obtain ⟨ys, HA, HH, HR0, HK⟩ := hrel
    have HR := HR0.out
    have hcell := blk_cell HH.out 0
    have hfz := blk_frozen HH.out 0
    clear HR0
    rcases Nat.eq_zero_or_pos ys.length with h0 | h0
    · obtain rfl := List.eq_nil_of_length_eq_zero h0
      go_wp2
      go_quiet (fail)
      go_wp2
      go_ret
      have e := takes_zero xs kids HA.out.1
      rw [e]
      exact ⟨rfl, ⟨_, HH.out, hBb, HR⟩, HK.out.1.mono (by rintro k rfl; exact HSB.out), pw_below_drewN HK.out.2 _⟩
    · obtain ⟨g, cap', hv, hBg, hgl, cells, hgc⟩ := Kd.R_form HR h0
      injection hv with hv1 hv2 hv3
      subst hv3
      subst hv1
      have HG := Aside0.mk hgc
      clear hgc
      have hcl := (R_cellI HR ((ys.length : Int) - 1) (by omega) (by omega)).1
      have hcf := (R_cellI HR ((ys.length : Int) - 1) (by omega) (by omega)).2
      have hA := HA.out
      obtain ⟨n, hn⟩ : ∃ n, n = ys.length := ⟨_, rfl⟩
      rw [← hn] at hcell hcl HH HR hcf
      have h1 : 1 ≤ n := by omega
      have hnc : n ≤ cap := (Kd.R_reads' HR).2.1
      have hd : decide (0 < n) = true := decide_eq_true (by omega)
      have h2 : n ≤ xs.length := by omega
      have HN := Aside0.mk hn
      clear h0 hn hA
      obtain ⟨i, hi⟩ : ∃ i : Int, i = (n : Int) - 1 := ⟨_, rfl⟩
      obtain ⟨x, hx⟩ : ∃ x, x = rd ys i := ⟨_, rfl⟩
      rw [← hi] at hcl hcf
      rw [← hx] at hcl
      have hi0 : 0 ≤ i := by omega
      have hin : i < (n : Int) := by omega
      have HI := Aside0.mk hi
      have hw : IntKind.i64.wrap ((n : Int) - 1) = i := by rw [hi]; exact IntWalk.i64_in _ (by omega)
      clear hi
      have HX := Aside0.mk hx
      clear hx
      by_cases hx : x = 0
      · subst hx
        go_wp2
        go_quiet (fail)
        go_wp2
        obtain ⟨W, hW⟩ : ∃ W, W = wr.drewN nq := ⟨_, rfl⟩
        rw [← hW]
        have hc1 : W.cell? ⟨b, 0, none⟩ = some (.slice (some ⟨g, 0, none⟩) n cap) := by rw [hW]; exact hcell
        have hf1 : W.frozen? ⟨b, 0, none⟩ = false := by rw [hW]; exact hfz
        have HW := Aside0.mk hW
        have hic : i ≤ (cap : Int) := by omega
        clear hW hcell hfz hcl hcf
        go_still_tail 10, (by kernel_rfl)
        change wpList _ _ _ _ _ W.drew
        obtain ⟨W2, hW2⟩ : ∃ W2, W2 = W.drew := ⟨_, rfl⟩
        rw [← hW2]
        have hc2 : W2.cell? ⟨b, 0, none⟩ = some (.slice (some ⟨g, 0, none⟩) n cap) := by rw [hW2]; exact hc1
        have hf2 : W2.frozen? ⟨b, 0, none⟩ = false := by rw [hW2]; exact hf1
        have HW2 := Aside0.mk hW2
        clear hc1 hf1 hW2
        go_wp2
        go_roundg (gk - 1)
        case measure => have := HA.out; have := HN.out; omega
        case rel =>
          have hn := HN.out
          have hiN := HI.out
          subst hn
          have hA := HA.out
          have hk : Kept w W2 (fun k => k = b) := by rw [HW2.out, HW.out]; exact HK.out.1
          have hbl : Below B w W2 := by rw [HW2.out, HW.out]; exact (pw_below_drewN HK.out.2 _).drew
          have hR : (Kd.int .i64).R 3 W2 B (fun k => k ≠ b) (.slice (some ⟨g, 0, none⟩) ys.length cap) ys := by rw [HW2.out, HW.out]; exact HR
          have hbb : W2.heap[b]? = some (.cells #[.slice (some ⟨g, 0, none⟩) ys.length cap] 59 (0, 0)) := by rw [HW2.out, HW.out]; exact HH.out
          have hlen : (ys.take i.toNat).length = i.toNat := by rw [List.length_take]; omega
          refine ⟨ys.take i.toNat, ⟨(popZ_pop ys i hiN h1 HX.out).trans hA.1, by rw [hlen]; omega, by rw [hlen]; omega⟩, ⟨?_⟩, ⟨?_⟩, ⟨hk.setCell (.inl rfl) _, hbl.setCell hBb _⟩⟩
          · rw [hlen]; simpa using blk_set hbb 0 (.slice (some ⟨g, 0, none⟩) i.toNat cap)
          · rw [hlen]; exact Kd.R_far (Kd.R_take hR (by omega)) (fun k hk => hk) _
      · have hx1 : (x == 0) = false := beq_eq_false_iff_ne.mpr hx
        have hz : ((n : Int) == 0) = false := beq_eq_false_iff_ne.mpr (by omega)
        have HXN := Aside0.mk hx
        clear hx
        go_wp2
        go_quiet (fail)
        go_wp2_with fail
        have hgb : g ≠ b := HR.1 g (by simp [Value.ownBlock])
        have hn := HN.out
        have hW : (Kd.int .i64).R 3 (((wr.drewN nq).setCell { block := g, off := i.toNat } (Value.int IntKind.i64 (wrap64 (x - 1))))) B (fun k => k ≠ b) (.slice (some ⟨g, 0, none⟩) n cap) (ys.set i.toNat (wrap64 (x - 1))) := Kd.R_putn (W := wr.drewN nq) HR i (wrap64 (x - 1))
        have hk : Kept w (((wr.drewN nq).setCell { block := g, off := i.toNat } (Value.int IntKind.i64 (wrap64 (x - 1)))).alloc (Obj.cells #[Value.int IntKind.i64 kids] 3)) (OpenS w B) :=
          Kept.alloc (Kept.setCell (W := wr.drewN nq) (HK.out.1.mono (by rintro k rfl; exact HSB.out)) (.inl (HSG.out g (by simp [Value.ownBlock]))) _) _
        have hB' := Nat.le_trans hB hk.1
        have hbl := ((pw_below_drewN HK.out.2 nq).setCell (p := { block := g, off := i.toNat }) hBg (Value.int IntKind.i64 (wrap64 (x - 1)))).alloc (by have := HK.out.1.1; simp [World.setCell]; omega) (Obj.cells #[Value.int IntKind.i64 kids] 3)
        refine (more_calls _ B b (ys.set i.toNat (wrap64 (x - 1))) [kids] (some ⟨wr.heap.size, 0, none⟩) 1 hB' ⟨.slice (some ⟨g, 0, none⟩) n cap, ?_, hBb, ?_⟩ ?_ (by simp) ?_).mono ?_
        · exact blk_alloc (blk_far (w := wr.drewN nq) HH.out (fun h => hgb h.symm) _) _
        · exact Kd.R_below hW (below_alloc (Below.refl _ _) _)
        · simpa using C_one_new .i64 ((wr.drewN nq).setCell { block := g, off := i.toNat } (Value.int IntKind.i64 (wrap64 (x - 1)))) kids 3
        · simp; omega
        · rintro e w' ⟨rfl, ho', hk', hbl'⟩
          go_wp2
          go_ret
          have hn := HN.out
          subst hn
          have e := takes_more xs ys kids i x HI.out h1 HX.out HXN.out HA.out.1
          rw [e]
          exact ⟨rfl, ho', hk.then_ hk' (OpenS_back hk (fun k h => .inl h)), hbl.trans hbl'⟩
end Go.Proofs.YtoohandacpalpaaDoor
