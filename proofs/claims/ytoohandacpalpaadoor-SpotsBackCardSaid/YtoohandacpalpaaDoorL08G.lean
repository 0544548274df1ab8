/- The law SpotsBack, first part: terms of spots; terms put in one by one. -/
import Derived.Test.YtoohandacpalpaaDoorL08A
namespace Go.Proofs.YtoohandacpalpaaDoor
open Go.RowKit Go.Shelf Go.Proofs.YtoohandacpalpaaDoorW.PrintWords Go.Proofs.YtoohandacpalpaaDoorW.PrintLast Go.Proofs.YtoohandacpalpaaDoorW.PrintMore
set_option linter.unusedVariables false
set_option linter.unusedSimpArgs false
namespace L08
open L07
set_option maxRecDepth 100000 in
set_option maxHeartbeats 4000000 in
theorem terms_calls (w : World) (A : Option Addr) (c : Nat) (xs : List Spot) (hl : xs.length ≤ 1000) (hr : kSpot.C w A xs.length xs) :
    Calls Tryd.prog 32 #[.slice A xs.length c] w fun e w' => ∃ A1 c1, e = .returned (.slice A1 xs.length c1) ∧ kTerm.R 34 w' w.heap.size (fun _ => True) (.slice A1 xs.length c1) (xs.map (·.f3)) ∧ Below w.heap.size w w' := by
  have HR := Aside0.mk hr
  clear hr
  obtain ⟨n, hn⟩ : ∃ n, n = xs.length := ⟨_, rfl⟩
  have HN := Aside0.mk hn
  rw [← hn] at hl ⊢
  clear hn
  go_enter Tryd.func32, Tryd.ntmps32
  go_wp2
  go_loopg [3, 4] (n + 1) (fun g t i W => ∃ (k : Nat) (A1 : Option Addr) (c1 : Nat), i = .int .i64 k ∧ t = .slice A1 k c1 ∧ k ≤ n ∧ n + 1 - k ≤ g ∧ Aside0 (kTerm.R 34 W w.heap.size (fun _ => True) (.slice A1 k c1) ((xs.take k).map (·.f3))) ∧ Aside0 (Below w.heap.size w W))
  case atStart => exact ⟨0, none, 0, rfl, rfl, by omega, by omega, ⟨Kd.R_nil _ _ _ _ _⟩, ⟨Below.refl _ _⟩⟩
  case round =>
    obtain ⟨k, A1, c1, rfl, rfl, hk, hkg, HO, HB⟩ := hrel
    rcases Nat.lt_or_ge k n with hlt | hge
    · have hd : decide (k < n) = true := decide_eq_true hlt
      have hkx : k < xs.length := by rw [← HN.out]; exact hlt
      obtain ⟨ad, rfl, c0', c1', c2', c3', c4'⟩ := C_spotN (Kd.C_below HR.out HB.out) k hkx
      obtain ⟨m, hm⟩ : ∃ m, m = xs[k].f3 := ⟨_, rfl⟩
      rw [← hm] at c3' c4'
      have HM : Aside0 ((xs.take k).map (·.f3) ++ [m] = (xs.take (k + 1)).map (·.f3)) := ⟨by rw [hm, List.take_succ_eq_append_getElem hkx, List.map_append]; rfl⟩
      have hlk1 : ((xs.take (k + 1)).map (·.f3)).length = k + 1 := by rw [List.length_map, List.length_take]; omega
      have hlk : ((xs.take k).map (·.f3)).length = k := by rw [List.length_map, List.length_take]; omega
      clear hm c0' c1' c2'
      go_wp2_with (at_builtin; refine wpList_append_R rfl kTerm w.heap.size (.tmp 11) (.tmp 17) 38 38 34 34 (.agg #[.bool false, .int .u64 0]) 16 rfl (by kernel_rfl) (by kernel_rfl) infoT rfl (by decide) (by decide) (.slice A1 k c1) ((xs.take k).map (·.f3)) [m] (some ⟨wr.heap.size, 0, none⟩) 1 1 (fun _ => True) (fun _ => False) rfl rfl (Kd.R_below HO.out (below_alloc (Below.refl _ _) _)) (term_C wr m) (fun x cs h => termM h) (fun _ h => h.elim) (fun _ _ => trivial) (below_alloc HB.out _).size (by rw [hlk]; omega) ?_; intro v1 w1 HO1 hg1 hat; rw [HM.out] at HO1; obtain ⟨A2, c2, rfl⟩ := Kd.R_slice HO1; rw [hlk1] at HO1 ⊢; have HB1 := Aside0.mk ((below_alloc HB.out _).grown hg1 (below_alloc HB.out _).size (fun k hk => (Kd.R_bound HO.out).1 k hk |>.2.1)); have HO2 := Aside0.mk HO1; clear HO1 hg1 hat HO HB)
      go_roundg (gk - 1)
      case measure => omega
      case rel => exact ⟨k + 1, A2, c2, by go_num, rfl, by omega, by omega, HO2, HB1⟩
    · have hd : decide (k < n) = false := decide_eq_false (by omega)
      obtain rfl : n = k := by omega
      go_wp2
      go_ret
      have HO1 := HO.out
      rw [List.take_of_length_le (by rw [← HN.out]; exact Nat.le_refl _)] at HO1
      exact ⟨A1, c1, rfl, HO1, HB.out⟩
/-- Terms, one after the other, from some on, round and round. -/
def cyc (f : Nat → Term) (k : Nat) : List Term := (List.range k).map f
theorem cyc_len (f : Nat → Term) (k : Nat) : (cyc f k).length = k := by simp [cyc]
theorem cyc_next (f : Nat → Term) (k : Nat) : cyc f k ++ [f k] = cyc f (k + 1) := by simp [cyc, List.range_succ]
/-- Spots, the first ones with such terms. -/
def mix (l : List Spot) (f : Nat → Term) (k : Nat) : List Spot := withT (l.take k) (cyc f k) ++ l.drop k
theorem mix_zero (l : List Spot) (f : Nat → Term) : mix l f 0 = l := by simp [mix, withT, cyc]
theorem mix_all (l : List Spot) (f : Nat → Term) (n : Nat) (hn : n = l.length) : mix l f n = withT l (cyc f n) := by
  subst hn
  simp [mix]
theorem withT_len (l : List Spot) (ts : List Term) (h : l.length = ts.length) : (withT l ts).length = l.length := by simp [withT, h]
theorem mix_len (l : List Spot) (f : Nat → Term) (k : Nat) (h : k ≤ l.length) : (mix l f k).length = l.length := by
  have h1 : (l.take k).length = k := by rw [List.length_take]; omega
  rw [mix, List.length_append, withT_len _ _ (by rw [h1, cyc_len]), h1, List.length_drop]
  omega
theorem mix_get (l : List Spot) (f : Nat → Term) (k : Nat) (h : k < l.length) (h2 : k < (mix l f k).length) : (mix l f k)[k] = l[k] := by
  have h1 : (withT (l.take k) (cyc f k)).length = k := by rw [withT_len _ _ (by rw [cyc_len, List.length_take]; omega), List.length_take]; omega
  simp only [mix]
  rw [List.getElem_append_right (by omega)]
  simp [h1]
theorem mix_next (l : List Spot) (f : Nat → Term) (k : Nat) (h : k < l.length) : (mix l f k).set k { l[k] with f3 := f k } = mix l f (k + 1) := by
  have hk : (l.take k).length = k := by rw [List.length_take]; omega
  have h1 : (withT (l.take k) (cyc f k)).length = k := by rw [withT_len _ _ (by rw [cyc_len, hk]), hk]
  have h2 : withT (l.take (k + 1)) (cyc f (k + 1)) = withT (l.take k) (cyc f k) ++ [{ l[k] with f3 := f k }] := by
    rw [List.take_succ_eq_append_getElem h, ← cyc_next, withT, withT, List.zipWith_append (by rw [hk, cyc_len])]
    rfl
  rw [mix, mix, List.set_append_right _ _ (by omega), h1, Nat.sub_self, List.drop_eq_getElem_cons h, List.set_cons_zero, h2, List.append_assoc, List.singleton_append]
/-- A term of a row that is read. -/
theorem termNat {w : World} {A : Option Addr} {n : Nat} {zs : List Term} (h : kTerm.C w A n zs) (r : Nat) (hr : r < n) (t : Term) (ht : t = zs.getD r ⟨false, 0⟩) : ∃ bd, A = some bd ∧ w.cell? (bd.add (r * 2)) = some (.bool t.f0) ∧ w.cell? ⟨(bd.add (r * 2)).block, (bd.add (r * 2)).off + 1, none⟩ = some (.int .u64 t.f1) := by
  obtain rfl := h.1
  obtain ⟨ad, e, h0, h1⟩ := C_termN h r hr
  rw [List.getD_eq_getElem?_getD, List.getElem?_eq_getElem hr] at ht
  subst ht
  exact ⟨ad, e, h0, h1⟩
end L08
end Go.Proofs.YtoohandacpalpaaDoor
