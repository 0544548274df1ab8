/- Terms put into a body, in plain Lean; spots.Put. -/
import Derived.Test.YtoohandacpalpaaDoorSpF
import Derived.Deep.RegionWith
import Derived.Test.YtoohandacpalpaaDoorTyS
namespace Go.Proofs.YtoohandacpalpaaDoor
open Go.RowKit Go.Shelf Go.Proofs.YtoohandacpalpaaDoorW.PrintWords Go.Proofs.YtoohandacpalpaaDoorW.PrintLast Go.Proofs.YtoohandacpalpaaDoorW.PrintMore
set_option linter.unusedVariables false
set_option linter.unusedSimpArgs false
theorem clip_calls (w : World) (A : Option Addr) (n c : Nat) (hc : n ≤ c) : Calls Tryd.prog 45 #[.slice A n c] w fun e w' => e = .returned (.slice A n n) ∧ w = w' := by
  have z : decide ((n : Int) ≤ (c : Int)) = true := decide_eq_true (by omega)
  go_enter Tryd.func45, Tryd.ntmps45
  go_wp2
  go_ret
  exact ⟨rfl, rfl⟩
theorem cmp_nil (w : World) (ad : Addr) (n c : Nat) : (binOp .eql 22 (.slice (some ad) n c) (.slice none 0 0)).run Tryd.prog w = .ok (.bool false) w := by
  kernel_rfl
set_option maxRecDepth 100000 in
set_option maxHeartbeats 1000000 in
theorem clone_calls (w : World) (ad : Addr) (n c : Nat) (body : List Node) (hn : n = body.length) (hp : 0 < n) (h : n ≤ 300) (hr : kNode.C w (some ad) body.length body) :
    Calls Tryd.prog 46 #[.slice (some ad) n c] w fun e w' => ∃ g c1, e = .returned (.slice (some ⟨g, 0, none⟩) n c1) ∧ kNode.R 36 w' w.heap.size (fun _ => True) (.slice (some ⟨g, 0, none⟩) n c1) body ∧ Below w.heap.size w w' := by
  have HR := Aside0.mk hr
  have HN := Aside0.mk hn
  clear hr hn
  go_enter Tryd.func46, Tryd.ntmps46
  have h0 : kNode.R 36 (w.alloc (.cells #[] 36)) w.heap.size (fun _ => True) (.slice (some ⟨w.heap.size, 0, none⟩) 0 0) [] := R_block (cells := []) (blk_new w _) (Nat.le_refl _) trivial (Reps.none _ _) (by decide)
  have H0 := Aside0.mk h0
  clear h0
  have hcmp := cmp_nil w ad n c
  go_wp2_with (at_builtin; refine wpList_append_R rfl kNode w.heap.size (.tmp 5) (.tmp 6) 22 22 36 36 (.agg #[.int .u8 0, .int .i64 0, .string ⟨#[]⟩, .int .i64 0, .bool false, .int .u64 0, .bool false, .int .u64 0, .bool false, .int .u64 0]) 88 rfl (by kernel_rfl) (by kernel_rfl) L07.infoN rfl (by decide) (by decide) (.slice (some ⟨w.heap.size, 0, none⟩) 0 0) [] body (some ad) n c (fun _ => True) (fun k => k < w.heap.size) rfl rfl H0.out (by rw [HN.out]; exact Kd.C_below HR.out (below_alloc (Below.refl _ _) _)) (fun x cs h => nodeM h) (fun k hk => ⟨trivial, by simp [Value.ownBlock]; omega⟩) (fun _ _ => trivial) (by simp) (by simp; omega) ?_; intro v1 w1 HO1 hg1 hat; rw [List.nil_append] at HO1; obtain ⟨A1, c1, rfl⟩ := Kd.R_slice HO1; rw [← HN.out] at HO1 ⊢; obtain ⟨g, rfl⟩ := R_pos HO1 hp; have HO := Aside0.mk HO1; have HB := Aside0.mk ((below_alloc (Below.refl w.heap.size w) (.cells #[] 36)).grown hg1 (by simp) (fun k hk => by simp [Value.ownBlock] at hk; omega)); clear HO1 hg1 hat)
  go_ret
  exact ⟨g, c1, rfl, HO.out, HB.out⟩
end Go.Proofs.YtoohandacpalpaaDoor
namespace Go.Proofs.YtoohandacpalpaaDoor
open Go.RowKit Go.Shelf Go.Proofs.YtoohandacpalpaaDoorW.PrintWords Go.Proofs.YtoohandacpalpaaDoorW.PrintLast Go.Proofs.YtoohandacpalpaaDoorW.PrintMore
set_option linter.unusedVariables false
set_option linter.unusedSimpArgs false
def setTerm (n : Node) (p : Int) (t : Term) : Node := if p = 0 then { n with f4 := t } else if p = 1 then { n with f5 := t } else { n with f6 := t }
def putOne (out : List Node) (x : Int × Int × Int) (t : Term) : List Node := match out[x.1.toNat]? with
  | some n => out.set x.1.toNat (setTerm n x.2.1 t)
  | none => out
def putRow : List Node → List (Int × Int × Int) → List Term → List Node
  | out, x :: xs, t :: ts => putRow (putOne out x t) xs ts
  | out, _, _ => out
theorem putOne_len (out : List Node) (x : Int × Int × Int) (t : Term) : (putOne out x t).length = out.length := by
  unfold putOne
  split <;> simp
theorem putRow_len : ∀ (xs : List (Int × Int × Int)) (ts : List Term) (out : List Node), (putRow out xs ts).length = out.length
  | [], ts, out => by cases ts <;> rfl
  | x :: xs, [], out => rfl
  | x :: xs, t :: ts, out => by rw [putRow, putRow_len xs ts, putOne_len]
theorem putRow_append : ∀ (xs ys : List (Int × Int × Int)) (ts us : List Term) (out : List Node), xs.length = ts.length → putRow out (xs ++ ys) (ts ++ us) = putRow (putRow out xs ts) ys us
  | [], ys, [], us, out, _ => rfl
  | [], ys, _ :: _, us, out, h => by simp at h
  | x :: xs, ys, [], us, out, h => by simp at h
  | x :: xs, ys, t :: ts, us, out, h => by
    rw [List.cons_append, List.cons_append, putRow, putRow_append xs ys ts us _ (by simpa using h), putRow]
theorem putRow_next (out : List Node) (xs : List (Int × Int × Int)) (ts : List Term) (k : Nat) (h1 : k < xs.length) (h2 : k < ts.length) : putRow out (xs.take (k + 1)) (ts.take (k + 1)) = putOne (putRow out (xs.take k) (ts.take k)) xs[k] ts[k] := by
  rw [List.take_succ_eq_append_getElem h1, List.take_succ_eq_append_getElem h2, putRow_append _ _ _ _ _ (by rw [List.length_take, List.length_take]; omega)]
  rfl
theorem putOne_at (pre t : List Node) (n : Node) (j p s : Int) (u : Term) (hj : j = pre.length) : putOne (pre ++ n :: t) (j, p, s) u = pre ++ setTerm n p u :: t := by
  subst hj
  simp [putOne]
/-! ### node by node -/
def putLab : List Node → List Term → List Node
  | n :: t, a :: ls => if n.f0 = 5 then (match ls with
    | b :: ls' => { n with f4 := a, f5 := b } :: putLab t ls'
    | [] => n :: t) else { n with f4 := a } :: putLab t ls
  | l, _ => l
def putEff : List Node → List Term → List Node
  | n :: t, es => if n.f0 = 5 then (match es with
    | e :: es' => { n with f6 := e } :: putEff t es'
    | [] => n :: t) else n :: putEff t es
  | [], _ => []
theorem putLab_fun {n : Node} {t : List Node} {a b : Term} {ls : List Term} (h5 : n.f0 = 5) : putLab (n :: t) (a :: b :: ls) = { n with f4 := a, f5 := b } :: putLab t ls := by
  rw [putLab.eq_def]
  simp [h5]
theorem putLab_other {n : Node} {t : List Node} {a : Term} {ls : List Term} (h5 : ¬ n.f0 = 5) : putLab (n :: t) (a :: ls) = { n with f4 := a } :: putLab t ls := by
  rw [putLab.eq_def]
  simp [h5]
theorem putEff_fun {n : Node} {t : List Node} {a : Term} {ls : List Term} (h5 : n.f0 = 5) : putEff (n :: t) (a :: ls) = { n with f6 := a } :: putEff t ls := by
  rw [putEff.eq_def]
  simp [h5]
theorem putEff_other {n : Node} {t : List Node} {ls : List Term} (h5 : ¬ n.f0 = 5) : putEff (n :: t) ls = n :: putEff t ls := by
  rw [putEff.eq_def]
  simp [h5]
theorem putRow_lab : ∀ (l pre : List Node) (ss : List Int) (ts : List Term), ss.length = l.length → ts.length = (labL pre.length l ss).length → putRow (pre ++ l) ((labL pre.length l ss).map partOf) ts = pre ++ putLab l ts
  | [], pre, ss, ts, hs, ht => by
    obtain rfl := List.eq_nil_of_length_eq_zero hs
    simp only [labL, List.length_nil] at ht
    obtain rfl := List.eq_nil_of_length_eq_zero ht
    rfl
  | n :: t, pre, [], ts, hs, ht => by simp at hs
  | n :: t, pre, s :: ss, ts, hs, ht => by
    rw [labL, List.length_append] at ht
    have hs' : ss.length = t.length := by simpa using hs
    by_cases h5 : n.f0 = 5
    · simp only [labN, if_pos h5, List.cons_append, List.nil_append, List.length_cons, List.length_nil] at ht
      obtain ⟨a, ts, rfl⟩ : ∃ a us, ts = a :: us := by cases ts with
        | nil => simp at ht; omega
        | cons a us => exact ⟨a, us, rfl⟩
      obtain ⟨b, ts, rfl⟩ : ∃ a us, ts = a :: us := by cases ts with
        | nil => simp at ht; omega
        | cons a us => exact ⟨a, us, rfl⟩
      have h := putRow_lab t (pre ++ [{ n with f4 := a, f5 := b }]) ss ts hs' (by rw [List.length_append, List.length_singleton]; simp only [List.length_cons] at ht; omega)
      rw [List.length_append, List.length_singleton, List.append_assoc, List.singleton_append, List.append_assoc, List.singleton_append] at h
      rw [labL, labN, if_pos h5, putLab_fun h5]
      simp only [List.cons_append, List.nil_append, List.map_cons, partOf, putRow]
      rw [putOne_at pre t n _ _ _ a rfl, putOne_at pre t _ _ _ _ b rfl]
      simpa [setTerm] using h
    · simp only [labN, if_neg h5, List.length_cons, List.length_nil] at ht
      obtain ⟨a, ts, rfl⟩ : ∃ a us, ts = a :: us := by cases ts with
        | nil => simp at ht; omega
        | cons a us => exact ⟨a, us, rfl⟩
      have h := putRow_lab t (pre ++ [{ n with f4 := a }]) ss ts hs' (by rw [List.length_append, List.length_singleton]; simp only [List.length_cons] at ht; omega)
      rw [List.length_append, List.length_singleton, List.append_assoc, List.singleton_append, List.append_assoc, List.singleton_append] at h
      rw [labL, labN, if_neg h5, putLab_other h5]
      simp only [List.cons_append, List.nil_append, List.map_cons, partOf, putRow]
      rw [putOne_at pre t n _ _ _ a rfl]
      simpa [setTerm] using h
theorem putRow_eff : ∀ (l pre : List Node) (ss : List Int) (ts : List Term), ss.length = l.length → ts.length = (effL pre.length l ss).length → putRow (pre ++ l) ((effL pre.length l ss).map partOf) ts = pre ++ putEff l ts
  | [], pre, ss, ts, hs, ht => by
    obtain rfl := List.eq_nil_of_length_eq_zero hs
    simp only [effL, List.length_nil] at ht
    obtain rfl := List.eq_nil_of_length_eq_zero ht
    rfl
  | n :: t, pre, [], ts, hs, ht => by simp at hs
  | n :: t, pre, s :: ss, ts, hs, ht => by
    rw [effL, List.length_append] at ht
    have hs' : ss.length = t.length := by simpa using hs
    by_cases h5 : n.f0 = 5
    · simp only [effN, if_pos h5, List.length_cons, List.length_nil] at ht
      obtain ⟨a, ts, rfl⟩ : ∃ a us, ts = a :: us := by cases ts with
        | nil => simp at ht; omega
        | cons a us => exact ⟨a, us, rfl⟩
      have h := putRow_eff t (pre ++ [{ n with f6 := a }]) ss ts hs' (by rw [List.length_append, List.length_singleton]; simp only [List.length_cons] at ht; omega)
      rw [List.length_append, List.length_singleton, List.append_assoc, List.singleton_append, List.append_assoc, List.singleton_append] at h
      rw [effL, effN, if_pos h5, putEff_fun h5]
      simp only [List.cons_append, List.nil_append, List.map_cons, partOf, putRow]
      rw [putOne_at pre t n _ _ _ a rfl]
      simpa [setTerm] using h
    · simp only [effN, if_neg h5, List.length_nil, Nat.zero_add] at ht
      have h := putRow_eff t (pre ++ [n]) ss ts hs' (by rw [List.length_append, List.length_singleton]; exact ht)
      rw [List.length_append, List.length_singleton, List.append_assoc, List.singleton_append, List.append_assoc, List.singleton_append] at h
      rw [effL, effN, if_neg h5, putEff_other h5]
      simpa using h
/-- What stays: all but the terms. -/
def baseN (x y : Node) : Prop := x.f0 = y.f0 ∧ x.f1 = y.f1 ∧ x.f2 = y.f2 ∧ x.f3 = y.f3 ∧ (x.f0 ≠ 5 → x.f5 = y.f5 ∧ x.f6 = y.f6)
def baseL : List Node → List Node → Prop
  | [], [] => True
  | x :: xs, y :: ys => baseN x y ∧ baseL xs ys
  | _, _ => False
theorem baseL_refl : ∀ l : List Node, baseL l l
  | [] => trivial
  | n :: t => ⟨⟨rfl, rfl, rfl, rfl, fun _ => ⟨rfl, rfl⟩⟩, baseL_refl t⟩
theorem baseL_trans : ∀ {a b c : List Node}, baseL a b → baseL b c → baseL a c
  | [], [], [], _, _ => trivial
  | x :: xs, y :: ys, z :: zs, h, k => by
    obtain ⟨⟨h1, h2, h3, h4, h5⟩, h6⟩ := h
    obtain ⟨⟨k1, k2, k3, k4, k5⟩, k6⟩ := k
    exact ⟨⟨h1.trans k1, h2.trans k2, h3.trans k3, h4.trans k4, fun hx => ⟨(h5 hx).1.trans (k5 (by rw [← h1]; exact hx)).1, (h5 hx).2.trans (k5 (by rw [← h1]; exact hx)).2⟩⟩, baseL_trans h6 k6⟩
  | [], [], _ :: _, _, h => h.elim
  | [], _ :: _, _, h, _ => h.elim
  | _ :: _, [], _, h, _ => h.elim
  | _ :: _, _ :: _, [], _, h => h.elim
theorem putLab_base : ∀ (l : List Node) (ts : List Term), baseL l (putLab l ts)
  | [], ts => by cases ts <;> exact trivial
  | n :: t, [] => baseL_refl _
  | n :: t, a :: ls => by
    unfold putLab
    split
    · rename_i h5
      split
      · exact ⟨⟨rfl, rfl, rfl, rfl, fun h => absurd h5 h⟩, putLab_base t _⟩
      · exact baseL_refl _
    · exact ⟨⟨rfl, rfl, rfl, rfl, fun _ => ⟨rfl, rfl⟩⟩, putLab_base t _⟩
theorem putEff_base : ∀ (l : List Node) (ts : List Term), baseL l (putEff l ts)
  | [], ts => by cases ts <;> exact trivial
  | n :: t, es => by
    unfold putEff
    split
    · rename_i h5
      split
      · exact ⟨⟨rfl, rfl, rfl, rfl, fun h => absurd h5 h⟩, putEff_base t _⟩
      · exact baseL_refl _
    · exact ⟨⟨rfl, rfl, rfl, rfl, fun _ => ⟨rfl, rfl⟩⟩, putEff_base t _⟩
theorem baseL_len : ∀ {a b : List Node}, baseL a b → a.length = b.length
  | [], [], _ => rfl
  | x :: xs, y :: ys, h => by rw [List.length_cons, List.length_cons, baseL_len h.2]
  | [], _ :: _, h => h.elim
  | _ :: _, [], h => h.elim
theorem base_may {x y : Node} (h : baseN x y) : mayB x = mayB y := by
  obtain ⟨h0, h1, h2, h3, h4⟩ := h
  by_cases h5 : x.f0 = 5
  · have h6 : y.f0 = 5 := by rw [← h0]; exact h5
    simp [mayB, mayV, h5, h6, h1, h2, h3]
  · obtain ⟨h6, h7⟩ := h4 h5
    simp only [mayB, h0, h1, h2, h3, h6, h7]
theorem baseL_checkL : ∀ {a b : List Node} (o : List Int), baseL a b → checkL a o = checkL b o
  | [], [], _, _ => rfl
  | x :: xs, y :: ys, o, h => by
    rw [checkL, checkL, base_may h.1, h.1.2.2.2.1, baseL_checkL _ h.2]
  | [], _ :: _, _, h => h.elim
  | _ :: _, [], _, h => h.elim
theorem baseL_check {a b : List Node} (h : baseL a b) : checkB a = checkB b := by
  unfold checkB
  rw [baseL_len h, baseL_checkL _ h]
theorem baseL_same : ∀ {a b : List Node}, baseL a b → sameL a b = true
  | [], [], _ => rfl
  | x :: xs, y :: ys, h => by
    rw [sameL, baseL_same h.2, Bool.and_true]
    obtain ⟨⟨h0, h1, h2, h3, h4⟩, _⟩ := h
    simp [sameN, h0, h1, h2, h3]
  | [], _ :: _, h => h.elim
  | _ :: _, [], h => h.elim
theorem baseL_sides : ∀ {a b : List Node} (st : List Int), baseL a b → sidesL a st = sidesL b st
  | [], [], _, _ => rfl
  | x :: xs, y :: ys, [], h => rfl
  | x :: xs, y :: ys, s :: st, h => by
    have e : belowS x s = belowS y s := by
      obtain ⟨⟨h0, h1, h2, h3, h4⟩, _⟩ := h
      unfold belowS
      rw [h0, h3]
    rw [sidesL, sidesL, e, baseL_sides _ h.2]
  | [], _ :: _, _, h => h.elim
  | _ :: _, [], _, h => h.elim
/-- Spots with other terms. -/
def withT (l : List Spot) (ts : List Term) : List Spot := List.zipWith (fun x t => { x with f3 := t }) l ts
theorem lab_putLab : ∀ (i : Nat) (l : List Node) (ss : List Int) (ts : List Term), ss.length = l.length → ts.length = (labL i l ss).length → labL i (putLab l ts) ss = withT (labL i l ss) ts
  | i, [], ss, ts, hs, ht => by
    obtain rfl := List.eq_nil_of_length_eq_zero hs
    cases ts <;> rfl
  | i, n :: t, [], ts, hs, ht => by simp at hs
  | i, n :: t, s :: ss, ts, hs, ht => by
    rw [labL, List.length_append] at ht
    have hs' : ss.length = t.length := by simpa using hs
    by_cases h5 : n.f0 = 5
    · simp only [labN, if_pos h5, List.cons_append, List.nil_append, List.length_cons, List.length_nil] at ht
      obtain ⟨a, ts, rfl⟩ : ∃ a us, ts = a :: us := by cases ts with
        | nil => simp at ht; omega
        | cons a us => exact ⟨a, us, rfl⟩
      obtain ⟨b, ts, rfl⟩ : ∃ a us, ts = a :: us := by cases ts with
        | nil => simp at ht; omega
        | cons a us => exact ⟨a, us, rfl⟩
      have h := lab_putLab (i + 1) t ss ts hs' (by simp only [List.length_cons] at ht; omega)
      rw [putLab_fun h5, labL, labL, h]
      simp [labN, h5, withT]
    · simp only [labN, if_neg h5, List.length_cons, List.length_nil] at ht
      obtain ⟨a, ts, rfl⟩ : ∃ a us, ts = a :: us := by cases ts with
        | nil => simp at ht; omega
        | cons a us => exact ⟨a, us, rfl⟩
      have h := lab_putLab (i + 1) t ss ts hs' (by simp only [List.length_cons] at ht; omega)
      rw [putLab_other h5, labL, labL, h]
      simp [labN, h5, withT]
theorem eff_putEff : ∀ (i : Nat) (l : List Node) (ss : List Int) (ts : List Term), ss.length = l.length → ts.length = (effL i l ss).length → effL i (putEff l ts) ss = withT (effL i l ss) ts
  | i, [], ss, ts, hs, ht => by
    obtain rfl := List.eq_nil_of_length_eq_zero hs
    cases ts <;> rfl
  | i, n :: t, [], ts, hs, ht => by simp at hs
  | i, n :: t, s :: ss, ts, hs, ht => by
    rw [effL, List.length_append] at ht
    have hs' : ss.length = t.length := by simpa using hs
    by_cases h5 : n.f0 = 5
    · simp only [effN, if_pos h5, List.length_cons, List.length_nil] at ht
      obtain ⟨a, ts, rfl⟩ : ∃ a us, ts = a :: us := by cases ts with
        | nil => simp at ht; omega
        | cons a us => exact ⟨a, us, rfl⟩
      have h := eff_putEff (i + 1) t ss ts hs' (by simp only [List.length_cons] at ht; omega)
      rw [putEff_fun h5, effL, effL, h]
      simp [effN, h5, withT]
    · simp only [effN, if_neg h5, List.length_nil, Nat.zero_add] at ht
      have h := eff_putEff (i + 1) t ss ts hs' ht
      rw [putEff_other h5, effL, effL, h]
      simp [effN, h5, withT]
/-- The effects' spots don't hang on labels, nor the other way. -/
theorem eff_putLab : ∀ (i : Nat) (l : List Node) (ss : List Int) (ts : List Term), ss.length = l.length → effL i (putLab l ts) ss = effL i l ss
  | i, [], ss, ts, hs => by cases ts <;> rfl
  | i, n :: t, [], ts, hs => by simp at hs
  | i, n :: t, s :: ss, [], hs => rfl
  | i, n :: t, s :: ss, a :: ts, hs => by
    have hs' : ss.length = t.length := by simpa using hs
    unfold putLab
    split
    · rename_i h5
      split
      · rw [effL, effL, eff_putLab (i + 1) t ss _ hs']
        simp [effN, h5]
      · rfl
    · rename_i h5
      rw [effL, effL, eff_putLab (i + 1) t ss _ hs']
      simp [effN, h5]
theorem lab_putEff : ∀ (i : Nat) (l : List Node) (ss : List Int) (ts : List Term), ss.length = l.length → labL i (putEff l ts) ss = labL i l ss
  | i, [], ss, ts, hs => by cases ts <;> rfl
  | i, n :: t, [], ts, hs => by simp at hs
  | i, n :: t, s :: ss, ts, hs => by
    have hs' : ss.length = t.length := by simpa using hs
    unfold putEff
    split
    · rename_i h5
      split
      · rw [labL, labL, lab_putEff (i + 1) t ss _ hs']
        simp [labN, h5]
      · rfl
    · rename_i h5
      rw [labL, labL, lab_putEff (i + 1) t ss _ hs']
theorem putLab_own : ∀ (i : Nat) (l : List Node) (ss : List Int), ss.length = l.length → putLab l ((labL i l ss).map (·.f3)) = l
  | i, [], ss, hs => by cases ss <;> rfl
  | i, n :: t, [], hs => by simp at hs
  | i, n :: t, s :: ss, hs => by
    have h := putLab_own (i + 1) t ss (by simpa using hs)
    by_cases h5 : n.f0 = 5
    · rw [labL, labN, if_pos h5, List.map_append]
      simp only [List.map_cons, List.map_nil, List.cons_append, List.nil_append]
      rw [putLab_fun h5, h]
    · rw [labL, labN, if_neg h5, List.map_append]
      simp only [List.map_cons, List.map_nil, List.cons_append, List.nil_append]
      rw [putLab_other h5, h]
theorem putEff_own : ∀ (i : Nat) (l : List Node) (ss : List Int), ss.length = l.length → putEff l ((effL i l ss).map (·.f3)) = l
  | i, [], ss, hs => by cases ss <;> rfl
  | i, n :: t, [], hs => by simp at hs
  | i, n :: t, s :: ss, hs => by
    have h := putEff_own (i + 1) t ss (by simpa using hs)
    by_cases h5 : n.f0 = 5
    · rw [effL, effN, if_pos h5, List.map_append]
      simp only [List.map_cons, List.map_nil, List.cons_append, List.nil_append]
      rw [putEff_fun h5, h]
    · rw [effL, effN, if_neg h5, List.map_append]
      simp only [List.map_nil, List.nil_append]
      rw [putEff_other h5, h]
/-- What Put answers where it puts. -/
def putB (body : List Node) (ls es : List Term) : List Node := putEff (putLab body ls) es
theorem putB_base (body : List Node) (ls es : List Term) : baseL body (putB body ls es) := baseL_trans (putLab_base _ _) (putEff_base _ _)
theorem putB_check (body : List Node) (ls es : List Term) : checkB (putB body ls es) = checkB body := (baseL_check (putB_base body ls es)).symm
theorem putB_sides (body : List Node) (ls es : List Term) : sidesB (putB body ls es) = sidesB body := (baseL_sides _ (putB_base body ls es)).symm
theorem putB_lab {body : List Node} (hz : checkB body = 0) (ls es : List Term) (hl : ls.length = (labB body).length) : labB (putB body ls es) = withT (labB body) ls := by
  have hs : (sidesB body).length = body.length := sidesB_len hz 0
  unfold labB at hl ⊢
  rw [if_pos hz] at hl
  rw [if_pos hz, if_pos (by rw [putB_check]; exact hz), putB_sides, putB, lab_putEff _ _ _ _ (by rw [hs]; exact baseL_len (putLab_base _ _)), lab_putLab _ _ _ _ hs hl]
theorem putB_eff {body : List Node} (hz : checkB body = 0) (ls es : List Term) (he : es.length = (effB body).length) : effB (putB body ls es) = withT (effB body) es := by
  have hs : (sidesB body).length = body.length := sidesB_len hz 0
  unfold effB at he ⊢
  rw [if_pos hz] at he
  rw [if_pos hz, if_pos (by rw [putB_check]; exact hz), putB_sides, putB, eff_putEff _ _ _ _ (by rw [hs]; exact baseL_len (putLab_base _ _)) (by rw [eff_putLab _ _ _ _ hs]; exact he), eff_putLab _ _ _ _ hs]
theorem putB_own {body : List Node} (hz : checkB body = 0) : putB body ((labB body).map (·.f3)) ((effB body).map (·.f3)) = body := by
  have hs : (sidesB body).length = body.length := sidesB_len hz 0
  unfold putB labB effB
  rw [if_pos hz, if_pos hz, putLab_own 0 body _ hs, putEff_own 0 body _ hs]
/-- The two loops of Put. -/
theorem putB_rows {body : List Node} (hz : checkB body = 0) (ls es : List Term) (hl : ls.length = (labP body body.length).length) (he : es.length = (effP body body.length).length) :
    putRow (putRow body (labP body body.length) ls) (effP body body.length) es = putB body ls es := by
  have hs : (sidesB body).length = body.length := sidesB_len hz 0
  unfold labP at hl ⊢
  unfold effP at he ⊢
  rw [List.take_of_length_le (Nat.le_refl _), List.take_of_length_le (by rw [hs]; exact Nat.le_refl _), List.length_map] at hl he
  rw [List.take_of_length_le (Nat.le_refl _), List.take_of_length_le (by rw [hs]; exact Nat.le_refl _)]
  have h1 := putRow_lab body [] (sidesB body) ls hs hl
  simp only [List.nil_append, List.length_nil] at h1
  rw [h1]
  have h2 := putRow_eff (putLab body ls) [] (sidesB body) es (by rw [hs]; exact baseL_len (putLab_base _ _)) (by rw [List.length_nil, eff_putLab _ _ _ _ hs]; exact he)
  simp only [List.nil_append, List.length_nil] at h2
  rw [eff_putLab _ _ _ _ hs] at h2
  exact h2
end Go.Proofs.YtoohandacpalpaaDoor
namespace Go.Proofs.YtoohandacpalpaaDoor
open Go.RowKit Go.Shelf Go.Proofs.YtoohandacpalpaaDoorW.PrintWords Go.Proofs.YtoohandacpalpaaDoorW.PrintLast Go.Proofs.YtoohandacpalpaaDoorW.PrintMore
set_option linter.unusedVariables false
set_option linter.unusedSimpArgs false
theorem node_term {e base g n cap : Nat} {W : World} {ok : Nat → Prop} {xs : List Node} (h : kNode.R e W base ok (.slice (some ⟨g, 0, none⟩) n cap) xs) (i : Nat) (hi : i < xs.length) (p : Int) (t : Term) :
    kNode.R e ((W.setCell ⟨g, i * 10 + partOff p, none⟩ (.bool t.f0)).setCell ⟨g, i * 10 + partOff p + 1, none⟩ (.int .u64 t.f1)) base ok (.slice (some ⟨g, 0, none⟩) n cap) (xs.set i (setTerm xs[i] p t)) := by
  unfold partOff setTerm
  split
  · exact edit_f4 h i hi t
  · split
    · exact edit_f5 h i hi t
    · exact edit_f6 h i hi t
theorem node_cells {e base g n cap : Nat} {W : World} {ok : Nat → Prop} {xs : List Node} (h : kNode.R e W base ok (.slice (some ⟨g, 0, none⟩) n cap) xs) (i : Nat) (hi : i < xs.length) (p : Int) :
    (∃ u, W.cell? ⟨g, i * 10 + partOff p, none⟩ = some (.bool u)) ∧ (∃ u, W.cell? ⟨g, i * 10 + partOff p + 1, none⟩ = some (.int .u64 u)) ∧ (∀ o, W.frozen? ⟨g, o, none⟩ = false) ∧ base ≤ g ∧ ∃ cells, W.heap[g]? = some (.cells cells e (0, 0)) := by
  obtain ⟨_, _, ev, hb, _, cells, hgc⟩ := Kd.R_form h (by omega)
  cases ev
  obtain ⟨t0, t1⟩ := term_cells (Kd.R_reads' h).2.2 i hi p
  rw [add_plain] at t0 t1
  simp only [Nat.zero_add] at t0 t1
  exact ⟨⟨_, t0⟩, ⟨_, t1⟩, fun o => blk_frozen hgc o, hb, cells, hgc⟩
theorem putOne_set (out : List Node) (j : Nat) (p s : Int) (t : Term) (h : j < out.length) : putOne out ((j : Int), p, s) t = out.set j (setTerm out[j] p t) := by
  simp [putOne, List.getElem?_eq_getElem h]
set_option maxRecDepth 100000 in
set_option maxHeartbeats 1000000 in
theorem put_bad (w : World) (A : Option Addr) (c : Nat) (body : List Node) (hr : kNode.C w A body.length body) (B1 B2 : Option Addr) (m1 d1 m2 d2 : Nat) (hz : checkB body ≠ 0) :
    Calls Tryd.prog 31 #[.slice A body.length c, .slice B1 m1 d1, .slice B2 m2 d2] w fun e w' => e = .returned (.tuple #[.slice none 0 0, .int .i64 4]) ∧ Below w.heap.size w w' := by
  have CK := Aside0.mk (check_calls w A c body hr)
  obtain ⟨q, hq⟩ : ∃ q, q = checkB body := ⟨_, rfl⟩
  rw [← hq] at CK
  have e0 : (q != 0) = true := bne_iff_ne.mpr (by rw [hq]; exact hz)
  clear hq hz hr
  go_enter Tryd.func31, Tryd.ntmps31
  go_wp2_with (go_at_call 14; (with_reducible refine (CK.out).mono ?_); rintro e W' ⟨rfl, hb'⟩; have HB1 := Aside0.mk hb'; clear hb')
  go_ret2
  exact ⟨rfl, HB1.out⟩
set_option maxRecDepth 100000 in
set_option maxHeartbeats 4000000 in
theorem put_arg (w : World) (ad : Addr) (c N : Nat) (body : List Node) (hN : N = body.length) (hr : kNode.C w (some ad) body.length body) (B1 B2 : Option Addr) (m1 d1 m2 d2 n1 n2 : Nat) (hz : checkB body = 0) (hn1 : n1 = (labP body N).length) (hn2 : n2 = (effP body N).length) (hm : n1 ≠ m1 ∨ n2 ≠ m2) :
    Calls Tryd.prog 31 #[.slice (some ad) N c, .slice B1 m1 d1, .slice B2 m2 d2] w fun e w' => e = .returned (.tuple #[.slice none 0 0, .int .i64 1]) ∧ Below w.heap.size w w' := by
  have CK := Aside0.mk (check_calls w (some ad) c body hr)
  rw [hz, ← hN] at CK
  have HZ := Aside0.mk hz
  have HR := Aside0.mk hr
  have HN := Aside0.mk hN
  have HN1 := Aside0.mk hn1
  have HN2 := Aside0.mk hn2
  clear hz hr hN hn1 hn2
  by_cases h1 : n1 = m1
  all_goals
    go_enter Tryd.func31, Tryd.ntmps31
    go_wp2_with (go_at_call 14; (with_reducible refine (CK.out).mono ?_); rintro e W' ⟨rfl, hb'⟩; have HB1 := Aside0.mk hb'; clear hb')
    have AC := all_calls W' (some ad) c body HZ.out (Kd.C_below HR.out HB1.out)
    rw [← HN.out] at AC
    refine AC.mono ?_
    rintro e w2 ⟨v1, v2, rfl, r1, r2, hb2⟩
    clear AC
    obtain ⟨A1, c1, rfl⟩ := Kd.R_slice r1
    obtain ⟨A2, c2, rfl⟩ := Kd.R_slice r2
    rw [← HN1.out, ← HN2.out]
    have HB2 := Aside0.mk (below_step HB1.out hb2)
    clear r1 r2 hb2 HB1
    try have z1 : ((n1 : Int) != (m1 : Int)) = true := bne_iff_ne.mpr (by omega)
    try have z1 : ((n1 : Int) != (m1 : Int)) = false := bne_eq_false_iff_eq.mpr (by omega)
    try have z2 : ((n2 : Int) != (m2 : Int)) = true := bne_iff_ne.mpr (by have := hm.resolve_left (fun h => h h1); omega)
    clear h1 hm
    go_wp2
    go_ret2
    exact ⟨rfl, HB2.out⟩
set_option maxRecDepth 100000 in
set_option maxHeartbeats 4000000 in
theorem put_ok (w : World) (ad : Addr) (c N : Nat) (body : List Node) (hN : N = body.length) (hr : kNode.C w (some ad) body.length body) (B1 B2 : Option Addr) (d1' d2' n1 n2 : Nat) (ls es : List Term) (hl1 : kTerm.C w B1 ls.length ls) (hl2 : kTerm.C w B2 es.length es) (hz : checkB body = 0) (hn1 : n1 = (labP body N).length) (hn2 : n2 = (effP body N).length) (hm1 : n1 = ls.length) (hm2 : n2 = es.length) :
    Calls Tryd.prog 31 #[.slice (some ad) N c, .slice B1 n1 d1', .slice B2 n2 d2'] w fun e w' => ∃ g c1, e = .returned (.tuple #[.slice (some ⟨g, 0, none⟩) N N, .int .i64 0]) ∧ kNode.R 36 w' w.heap.size (fun _ => True) (.slice (some ⟨g, 0, none⟩) N c1) (putB body ls es) ∧ Below w.heap.size w w' := by
  have CK := Aside0.mk (check_calls w (some ad) c body hr)
  rw [hz, ← hN] at CK
  have hl128 := (checkB_L hz).2.1
  have hp := (checkB_L hz).1
  have HZ := Aside0.mk hz
  have HR := Aside0.mk hr
  have HN := Aside0.mk hN
  have HN1 := Aside0.mk hn1
  have HN2 := Aside0.mk hn2
  have HLS := Aside0.mk hm1
  have HES := Aside0.mk hm2
  have HL1 := Aside0.mk hl1
  have HL2 := Aside0.mk hl2
  have hb1 := labP_len body N
  have hb2 := effP_len body N
  rw [← hn1] at hb1
  rw [← hn2] at hb2
  rw [← hN] at hl128 hp hb1 hb2
  clear hz hr hN hn1 hn2 hm1 hm2 hl1 hl2
  go_enter Tryd.func31, Tryd.ntmps31
  go_wp2_with (go_at_call 14; (with_reducible refine (CK.out).mono ?_); rintro e W' ⟨rfl, hb'⟩; have HB1 := Aside0.mk hb'; clear hb')
  have AC := all_calls W' (some ad) c body HZ.out (Kd.C_below HR.out HB1.out)
  rw [← HN.out] at AC
  refine AC.mono ?_
  rintro e w2 ⟨v1, v2, rfl, r1, r2, hb2'⟩
  clear AC
  obtain ⟨A1, c1, rfl⟩ := Kd.R_slice r1
  obtain ⟨A2, c2, rfl⟩ := Kd.R_slice r2
  rw [← HN1.out] at r1 r2 ⊢
  rw [← HN2.out] at r1 r2 ⊢
  have HB2 := Aside0.mk (below_step HB1.out hb2')
  have R1 := Aside0.mk r1
  have R2 := Aside0.mk r2
  clear r1 r2 hb2' HB1
  have z1 : ((n1 : Int) != (n1 : Int)) = false := bne_self_eq_false _
  have z2 : ((n2 : Int) != (n2 : Int)) = false := bne_self_eq_false _
  go_wp2_with fail
  refine (clone_calls w2 ad N c body HN.out (by omega) (by omega) (Kd.C_below HR.out HB2.out)).mono ?_
  rintro e w3 ⟨g, c3, rfl, r3, hb3⟩
  have hc3 : N ≤ c3 := by have := (Kd.R_reads' r3).2.1; omega
  have HO := Aside0.mk r3
  have HB := Aside0.mk hb3
  clear r3 hb3
  go_wp2_with (go_at_call 45; (with_reducible refine (clip_calls _ (some ⟨g, 0, none⟩) N c3 hc3).mono ?_); rintro e W' ⟨rfl, rfl⟩)
  go_loopg [40] (n1 + 1) (fun gk i W => ∃ k : Nat, i = .int .i64 (k : Int) ∧ k ≤ n1 ∧ n1 + 1 - k ≤ gk ∧ Aside0 (kNode.R 36 W w2.heap.size (fun _ => True) (.slice (some ⟨g, 0, none⟩) N c3) (putRow body ((labP body N).take k) (ls.take k))) ∧ Aside0 (Below w2.heap.size w2 W))
  case atStart => exact ⟨0, rfl, Nat.zero_le _, by omega, ⟨by simpa [putRow] using HO.out⟩, HB⟩
  case round =>
    clear HO HB
    obtain ⟨k, rfl, hk, hkg, HO, HB⟩ := hrel
    rcases Nat.lt_or_ge k n1 with hlt | hge
    · have hd : decide (k < n1) = true := decide_eq_true hlt
      have hkl : k < (labP body N).length := by rw [← HN1.out]; exact hlt
      have hkt : k < ls.length := by rw [← HLS.out]; exact hlt
      obtain ⟨g1, rfl⟩ := R_pos R1.out (by omega)
      obtain ⟨b1, b2, d0, d1, d2, d3, d4, d5, l1, l2, q1, q2⟩ := C_partN (n := n1) (by rw [HN1.out]; exact (Kd.R_reads' R1.out).2.2) k hkl
      obtain ⟨x, hxk⟩ : ∃ x, x = (labP body N)[k] := ⟨_, rfl⟩
      obtain ⟨j, hj, hjb⟩ := (labP_mem body N) (labP body N)[k] (List.getElem_mem _)
      rw [← hxk] at d0 d1 d2 q1 q2 hj
      obtain ⟨x1, x2, x3⟩ := x
      simp only at d0 d1 d2 q1 q2 hj
      subst hj
      have HXK := Aside0.mk hxk
      clear hxk
      have hgl : g1 < w2.heap.size := by
        have := d0
        rcases Nat.lt_or_ge g1 w2.heap.size with h | h
        · exact h
        · rw [World.cell?, Array.getElem?_eq_none h] at this; cases this
      have tr : ∀ o v, w2.cell? ⟨g1, o, none⟩ = some v → wr.cell? ⟨g1, o, none⟩ = some v := fun o v h => (HB.out.cell (p := ⟨g1, o, none⟩) hgl).trans h
      replace d0 := tr _ _ d0
      replace d1 := tr _ _ d1
      replace d2 := tr _ _ d2
      replace d3 := tr _ _ d3
      replace d4 := tr _ _ d4
      replace d5 := tr _ _ d5
      clear tr hgl
      have hol : (putRow body ((labP body N).take k) (ls.take k)).length = N := by rw [putRow_len, HN.out]
      obtain ⟨⟨u0, o0⟩, ⟨u1, o1⟩, of, hBg, cells, hgc⟩ := node_cells HO.out j (by rw [hol, HN.out]; exact hjb) x2
      obtain ⟨td, te, t0, t1⟩ := C_termN (Kd.C_below HL1.out (below_step HB2.out HB.out)) k hkt
      obtain ⟨t, ht⟩ : ∃ t, t = ls[k] := ⟨_, rfl⟩
      rw [← ht] at t0 t1
      have HT := Aside0.mk ht
      have P1 : Aside0 (∀ W, Below w2.heap.size w2 W → Calls Tryd.prog 63 #[.slice (some ⟨g, 0, none⟩) N N, .pointer (some ⟨b1, 0, none⟩), .pointer (some ⟨b2, 0, none⟩)] W fun e w' => e = .returned (.pointer (some ⟨g, j * 10 + partOff x2, none⟩)) ∧ W = w') :=
        ⟨fun W hb => by
          have := part1_calls W ⟨g, 0, none⟩ N N j x2 b1 b2 (by rw [HN.out]; exact hjb) ((hb.cell (p := ⟨b1, 0, none⟩) l1).trans q1) ((hb.cell (p := ⟨b2, 0, none⟩) l2).trans q2)
          rw [add_plain] at this
          simpa using this⟩
      obtain ⟨po, hpo⟩ : ∃ po, po = j * 10 + partOff x2 := ⟨_, rfl⟩
      rw [← hpo] at o0 o1 P1
      have HPO := Aside0.mk hpo
      have o0' := fun o => pw_cell_below (below_alloc (Below.refl wr.heap.size wr) o) o0
      have o1' := fun o => pw_cell_below (below_alloc (Below.refl wr.heap.size wr) o) o1
      have t0' := fun o => pw_cell_below (below_alloc (Below.refl wr.heap.size wr) o) t0
      have t1' := fun o => pw_cell_below (below_alloc (Below.refl wr.heap.size wr) o) t1
      have of' := fun o off => blk_frozen (blk_alloc hgc o) off
      have hne : ¬ g = wr.heap.size := by have := blk_lt hgc; omega
      have hne' : ¬ wr.heap.size = g := fun h => hne h.symm
      have HBG := Aside0.mk hBg
      clear q1 q2 l1 l2 o0 o1 of hgc hBg ht hpo t0 t1
      cases te
      go_wp2
      go_region_with (go_at_call 63; (with_reducible refine (P1.out _ (by repeat (first | exact HB.out | apply below_alloc | refine Below.drew ?_))).mono ?_); rintro e W' ⟨rfl, rfl⟩)
      all_goals
        go_wp2
        go_roundg (gk - 1)
        case measure => omega
        case rel =>
          have hjo : j < (putRow body ((labP body N).take k) (ls.take k)).length := by rw [hol, HN.out]; exact hjb
          have h2 := node_term (Kd.R_below HO.out (Below.drew (below_alloc (Below.refl wr.heap.size wr) (.cells #[.int .i64 (j : Int), .int .u8 x2, .int .u8 x3, .bool false, .int .u64 0, .func (.func 63) #[] #[.pointer (some ⟨b1, 0, none⟩), .pointer (some ⟨b2, 0, none⟩)]] 75)))) j hjo x2 t
          rw [← HPO.out, ← putOne_set _ j x2 x3 t hjo, HXK.out, HT.out, ← putRow_next _ _ _ k hkl hkt, ← HT.out] at h2
          exact ⟨k + 1, by go_num, by omega, by omega, ⟨h2⟩, ⟨by repeat (first | exact HB.out | exact HBG.out | apply below_alloc | refine Below.drew ?_ | refine below_set ?_ _ ?_)⟩⟩
    · have hd : decide (k < n1) = false := decide_eq_false (by omega)
      obtain rfl : n1 = k := by omega
      have HO1 := HO.out
      rw [List.take_of_length_le (by rw [← HN1.out]; exact Nat.le_refl _), List.take_of_length_le (by rw [← HLS.out]; exact Nat.le_refl _)] at HO1
      clear HO
      have HO := Aside0.mk HO1
      clear HO1 hd hge hkg hk
      go_wp2
      go_loopg [57] (n2 + 1) (fun gk i W => ∃ k : Nat, i = .int .i64 (k : Int) ∧ k ≤ n2 ∧ n2 + 1 - k ≤ gk ∧ Aside0 (kNode.R 36 W w2.heap.size (fun _ => True) (.slice (some ⟨g, 0, none⟩) N c3) (putRow (putRow body (labP body N) ls) ((effP body N).take k) (es.take k))) ∧ Aside0 (Below w2.heap.size w2 W))
      case atStart => exact ⟨0, rfl, Nat.zero_le _, by omega, ⟨by simpa [putRow] using HO.out⟩, HB⟩
      case round =>
        clear HO HB
        obtain ⟨k, rfl, hk, hkg, HO, HB⟩ := hrel
        rcases Nat.lt_or_ge k n2 with hlt | hge
        · have hd : decide (k < n2) = true := decide_eq_true hlt
          have hkl : k < (effP body N).length := by rw [← HN2.out]; exact hlt
          have hkt : k < es.length := by rw [← HES.out]; exact hlt
          obtain ⟨g1, rfl⟩ := R_pos R2.out (by omega)
          obtain ⟨b1, b2, d0, d1, d2, d3, d4, d5, l1, l2, q1, q2⟩ := C_partN (n := n2) (by rw [HN2.out]; exact (Kd.R_reads' R2.out).2.2) k hkl
          obtain ⟨x, hxk⟩ : ∃ x, x = (effP body N)[k] := ⟨_, rfl⟩
          obtain ⟨j, hj, hjb⟩ := (effP_mem body N) (effP body N)[k] (List.getElem_mem _)
          rw [← hxk] at d0 d1 d2 q1 q2 hj
          obtain ⟨x1, x2, x3⟩ := x
          simp only at d0 d1 d2 q1 q2 hj
          subst hj
          have HXK := Aside0.mk hxk
          clear hxk
          have hgl : g1 < w2.heap.size := by
            have := d0
            rcases Nat.lt_or_ge g1 w2.heap.size with h | h
            · exact h
            · rw [World.cell?, Array.getElem?_eq_none h] at this; cases this
          have tr : ∀ o v, w2.cell? ⟨g1, o, none⟩ = some v → wr.cell? ⟨g1, o, none⟩ = some v := fun o v h => (HB.out.cell (p := ⟨g1, o, none⟩) hgl).trans h
          replace d0 := tr _ _ d0
          replace d1 := tr _ _ d1
          replace d2 := tr _ _ d2
          replace d3 := tr _ _ d3
          replace d4 := tr _ _ d4
          replace d5 := tr _ _ d5
          clear tr hgl
          have hol : (putRow (putRow body (labP body N) ls) ((effP body N).take k) (es.take k)).length = N := by rw [putRow_len, putRow_len, HN.out]
          obtain ⟨⟨u0, o0⟩, ⟨u1, o1⟩, of, hBg, cells, hgc⟩ := node_cells HO.out j (by rw [hol, HN.out]; exact hjb) x2
          obtain ⟨td, te, t0, t1⟩ := C_termN (Kd.C_below HL2.out (below_step HB2.out HB.out)) k hkt
          obtain ⟨t, ht⟩ : ∃ t, t = es[k] := ⟨_, rfl⟩
          rw [← ht] at t0 t1
          have HT := Aside0.mk ht
          have P1 : Aside0 (∀ W, Below w2.heap.size w2 W → Calls Tryd.prog 63 #[.slice (some ⟨g, 0, none⟩) N N, .pointer (some ⟨b1, 0, none⟩), .pointer (some ⟨b2, 0, none⟩)] W fun e w' => e = .returned (.pointer (some ⟨g, j * 10 + partOff x2, none⟩)) ∧ W = w') :=
            ⟨fun W hb => by
              have := part1_calls W ⟨g, 0, none⟩ N N j x2 b1 b2 (by rw [HN.out]; exact hjb) ((hb.cell (p := ⟨b1, 0, none⟩) l1).trans q1) ((hb.cell (p := ⟨b2, 0, none⟩) l2).trans q2)
              rw [add_plain] at this
              simpa using this⟩
          obtain ⟨po, hpo⟩ : ∃ po, po = j * 10 + partOff x2 := ⟨_, rfl⟩
          rw [← hpo] at o0 o1 P1
          have HPO := Aside0.mk hpo
          have o0' := fun o => pw_cell_below (below_alloc (Below.refl wr.heap.size wr) o) o0
          have o1' := fun o => pw_cell_below (below_alloc (Below.refl wr.heap.size wr) o) o1
          have t0' := fun o => pw_cell_below (below_alloc (Below.refl wr.heap.size wr) o) t0
          have t1' := fun o => pw_cell_below (below_alloc (Below.refl wr.heap.size wr) o) t1
          have of' := fun o off => blk_frozen (blk_alloc hgc o) off
          have hne : ¬ g = wr.heap.size := by have := blk_lt hgc; omega
          have hne' : ¬ wr.heap.size = g := fun h => hne h.symm
          have HBG := Aside0.mk hBg
          clear q1 q2 l1 l2 o0 o1 of hgc hBg ht hpo t0 t1
          cases te
          go_wp2
          go_region_with (go_at_call 63; (with_reducible refine (P1.out _ (by repeat (first | exact HB.out | apply below_alloc | refine Below.drew ?_))).mono ?_); rintro e W' ⟨rfl, rfl⟩)
          all_goals
            go_wp2
            go_roundg (gk - 1)
            case measure => omega
            case rel =>
              have hjo : j < (putRow (putRow body (labP body N) ls) ((effP body N).take k) (es.take k)).length := by rw [hol, HN.out]; exact hjb
              have h2 := node_term (Kd.R_below HO.out (Below.drew (below_alloc (Below.refl wr.heap.size wr) (.cells #[.int .i64 (j : Int), .int .u8 x2, .int .u8 x3, .bool false, .int .u64 0, .func (.func 63) #[] #[.pointer (some ⟨b1, 0, none⟩), .pointer (some ⟨b2, 0, none⟩)]] 75)))) j hjo x2 t
              rw [← HPO.out, ← putOne_set _ j x2 x3 t hjo, HXK.out, HT.out, ← putRow_next _ _ _ k hkl hkt, ← HT.out] at h2
              exact ⟨k + 1, by go_num, by omega, by omega, ⟨h2⟩, ⟨by repeat (first | exact HB.out | exact HBG.out | apply below_alloc | refine Below.drew ?_ | refine below_set ?_ _ ?_)⟩⟩
        · have hd : decide (k < n2) = false := decide_eq_false (by omega)
          obtain rfl : n2 = k := by omega
          have HO1 := HO.out
          rw [List.take_of_length_le (by rw [← HN2.out]; exact Nat.le_refl _), List.take_of_length_le (by rw [← HES.out]; exact Nat.le_refl _), HN.out, putB_rows HZ.out ls es (by rw [← HLS.out, HN1.out, HN.out]) (by rw [← HES.out, HN2.out, HN.out])] at HO1
          go_wp2
          go_ret2
          rw [← HN.out] at HO1
          exact ⟨g, c3, rfl, Kd.R_lower HO1 HB2.out.size, below_step HB2.out HB.out⟩
end Go.Proofs.YtoohandacpalpaaDoor
