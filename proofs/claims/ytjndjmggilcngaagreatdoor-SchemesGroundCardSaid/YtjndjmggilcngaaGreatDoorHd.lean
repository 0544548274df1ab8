/- What the law SchemesHold says, in plain Lean: a grounded body is a scheme of no variable. -/
import Derived.Test.YtjndjmggilcngaaGreatDoorSg
import Derived.Test.YtjndjmggilcngaaGreatDoorScT

namespace Go.Proofs.YtjndjmggilcngaaGreatDoor
open Go.RowKit Go.Proofs.YtjndjmggilcngaaGreatDoorW.PrintWords Go.Proofs.YtjndjmggilcngaaGreatDoorW.PrintLast Go.Proofs.YtjndjmggilcngaaGreatDoorW.PrintMore
set_option linter.unusedVariables false
set_option linter.unusedSimpArgs false
namespace L12
theorem putLab_wf : ∀ (l : List Node) (ts : List Term), (∀ n ∈ l, Node.wf n) → (∀ t ∈ ts, Term.wf t) → ∀ n ∈ putLab l ts, Node.wf n
  | [], ts, _, _, n, hn => by cases ts <;> cases hn
  | m :: l, [], h, _, n, hn => h n hn
  | m :: l, [a], h, ht, n, hn => by
    by_cases h5 : m.f0 = 5
    · rw [putLab.eq_def] at hn
      simp only [h5, if_pos] at hn
      exact h n hn
    · rw [putLab_other h5] at hn
      rcases List.mem_cons.1 hn with rfl | hn
      · obtain ⟨h1, h2, h3, h4, h6, h7, h8⟩ := h m List.mem_cons_self
        exact ⟨h1, h2, h3, h4, ht a List.mem_cons_self, h7, h8⟩
      · exact putLab_wf l [] (fun n hn => h n (List.mem_cons_of_mem _ hn)) (fun _ h => by cases h) n hn
  | m :: l, a :: b :: ts, h, ht, n, hn => by
    obtain ⟨h1, h2, h3, h4, h6, h7, h8⟩ := h m List.mem_cons_self
    by_cases h5 : m.f0 = 5
    · rw [putLab_fun h5] at hn
      rcases List.mem_cons.1 hn with rfl | hn
      · exact ⟨h1, h2, h3, h4, ht a List.mem_cons_self, ht b (List.mem_cons_of_mem _ List.mem_cons_self), h8⟩
      · exact putLab_wf l ts (fun n hn => h n (List.mem_cons_of_mem _ hn)) (fun t h => ht t (List.mem_cons_of_mem _ (List.mem_cons_of_mem _ h))) n hn
    · rw [putLab_other h5] at hn
      rcases List.mem_cons.1 hn with rfl | hn
      · exact ⟨h1, h2, h3, h4, ht a List.mem_cons_self, h7, h8⟩
      · exact putLab_wf l (b :: ts) (fun n hn => h n (List.mem_cons_of_mem _ hn)) (fun t h => ht t (List.mem_cons_of_mem _ h)) n hn
theorem putEff_wf : ∀ (l : List Node) (ts : List Term), (∀ n ∈ l, Node.wf n) → (∀ t ∈ ts, Term.wf t) → ∀ n ∈ putEff l ts, Node.wf n
  | [], ts, _, _, n, hn => by cases ts <;> cases hn
  | m :: l, [], h, ht, n, hn => by
    by_cases h5 : m.f0 = 5
    · rw [putEff.eq_def] at hn
      simp only [h5, if_pos] at hn
      exact h n hn
    · rw [putEff_other h5] at hn
      rcases List.mem_cons.1 hn with rfl | hn
      · exact h n List.mem_cons_self
      · exact putEff_wf l [] (fun n hn => h n (List.mem_cons_of_mem _ hn)) ht n hn
  | m :: l, a :: ts, h, ht, n, hn => by
    obtain ⟨h1, h2, h3, h4, h6, h7, h8⟩ := h m List.mem_cons_self
    by_cases h5 : m.f0 = 5
    · rw [putEff_fun h5] at hn
      rcases List.mem_cons.1 hn with rfl | hn
      · exact ⟨h1, h2, h3, h4, h6, h7, ht a List.mem_cons_self⟩
      · exact putEff_wf l ts (fun n hn => h n (List.mem_cons_of_mem _ hn)) (fun t h => ht t (List.mem_cons_of_mem _ h)) n hn
    · rw [putEff_other h5] at hn
      rcases List.mem_cons.1 hn with rfl | hn
      · exact ⟨h1, h2, h3, h4, h6, h7, h8⟩
      · exact putEff_wf l (a :: ts) (fun n hn => h n (List.mem_cons_of_mem _ hn)) ht n hn
theorem lab_wfT {a : List Node} (hw : ∀ n ∈ a, Node.wf n) : ∀ t ∈ (labB a).map (·.f3), Term.wf t := fun t ht => by
  obtain ⟨x, hx, rfl⟩ := List.mem_map.1 ht
  unfold labB at hx
  split at hx
  · obtain ⟨⟨n, hn, e⟩, _⟩ := labL_all _ _ _ x hx
    have h2 := hw n hn
    rcases e with e | e <;> rw [e]
    · exact h2.2.2.2.2.1
    · exact h2.2.2.2.2.2.1
  · cases hx
theorem eff_wfT {a : List Node} (hw : ∀ n ∈ a, Node.wf n) : ∀ t ∈ (effB a).map (·.f3), Term.wf t := fun t ht => by
  obtain ⟨x, hx, rfl⟩ := List.mem_map.1 ht
  unfold effB at hx
  split at hx
  · obtain ⟨⟨n, hn, e⟩, _⟩ := effL_all _ _ _ x hx
    rw [e]
    exact (hw n hn).2.2.2.2.2.2
  · cases hx
section
variable {hasL hasX : Int → Bool}
theorem hasV_ok {has : Int → Bool} {n : Nat} {t : Term} (h : termOk has (n : Int) t = true) : hasV n t = true := by
  unfold termOk at h
  unfold hasV
  cases h0 : t.f0 with
  | true => rw [h0, if_pos rfl] at h; rw [h]; rfl
  | false => rfl
theorem of_ok {has : Int → Bool} {vs : List Int} {t : Term} (h : termOk has (vs.length : Int) t = true) (ht : 0 ≤ t.f1) (hv : vs.all has = true) : termOk has 0 (ofV vs t) = true := by
  unfold termOk at h
  unfold ofV
  cases h0 : t.f0 with
  | true =>
    rw [h0, if_pos rfl] at h
    obtain ⟨k, hk⟩ := Int.eq_ofNat_of_zero_le ht
    have hlt := of_decide_eq_true h
    rw [if_pos rfl, hk]
    show has (rd vs (k : Int)) = true
    exact List.all_eq_true.1 hv _ (rd_mem k (by omega))
  | false =>
    rw [h0, if_neg (by simp)] at h
    rw [if_neg (by simp)]
    unfold termOk
    rw [h0, if_neg (by simp)]
    exact h
theorem of_wf {vs : List Int} {t : Term} {n : Nat} (hn : n = vs.length) (h : hasV n t = true) (ht : Term.wf t) (hv : ∀ r ∈ vs, (Lit.int .u64 r).wf = true) : Term.wf (ofV vs t) := by
  unfold hasV at h
  unfold ofV
  cases h0 : t.f0 with
  | true =>
    rw [h0] at h
    have hlt : t.f1 < (n : Int) := of_decide_eq_true (by simpa using h)
    obtain ⟨k, hk⟩ := Int.eq_ofNat_of_zero_le (wf_DU ht).1
    rw [if_pos rfl, hk]
    exact hv _ (rd_mem k (by omega))
  | false => rw [if_neg (by simp)]; exact ht
theorem withT_f3 : ∀ (l : List Spot) (ts : List Term), l.length = ts.length → ∀ x ∈ withT l ts, x.f3 ∈ ts
  | [], ts, _, x, hx => by cases ts <;> cases hx
  | y :: l, [], h, x, hx => by simp at h
  | y :: l, t :: ts, h, x, hx => by
    simp only [withT, List.zipWith_cons_cons, List.mem_cons] at hx
    rcases hx with hx | hx
    · rw [hx]; exact List.mem_cons_self
    · exact List.mem_cons_of_mem _ (withT_f3 l ts (by simpa using h) x hx)
/-- Ground answers no error where the lengths are right. -/
theorem groun_err {lv ev : Int} {a : List Node} {L E : List Bound} {ls xs : List Int} (h : schemeB hasL hasX lv ev a L E = 0) : ((grounS lv ev a ls xs).2 == 0) = ((ls.length : Int) == lv && (xs.length : Int) == ev) := by
  obtain ⟨h1, h2, h3, h4, h5⟩ := scheme_ok h
  unfold grounS
  rw [if_neg (by simpa using h1)]
  by_cases q1 : (ls.length : Int) = lv
  · by_cases q2 : (xs.length : Int) = ev
    · have e1 : (labB a).all (fun x => hasV ls.length x.f3) = true := List.all_eq_true.2 fun x hx => hasV_ok (by rw [q1]; exact h4 x hx)
      have e2 : (effB a).all (fun x => hasV xs.length x.f3) = true := List.all_eq_true.2 fun x hx => hasV_ok (by rw [q2]; exact h5 x hx)
      rw [if_neg (by rw [e1, e2]; simp [q1, q2]), beq_iff_eq.mpr q1, beq_iff_eq.mpr q2]
      rfl
    · rw [if_pos (.inr (.inl q2)), beq_eq_false_iff_ne.mpr q2, Bool.and_false]
      rfl
  · rw [if_pos (.inl q1), beq_eq_false_iff_ne.mpr q1]
    rfl
/-- .. and a body that may be a scheme of no variable, where the values are of the sorts. -/
theorem groun_ok {lv ev : Int} {a : List Node} {L E : List Bound} {ls xs : List Int} (h : schemeB hasL hasX lv ev a L E = 0) (hw : ∀ n ∈ a, Node.wf n) (e : (grounS lv ev a ls xs).2 = 0) (hl : ls.all hasL = true) (hx : xs.all hasX = true)
    (wl : ∀ r ∈ ls, (Lit.int .u64 r).wf = true) (wx : ∀ r ∈ xs, (Lit.int .u64 r).wf = true) : schemeB hasL hasX 0 0 (grounS lv ev a ls xs).1 [] [] = 0 ∧ ∀ n ∈ (grounS lv ev a ls xs).1, Node.wf n := by
  obtain ⟨h1, h2, h3, h4, h5⟩ := scheme_ok h
  have hq := groun_err (ls := ls) (xs := xs) h
  rw [beq_iff_eq.mpr e, eq_comm, Bool.and_eq_true, beq_iff_eq, beq_iff_eq] at hq
  obtain ⟨q1, q2⟩ := hq
  have hv1 : ∀ x ∈ labB a, hasV ls.length x.f3 = true := fun x hx => hasV_ok (by rw [q1]; exact h4 x hx)
  have hv2 : ∀ x ∈ effB a, hasV xs.length x.f3 = true := fun x hx => hasV_ok (by rw [q2]; exact h5 x hx)
  have e1 : (labB a).all (fun x => hasV ls.length x.f3) = true := List.all_eq_true.2 hv1
  have e2 : (effB a).all (fun x => hasV xs.length x.f3) = true := List.all_eq_true.2 hv2
  have eg : grounS lv ev a ls xs = (putB a ((labB a).map fun x => ofV ls x.f3) ((effB a).map fun x => ofV xs x.f3), 0) := by
    unfold grounS
    rw [if_neg (by simpa using h1), if_neg (by rw [e1, e2]; simp [q1, q2])]
  rw [eg]
  have w1 := lab_wfT hw
  have w2 := eff_wfT hw
  refine ⟨?_, ?_⟩
  · show schemeB hasL hasX 0 0 (putB a _ _) [] [] = 0
    rw [scheme_mk (by rw [putB_check]; exact h1) (by unfold boundsB; simp) (by unfold boundsB; simp), if_pos]
    rw [Bool.and_eq_true, putB_lab h1 _ _ (by simp), putB_eff h1 _ _ (by simp)]
    refine ⟨List.all_eq_true.2 fun x hx' => ?_, List.all_eq_true.2 fun x hx' => ?_⟩
    · obtain ⟨y, hy, ey⟩ := List.mem_map.1 (withT_f3 _ _ (by simp) x hx')
      rw [← ey]
      exact of_ok (by rw [q1]; exact h4 y hy) (wf_DU (w1 _ (List.mem_map.2 ⟨y, hy, rfl⟩))).1 hl
    · obtain ⟨y, hy, ey⟩ := List.mem_map.1 (withT_f3 _ _ (by simp) x hx')
      rw [← ey]
      exact of_ok (by rw [q2]; exact h5 y hy) (wf_DU (w2 _ (List.mem_map.2 ⟨y, hy, rfl⟩))).1 hx
  · show ∀ n ∈ putB a _ _, Node.wf n
    refine putEff_wf _ _ (putLab_wf _ _ hw fun t ht => ?_) fun t ht => ?_
    · obtain ⟨y, hy, ey⟩ := List.mem_map.1 ht
      rw [← ey]
      exact of_wf rfl (hv1 y hy) (w1 _ (List.mem_map.2 ⟨y, hy, rfl⟩)) wl
    · obtain ⟨y, hy, ey⟩ := List.mem_map.1 ht
      rw [← ey]
      exact of_wf rfl (hv2 y hy) (w2 _ (List.mem_map.2 ⟨y, hy, rfl⟩)) wx
end
end L12
end Go.Proofs.YtjndjmggilcngaaGreatDoor
