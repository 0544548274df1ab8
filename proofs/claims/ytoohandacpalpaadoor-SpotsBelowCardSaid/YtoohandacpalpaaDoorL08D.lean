/- The law SpotsBelow, in plain Lean: the spots below one more node. -/
import Derived.Test.YtoohandacpalpaaDoorL08A
import Derived.Test.YtoohandacpalpaaDoorL07D
namespace Go.Proofs.YtoohandacpalpaaDoor
open Go.RowKit Go.Shelf Go.Proofs.YtoohandacpalpaaDoorW.PrintWords Go.Proofs.YtoohandacpalpaaDoorW.PrintLast Go.Proofs.YtoohandacpalpaaDoorW.PrintMore
set_option linter.unusedVariables false
set_option linter.unusedSimpArgs false
namespace L08
open L07
/-- A change of sides that goes with turning. -/
def Way (g : Int → Int) : Prop := g 2 = 2 ∧ ∀ s, turnI (g s) = g (turnI s)
theorem way_id : Way (fun s => s) := ⟨rfl, fun _ => rfl⟩
theorem way_both : Way (fun _ => 2) := ⟨rfl, fun _ => rfl⟩
theorem way_turn : Way turnI := ⟨rfl, fun s => rfl⟩
theorem belowS_map {g : Int → Int} (h : Way g) (n : Node) (s : Int) : belowS n (g s) = (belowS n s).map g := by
  unfold belowS
  split
  · rw [List.map_set, List.map_replicate, h.2]
  · split
    · rw [List.map_replicate, h.1]
    · rw [List.map_replicate]
theorem sidesF_map {g : Int → Int} (h : Way g) : ∀ (f : Fo) (ss : List Int), f.sides (ss.map g) = (f.sides ss).map g
  | .nil, ss => by cases ss <;> rfl
  | .cons n ks r, [] => rfl
  | .cons n ks r, s :: ss => by
    rw [List.map_cons, Fo.sides, Fo.sides, belowS_map h, sidesF_map h ks, sidesF_map h r, List.map_cons, List.map_append]
theorem sides_way {g : Int → Int} (h : Way g) {body : List Node} (hz : checkB body = 0) : sidesL body [g 0] = (sidesB body).map g := by
  obtain ⟨f, hf, hc, rfl, _⟩ := body_tree hz
  rw [sidesB_tree f hf hc, sidesB, sidesB_tree f hf hc, ← sidesF_map h]
  rfl
theorem labL_way {g : Int → Int} (h : Way g) : ∀ (i j : Nat) (l : List Node) (ss : List Int), (labL j l (ss.map g)).map (fun x => (x.f1, x.f2)) = (labL i l ss).map (fun x => (x.f1, g x.f2))
  | i, j, [], ss => by cases ss <;> rfl
  | i, j, n :: t, [] => rfl
  | i, j, n :: t, s :: ss => by
    rw [List.map_cons, labL, labL, List.map_append, List.map_append, labL_way h (i + 1) (j + 1)]
    congr 1
    unfold labN
    split <;> simp [h.2]
/-- What SpotsBelow says of the spots of a body with more nodes ahead. -/
def BelowOk (body all : List Node) (skip : Nat) (g : Int → Int) : Prop :=
  checkB all = 0 ∧ skip + (labB body).length ≤ (labB all).length ∧ ∀ i x, (labB body)[i]? = some x → ∃ y, (labB all)[skip + i]? = some y ∧ y.f1 = x.f1 ∧ y.f2 = g x.f2
theorem belowOk_of {body all : List Node} {skip j : Nat} {g : Int → Int} (h : Way g) (hz : checkB body = 0) (ha : checkB all = 0) (pre post : List Spot) (hp : pre.length = skip) (e : labL 0 all (sidesB all) = pre ++ (labL j body ((sidesB body).map g) ++ post)) : BelowOk body all skip g := by
  have e1 : labB body = labL 0 body (sidesB body) := by unfold labB; rw [if_pos hz]
  have e2 : labB all = pre ++ (labL j body ((sidesB body).map g) ++ post) := by unfold labB; rw [if_pos ha, e]
  have hm := labL_way h 0 j body (sidesB body)
  have hl : (labL j body ((sidesB body).map g)).length = (labL 0 body (sidesB body)).length := by
    have := congrArg List.length hm
    simpa using this
  refine ⟨ha, ?_, fun i x hx => ?_⟩
  · rw [e1, e2, List.length_append, List.length_append, hl, hp]
    omega
  · rw [e1] at hx
    obtain ⟨hi, hxe⟩ := List.getElem?_eq_some_iff.1 hx
    rw [e2, List.getElem?_append_right (by omega), hp, Nat.add_sub_cancel_left, List.getElem?_append_left (by omega)]
    refine ⟨_, List.getElem?_eq_getElem (by omega), ?_⟩
    have h1 := congrArg (fun l => l[i]?) hm
    simp only [List.getElem?_map] at h1
    rw [List.getElem?_eq_getElem (by omega), List.getElem?_eq_getElem hi, hxe] at h1
    simp only [Option.map_some, Option.some.injEq, Prod.mk.injEq] at h1
    exact h1
theorem small {body l : List Node} {h : Nat} (hp : Puts l h) (h1 : l.length ≤ 128) (h2 : h < 16) : checkB l = 0 := by
  rw [hp.1, if_neg (by omega), if_neg (by omega)]
theorem below_ref {body : List Node} (hz : checkB body = 0) (hn : body.length ≤ 120) (hd : deepB body ≤ 15) : BelowOk body ([L07.refN] ++ body) 1 (fun _ => 2) := by
  obtain ⟨f, hf, hc, hfb, hdp, hh0, hh16, h128⟩ := body_tree hz
  have hpu := puts_ref f hf hc
  rw [← hfb] at hpu
  refine belowOk_of (j := 1) way_both hz (small (body := body) hpu (by simp; omega) (by omega)) [⟨0, 0, 0, zT⟩] [] rfl ?_
  rw [List.append_nil, ← sides_way way_both hz]
  rfl
theorem below_tup {body : List Node} (hz : checkB body = 0) (hn : body.length ≤ 120) (hd : deepB body ≤ 15) : BelowOk body ([L07.tupN, wholeN] ++ body) 2 (fun s => s) := by
  obtain ⟨f, hf, hc, hfb, hdp, hh0, hh16, h128⟩ := body_tree hz
  have hpu := puts_tup f hf hc hh0
  rw [← hfb] at hpu
  refine belowOk_of (j := 2) way_id hz (small (body := body) hpu (by simp; omega) (by omega)) [⟨0, 0, 0, zT⟩, ⟨1, 0, 0, zT⟩] [] rfl ?_
  rw [List.append_nil, ← sides_way way_id hz]
  rfl
theorem below_fun {body : List Node} (hz : checkB body = 0) (hn : body.length ≤ 120) (hd : deepB body ≤ 15) : BelowOk body ([funN, wholeN] ++ body) 3 (fun s => s) := by
  obtain ⟨f, hf, hc, hfb, hdp, hh0, hh16, h128⟩ := body_tree hz
  have hpu := puts_fun f hf hc hh0
  rw [← hfb] at hpu
  refine belowOk_of (j := 2) way_id hz (small (body := body) hpu (by simp; omega) (by omega)) [⟨0, 0, 0, zT⟩, ⟨0, 1, 1, zT⟩, ⟨1, 0, 1, zT⟩] [] rfl ?_
  rw [List.append_nil, ← sides_way way_id hz]
  rfl
theorem labL_append : ∀ (i : Nat) (l m : List Node) (ss ts : List Int), ss.length = l.length → labL i (l ++ m) (ss ++ ts) = labL i l ss ++ labL (i + l.length) m ts
  | i, [], m, [], ts, _ => by simp [labL]
  | i, [], m, _ :: _, ts, h => by simp at h
  | i, n :: t, m, [], ts, h => by simp at h
  | i, n :: t, m, s :: ss, ts, h => by
    rw [List.cons_append, List.cons_append, labL, labL, labL_append (i + 1) t m ss ts (by simpa using h), List.append_assoc, List.length_cons, show i + 1 + t.length = i + (t.length + 1) by omega]
theorem below_arg {body : List Node} (hz : checkB body = 0) (hn : body.length ≤ 120) (hd : deepB body ≤ 15) : BelowOk body ([funN] ++ body ++ [wholeN]) 2 turnI := by
  obtain ⟨f, hf, hc, hfb, hdp, hh0, hh16, h128⟩ := body_tree hz
  have hpu := puts_arg f hf hc hh0
  rw [← hfb] at hpu
  refine belowOk_of (j := 1) way_turn hz (small (body := body) hpu (by simp; omega) (by omega)) [⟨0, 0, 0, zT⟩, ⟨0, 1, 1, zT⟩] (labL (1 + body.length) [wholeN] [0]) rfl ?_
  have hs : sidesB ([funN] ++ body ++ [wholeN]) = 0 :: (sidesL body [1] ++ [0]) := by
    have h1 := sidesL_fo f [1] [0] [wholeN] hf (by simp [hc])
    have h2 := sidesL_fo f [1] [] [] hf (by simp [hc])
    rw [sidesL_nil, List.append_nil, List.append_nil, List.append_nil] at h2
    rw [← h2, ← hfb] at h1
    have h3 : sidesB ([funN] ++ body ++ [wholeN]) = 0 :: sidesL (body ++ [wholeN]) ([1] ++ [0]) := rfl
    rw [h3, h1]
    rfl
  have hl : (sidesL body [1]).length = body.length := sidesB_len hz 1
  rw [hs, ← sides_way way_turn hz]
  show labL 0 (funN :: (body ++ [wholeN])) (0 :: (sidesL body [1] ++ [0])) = _
  rw [labL, labL_append 1 body [wholeN] _ _ hl]
  rfl
end L08
end Go.Proofs.YtoohandacpalpaaDoor
