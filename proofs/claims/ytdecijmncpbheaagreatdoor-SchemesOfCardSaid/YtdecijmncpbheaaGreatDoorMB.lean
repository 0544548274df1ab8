
/- Several texts as one: Rf, SpB, SpC. -/
import Derived.Test.YtdecijmncpbheaaGreatDoorB
import Derived.Laws.MakeOwn
import Derived.RangeFuncFrom
import Derived.OwnWalkIn
import Derived.BigFrameIn
import Derived.Test.YtdecijmncpbheaaGreatDoorMA
import Derived.Laws.CopyOwn
import Derived.Laws.EntriesVeiled
import Derived.Deep.RegionLaw
import Derived.StillTailTactics
import Derived.RangeFuncCalls
import Derived.RangeFuncLeaves
import Derived.Shelf.Abstract
import Derived.Shelf.RegionOpen
import Derived.WalkKit
import Derived.TacticsInMore
import Derived.LoopNIn
import Derived.LoopIn

namespace Go.Proofs.YtdecijmncpbheaaGreatDoor
open Go.RowKit Go.Proofs.YtdecijmncpbheaaGreatDoorW.PrintWords Go.Proofs.YtdecijmncpbheaaGreatDoorW.PrintLast Go.Proofs.YtdecijmncpbheaaGreatDoorW.PrintMore
set_option linter.unusedVariables false
set_option linter.unusedSimpArgs false
section
variable {P : Program} {α : Type}
theorem wpList_make0 {ops : Array Oper} {rest : List Oper} {o : Oper} {a : Act} {Q : Exit → Act → World → Prop} (hgd : o.guard = none) (d : Kd α) {W : World} (base e : Nat) (t : TypeId) (x y : Operand) (ho : o.op = .makeSlice t x y) (m : Int) (c : Nat) (hm : m = c) (hx : a.eval x = .int .i64 0) (hy : a.eval y = .int .i64 m)
    (ht : P.underlying t = some (.slice e)) (z : Value) (bytes : Nat) (hinfo : (P.info? e).map (fun i => (i.zero, i.size, i.bytes)) = some (some z, d.sz, bytes)) (hb0 : 0 < bytes) (hl : c * bytes ≤ 281474976710656) (ok : Nat → Prop) (hfresh : ok W.heap.size) (hbase : base ≤ W.heap.size)
    (h : ∀ w1, d.R e w1 base ok (.slice (some ⟨W.heap.size, 0, none⟩) 0 c) [] → W.grownBy w1 none → wpList P ops Q rest (a.put o.dst (.slice (some ⟨W.heap.size, 0, none⟩) 0 c)) w1) : wpList P ops Q (o :: rest) a W := by
  subst hm
  obtain ⟨i0, hi, hzz⟩ := Option.map_eq_some_iff.1 hinfo
  simp only [Prod.mk.injEq] at hzz
  obtain ⟨hz0, hz1, hz2⟩ := hzz
  have hc : c ≤ 281474976710656 := Nat.le_trans (Nat.le_mul_of_pos_right _ hb0) hl
  obtain ⟨w1, hr, how, hg⟩ := run_make_own (P := P) W base t e i0 z d.sz ht hi hz0 hz1 .i64 .i64 c (by rw [hz2, Nat.mul_comm]; exact hl) (by simp only [maxLen]; omega) hbase
  refine Kd.event_run hgd (v := .slice (some ⟨W.heap.size, 0, none⟩) 0 c) (w1 := w1) ?_ (h w1 ⟨fun k hk => ?_, [], how, Reps.none _ _⟩ hg)
  · simp [execOp, ho, hx, hy, hr]
  · simp only [Value.ownBlock, Option.some.injEq] at hk
    exact hk ▸ hfresh
end
end Go.Proofs.YtdecijmncpbheaaGreatDoor
namespace Go.Proofs.YtdecijmncpbheaaGreatDoor
open Go.RowKit Go.Proofs.YtdecijmncpbheaaGreatDoorW.PrintWords Go.Proofs.YtdecijmncpbheaaGreatDoorW.PrintLast Go.Proofs.YtdecijmncpbheaaGreatDoorW.PrintMore
set_option linter.unusedVariables false
section
variable {F : Fence} {n : Nat} {P : Program} {α : Type}
/-- What the function that is ranged over answers to a loop whose body always goes on: after all rounds it returns. -/
def SeqRows (F : Fence) (n : Nat) (P : Program) (gf : Nat) (lb : Array Value) (encs : α → Array Value) (T : Obj → Prop) (Kp : World → World → Prop) (xs : List α) (w : World) : Prop :=
  ∀ (l : Nat) (J : Nat → World → Prop) (W : World), Below w.heap.size w W →
    (∀ s A B row, J s A → A.grownBy B row → (∀ r, row = some r → W.heap.size ≤ r ∧ ∃ o : Obj, A.heap[r]? = some o ∧ T o) → J s B) →
    (∀ k (hk : k < xs.length) W1, J k W1 → YieldAt F (n - 1) P l (encs xs[k]) W1 fun e W' => e = .returned (.bool true) ∧ J (k + 1) W' ∧ Kp W1 W') → J 0 W →
    CallsIn F n P gf (#[.func (.yield l) #[] #[]] ++ lb) W fun e W' => (∃ v, e = .returned v) ∧ J xs.length W'
theorem wpIn_range_rows {g : Operand} {ps : Array Tmp} {assign body : Code} {Q : Exit → Act → World → Prop} {a : Act} {w : World} (T : Obj → Prop) (hT : ∀ o, T o → o.isCells = true)
    (hro : F.round = none) (h1 : 1 ≤ n) {gf : Nat} {lb : Array Value} (hg : a.eval g = .func (.func gf) #[] lb) (hFg : F.fn gf) (eg : ∀ args w, (callFunc gf args).run P w = .ok (.enter gf args) w)
    {encs : α → Array Value} (hps : ∀ x, (encs x).size = ps.size) {Kp : World → World → Prop} {xs : List α} (hseq : SeqRows F (n - 1) P gf lb encs T Kp xs w)
    (hKt : ∀ {A B C : World}, Kp A B → Kp B C → Kp A C) (hKb : ∀ (W : World) (l : Nat) (o o' : Obj), w.heap.size ≤ l → W.heap[l]? = some o → o.isCells = false → Kp W (W.putObj l o'))
    (I : Nat → World → Prop) (hI : ∀ s A B row, I s A → A.grownBy B row → (∀ r, row = some r → w.heap.size ≤ r ∧ ∃ o : Obj, A.heap[r]? = some o ∧ (o.isCells = false ∨ T o)) → I s B) (h0 : I 0 w) (a₁ : α → Act)
    (hassign : ∀ (l : Nat) (x : α) (W : World) (K : Act → World → Prop), K (a₁ x) W →
      assign.wpIn (F.inRound l) (n - 1 - 1) P (Exit.then K (fun _ _ _ => False)) { tmps := (ps.zip (encs x)).foldl (fun t (p, v) => t.setIfInBounds p v) a.tmps, defers := [] } W)
    (hbody : ∀ (l k : Nat) (hk : k < xs.length) (W : World), I k W → body.wpIn (F.inRound l) (n - 1 - 1) P (fun e _ W' => e = .normal ∧ KeepsOthers W W' ∧ Kp W W' ∧ I (k + 1) W') (a₁ xs[k]) W)
    (hdone : ∀ (D : Nat) (W : World), w.heap.size ≤ D → I xs.length W → W.heap[D]? = some (.deferred (some [])) → Q .normal { a with defers := { target := .collected D, args := #[] } :: a.defers } W) :
    (Code.rangeFunc g ps assign body).wpIn F n P Q a w := by
  refine wpIn_rangeFunc fun fn hfn => ?_
  rw [hro]
  obtain ⟨rec, hrec⟩ : ∃ rec : LoopState → Option Code → Loop, rec = fun st pe => { state := st, pending := pe, fn, tmps := a.tmps, params := ps, assign, body, defers := w.heap.size } := ⟨_, rfl⟩
  have hrs : ∀ st pe, (rec st pe).params = ps ∧ (rec st pe).state = st := fun st pe => by rw [hrec]; exact ⟨rfl, rfl⟩
  obtain ⟨V, hV⟩ : ∃ V, V = (w.alloc (.deferred (some []))).alloc (.loop (rec .ready none)) := ⟨_, rfl⟩
  have sV : V.heap.size = w.heap.size + 2 := by rw [hV]; simp
  have lV : V.heap[w.heap.size + 1]? = some (.loop (rec .ready none)) := by
    rw [hV]; simpa using blk_new (w.alloc (.deferred (some []))) (.loop (rec .ready none))
  have dV : V.heap[w.heap.size]? = some (.deferred (some [])) := by
    rw [hV]; exact blk_alloc (blk_new w _) _
  have bV : Below w.heap.size w V := by rw [hV]; exact below_alloc (below_alloc (Below.refl _ _) _) _
  have iput : ∀ {s : Nat} {A : World} {l : Nat} {o : Obj} (o' : Obj), I s A → w.heap.size ≤ l → A.heap[l]? = some o → o.isCells = false → I s (A.putObj l o') := fun o' hs hl ho hc =>
    hI _ _ _ (some _) hs (grownBy_putObj' _ _ o') (fun r e => by cases e; exact ⟨hl, _, ho, .inl hc⟩)
  have iV : I 0 V := by
    rw [hV]
    exact hI _ _ _ none (hI _ _ _ none h0 (World.grownBy_alloc w _ none) (fun r e => by cases e)) (World.grownBy_alloc _ _ none) (fun r e => by cases e)
  refine ⟨w.heap.size + 1, [{ target := .collected w.heap.size, args := #[] }], V, { target := .fn (.func gf) lb, args := #[.func (.yield (w.heap.size + 1)) #[] #[]] }, V, gf, #[.func (.yield (w.heap.size + 1)) #[] #[]] ++ lb, V, ?_, ?_, ?_, ?_, fun _ => h1, ?_⟩
  · rw [hV, hrec]
    exact run_enterLoop_outer _ _ _ _ _
  · simp only [resolve, hg]
    simp [go_sem]
  · intro f' hf'
    simp [Target.leads] at hf'
    exact hf' ▸ hFg
  · simp [invoke, go_sem, eg]
  have keep : ∀ {A B : World} {row : Option Nat} {k : Nat} {o : Obj}, A.grownBy B row → (∀ r, row = some r → V.heap.size ≤ r ∧ ∃ o : Obj, A.heap[r]? = some o ∧ T o) → A.heap[k]? = some o → o.isCells = false → B.heap[k]? = some o := by
    intro A B row k o hgr hr hk hc
    refine (hgr.block k (Array.getElem?_eq_some_iff.1 hk).1 (fun e => ?_)).trans hk
    obtain ⟨_, o', ho', hto⟩ := hr k e.symm
    rw [hk] at ho'
    cases ho'
    rw [hT _ hto] at hc
    cases hc
  refine (hseq (w.heap.size + 1) (fun k W => I k W ∧ W.heap[w.heap.size + 1]? = some (.loop (rec .ready none)) ∧ W.heap[w.heap.size]? = some (.deferred (some []))) V bV ?_ ?_ ⟨iV, lV, dV⟩).mono ?_
  · rintro s A B row ⟨hi, hl, hd⟩ hgr hr
    refine ⟨hI s A B row hi hgr (fun r e => ?_), keep hgr hr hl rfl, keep hgr hr hd rfl⟩
    obtain ⟨h2, o, h3, h4⟩ := hr r e
    exact ⟨by omega, o, h3, .inr h4⟩
  · rintro k hk W ⟨hi, hl, hd⟩
    have hlt : w.heap.size + 1 < W.heap.size := (Array.getElem?_eq_some_iff.1 hl).1
    have hy := run_yield (P := P) (args := encs xs[k]) hl (by rw [(hrs _ _).1]; exact hps _)
    have hbg := run_beginRound (P := P) hl (hrs _ _).2
    obtain ⟨W2, hW2⟩ : ∃ W2, W2 = W.putObj (w.heap.size + 1) (.loop (rec .busy none)) := ⟨_, rfl⟩
    have hbusy : ({ rec .ready none with state := .busy } : Loop) = rec .busy none := by rw [hrec]
    rw [hbusy, ← hW2] at hbg
    have l2 : W2.heap[w.heap.size + 1]? = some (.loop (rec .busy none)) := by rw [hW2]; exact World.putObj_heap_same hlt
    have d2 : W2.heap[w.heap.size]? = some (.deferred (some [])) := by rw [hW2]; exact (World.putObj_heap_other (by omega)).trans hd
    have k2 : Kp W W2 := by rw [hW2]; exact hKb _ _ _ _ (by omega) hl rfl
    have i2 : I k W2 := by rw [hW2]; exact iput _ hi (by omega) hl rfl
    rw [hrec] at hy
    refine ⟨fn, _, assign, body, hy, roundIn_of_wpIn hfn (hassign _ _ W _ ⟨W2, hbg, ?_⟩)⟩
    refine wpIn_mono (hbody _ k hk W2 i2) ?_
    rintro e a3 W3 ⟨rfl, hk3, hkp, hi3⟩
    have l3 := hk3.same _ _ l2 rfl
    have d3 := hk3.same _ _ d2 rfl
    have hend := run_endRound (P := P) none l3
    have hrd : ({ rec .busy none with state := .ready, pending := none } : Loop) = rec .ready none := by rw [hrec]
    refine ⟨_, _, hend, rfl, ⟨iput _ hi3 (by omega) l3 rfl, ?_, (World.putObj_heap_other (by omega)).trans d3⟩, hKt (hKt k2 hkp) (hKb _ _ _ _ (by omega) l3 rfl)⟩
    rw [World.putObj_heap_same (Array.getElem?_eq_some_iff.1 l3).1]
    simpa using hrd
  · rintro e W2 ⟨⟨v, rfl⟩, hi, hl, hd⟩
    have hend := run_endLoop (P := P) hl (by rw [(hrs _ _).2]; simp)
    have hp0 : (rec .ready none).pending = none := by rw [hrec]
    have hend' : Sem.run P (Instr.endLoop (w.heap.size + 1)) W2 = _ := hend
    rw [hp0] at hend'
    exact ⟨none, _, hend', hdone _ _ (Nat.le_refl _) (iput _ hi (by omega) hl rfl) ((World.putObj_heap_other (by omega)).trans hd)⟩
/-- append(v, ys...) at an own row, in a walk within a fence. -/
theorem wpListIn_append_R {ops : Array Oper} {rest : List Oper} {o : Oper} {a : Act} {Q : Exit → Act → World → Prop} (hgd : o.guard = none) (d : Kd α) {Rr : α → List Value → Prop} {W : World} (base : Nat) (s x : Operand) (t t2 e e2 : TypeId) (z : Value) (bytes : Nat)
    (ho : o.op = .call { callee := .builtin .append, args := #[s, x], argTypes := #[t, t2] })
    (ht : P.underlying t = some (.slice e)) (ht2 : P.underlying t2 = some (.slice e2)) (hinfo : (P.info? e).map (fun i => (i.zero, i.size, i.bytes)) = some (some z, d.sz, bytes)) (hz : z.cells.size = d.sz) (hs0 : 0 < d.sz) (hb0 : 0 < bytes)
    (v : Value) (xs ys : List α) (A : Option Addr) (m c : Nat) (ok okp : Nat → Prop) (hs : a.eval s = v) (hx : a.eval x = .slice A m c)
    (HO : d.R e W base ok v xs) (HR : ReadsRow Rr d.sz W A m ys) (hKM : ∀ x cs, Rr x cs → d.M W base okp x cs) (hokp : ∀ k, okp k → ok k ∧ some k ≠ v.ownBlock) (hfresh : ∀ k, W.heap.size ≤ k → ok k)
    (hbase : base ≤ W.heap.size) (hl : (xs.length + m) * bytes ≤ 140737488355328)
    (h : ∀ v1 w1, d.R e w1 base ok v1 (xs ++ ys) → W.grownBy w1 v.ownBlock → (v1.ownBlock = v.ownBlock ∨ ∃ b, v1.ownBlock = some b ∧ W.heap.size ≤ b) → wpListIn F n P ops Q rest (a.put o.dst v1) w1) :
    wpListIn F n P ops Q (o :: rest) a W := by
  obtain ⟨v1, w1, hrun, h1, h2, h3⟩ := run_append_R (P := P) d base t t2 o.type e e2 z bytes ht ht2 hinfo hz hs0 hb0 v xs ys A m c ok okp HO HR hKM hokp hfresh hbase hl
  refine wpListIn_plain hgd fun K hK => ?_
  unfold Oper.wpIn
  refine ⟨?_, ?_⟩
  · simp [Oper.about, ho, resolve, Target.leads, Sem.run_pure]
  · rw [Oper.semAt_plain F _ _ (by rw [ho]; intro c hc'; cases hc')]
    simp [execOp, ho, resolve, invoke, builtin, hs, hx, hrun, Result.andThen]
    exact hK _ _ (h v1 w1 h1 h2 h3)
/-- append(v, ys...) at an own row, as a step of a region that draws its order, within a fence. -/
theorem step_append_RIn {ops : Array Oper} {o : Oper} {a : Act} {K : Act → World → Prop} {Q : Exit → Act → World → Prop} {E : Prop} (hgd : o.guard = none) (d : Kd α) {Rr : α → List Value → Prop} {W : World} (base : Nat) (s x : Operand) (t t2 e e2 : TypeId) (z : Value) (bytes : Nat)
    (ho : o.op = .call { callee := .builtin .append, args := #[s, x], argTypes := #[t, t2] })
    (ht : P.underlying t = some (.slice e)) (ht2 : P.underlying t2 = some (.slice e2)) (hinfo : (P.info? e).map (fun i => (i.zero, i.size, i.bytes)) = some (some z, d.sz, bytes)) (hz : z.cells.size = d.sz) (hs0 : 0 < d.sz) (hb0 : 0 < bytes)
    (v : Value) (xs ys : List α) (A : Option Addr) (m c : Nat) (ok okp : Nat → Prop) (hs : a.eval s = v) (hx : a.eval x = .slice A m c)
    (HO : d.R e W base ok v xs) (HR : ReadsRow Rr d.sz W A m ys) (hKM : ∀ x cs, Rr x cs → d.M W base okp x cs) (hokp : ∀ k, okp k → ok k ∧ some k ≠ v.ownBlock) (hfresh : ∀ k, W.heap.size ≤ k → ok k)
    (hbase : base ≤ W.heap.size) (hl : (xs.length + m) * bytes ≤ 140737488355328)
    (h : ∀ v1 w1, d.R e w1 base ok v1 (xs ++ ys) → W.grownBy w1 v.ownBlock → (v1.ownBlock = v.ownBlock ∨ ∃ b, v1.ownBlock = some b ∧ W.heap.size ≤ b) → K (a.put o.dst v1) w1) :
    if Region.wanted o (yielded ops a.tmps) = true then Oper.wpIn F n P o a W K Q else E := by
  have hw : Region.wanted o (yielded ops a.tmps) = true := by simp [Region.wanted, hgd]
  obtain ⟨v1, w1, hrun, h1, h2, h3⟩ := run_append_R (P := P) d base t t2 o.type e e2 z bytes ht ht2 hinfo hz hs0 hb0 v xs ys A m c ok okp HO HR hKM hokp hfresh hbase hl
  rw [if_pos hw]
  unfold Oper.wpIn
  refine ⟨?_, ?_⟩
  · simp [Oper.about, ho, resolve, Target.leads, Sem.run_pure]
  · rw [Oper.semAt_plain F _ _ (by rw [ho]; intro c hc'; cases hc')]
    simp [execOp, ho, resolve, invoke, builtin, hs, hx, hrun, Result.andThen]
    exact h _ _ h1 h2 h3
end
end Go.Proofs.YtdecijmncpbheaaGreatDoor

namespace Go.Proofs.YtdecijmncpbheaaGreatDoor
set_option linter.unusedVariables false
set_option linter.unusedSimpArgs false

/-- A side turned. -/
def turnI (s : Int) : Int := if s = 0 then 1 else if s = 1 then 0 else s
/-- The sides of the nodes below one, the first one first. -/
def belowS (n : Node) (s : Int) : List Int := if n.f0 = 5 then (List.replicate n.f3.toNat s).set 0 (turnI s) else if n.f0 = 4 then List.replicate n.f3.toNat 2 else List.replicate n.f3.toNat s
/-- The sides of the nodes, from the sides of those that are missing, the next one first. -/
def sidesL : List Node → List Int → List Int
  | n :: t, s :: st => s :: sidesL t (belowS n s ++ st)
  | _, _ => []
/-- What is missing behind the first k nodes. -/
def leftL : List Node → List Int → List Int
  | n :: t, s :: st => leftL t (belowS n s ++ st)
  | _, st => st
theorem belowS_len (n : Node) (s : Int) : (belowS n s).length = n.f3.toNat := by
  unfold belowS
  split
  · simp
  · split <;> simp
namespace Fo
def sides : Fo → List Int → List Int
  | cons n ks r, s :: ss => s :: (sides ks (belowS n s) ++ sides r ss)
  | _, _ => []
theorem sides_len : ∀ (f : Fo) (ss : List Int), f.fit → ss.length = f.count → (f.sides ss).length = f.flat.length
  | nil, _, _, _ => rfl
  | cons n ks r, [], _, h => by simp [count] at h
  | cons n ks r, s :: ss, ⟨h1, h2, h3, h4, h5⟩, h => by
    have e1 := sides_len ks (belowS n s) h4 (by rw [belowS_len, h2]; rfl)
    have e2 := sides_len r ss h5 (by simpa [count] using h)
    simp [sides, flat, e1, e2]
end Fo
theorem sidesL_fo : ∀ (f : Fo) (ss st : List Int) (r : List Node), f.fit → ss.length = f.count → sidesL (f.flat ++ r) (ss ++ st) = f.sides ss ++ sidesL r st
  | .nil, ss, st, r, _, h => by
    obtain rfl := List.eq_nil_of_length_eq_zero h
    rfl
  | .cons n ks rest, [], st, r, _, h => by simp [Fo.count] at h
  | .cons n ks rest, s :: ss, st, r, ⟨h1, h2, h3, h4, h5⟩, h => by
    have e1 := sidesL_fo ks (belowS n s) (ss ++ st) (rest.flat ++ r) h4 (by rw [belowS_len, h2]; rfl)
    have e2 := sidesL_fo rest ss st r h5 (by simpa [Fo.count] using h)
    rw [Fo.flat, List.cons_append, List.cons_append, sidesL, List.append_assoc, e1, e2, Fo.sides, List.cons_append, List.append_assoc]
theorem sidesL_nil (l : List Node) : sidesL l [] = [] := by cases l <;> rfl
/-- The sides of a body's nodes. -/
def sidesB (body : List Node) : List Int := sidesL body [0]
theorem sidesB_tree (f : Fo) (hf : f.fit) (hc : f.count = 1) (s : Int) : sidesL f.flat [s] = f.sides [s] := by
  have := sidesL_fo f [s] [] [] hf (by simp [hc])
  simpa [sidesL_nil] using this
theorem sidesB_len {body : List Node} (h : checkB body = 0) (s : Int) : (sidesL body [s]).length = body.length := by
  obtain ⟨f, hf, hc, rfl, _⟩ := body_tree h
  rw [sidesB_tree f hf hc, Fo.sides_len f _ hf (by simp [hc])]
/-- While nodes are left one is missing. -/
theorem leftL_pos : ∀ (l : List Node) (st : List Int) (k : Nat), (sidesL l st).length = l.length → k < l.length → ∃ s r, leftL (l.take k) st = s :: r ∧ (sidesL l st)[k]? = some s
  | [], _, _, _, h => by simp at h
  | n :: t, [], k, h, hk => by simp [sidesL] at h
  | n :: t, s :: st, 0, h, hk => ⟨s, st, rfl, rfl⟩
  | n :: t, s :: st, k + 1, h, hk => by
    simp only [sidesL, List.length_cons] at h hk ⊢
    obtain ⟨s', r, h1, h2⟩ := leftL_pos t (belowS n s ++ st) k (by omega) (by omega)
    exact ⟨s', r, h1, by simpa using h2⟩
theorem leftL_snoc : ∀ (l : List Node) (st : List Int) (n : Node) (s : Int) (r : List Int), leftL l st = s :: r → leftL (l ++ [n]) st = belowS n s ++ r
  | [], st, n, s, r, h => by
    simp only [leftL] at h
    subst h
    simp [leftL]
  | m :: t, [], n, s, r, h => by simp [leftL] at h
  | m :: t, q :: st, n, s, r, h => by
    rw [List.cons_append, leftL]
    exact leftL_snoc t _ n s r h
theorem leftL_len : ∀ (l : List Node) (st : List Int), (∀ n ∈ l, n.f3 ≤ 8) → (leftL l st).length ≤ st.length + 8 * l.length
  | [], st, _ => by simp [leftL]
  | m :: t, [], _ => by simp [leftL]
  | m :: t, q :: st, h => by
    have h1 := leftL_len t (belowS m q ++ st) (fun n hn => h n (List.mem_cons_of_mem _ hn))
    have h2 := h m List.mem_cons_self
    rw [leftL]
    rw [List.length_append, belowS_len] at h1
    simp only [List.length_cons]
    omega
theorem sides_mem : ∀ (l : List Node) (st : List Int), (∀ s ∈ st, 0 ≤ s ∧ s ≤ 2) → ∀ s ∈ sidesL l st, 0 ≤ s ∧ s ≤ 2
  | [], st, _, s, h => by cases st <;> simp [sidesL] at h
  | n :: t, [], _, s, h => by simp [sidesL] at h
  | n :: t, q :: st, hq, s, h => by
    rw [sidesL] at h
    have h0 := hq q List.mem_cons_self
    rcases List.mem_cons.1 h with h | h
    · rw [h]; exact h0
    · refine sides_mem t _ (fun x hx => ?_) s h
      rcases List.mem_append.1 hx with hx | hx
      · unfold belowS at hx
        split at hx
        · rcases List.mem_or_eq_of_mem_set hx with hx | hx
          · rw [List.eq_of_mem_replicate hx]; exact h0
          · rw [hx]; unfold turnI; split <;> (try split) <;> omega
        · split at hx
          · rw [List.eq_of_mem_replicate hx]; omega
          · rw [List.eq_of_mem_replicate hx]; exact h0
      · exact hq x (List.mem_cons_of_mem _ hx)

theorem mem_may : ∀ (l : List Node) (o : List Int), openInv o → checkL l o = 0 → ∀ n ∈ l, mayB n = true
  | [], _, _, _, _, hn => by simp at hn
  | m :: t, o, hi, h, n, hn => by
    obtain ⟨h1, h2, h3, h4, h5, h6⟩ := checkL_cons h
    rcases List.mem_cons.1 hn with rfl | hn
    · exact h2
    · exact mem_may t _ (takes_inv _ o m.f3 (Nat.le_refl _) hi h3 h4 h1).1 h6 n hn
theorem check_may {body : List Node} (h : checkB body = 0) : ∀ n ∈ body, mayB n = true := mem_may body [1] openInv_one (checkB_L h).2.2
theorem may_ref {n : Node} (h : mayB n = true) (hk : n.f0 = 4) : n.f3 = 1 := by
  simp only [mayB, mayV, hk] at h
  simp_all
theorem may_fun {n : Node} (h : mayB n = true) (hk : n.f0 = 5) : n.f3 = 2 := by
  simp only [mayB, mayV, hk] at h
  simp_all

/-! ### spots -/
/-- The spots of labels of one node. -/
def labN (i : Nat) (n : Node) (s : Int) : List Spot := ⟨i, 0, s, n.f4⟩ :: (if n.f0 = 5 then [⟨i, 1, turnI s, n.f5⟩] else [])
/-- The spots of effects of one node. -/
def effN (i : Nat) (n : Node) (s : Int) : List Spot := if n.f0 = 5 then [⟨i, 2, s, n.f6⟩] else []
def labL : Nat → List Node → List Int → List Spot
  | i, n :: t, s :: ss => labN i n s ++ labL (i + 1) t ss
  | _, _, _ => []
def effL : Nat → List Node → List Int → List Spot
  | i, n :: t, s :: ss => effN i n s ++ effL (i + 1) t ss
  | _, _, _ => []
/-- The spots of a body: labels, effects. -/
def labB (body : List Node) : List Spot := if checkB body = 0 then labL 0 body (sidesB body) else []
def effB (body : List Node) : List Spot := if checkB body = 0 then effL 0 body (sidesB body) else []
theorem labN_len (i : Nat) (n : Node) (s : Int) : (labN i n s).length ≤ 2 := by unfold labN; split <;> simp
theorem effN_len (i : Nat) (n : Node) (s : Int) : (effN i n s).length ≤ 1 := by unfold effN; split <;> simp
theorem labL_len : ∀ (i : Nat) (l : List Node) (ss : List Int), (labL i l ss).length ≤ 2 * l.length
  | i, [], ss => by cases ss <;> simp [labL]
  | i, n :: t, [] => by simp [labL]
  | i, n :: t, s :: ss => by
    have := labL_len (i + 1) t ss
    have := labN_len i n s
    rw [labL, List.length_append, List.length_cons]
    omega
theorem effL_len : ∀ (i : Nat) (l : List Node) (ss : List Int), (effL i l ss).length ≤ l.length
  | i, [], ss => by cases ss <;> simp [effL]
  | i, n :: t, [] => by simp [effL]
  | i, n :: t, s :: ss => by
    have := effL_len (i + 1) t ss
    have := effN_len i n s
    rw [effL, List.length_append, List.length_cons]
    omega
theorem labL_snoc : ∀ (i : Nat) (l : List Node) (ss : List Int) (n : Node) (s : Int), ss.length = l.length → labL i (l ++ [n]) (ss ++ [s]) = labL i l ss ++ labN (i + l.length) n s
  | i, [], [], n, s, _ => by simp [labL]
  | i, [], _ :: _, n, s, h => by simp at h
  | i, m :: t, [], n, s, h => by simp at h
  | i, m :: t, q :: ss, n, s, h => by
    rw [List.cons_append, List.cons_append, labL, labL, labL_snoc (i + 1) t ss n s (by simpa using h), List.append_assoc, List.length_cons, show i + 1 + t.length = i + (t.length + 1) by omega]
theorem effL_snoc : ∀ (i : Nat) (l : List Node) (ss : List Int) (n : Node) (s : Int), ss.length = l.length → effL i (l ++ [n]) (ss ++ [s]) = effL i l ss ++ effN (i + l.length) n s
  | i, [], [], n, s, _ => by simp [effL]
  | i, [], _ :: _, n, s, h => by simp at h
  | i, m :: t, [], n, s, h => by simp at h
  | i, m :: t, q :: ss, n, s, h => by
    rw [List.cons_append, List.cons_append, effL, effL, effL_snoc (i + 1) t ss n s (by simpa using h), List.append_assoc, List.length_cons, show i + 1 + t.length = i + (t.length + 1) by omega]
end Go.Proofs.YtdecijmncpbheaaGreatDoor
namespace Go.Proofs.YtdecijmncpbheaaGreatDoor
open Go.RowKit Go.Shelf Go.Proofs.YtdecijmncpbheaaGreatDoorW.PrintWords Go.Proofs.YtdecijmncpbheaaGreatDoorW.PrintLast Go.Proofs.YtdecijmncpbheaaGreatDoorW.PrintMore
set_option linter.unusedVariables false
set_option linter.unusedSimpArgs false
def partC (x : Int × Int × Int) (b1 b2 : Nat) : List Value := [.int .i64 x.1, .int .u8 x.2.1, .int .u8 x.2.2, .bool false, .int .u64 0, .func (.func 207) #[] #[.pointer (some ⟨b1, 0, none⟩), .pointer (some ⟨b2, 0, none⟩)]]
def PartK (w : World) (x : Int × Int × Int) (cs : List Value) : Prop := ∃ b1 b2, cs = partC x b1 b2 ∧ b1 < w.heap.size ∧ b2 < w.heap.size ∧ w.cell? ⟨b1, 0, none⟩ = some (.int .i64 x.1) ∧ w.cell? ⟨b2, 0, none⟩ = some (.int .u8 x.2.1)
def PartM (w : World) (base : Nat) (ok : Nat → Prop) (x : Int × Int × Int) (cs : List Value) : Prop := ∃ b1 b2, cs = partC x b1 b2 ∧ ok b1 ∧ ok b2 ∧ base ≤ b1 ∧ base ≤ b2 ∧ w.heap[b1]? = some (.cells #[.int .i64 x.1] 3 (0, 0)) ∧ w.heap[b2]? = some (.cells #[.int .u8 x.2.1] 97 (0, 0))
/-- A place, a part, a side; and a function value that holds the boxes of the place and the part. -/
def kPart : Kd (Int × Int × Int) where
  sz := 6
  E := [3, 97]
  K := PartK
  M := PartM
  K_len := by rintro w x cs ⟨b1, b2, rfl, _⟩; rfl
  K_one := by
    rintro w x cs ⟨b1, b2, rfl, _⟩ u hu
    simp only [partC, List.mem_cons, List.not_mem_nil, or_false] at hu
    rcases hu with rfl | rfl | rfl | rfl | rfl | rfl <;> rfl
  K_below := by
    rintro w w1 x cs hb ⟨b1, b2, rfl, l1, l2, c1, c2⟩
    exact ⟨b1, b2, rfl, Nat.lt_of_lt_of_le l1 hb.size, Nat.lt_of_lt_of_le l2 hb.size, (hb.cell (p := ⟨b1, 0, none⟩) l1).trans c1, (hb.cell (p := ⟨b2, 0, none⟩) l2).trans c2⟩
  K_of_M := by
    rintro w base ok x cs ⟨b1, b2, rfl, _, _, _, _, h1, h2⟩
    exact ⟨b1, b2, rfl, blk_lt h1, blk_lt h2, blk_cell h1 0, blk_cell h2 0⟩
  M_mono := by
    rintro w base ok ok' x cs hok ⟨b1, b2, rfl, h1, h2, h3⟩
    exact ⟨b1, b2, rfl, hok _ h1, hok _ h2, h3⟩
  M_bound := by
    rintro w base ok x cs ⟨b1, b2, rfl, o1, o2, l1, l2, h1, h2⟩
    exact ⟨b1, b2, rfl, ⟨o1, l1, blk_lt h1, _, List.mem_cons_self, _, h1⟩, ⟨o2, l2, blk_lt h2, _, List.mem_cons_of_mem _ List.mem_cons_self, _, h2⟩, l1, l2, h1, h2⟩
  M_move := by
    rintro w w1 base ok x cs hm ⟨b1, b2, rfl, o1, o2, l1, l2, h1, h2⟩
    exact ⟨b1, b2, rfl, o1, o2, l1, l2, (hm _ o1).trans h1, (hm _ o2).trans h2⟩
  M_lower := by
    rintro w base base' ok x cs hb ⟨b1, b2, rfl, o1, o2, l1, l2, h⟩
    exact ⟨b1, b2, rfl, o1, o2, Nat.le_trans hb l1, Nat.le_trans hb l2, h⟩
theorem infoP : (Tryz.prog.info? 154).map (fun i => (i.zero, i.size, i.bytes)) = some (some (.agg #[.int .i64 0, .int .u8 0, .int .u8 0, .bool false, .int .u64 0, .nilFunc]), 6, 40) := by kernel_rfl
theorem turned_calls (w : World) (s : Int) : Calls Tryz.prog 173 #[.int .u8 s] w fun e w' => e = .returned (.int .u8 (turnI s)) ∧ w = w' := by
  obtain ⟨q, hq⟩ : ∃ q, q = turnI s := ⟨_, rfl⟩
  rw [← hq]
  unfold turnI at hq
  by_cases h0 : s = 0
  · rw [if_pos h0] at hq
    subst h0 hq
    go_enter Tryz.func173, Tryz.ntmps173
    go_wp2
    go_ret
    exact ⟨rfl, rfl⟩
  · have z0 : (s == 0) = false := beq_eq_false_iff_ne.mpr h0
    rw [if_neg h0] at hq
    by_cases h1 : s = 1
    · rw [if_pos h1] at hq
      subst h1 hq
      go_enter Tryz.func173, Tryz.ntmps173
      go_wp2
      go_ret
      exact ⟨rfl, rfl⟩
    · have z1 : (s == 1) = false := beq_eq_false_iff_ne.mpr h1
      rw [if_neg h1] at hq
      subst hq
      clear h0 h1
      go_enter Tryz.func173, Tryz.ntmps173
      go_wp2
      go_ret
      exact ⟨rfl, rfl⟩
set_option maxRecDepth 100000 in
set_option maxHeartbeats 1000000 in
theorem part_calls (w : World) (at_ p s : Int) : Calls Tryz.prog 172 #[.int .i64 at_, .int .u8 p, .int .u8 s] w fun e w' => ∃ b1 b2, e = .returned (.agg (partC (at_, p, s) b1 b2).toArray) ∧ PartM w' w.heap.size (fun _ => True) (at_, p, s) (partC (at_, p, s) b1 b2) ∧ Below w.heap.size w w' := by
  go_enter Tryz.func172, Tryz.ntmps172
  go_wp2
  have h1 := blk_new w (.cells #[.int .i64 at_] 3)
  have h2 := blk_new (w.alloc (.cells #[.int .i64 at_] 3)) (.cells #[.int .u8 p] 97)
  have h3 := blk_new ((w.alloc (.cells #[.int .i64 at_] 3)).alloc (.cells #[.int .u8 p] 97)) (.cells (partC (at_, p, s) w.heap.size (w.heap.size + 1)).toArray 154)
  simp only [World.size_alloc] at h2 h3
  refine bodyPost_ret (results_cell_row rfl _ _ _ _ _ _ _ rfl h3 Tryz.underlying154 rfl (by kernel_rfl)) rfl ?_
  exact ⟨w.heap.size, w.heap.size + 1, rfl, ⟨_, _, rfl, trivial, trivial, Nat.le_refl _, Nat.le_succ _, blk_alloc (blk_alloc h1 _) _, blk_alloc h2 _⟩, by repeat (first | exact Below.refl _ _ | apply below_alloc)⟩
/-- Where a part's term stands in a node. -/
def partOff (p : Int) : Nat := if p = 0 then 4 else if p = 1 then 6 else 8
set_option maxRecDepth 100000 in
set_option maxHeartbeats 1000000 in
theorem part1_calls (w : World) (ad : Addr) (n c k : Nat) (p : Int) (b1 b2 : Nat) (hk : k < n) (h1 : w.cell? ⟨b1, 0, none⟩ = some (.int .i64 (k : Int))) (h2 : w.cell? ⟨b2, 0, none⟩ = some (.int .u8 p)) :
    Calls Tryz.prog 207 #[.slice (some ad) n c, .pointer (some ⟨b1, 0, none⟩), .pointer (some ⟨b2, 0, none⟩)] w fun e w' => e = .returned (.pointer (some ⟨(ad.add (k * 10)).block, (ad.add (k * 10)).off + partOff p, none⟩)) ∧ w = w' := by
  by_cases p0 : p = 0
  · subst p0
    go_enter Tryz.func207, Tryz.ntmps207
    go_wp2
    go_ret
    exact ⟨rfl, rfl⟩
  · have z0 : (p == 0) = false := beq_eq_false_iff_ne.mpr p0
    by_cases p1 : p = 1
    · subst p1
      clear p0
      go_enter Tryz.func207, Tryz.ntmps207
      go_wp2
      go_ret
      exact ⟨rfl, rfl⟩
    · have z1 : (p == 1) = false := beq_eq_false_iff_ne.mpr p1
      have e : partOff p = 8 := by unfold partOff; rw [if_neg p0, if_neg p1]
      rw [e]
      clear p0 p1
      go_enter Tryz.func207, Tryz.ntmps207
      go_wp2
      go_ret
      exact ⟨rfl, rfl⟩
theorem mul64_calls (w : World) (n : Nat) (hn : n ≤ 8) : Calls Tryz.prog 260 #[.int .u64 1, .int .u64 (n : Int)] w fun e w' => e = .returned (.tuple #[.int .u64 0, .int .u64 (n : Int)]) ∧ w = w' := by
  obtain rfl | rfl | rfl | rfl | rfl | rfl | rfl | rfl | rfl : n = 0 ∨ n = 1 ∨ n = 2 ∨ n = 3 ∨ n = 4 ∨ n = 5 ∨ n = 6 ∨ n = 7 ∨ n = 8 := by omega
  all_goals
    go_enter Tryz.func260, Tryz.ntmps260
    go_wp2
    go_ret2
    exact ⟨rfl, rfl⟩
theorem mul_calls (w : World) (n : Nat) (hn : n ≤ 8) : Calls Tryz.prog 237 #[.int .u64 1, .int .u64 (n : Int)] w fun e w' => e = .returned (.tuple #[.int .u64 0, .int .u64 (n : Int)]) ∧ w = w' := by
  have C := Aside0.mk (mul64_calls w n hn)
  clear hn
  go_enter Tryz.func237, Tryz.ntmps237
  go_wp2_with (go_at_call 260; (with_reducible refine C.out.mono ?_); rintro e w1 ⟨rfl, rfl⟩)
  go_ret2
  exact ⟨rfl, rfl⟩
end Go.Proofs.YtdecijmncpbheaaGreatDoor
namespace Go.Proofs.YtdecijmncpbheaaGreatDoor
open Go.RowKit Go.Shelf Go.Proofs.YtdecijmncpbheaaGreatDoorW.PrintWords Go.Proofs.YtdecijmncpbheaaGreatDoorW.PrintLast Go.Proofs.YtdecijmncpbheaaGreatDoorW.PrintMore
set_option linter.unusedVariables false
set_option linter.unusedSimpArgs false
def repL (s : Int) (k n : Nat) : List Value := List.replicate k (.int .u8 s) ++ List.replicate (n - k) (.int .u8 0)
theorem repL_len (s : Int) (k n : Nat) (h : k ≤ n) : (repL s k n).length = n := by simp [repL]; omega
theorem repL_splice (s : Int) (k m n : Nat) (h : k + m ≤ n) : splice (repL s k n) k (List.replicate m (.int .u8 s)) = repL s (k + m) n := by
  unfold splice repL
  have e1 : (List.replicate k (Value.int .u8 s) ++ List.replicate (n - k) (Value.int .u8 0)).take k = List.replicate k (Value.int .u8 s) := by
    rw [List.take_append_of_le_length (by simp), List.take_of_length_le (by simp)]
  have e2 : (List.replicate k (Value.int .u8 s) ++ List.replicate (n - k) (Value.int .u8 0)).drop (k + m) = List.replicate (n - (k + m)) (Value.int .u8 0) := by
    rw [List.drop_append, List.drop_eq_nil_of_le (by simp), List.nil_append, List.length_replicate, List.drop_replicate]
    congr 1
    omega
  rw [e1, List.length_replicate, e2, ← List.append_assoc, List.replicate_append_replicate]
theorem repL_zero (s : Int) (n : Nat) : (repL s 0 n).toArray = Array.replicate n (.int .u8 0) := by
  simp [repL]
theorem repL_all (s : Int) (n : Nat) : repL s n n = List.replicate n (.int .u8 s) := by simp [repL]
theorem repL_get (s : Int) (k n j : Nat) (h : j < k) : (repL s k n)[j]? = some (.int .u8 s) := by
  unfold repL
  rw [List.getElem?_append_left (by simpa using h)]
  simp [h]
theorem wpList_make1 {P : Program} {W : World} {ops : Array Oper} {rest : List Oper} {o : Oper} {a : Act} {Q : Exit → Act → World → Prop} (hgd : o.guard = none) (e : Nat) (t : TypeId) (x y : Operand) (ho : o.op = .makeSlice t x y) (n : Nat) (hx : a.eval x = .int .i64 (n : Int)) (hy : a.eval y = .int .i64 (n : Int))
    (ht : P.underlying t = some (.slice e)) (z : Value) (bytes : Nat) (hinfo : (P.info? e).map (fun i => (i.zero, i.size, i.bytes)) = some (some z, 1, bytes)) (hz : z.cells = #[z]) (hb0 : 0 < bytes) (hl : n * bytes ≤ 281474976710656)
    (h : wpList P ops Q rest (a.put o.dst (.slice (some ⟨W.heap.size, 0, none⟩) n n)) (W.alloc (.cells (Array.replicate n z) e))) : wpList P ops Q (o :: rest) a W := by
  obtain ⟨i0, hi, hzz⟩ := Option.map_eq_some_iff.1 hinfo
  simp only [Prod.mk.injEq] at hzz
  obtain ⟨hz0, hz1, hz2⟩ := hzz
  have hc : n ≤ 281474976710656 := Nat.le_trans (Nat.le_mul_of_pos_right _ hb0) hl
  have hr := run_make (P := P) W t e i0 z ht hi hz0 .i64 .i64 (n : Int) (n : Int) (by omega) (by omega) (by rw [hz2, ← Int.natCast_mul, Nat.mul_comm]; omega) (by omega)
  rw [hz1, hz] at hr
  have e2 : madeCells #[z] ((n : Int).toNat * 1) = Array.replicate n z := by
    rw [Int.toNat_natCast, Nat.mul_one]
    apply Array.ext
    · simp [madeCells]
    · intro i h1 h2
      simp [madeCells, Nat.mod_one]
  rw [e2, Int.toNat_natCast] at hr
  refine Kd.event_run hgd (v := .slice (some ⟨W.heap.size, 0, none⟩) n n) (w1 := W.alloc (.cells (Array.replicate n z) e)) ?_ h
  simp [execOp, ho, hx, hy, hr]
theorem add_zero (ad : Addr) : ad.add 0 = ad := by
  unfold Addr.add
  split <;> simp_all
theorem copy_one (w : World) (s : Int) (n : Nat) (ad : Addr) (hx : w.cell? ad = some (.int .u8 s)) (hb : ad.block < w.heap.size) (o : Obj) (g : Nat) :
    0 < (List.replicate (min 1 n) (Value.int .u8 s)).length → (some ⟨g, 0, none⟩ : Option Addr) = some ⟨g, 0, none⟩ ∧ ∃ ad', some ad = some ad' ∧ ∀ j v, (List.replicate (min 1 n) (Value.int .u8 s))[j]? = some v → (w.alloc o).cell? (ad'.add j) = some v := by
  refine fun _ => ⟨rfl, ad, rfl, fun j v hj => ?_⟩
  have h1 := (List.getElem?_eq_some_iff.1 hj).1
  simp only [List.length_replicate] at h1
  obtain rfl : j = 0 := by omega
  rw [List.getElem?_replicate, if_pos h1] at hj
  cases hj
  rw [add_zero]
  exact ((below_alloc (Below.refl w.heap.size w) o).cell (p := ad) hb).trans hx
theorem copy_more (W : World) (s : Int) (k n g : Nat) (hk : 0 < k) (hg : W.heap[g]? = some (.cells (repL s k n).toArray 98 (0, 0))) :
    0 < (List.replicate (min k (n - k)) (Value.int .u8 s)).length → (some ⟨g, k, none⟩ : Option Addr) = some ⟨g, k, none⟩ ∧ ∃ ad', (some ⟨g, 0, none⟩ : Option Addr) = some ad' ∧ ∀ j v, (List.replicate (min k (n - k)) (Value.int .u8 s))[j]? = some v → W.cell? (ad'.add j) = some v := by
  refine fun _ => ⟨rfl, ⟨g, 0, none⟩, rfl, fun j v hj => ?_⟩
  have h1 := (List.getElem?_eq_some_iff.1 hj).1
  simp only [List.length_replicate] at h1
  rw [List.getElem?_replicate, if_pos h1] at hj
  cases hj
  rw [add_plain, blk_cell hg]
  have := repL_get s k n (0 + j) (by omega)
  simpa using this
theorem repl_one {n : Nat} {s : Int} : ∀ v ∈ List.replicate n (Value.int .u8 s), v.oneCell' = true := fun v hv => by rw [List.eq_of_mem_replicate hv]; rfl
theorem infoS : (Tryz.prog.info? 98).map (fun i => (i.zero, i.size, i.bytes)) = some (some (.int .u8 0), 1, 1) := by kernel_rfl
set_option maxRecDepth 100000 in
set_option maxHeartbeats 1000000 in
theorem repeat_calls (w : World) (s : Int) (n : Nat) (hn : n ≤ 8) (ad : Addr) (c : Nat) (hx : w.cell? ad = some (.int .u8 s)) (hb : ad.block < w.heap.size) :
    Calls Tryz.prog 206 #[.slice (some ad) 1 c, .int .i64 (n : Int)] w fun e w' => e = .returned (.slice (some ⟨w.heap.size, 0, none⟩) n n) ∧ w'.heap[w.heap.size]? = some (.cells (List.replicate n (Value.int .u8 s)).toArray 98 (0, 0)) ∧ Below w.heap.size w w' := by
  have z0 : decide ((n : Int) < 0) = false := decide_eq_false (by omega)
  have C := Aside0.mk (mul_calls w n hn)
  have HX := Aside0.mk hx
  have HL := Aside0.mk hb
  clear hx hb
  go_enter Tryz.func206, Tryz.ntmps206
  go_wp2_with (first
    | (go_at_call 237; (with_reducible refine C.out.mono ?_); rintro e w1 ⟨rfl, rfl⟩)
    | (at_make; refine wpList_make1 rfl 98 296 _ _ rfl n rfl rfl (by kernel_rfl) (.int .u8 0) 1 infoS rfl (by decide) (by omega) ?_; have HG : Aside0 ((w.alloc (.cells (Array.replicate n (.int .u8 0)) 98)).heap[w.heap.size]? = some (.cells (repL s 0 n).toArray 98 (0, 0))) := ⟨(by rw [repL_zero]; exact blk_new w _)⟩)
    | (refine wpList_copy_splice rfl (.tmp 31) (.tmp 32) 296 296 rfl 98 (by kernel_rfl) (by kernel_rfl) _ _ n n 1 c rfl rfl w.heap.size 0 (repL s 0 n) 98 HG.out (List.replicate (min 1 n) (.int .u8 s)) (by simp) (copy_one w s n ad HX.out HL.out _ _) (by rw [repL_len _ _ _ (Nat.zero_le _)]; simp; omega) repl_one w.heap.size w (below_alloc (Below.refl _ _) _) (Nat.le_refl _) ?_; intro w2 hw2 hb2; rw [repL_splice _ _ _ _ (by omega), Nat.zero_add] at hw2; have HG2 : Aside0 (w2.heap[w.heap.size]? = some (.cells (repL s (min 1 n) n).toArray 98 (0, 0))) := ⟨hw2⟩; have HB := Aside0.mk hb2; clear hw2 hb2 HG))
  go_loopg [8] 10 (fun g i W => ∃ k : Nat, i = .int .i64 (k : Int) ∧ k ≤ n ∧ n - k + 1 ≤ g ∧ Aside0 (n ≠ 0 → 0 < k) ∧ Aside0 (W.heap[w.heap.size]? = some (.cells (repL s k n).toArray 98 (0, 0))) ∧ Aside0 (Below w.heap.size w W))
  case atStart => exact ⟨min 1 n, rfl, by omega, by omega, ⟨by omega⟩, HG2, HB⟩
  case round =>
    clear HG2 HB
    obtain ⟨k, rfl, hkn, hkg, HK, HG, HB⟩ := hrel
    rcases Nat.lt_or_ge k n with hlt | hge
    · have hd : decide (k < n) = true := decide_eq_true hlt
      have hne : ¬ n = k := by omega
      have HB2 : Aside0 (Below w.heap.size w wr.drew) := ⟨HB.out.drew⟩
      have HKp := HK.out (by omega)
      go_wp2
      go_region_law (refine step_copy_splice rfl (.tmp 41) (.tmp 44) 296 296 rfl 98 (by kernel_rfl) (by kernel_rfl) (some ⟨w.heap.size, k, none⟩) (some ⟨w.heap.size, 0, none⟩) (n - k) (n - k) k n (by simp [Act.eval, Act.put]) (by simp [Act.eval, Act.put]) w.heap.size k (repL s k n) 98 HG.out (List.replicate (min k (n - k)) (.int .u8 s)) (by simp) (copy_more wr.drew s k n w.heap.size HKp HG.out) (by rw [repL_len _ _ _ hkn]; simp; omega) repl_one w.heap.size w HB2.out (Nat.le_refl _) ?_; intro w2 hw2 hb2; rw [repL_splice _ _ _ _ (by omega)] at hw2; have HG2 : Aside0 (w2.heap[w.heap.size]? = some (.cells (repL s (k + min k (n - k)) n).toArray 98 (0, 0))) := ⟨hw2⟩; have HB3 := Aside0.mk hb2; clear hw2 hb2)
      have hw : IntKind.i64.wrap ((k : Int) + ((min k (n - k) : Nat) : Int)) = ((k + min k (n - k) : Nat) : Int) := by rw [IntWalk.i64_in _ (by omega)]; omega
      rw [hw]
      clear HG HB HB2
      go_wp2
      go_roundg (gk - 1)
      case measure => omega
      case rel => exact ⟨k + min k (n - k), rfl, by omega, by omega, ⟨by omega⟩, HG2, HB3⟩
    · have hd : decide (k < n) = false := decide_eq_false (by omega)
      obtain rfl : k = n := by omega
      go_wp2
      go_ret
      exact ⟨rfl, by rw [← repL_all]; exact HG.out, HB.out⟩
end Go.Proofs.YtdecijmncpbheaaGreatDoor

namespace Go.Proofs.YtdecijmncpbheaaGreatDoor
open Go.RowKit Go.Shelf Go.Proofs.YtdecijmncpbheaaGreatDoorW.PrintWords Go.Proofs.YtdecijmncpbheaaGreatDoorW.PrintLast Go.Proofs.YtdecijmncpbheaaGreatDoorW.PrintMore
set_option linter.unusedVariables false
set_option linter.unusedSimpArgs false
attribute [local go_sem] Oper.semAt_some
/-- The iterator's own rows. -/
def sidesT (o : Obj) : Prop := ∃ cells, o = .cells cells 98 (0, 0)
/-- What a round must keep. -/
def sidesKp (n0 : Nat) (A B : World) : Prop := Below n0 A B ∧ ∀ (k : Nat) cells t, (t = 98 ∨ t = 119) → A.heap[k]? = some (.cells cells t (0, 0)) → B.heap[k]? = some (.cells cells t (0, 0))
def sidesE (x : Nat × Int) : Array Value := #[.int .i64 (x.1 : Int), .int .u8 x.2]
def sidesXs (ss : List Int) : List (Nat × Int) := (List.range ss.length).zip ss
theorem sidesXs_len (ss : List Int) : (sidesXs ss).length = ss.length := by simp [sidesXs]
theorem sidesXs_get (ss : List Int) (k : Nat) (h : k < (sidesXs ss).length) (h2 : k < ss.length) : (sidesXs ss)[k] = (k, ss[k]) := by simp [sidesXs]
theorem R_cellI8 {W : World} {e base g n cap : Nat} {ok : Nat → Prop} {xs : List Int} (h : (Kd.int .u8).R e W base ok (.slice (some ⟨g, 0, none⟩) n cap) xs) (i : Nat) (hi : i < xs.length) : W.cell? ⟨g, i, none⟩ = some (.int .u8 xs[i]) := by
  obtain ⟨ad, e, hc⟩ := C_intN (Kd.R_reads' h).2.2 i hi
  cases e
  rw [add_plain] at hc
  simpa using hc
theorem R_lastI8 {W : World} {e base g n cap : Nat} {ok : Nat → Prop} {xs : List Int} {s : Int} (h : (Kd.int .u8).R e W base ok (.slice (some ⟨g, 0, none⟩) n cap) (xs ++ [s])) : W.cell? ⟨g, xs.length, none⟩ = some (.int .u8 s) := by
  have := R_cellI8 h xs.length (by simp)
  simpa using this
theorem R_typed {A B : World} {base : Nat} {v : Value} {xs : List Int} (h : (Kd.int .u8).R 98 A base (fun _ => True) v xs) (hm : ∀ (k : Nat) cells, A.heap[k]? = some (.cells cells 98 (0, 0)) → B.heap[k]? = A.heap[k]?) : (Kd.int .u8).R 98 B base (fun _ => True) v xs := by
  refine Kd.R_mono (Kd.R_move (Kd.R_bound h) (fun k hk => ?_)) (fun _ _ => trivial)
  obtain ⟨_, _, _, q, hq, cells, hc⟩ := hk
  simp only [Kd.int, Kd.scalar, List.mem_cons, List.not_mem_nil, or_false] at hq
  subst hq
  exact hm k cells hc
theorem below_then {n0 : Nat} {A B C : World} (h : Below n0 A B) (h2 : Below n0 B C) : Below n0 A C := h.trans h2
theorem sides_own {A : World} {base : Nat} {v : Value} {xs : List Int} (h : (Kd.int .u8).R 98 A base (fun _ => True) v xs) (q : Nat) (hq : v.ownBlock = some q) : base ≤ q ∧ ∃ o : Obj, A.heap[q]? = some o ∧ sidesT o := by
  obtain ⟨_, h1, _, t, ht, cells, hc⟩ := (Kd.R_bound h).1 q hq
  simp only [Kd.int, Kd.scalar, List.mem_cons, List.not_mem_nil, or_false] at ht
  subst ht
  exact ⟨h1, _, hc, cells, rfl⟩
theorem grown_none {A B : World} (h : Below A.heap.size A B) : A.grownBy B none := ⟨h.os, h.tape, h.output, h.size, fun k hk _ => h.block k hk⟩
theorem C_ints {W : World} {g : Nat} {t : TypeId} {xs : List Int} (hb : W.heap[g]? = some (.cells (xs.map (Value.int .u8)).toArray t (0, 0))) (hl : xs.length ≤ 9223372036854775807) : (Kd.int .u8).C W (some ⟨g, 0, none⟩) xs.length xs := by
  refine C_block hb ⟨by simp [Kd.int, Kd.scalar], fun j p hj => ?_⟩ hl
  have h1 := (List.getElem?_eq_some_iff.1 hj).1
  show _ = [Value.int .u8 p]
  have : ((xs.map (Value.int .u8)).drop (j * 1)).take 1 = [Value.int .u8 p] := by
    rw [Nat.mul_one, List.drop_eq_getElem_cons (by simpa using h1)]
    simp only [List.take_succ_cons, List.take_zero, List.getElem_map, List.cons.injEq, and_true]
    rw [List.getElem?_eq_getElem h1] at hj
    injection hj with hj
    rw [hj]
  exact this
set_option maxRecDepth 100000 in
set_option maxHeartbeats 4000000 in
theorem sides1_rows (n : Nat) (hn1 : 2 ≤ n) (w0 w : World) (A : Option Addr) (c : Nat) (body : List Node) (Bb : Nat) (hz : checkB body = 0) (hb : Bb < w.heap.size) (hc : w.cell? ⟨Bb, 0, none⟩ = some (.slice A body.length c)) (hr : kNode.C w0 A body.length body) (hb0 : Below w0.heap.size w0 w) :
    SeqRows Fence.wide n Tryz.prog 205 #[.pointer (some ⟨Bb, 0, none⟩)] sidesE sidesT (sidesKp w0.heap.size) (sidesXs (sidesB body)) w := by
  intro l J W hW hJ hY h0
  have hn2 : 1 ≤ n := by omega
  have hn3 : 1 ≤ n - 1 := by omega
  have hlen : (sidesB body).length = body.length := sidesB_len hz 0
  have hl128 : body.length ≤ 128 := (checkB_L hz).2.1
  have hBb := (hW.cell (p := ⟨Bb, 0, none⟩) hb).trans hc
  have HR := Aside0.mk hr
  have HW0 := Aside0.mk (below_step hb0 hW)
  have HZ := Aside0.mk hz
  have HL := Aside0.mk hlen
  have HJ := Aside0.mk hJ
  have HY := Aside0.mk hY
  have H0 := Aside0.mk h0
  have HBL := Aside0.mk hb
  have HW := Aside0.mk hW
  obtain ⟨N, hN⟩ : ∃ N, N = body.length := ⟨_, rfl⟩
  have HN := Aside0.mk hN
  rw [← hN] at hBb hl128
  clear hJ hY h0 hr hz hlen hN hc hW hb0
  refine callsIn_of_wp Tryz.func205 rfl trivial ?_ rfl
  simp only [Tryz.ntmps205, List.size_toArray, List.length_cons, List.length_nil, Nat.reduceAdd, Nat.reduceSub, Array.replicate_succ, Array.replicate_zero, List.push_toArray, List.append_toArray, List.nil_append, List.cons_append]
  have hBb2 := ((below_alloc (Below.refl W.heap.size W) (.cells #[.int .u8 0] 98)).cell (p := ⟨Bb, 0, none⟩) (Nat.lt_of_lt_of_le hb HW.out.size)).trans hBb
  gi_wp2
  have HO : Aside0 ((Kd.int .u8).R 98 (W.alloc (.cells #[.int .u8 0] 98)) W.heap.size (fun _ => True) (.slice (some ⟨W.heap.size, 0, none⟩) 1 1) [0]) := ⟨R_block (cells := [.int .u8 0]) (blk_new W _) (Nat.le_refl _) trivial ⟨rfl, fun k p hk => by
    rcases k with _ | k
    · obtain rfl : (0 : Int) = p := by simpa using hk
      rfl
    · simp at hk⟩ (by decide)⟩
  have HJ1 : Aside0 (J 0 (W.alloc (.cells #[.int .u8 0] 98))) := ⟨HJ.out 0 _ _ none H0.out (World.grownBy_alloc W _ none) (fun r e => by cases e)⟩
  have HB1 := Aside0.mk (And.intro (below_alloc HW0.out (.cells #[.int .u8 0] 98)) (show W.heap.size ≤ (W.alloc (.cells #[.int .u8 0] 98)).heap.size by simp))
  gi_loopw [11, 3] (fun i v wr => ∃ (k m : Nat) (A2 : Option Addr) (cap : Nat), i = .int .i64 (k : Int) ∧ v = .slice A2 m cap ∧ k ≤ N ∧ Aside0 (m = (leftL (body.take k) [0]).length ∧ J k wr ∧ (Kd.int .u8).R 98 wr W.heap.size (fun _ => True) (.slice A2 m cap) (leftL (body.take k) [0]).reverse ∧ Below w0.heap.size w0 wr ∧ W.heap.size ≤ wr.heap.size))
    (fun i v wr => N - (intOf i).toNat)
  case atStart => exact ⟨0, 1, _, _, rfl, rfl, Nat.zero_le _, ⟨rfl, HJ1.out, HO.out, HB1.out.1, HB1.out.2⟩⟩
  case round =>
    clear HO HJ1 HB1 hBb hBb2
    obtain ⟨k, m, A2, cap, rfl, rfl, hkN, HI⟩ := hrel
    rcases Nat.lt_or_ge k N with hlt | hge
    · have hd : decide (k < N) = true := decide_eq_true hlt
      have hkb : k < body.length := by rw [← HN.out]; exact hlt
      obtain ⟨s, r, hst, hsk⟩ := leftL_pos body [0] k HL.out hkb
      obtain ⟨hm, hJk, hRo, hBo, hWs⟩ := HI.out
      rw [hst, List.length_cons] at hm
      rw [hst, List.reverse_cons] at hRo
      have hs2 : (sidesXs (sidesB body))[k]'(by rw [sidesXs_len, HL.out]; exact hkb) = (k, s) := by
        rw [sidesXs_get _ _ _ (by rw [HL.out]; exact hkb)]
        rw [List.getElem?_eq_getElem (by rw [show sidesL body [0] = sidesB body from rfl, HL.out]; exact hkb)] at hsk
        injection hsk with hsk
        rw [← hsk]; rfl
      obtain ⟨M, hM⟩ : ∃ M, M = r.length := ⟨_, rfl⟩
      have hMb : M ≤ 1024 := by
        have h1 := leftL_len (body.take k) [0] (fun n hn => (check_f3 HZ.out n (List.mem_of_mem_take hn)).2)
        rw [hst, List.length_take] at h1
        simp only [List.length_cons, List.length_nil] at h1
        omega
      have HMM := Aside0.mk hM
      rw [← hM] at hm
      subst hm
      have HST := Aside0.mk hst
      obtain ⟨g, cap', hv, hBg, hgl, cells, hgc⟩ := Kd.R_form hRo (by simp)
      injection hv with hv1 hv2 hv3
      subst hv3
      subst hv1
      have hcl := R_lastI8 hRo
      rw [List.length_reverse, ← hM] at hcl
      have hcap : M + 1 ≤ cap := by
        have h3 := (Kd.R_reads' hRo).2.1
        exact h3
      obtain ⟨ad, rfl, c0, c1, c2, c3, c4, c5, c6, c7, c8, c9⟩ := C_nodeN (Kd.C_below HR.out hBo) k hkb
      obtain ⟨nd, hnd⟩ : ∃ nd, nd = body[k] := ⟨_, rfl⟩
      rw [← hnd] at c0 c1 c2 c3 c4 c5 c6 c7 c8 c9
      have hcl2 := fun o => pw_cell_below (below_alloc (Below.refl wr.heap.size wr) o) hcl
      have HND := Aside0.mk hnd
      have HRO := Aside0.mk hRo
      have HBO := Aside0.mk hBo
      have HJ2 := Aside0.mk (HJ.out k _ _ none hJk (World.grownBy_alloc wr (.cells (nodeC nd).toArray 119) none) (fun r e => by cases e))
      obtain ⟨fn, tmps, assign, bod, hy, hR⟩ := HY.out k (by rw [sidesXs_len, HL.out]; exact hkb) _ HJ2.out
      rw [hs2] at hy
      simp only [sidesE, nodeC] at hy
      have HRR := Aside0.mk hR
      clear hR hs2 hsk hst hRo hBo hJk hnd hM HI hgc hgl hBg hcl
      clear hv2
      have hw1 : IntKind.i64.wrap (((M + 1 : Nat) : Int) - 1) = (M : Int) := by rw [IntWalk.i64_in _ (by omega)]; omega
      have HWS := Aside0.mk hWs
      clear hWs
      gi_wp2
      refine HRR.out.mono ?_
      rintro e W3 ⟨rfl, hJ3, hk3⟩
      have hnb := hk3.2 _ _ _ (.inr rfl) (blk_new wr (.cells (nodeC nd).toArray 119))
      have hR3 := R_typed (Kd.R_below HRO.out (below_alloc (Below.refl _ _) (.cells (nodeC nd).toArray 119))) (fun k cells h => (hk3.2 k cells _ (.inl rfl) h).trans h.symm)
      have hR4 := Kd.R_take hR3 (m := M) (by first | omega | (rw [List.length_append, List.length_reverse, ← HMM.out]; omega))
      rw [List.take_left' (by rw [List.length_reverse, HMM.out])] at hR4
      have HR4 := Aside0.mk hR4
      have HB3 := Aside0.mk (below_then (below_alloc HBO.out (.cells (nodeC nd).toArray 119)) hk3.1)
      have HS3 : Aside0 (W.heap.size ≤ W3.heap.size) := ⟨by have h1 := HWS.out; have h2 := hk3.1.size; simp at h2; omega⟩
      have HJ3 := Aside0.mk hJ3
      have hf3 := check_f3 HZ.out nd (by rw [HND.out]; exact List.getElem_mem _)
      obtain ⟨K, hK⟩ : ∃ K : Nat, nd.f3 = K := ⟨nd.f3.toNat, by omega⟩
      have hK8 : K ≤ 8 := by omega
      obtain ⟨b, hb'⟩ : ∃ b, b = wr.heap.size := ⟨_, rfl⟩
      rw [← hb'] at hnb ⊢
      have hnk : ∀ o, (W3.alloc o).cell? ⟨b, 3, none⟩ = some (.int .i64 (K : Int)) := fun o => by rw [blk_cell (blk_alloc hnb o) 3, ← hK]; rfl
      have HNB := Aside0.mk hnb
      have HK3 := Aside0.mk hK
      clear hnb hR3 hR4 hJ3 hk3 hf3 hb' HRR HRO HBO HWS hK c0 c1 c2 c3 c4 c5 c6 c7 c8 c9 hcl2 hy HJ2
      have hmy := check_may HZ.out nd (by rw [HND.out]; exact List.getElem_mem _)
      by_cases k4 : nd.f0 = 4
      · obtain rfl : K = 1 := by have := may_ref hmy k4; have := HK3.out; omega
        have hbs : (belowS nd s).reverse = [2] := by unfold belowS; rw [if_neg (by omega), if_pos k4, HK3.out]; rfl
        gi_wp2_with (first | (refine ⟨trivial, ?_⟩; gi_at_call 206; refine (callsIn_wide.2 (repeat_calls _ s _ hK8 ⟨W3.heap.size, 0, none⟩ 1 (by rw [blk_cell (blk_new W3 _) 0]; rfl) (by simp))).mono ?_; rintro e W4 ⟨rfl, hg4, hb4⟩; have hn0 : W4.cell? ⟨b, 0, none⟩ = some (.int .u8 nd.f0) := (hb4.cell (p := ⟨b, 0, none⟩) (by have := blk_lt HNB.out; simp; omega)).trans (by rw [blk_cell (blk_alloc HNB.out _) 0]; rfl); rw [World.size_alloc] at hg4; have hgc := blk_cell hg4; have hgf := blk_frozen hg4; have HG4 := Aside0.mk hg4; have HB4 := Aside0.mk (Below.trans (below_alloc (Below.refl W3.heap.size W3) (.cells #[.int .u8 s] 98)) (hb4.mono (by simp))); clear hg4 hb4) | (gi_at_builtin; have HE : Aside0 (Below W3.heap.size W3 (W4.setCell ⟨W3.heap.size + 1, 0, none⟩ (.int .u8 2)) ∧ (Kd.int .u8).C (W4.setCell ⟨W3.heap.size + 1, 0, none⟩ (.int .u8 2)) (some ⟨W3.heap.size + 1, 0, none⟩) 1 (belowS nd s).reverse) := ⟨HB4.out.setCell (p := ⟨W3.heap.size + 1, 0, none⟩) (Nat.le_succ _) _, (by rw [hbs]; exact C_ints (xs := [2]) (by simpa using blk_set HG4.out 0 (.int .u8 2)) (by decide))⟩; refine wpListIn_append_R rfl (Kd.int .u8) W.heap.size (.tmp 49) (.tmp 50) 296 296 98 98 (.int .u8 0) 1 rfl (by kernel_rfl) (by kernel_rfl) infoS rfl (by decide) (by decide) (.slice (some ⟨g, 0, none⟩) M cap) r.reverse (belowS nd s).reverse (some ⟨W3.heap.size + 1, 0, none⟩) _ _ (fun _ => True) (fun _ => False) rfl rfl (Kd.R_below HR4.out HE.out.1) HE.out.2 (fun x cs h => h) (fun _ h => h.elim) (fun _ _ => trivial) (Nat.le_trans HS3.out HE.out.1.size) (by rw [List.length_reverse, ← HMM.out]; omega) ?_; intro v1 w6 HO6 hg6 hat; obtain ⟨A6, c6, rfl⟩ := Kd.R_slice HO6; obtain ⟨L, hL⟩ : ∃ L, L = (r.reverse ++ (belowS nd s).reverse).length := ⟨_, rfl⟩; rw [← hL] at HO6 ⊢; have HL2 := Aside0.mk hL; clear hL; have HO7 := Aside0.mk HO6; have HG6 := Aside0.mk hg6; clear HO6 hg6 hat))
        go_roundw
        case rel =>
          have hnext : leftL (body.take (k + 1)) [0] = belowS nd s ++ r := by
            rw [List.take_succ_eq_append_getElem hkb, ← HND.out]
            exact leftL_snoc _ _ _ _ _ HST.out
          have hrev : (leftL (body.take (k + 1)) [0]).reverse = r.reverse ++ (belowS nd s).reverse := by rw [hnext, List.reverse_append]
          have hown : ∀ q, (Value.slice (some ⟨g, 0, none⟩) M cap).ownBlock = some q → W.heap.size ≤ q ∧ ∃ o : Obj, _ := fun q hq => sides_own (Kd.R_below HR4.out HE.out.1) q hq
          refine ⟨k + 1, L, A6, c6, by go_num, rfl, by omega, ⟨?_, ?_, ?_, ?_, ?_⟩⟩
          · rw [HL2.out, ← hrev, List.length_reverse]
          · exact HJ.out _ _ _ _ (HJ.out _ _ _ none HJ3.out (grown_none HE.out.1) (fun r e => by cases e)) HG6.out (fun q hq => hown q hq)
          · rw [hrev]; exact HO7.out
          · exact (below_step HB3.out HE.out.1).grown HG6.out (Nat.le_trans HB3.out.size HE.out.1.size) (fun q hq => Nat.le_trans HW0.out.size (hown q hq).1)
          · exact Nat.le_trans HS3.out (Nat.le_trans HE.out.1.size HG6.out.size)
        case measure => simp [intOf]; omega
      · have e4 : (nd.f0 == 4) = false := beq_eq_false_iff_ne.mpr k4
        by_cases k5 : nd.f0 = 5
        · obtain rfl : K = 2 := by have := may_fun hmy k5; have := HK3.out; omega
          have hbs : (belowS nd s).reverse = [s, turnI s] := by unfold belowS; rw [if_pos k5, HK3.out]; rfl
          gi_wp2_with (first | (refine ⟨trivial, ?_⟩; gi_at_call 206; refine (callsIn_wide.2 (repeat_calls _ s _ hK8 ⟨W3.heap.size, 0, none⟩ 1 (by rw [blk_cell (blk_new W3 _) 0]; rfl) (by simp))).mono ?_; rintro e W4 ⟨rfl, hg4, hb4⟩; have hn0 : W4.cell? ⟨b, 0, none⟩ = some (.int .u8 nd.f0) := (hb4.cell (p := ⟨b, 0, none⟩) (by have := blk_lt HNB.out; simp; omega)).trans (by rw [blk_cell (blk_alloc HNB.out _) 0]; rfl); rw [World.size_alloc] at hg4; have hgc := blk_cell hg4; have hgf := blk_frozen hg4; have HG4 := Aside0.mk hg4; have HB4 := Aside0.mk (Below.trans (below_alloc (Below.refl W3.heap.size W3) (.cells #[.int .u8 s] 98)) (hb4.mono (by simp))); clear hg4 hb4) | (refine ⟨trivial, ?_⟩; gi_at_call 173; refine (callsIn_wide.2 (turned_calls _ s)).mono ?_; rintro e W5 ⟨rfl, rfl⟩) | (gi_at_builtin; have HE : Aside0 (Below W3.heap.size W3 (W4.setCell ⟨W3.heap.size + 1, 1, none⟩ (.int .u8 (turnI s))) ∧ (Kd.int .u8).C (W4.setCell ⟨W3.heap.size + 1, 1, none⟩ (.int .u8 (turnI s))) (some ⟨W3.heap.size + 1, 0, none⟩) 2 (belowS nd s).reverse) := ⟨HB4.out.setCell (p := ⟨W3.heap.size + 1, 1, none⟩) (Nat.le_succ _) _, (by rw [hbs]; exact C_ints (xs := [s, turnI s]) (by simpa using blk_set HG4.out 1 (.int .u8 (turnI s))) (show 2 ≤ _ by decide))⟩; refine wpListIn_append_R rfl (Kd.int .u8) W.heap.size (.tmp 49) (.tmp 50) 296 296 98 98 (.int .u8 0) 1 rfl (by kernel_rfl) (by kernel_rfl) infoS rfl (by decide) (by decide) (.slice (some ⟨g, 0, none⟩) M cap) r.reverse (belowS nd s).reverse (some ⟨W3.heap.size + 1, 0, none⟩) _ _ (fun _ => True) (fun _ => False) rfl rfl (Kd.R_below HR4.out HE.out.1) HE.out.2 (fun x cs h => h) (fun _ h => h.elim) (fun _ _ => trivial) (Nat.le_trans HS3.out HE.out.1.size) (by rw [List.length_reverse, ← HMM.out]; omega) ?_; intro v1 w6 HO6 hg6 hat; obtain ⟨A6, c6, rfl⟩ := Kd.R_slice HO6; obtain ⟨L, hL⟩ : ∃ L, L = (r.reverse ++ (belowS nd s).reverse).length := ⟨_, rfl⟩; rw [← hL] at HO6 ⊢; have HL2 := Aside0.mk hL; clear hL; have HO7 := Aside0.mk HO6; have HG6 := Aside0.mk hg6; clear HO6 hg6 hat))
          go_roundw
          case rel =>
            have hnext : leftL (body.take (k + 1)) [0] = belowS nd s ++ r := by
              rw [List.take_succ_eq_append_getElem hkb, ← HND.out]
              exact leftL_snoc _ _ _ _ _ HST.out
            have hrev : (leftL (body.take (k + 1)) [0]).reverse = r.reverse ++ (belowS nd s).reverse := by rw [hnext, List.reverse_append]
            have hown : ∀ q, (Value.slice (some ⟨g, 0, none⟩) M cap).ownBlock = some q → W.heap.size ≤ q ∧ ∃ o : Obj, _ := fun q hq => sides_own (Kd.R_below HR4.out HE.out.1) q hq
            refine ⟨k + 1, L, A6, c6, by go_num, rfl, by omega, ⟨?_, ?_, ?_, ?_, ?_⟩⟩
            · rw [HL2.out, ← hrev, List.length_reverse]
            · exact HJ.out _ _ _ _ (HJ.out _ _ _ none HJ3.out (grown_none HE.out.1) (fun r e => by cases e)) HG6.out (fun q hq => hown q hq)
            · rw [hrev]; exact HO7.out
            · exact (below_step HB3.out HE.out.1).grown HG6.out (Nat.le_trans HB3.out.size HE.out.1.size) (fun q hq => Nat.le_trans HW0.out.size (hown q hq).1)
            · exact Nat.le_trans HS3.out (Nat.le_trans HE.out.1.size HG6.out.size)
          case measure => simp [intOf]; omega
        · have e5 : (nd.f0 == 5) = false := beq_eq_false_iff_ne.mpr k5
          have hbs : (belowS nd s).reverse = List.replicate K s := by unfold belowS; rw [if_neg k5, if_neg k4, HK3.out, Int.toNat_natCast, List.reverse_replicate]
          gi_wp2_with (first | (refine ⟨trivial, ?_⟩; gi_at_call 206; refine (callsIn_wide.2 (repeat_calls _ s _ hK8 ⟨W3.heap.size, 0, none⟩ 1 (by rw [blk_cell (blk_new W3 _) 0]; rfl) (by simp))).mono ?_; rintro e W4 ⟨rfl, hg4, hb4⟩; have hn0 : W4.cell? ⟨b, 0, none⟩ = some (.int .u8 nd.f0) := (hb4.cell (p := ⟨b, 0, none⟩) (by have := blk_lt HNB.out; simp; omega)).trans (by rw [blk_cell (blk_alloc HNB.out _) 0]; rfl); rw [World.size_alloc] at hg4; have hgc := blk_cell hg4; have hgf := blk_frozen hg4; have HG4 := Aside0.mk hg4; have HB4 := Aside0.mk (Below.trans (below_alloc (Below.refl W3.heap.size W3) (.cells #[.int .u8 s] 98)) (hb4.mono (by simp))); clear hg4 hb4) | (gi_at_builtin; have HE : Aside0 (Below W3.heap.size W3 W4 ∧ (Kd.int .u8).C W4 (some ⟨W3.heap.size + 1, 0, none⟩) K (belowS nd s).reverse) := ⟨HB4.out, (by have h := C_ints (xs := List.replicate K s) (by rw [List.map_replicate]; exact HG4.out) (by simp; omega); rw [List.length_replicate] at h; rw [hbs]; exact h)⟩; refine wpListIn_append_R rfl (Kd.int .u8) W.heap.size (.tmp 49) (.tmp 50) 296 296 98 98 (.int .u8 0) 1 rfl (by kernel_rfl) (by kernel_rfl) infoS rfl (by decide) (by decide) (.slice (some ⟨g, 0, none⟩) M cap) r.reverse (belowS nd s).reverse (some ⟨W3.heap.size + 1, 0, none⟩) _ _ (fun _ => True) (fun _ => False) rfl rfl (Kd.R_below HR4.out HE.out.1) HE.out.2 (fun x cs h => h) (fun _ h => h.elim) (fun _ _ => trivial) (Nat.le_trans HS3.out HE.out.1.size) (by rw [List.length_reverse, ← HMM.out]; omega) ?_; intro v1 w6 HO6 hg6 hat; obtain ⟨A6, c6, rfl⟩ := Kd.R_slice HO6; obtain ⟨L, hL⟩ : ∃ L, L = (r.reverse ++ (belowS nd s).reverse).length := ⟨_, rfl⟩; rw [← hL] at HO6 ⊢; have HL2 := Aside0.mk hL; clear hL; have HO7 := Aside0.mk HO6; have HG6 := Aside0.mk hg6; clear HO6 hg6 hat))
          go_roundw
          case rel =>
            have hnext : leftL (body.take (k + 1)) [0] = belowS nd s ++ r := by
              rw [List.take_succ_eq_append_getElem hkb, ← HND.out]
              exact leftL_snoc _ _ _ _ _ HST.out
            have hrev : (leftL (body.take (k + 1)) [0]).reverse = r.reverse ++ (belowS nd s).reverse := by rw [hnext, List.reverse_append]
            have hown : ∀ q, (Value.slice (some ⟨g, 0, none⟩) M cap).ownBlock = some q → W.heap.size ≤ q ∧ ∃ o : Obj, _ := fun q hq => sides_own (Kd.R_below HR4.out HE.out.1) q hq
            refine ⟨k + 1, L, A6, c6, by go_num, rfl, by omega, ⟨?_, ?_, ?_, ?_, ?_⟩⟩
            · rw [HL2.out, ← hrev, List.length_reverse]
            · exact HJ.out _ _ _ _ (HJ.out _ _ _ none HJ3.out (grown_none HE.out.1) (fun r e => by cases e)) HG6.out (fun q hq => hown q hq)
            · rw [hrev]; exact HO7.out
            · exact (below_step HB3.out HE.out.1).grown HG6.out (Nat.le_trans HB3.out.size HE.out.1.size) (fun q hq => Nat.le_trans HW0.out.size (hown q hq).1)
            · exact Nat.le_trans HS3.out (Nat.le_trans HE.out.1.size HG6.out.size)
          case measure => simp [intOf]; omega
    · have hd : decide (k < N) = false := decide_eq_false (by omega)
      obtain rfl : k = N := by omega
      gi_wp2
      go_end0
      refine ⟨⟨_, rfl⟩, ?_⟩
      rw [sidesXs_len, HL.out, ← HN.out]
      exact HI.out.2.1
end Go.Proofs.YtdecijmncpbheaaGreatDoor
