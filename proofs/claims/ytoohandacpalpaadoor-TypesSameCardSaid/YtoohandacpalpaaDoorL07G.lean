/- The law TypesSame: a walk through its code at every input. -/
import Derived.Test.YtoohandacpalpaaDoorL07D
import Derived.Test.YtoohandacpalpaaDoorTyS
namespace Go.Proofs.YtoohandacpalpaaDoor
open Go.RowKit Go.Shelf Go.Proofs.YtoohandacpalpaaDoorW.PrintWords Go.Proofs.YtoohandacpalpaaDoorW.PrintLast Go.Proofs.YtoohandacpalpaaDoorW.PrintMore
set_option linter.unusedVariables false
set_option linter.unusedSimpArgs false
namespace L07
theorem termAt {w : World} {bd : Addr} {l : List Term} (h : kTerm.C w (some bd) l.length l) (r : Nat) (hr : r < l.length) (t : Term) (ht : t = l.getD r ⟨false, 0⟩) :
    w.cell? (bd.add (r * 2)) = some (.bool t.f0) ∧ w.cell? ⟨(bd.add (r * 2)).block, (bd.add (r * 2)).off + 1, none⟩ = some (.int .u64 t.f1) := by
  obtain ⟨ad, e, h0, h1⟩ := C_termN h r hr
  cases e
  rw [List.getD_eq_getElem?_getD, List.getElem?_eq_getElem hr] at ht
  subst ht
  exact ⟨h0, h1⟩
theorem node0 {e base g n cap : Nat} {W : World} {ok : Nat → Prop} {xs : List Node} (h : kNode.R e W base ok (.slice (some ⟨g, 0, none⟩) n cap) xs) (k : Nat) (hk : k < xs.length) : W.cell? ⟨g, k * 10, none⟩ = some (.int .u8 xs[k].f0) := by
  obtain ⟨ad, e2, q, _⟩ := C_nodeN (Kd.R_reads' h).2.2 k hk
  cases e2
  have e : (⟨g, 0, none⟩ : Addr).add (k * 10) = ⟨g, k * 10, none⟩ := by
    unfold Addr.add
    split <;> simp_all
  rw [e] at q
  exact q
theorem node1 {e base g n cap : Nat} {W : World} {ok : Nat → Prop} {xs : List Node} (h : kNode.R e W base ok (.slice (some ⟨g, 0, none⟩) n cap) xs) (k : Nat) (hk : k < xs.length) : W.cell? ⟨g, k * 10 + 1, none⟩ = some (.int .i64 xs[k].f1) := by
  obtain ⟨ad, e2, _, q, _⟩ := C_nodeN (Kd.R_reads' h).2.2 k hk
  cases e2
  have e : (⟨g, 0, none⟩ : Addr).add (k * 10) = ⟨g, k * 10, none⟩ := by
    unfold Addr.add
    split <;> simp_all
  rw [e] at q
  exact q
theorem node2 {e base g n cap : Nat} {W : World} {ok : Nat → Prop} {xs : List Node} (h : kNode.R e W base ok (.slice (some ⟨g, 0, none⟩) n cap) xs) (k : Nat) (hk : k < xs.length) : W.cell? ⟨g, k * 10 + 2, none⟩ = some (.string xs[k].f2) := by
  obtain ⟨ad, e2, _, _, q, _⟩ := C_nodeN (Kd.R_reads' h).2.2 k hk
  cases e2
  have e : (⟨g, 0, none⟩ : Addr).add (k * 10) = ⟨g, k * 10, none⟩ := by
    unfold Addr.add
    split <;> simp_all
  rw [e] at q
  exact q
theorem R_frozen {e base g n cap : Nat} {W : World} {ok : Nat → Prop} {xs : List Node} (h : kNode.R e W base ok (.slice (some ⟨g, 0, none⟩) n cap) xs) (hp : 0 < xs.length) (o : Nat) : W.frozen? ⟨g, o, none⟩ = false := by
  obtain ⟨_, _, hv, _, _, cells, hgc⟩ := Kd.R_form h hp
  cases hv
  exact blk_frozen hgc o
theorem ne_u8 (x : Int) : x ≠ (x + 1) % 256 := by omega
theorem ne_i64 (x : Int) : x ≠ wrap64 (x + 1) := by unfold wrap64; omega
theorem ne_x (x : ByteArray) : x.toList ≠ (x ++ (⟨#[120]⟩ : ByteArray)).toList := by
  intro h
  have := congrArg List.length h
  rw [Lib.toList_data, Lib.toList_data] at this
  simp at this
theorem sameN_f0 {x y : Node} {v : Int} (h : sameN x y = true) (hv : y.f0 ≠ v) : sameN x { y with f0 := v } = false := by
  simp only [sameN, Bool.and_eq_true, beq_iff_eq] at h
  simp [sameN, h.1.1.1, hv]
theorem sameN_f1 {x y : Node} {v : Int} (h : sameN x y = true) (hv : y.f1 ≠ v) : sameN x { y with f1 := v } = false := by
  simp only [sameN, Bool.and_eq_true, beq_iff_eq] at h
  simp [sameN, h.1.1.2, hv]
theorem sameN_f2 {x y : Node} {v : ByteArray} (h : sameN x y = true) (hv : y.f2.toList ≠ v.toList) : sameN x { y with f2 := v } = false := by
  simp only [sameN, Bool.and_eq_true, beq_iff_eq] at h
  simp [sameN, h.1.2, hv]
theorem sameN_f3 {x y : Node} {v : Int} (h : sameN x y = true) (hv : y.f3 ≠ v) : sameN x { y with f3 := v } = false := by
  simp only [sameN, Bool.and_eq_true, beq_iff_eq] at h
  simp [sameN, h.2, hv]
theorem half_f4 {e base g n cap : Nat} {W : World} {ok : Nat → Prop} {xs : List Node} (h : kNode.R e W base ok (.slice (some ⟨g, 0, none⟩) n cap) xs) (i : Nat) (hi : i < xs.length) (t : Term) :
    (W.setCell ⟨g, i * 10 + 4, none⟩ (.bool t.f0)).cell? ⟨g, i * 10 + 4 + 1, none⟩ = some (.int .u64 xs[i].f4.f1) ∧ (W.setCell ⟨g, i * 10 + 4, none⟩ (.bool t.f0)).frozen? ⟨g, i * 10 + 4 + 1, none⟩ = false ∧ W.cell? ⟨g, i * 10 + 4, none⟩ = some (.bool xs[i].f4.f0) ∧ W.frozen? ⟨g, i * 10 + 4, none⟩ = false := by
  have h1 := R_edit node_flat h i 4 hi (by decide) { xs[i] with f4 := ⟨t.f0, xs[i].f4.f1⟩ } (.bool t.f0) (by simp [nodeC])
  have ea : (⟨g, 0, none⟩ : Addr).add (i * 10) = ⟨g, i * 10, none⟩ := by
    unfold Addr.add
    split <;> simp_all
  have fz : ∀ {W : World} {ys : List Node} (o : Nat), i < ys.length → kNode.R e W base ok (.slice (some ⟨g, 0, none⟩) n cap) ys → W.frozen? ⟨g, o, none⟩ = false := fun o hl h => by
    obtain ⟨_, _, hv, _, _, cells, hgc⟩ := Kd.R_form h (by omega)
    cases hv
    exact blk_frozen hgc o
  refine ⟨?_, fz _ (by simpa using hi) h1, ?_, fz _ hi h⟩
  · obtain ⟨ad, e2, _, _, _, _, _, q, _⟩ := C_nodeN (Kd.R_reads' h1).2.2 i (by simpa using hi)
    cases e2
    rw [ea, List.getElem_set_self] at q
    exact q
  · obtain ⟨ad, e2, _, _, _, _, q, _⟩ := C_nodeN (Kd.R_reads' h).2.2 i hi
    cases e2
    rw [ea] at q
    exact q
theorem half_f5 {e base g n cap : Nat} {W : World} {ok : Nat → Prop} {xs : List Node} (h : kNode.R e W base ok (.slice (some ⟨g, 0, none⟩) n cap) xs) (i : Nat) (hi : i < xs.length) (t : Term) :
    (W.setCell ⟨g, i * 10 + 6, none⟩ (.bool t.f0)).cell? ⟨g, i * 10 + 6 + 1, none⟩ = some (.int .u64 xs[i].f5.f1) ∧ (W.setCell ⟨g, i * 10 + 6, none⟩ (.bool t.f0)).frozen? ⟨g, i * 10 + 6 + 1, none⟩ = false ∧ W.cell? ⟨g, i * 10 + 6, none⟩ = some (.bool xs[i].f5.f0) ∧ W.frozen? ⟨g, i * 10 + 6, none⟩ = false := by
  have h1 := R_edit node_flat h i 6 hi (by decide) { xs[i] with f5 := ⟨t.f0, xs[i].f5.f1⟩ } (.bool t.f0) (by simp [nodeC])
  have ea : (⟨g, 0, none⟩ : Addr).add (i * 10) = ⟨g, i * 10, none⟩ := by
    unfold Addr.add
    split <;> simp_all
  have fz : ∀ {W : World} {ys : List Node} (o : Nat), i < ys.length → kNode.R e W base ok (.slice (some ⟨g, 0, none⟩) n cap) ys → W.frozen? ⟨g, o, none⟩ = false := fun o hl h => by
    obtain ⟨_, _, hv, _, _, cells, hgc⟩ := Kd.R_form h (by omega)
    cases hv
    exact blk_frozen hgc o
  refine ⟨?_, fz _ (by simpa using hi) h1, ?_, fz _ hi h⟩
  · obtain ⟨ad, e2, _, _, _, _, _, _, _, q, _⟩ := C_nodeN (Kd.R_reads' h1).2.2 i (by simpa using hi)
    cases e2
    rw [ea, List.getElem_set_self] at q
    exact q
  · obtain ⟨ad, e2, _, _, _, _, _, _, q, _⟩ := C_nodeN (Kd.R_reads' h).2.2 i hi
    cases e2
    rw [ea] at q
    exact q
theorem half_f6 {e base g n cap : Nat} {W : World} {ok : Nat → Prop} {xs : List Node} (h : kNode.R e W base ok (.slice (some ⟨g, 0, none⟩) n cap) xs) (i : Nat) (hi : i < xs.length) (t : Term) :
    (W.setCell ⟨g, i * 10 + 8, none⟩ (.bool t.f0)).cell? ⟨g, i * 10 + 8 + 1, none⟩ = some (.int .u64 xs[i].f6.f1) ∧ (W.setCell ⟨g, i * 10 + 8, none⟩ (.bool t.f0)).frozen? ⟨g, i * 10 + 8 + 1, none⟩ = false ∧ W.cell? ⟨g, i * 10 + 8, none⟩ = some (.bool xs[i].f6.f0) ∧ W.frozen? ⟨g, i * 10 + 8, none⟩ = false := by
  have h1 := R_edit node_flat h i 8 hi (by decide) { xs[i] with f6 := ⟨t.f0, xs[i].f6.f1⟩ } (.bool t.f0) (by simp [nodeC])
  have ea : (⟨g, 0, none⟩ : Addr).add (i * 10) = ⟨g, i * 10, none⟩ := by
    unfold Addr.add
    split <;> simp_all
  have fz : ∀ {W : World} {ys : List Node} (o : Nat), i < ys.length → kNode.R e W base ok (.slice (some ⟨g, 0, none⟩) n cap) ys → W.frozen? ⟨g, o, none⟩ = false := fun o hl h => by
    obtain ⟨_, _, hv, _, _, cells, hgc⟩ := Kd.R_form h (by omega)
    cases hv
    exact blk_frozen hgc o
  refine ⟨?_, fz _ (by simpa using hi) h1, ?_, fz _ hi h⟩
  · obtain ⟨ad, e2, _, _, _, _, _, _, _, _, _, q⟩ := C_nodeN (Kd.R_reads' h1).2.2 i (by simpa using hi)
    cases e2
    rw [ea, List.getElem_set_self] at q
    exact q
  · obtain ⟨ad, e2, _, _, _, _, _, _, _, _, q, _⟩ := C_nodeN (Kd.R_reads' h).2.2 i hi
    cases e2
    rw [ea] at q
    exact q
theorem tail_same (w : World) (A A2 : Option Addr) (c c2 : Nat) (body : List Node) (n : Nat) (hn : n = body.length) (hp : 0 < n) (hr : kNode.C w A body.length body) (hr2 : kNode.C w A2 (body.drop 1).length (body.drop 1)) :
    Calls Tryd.prog 20 #[.slice A n c, .slice A2 (n - 1) c2] w fun e w' => e = .returned (.bool false) ∧ Below w.heap.size w w' := by
  have h := same_calls w A A2 c c2 body (body.drop 1) hr hr2
  rw [same_tail body (by omega), ← hn, show (body.drop 1).length = n - 1 by rw [List.length_drop, hn]] at h
  exact h
theorem tail_C {w : World} {ad : Addr} {body : List Node} (h : kNode.C w (some ad) body.length body) (hp : 0 < body.length) : kNode.C w (some ⟨ad.block, ad.off + 10, none⟩) (body.drop 1).length (body.drop 1) := by
  have h1 := C_cut h 1 (body.length - 1) (by omega)
  rw [show (body.drop 1).take (body.length - 1) = body.drop 1 from List.take_of_length_le (by rw [List.length_drop]; exact Nat.le_refl _)] at h1
  rw [show (body.drop 1).length = body.length - 1 from List.length_drop ..]
  exact h1
set_option maxRecDepth 100000 in
set_option maxHeartbeats 1000000 in
theorem same_no (w : World) (A : Option Addr) (c : Nat) (body : List Node) (B : Option Addr) (d : Nat) (l : List Term) (z0 z1 : Int) (h : body.length = 0 ∨ 300 < body.length ∨ l.length = 0) :
    Calls Tryd.prog 5 #[.slice A body.length c, .slice B l.length d, .agg #[.int .u8 z0, .int .u8 z1]] w fun e w' => e = .returned (.bool true) ∧ Below w.heap.size w w' := by
  obtain ⟨n, hn⟩ : ∃ n, n = body.length := ⟨_, rfl⟩
  obtain ⟨m, hm⟩ : ∃ m, m = l.length := ⟨_, rfl⟩
  rw [← hn, ← hm] at h ⊢
  clear hn hm
  have HB := Aside0.mk (below_alloc (Below.refl w.heap.size w) (.cells #[.int .u8 z0, .int .u8 z1] 39))
  have h' : n = 0 ∨ (n ≠ 0 ∧ 300 < n) ∨ (n ≠ 0 ∧ ¬ 300 < n ∧ m = 0) := by omega
  rcases h' with rfl | ⟨h1, h2⟩ | ⟨h1, h2, rfl⟩
  all_goals
    try (have z3 : ((n : Int) == 0) = false := beq_eq_false_iff_ne.mpr (by omega))
    go_enter Tryd.func5, Tryd.ntmps5
    go_wp2_with (go_at_call 23; (with_reducible refine (alive_calls _).mono ?_); rintro e W' ⟨rfl, hb'⟩; have HB' := Aside0.mk (below_step HB.out hb'); clear HB hb'; have HB := HB'; clear HB')
    all_goals
      go_ret
      exact ⟨rfl, HB.out⟩
set_option maxRecDepth 100000 in
set_option maxHeartbeats 4000000 in
theorem same_yes (w : World) (A : Option Addr) (c : Nat) (body : List Node) (B : Option Addr) (d : Nat) (l : List Term) (z0 z1 : Int) (h0 : 0 ≤ z0 ∧ z0 ≤ 255) (h1 : 0 ≤ z1 ∧ z1 ≤ 255)
    (hr : Kd.C kNode w A body.length body) (hc : body.length ≤ c) (hrl : Kd.C kTerm w B l.length l) (hb : 0 < body.length ∧ body.length ≤ 300) (hl : 0 < l.length) (hw : ∀ n ∈ body, Node.wf n) :
    Calls Tryd.prog 5 #[.slice A body.length c, .slice B l.length d, .agg #[.int .u8 z0, .int .u8 z1]] w fun e w' => e = .returned (.bool true) ∧ Below w.heap.size w w' := by
  have hw0 := h1
  obtain ⟨ad, rfl⟩ : ∃ ad, A = some ad := by
    obtain ⟨ad, e, _⟩ := C_nodeN hr 0 hb.1
    exact ⟨ad, e⟩
  obtain ⟨bd, rfl⟩ : ∃ ad, B = some ad := by
    obtain ⟨ad, e, _⟩ := C_termN hrl 0 hl
    exact ⟨ad, e⟩
  obtain ⟨n, hn⟩ : ∃ n, n = body.length := ⟨_, rfl⟩
  obtain ⟨m, hm⟩ : ∃ m, m = l.length := ⟨_, rfl⟩
  have HN := Aside0.mk hn
  have HM := Aside0.mk hm
  have HR := Aside0.mk hr
  have HRL := Aside0.mk hrl
  have HW := Aside0.mk hw
  obtain ⟨hb0, hb3⟩ := hb
  rw [← hn] at hb0 hb3 hc ⊢
  rw [← hm] at hl ⊢
  have z2 : ((n : Int) == 0) = false := beq_eq_false_iff_ne.mpr (by omega)
  have z3 : decide (300 < (n : Int)) = false := decide_eq_false (by omega)
  have z4 : ((m : Int) == 0) = false := beq_eq_false_iff_ne.mpr (by omega)
  have HB := Aside0.mk (below_alloc (Below.refl w.heap.size w) (.cells #[.int .u8 z0, .int .u8 z1] 39))
  clear hr hn hm hrl hw
  go_enter Tryd.func5, Tryd.ntmps5
  go_wp2_with (at_builtin; (refine wpList_append_R rfl kNode (w.heap.size + 1) _ (.tmp 24) 22 22 36 36 (.agg #[.int .u8 0, .int .i64 0, .string ⟨#[]⟩, .int .i64 0, .bool false, .int .u64 0, .bool false, .int .u64 0, .bool false, .int .u64 0]) 88 rfl (by kernel_rfl) (by kernel_rfl) infoN rfl (by decide) (by decide) (.slice none 0 0) [] body (some ad) n c (fun _ => True) (fun _ => False) rfl rfl (Kd.R_nil _ _ _ _ _) (by rw [HN.out]; exact Kd.C_below HR.out HB.out) (fun x cs h => nodeM h) (fun _ h => h.elim) (fun _ _ => trivial) (Nat.le_of_eq (Array.size_push _).symm) (by simp; omega) ?_; intro v1 w1 HO1 hg hat))
  rw [List.nil_append] at HO1
  obtain ⟨g, c3, rfl, hgb, hgl, cells, hgc⟩ := Kd.R_form HO1 (by rw [← HN.out]; exact hb0)
  have hgw : w.heap.size ≤ g := by omega
  have hgn : w.heap.size ≠ g := by omega
  have hbx : w1.heap[w.heap.size]? = some (.cells #[.int .u8 z0, .int .u8 z1] 39 (0, 0)) := (hg.block _ (by rw [show (w.alloc (.cells #[.int .u8 z0, .int .u8 z1] 39)).heap.size = w.heap.size + 1 from Array.size_push _]; omega) (by simp [Value.ownBlock])).trans (blk_new w _)
  have HI := Aside0.mk (And.intro (HB.out.grown hg HB.out.size (fun k hk => by simp [Value.ownBlock] at hk)) hbx)
  have HO : Aside0 (kNode.R 36 w1 (w.heap.size + 1) (fun _ => True) (.slice (some ⟨g, 0, none⟩) n c3) (chgB l body 0)) := ⟨by rw [chgB_zero, HN.out]; exact HO1⟩
  clear hbx HB hg hat HO1 hgb hgl hgc
  rw [← HN.out]
  go_loopg [8] n (fun k x W => ∃ i : Nat, x = .int .i64 i ∧ i ≤ n ∧ n ≤ i + k ∧ Aside0 (kNode.R 36 W (w.heap.size + 1) (fun _ => True) (.slice (some ⟨g, 0, none⟩) n c3) (chgB l body i)) ∧ Aside0 (Below w.heap.size w W ∧ W.heap[w.heap.size]? = some (.cells #[.int .u8 z0, .int .u8 z1] 39 (0, 0))))
  case atStart => exact ⟨0, rfl, by omega, by omega, HO, HI⟩
  case round =>
    clear HO HI
    obtain ⟨i, rfl, hin, hik, HRi, HBW⟩ := hrel
    rcases Nat.lt_or_ge i n with hi | hi
    · have hd : decide (i < n) = true := decide_eq_true hi
      have hil : i < body.length := by rw [← HN.out]; exact hi
      have hic : i < (chgB l body i).length := by rw [chgB_len]; exact hil
      obtain ⟨r0, hr0⟩ : ∃ r : Nat, r = i % m := ⟨_, rfl⟩
      obtain ⟨r1, hr1⟩ : ∃ r : Nat, r = (i + 1) % m := ⟨_, rfl⟩
      obtain ⟨r2, hr2⟩ : ∃ r : Nat, r = (i + 2) % m := ⟨_, rfl⟩
      have e0 : (i : Int) % (m : Int) = (r0 : Int) := by rw [hr0]; exact (Int.natCast_emod i m).symm
      have e1 : ((i : Int) + 1) % (m : Int) = (r1 : Int) := by rw [hr1, Int.natCast_emod]; rfl
      have e2 : ((i : Int) + 2) % (m : Int) = (r2 : Int) := by rw [hr2, Int.natCast_emod]; rfl
      have l0 : r0 < m := by rw [hr0]; exact Nat.mod_lt _ hl
      have l1 : r1 < m := by rw [hr1]; exact Nat.mod_lt _ hl
      have l2 : r2 < m := by rw [hr2]; exact Nat.mod_lt _ hl
      obtain ⟨t0, ht0⟩ : ∃ t : Term, t = l.getD r0 ⟨false, 0⟩ := ⟨_, rfl⟩
      obtain ⟨t1, ht1⟩ : ∃ t : Term, t = l.getD r1 ⟨false, 0⟩ := ⟨_, rfl⟩
      obtain ⟨t2, ht2⟩ : ∃ t : Term, t = l.getD r2 ⟨false, 0⟩ := ⟨_, rfl⟩
      have HT := Aside0.mk (And.intro ht0 (And.intro ht1 ht2))
      have HRR := Aside0.mk (And.intro hr0 (And.intro hr1 hr2))
      have q0 := termAt (Kd.C_below HRL.out HBW.out.1) r0 (by rw [← HM.out]; exact l0) t0 ht0
      obtain ⟨k0, hk0⟩ : ∃ k, k = body[i].f0 := ⟨_, rfl⟩
      have HK := Aside0.mk hk0
      obtain ⟨q00, q01⟩ := q0
      obtain ⟨p5, f5, p4, f4⟩ := half_f4 HRi.out i hic t0
      have hX : (chgB l body i)[i] = body[i] := by rw [chgB_get l body i i hic hil, if_neg (by omega)]
      have hE1 := edit_f4 HRi.out i hic t0
      rw [hX] at hE1
      have HE1 := Aside0.mk hE1
      have HB1 : Aside0 (Below w.heap.size w ((wr.setCell ⟨g, i * 10 + 4, none⟩ (.bool t0.f0)).setCell ⟨g, i * 10 + 4 + 1, none⟩ (.int .u64 t0.f1)) ∧ ((wr.setCell ⟨g, i * 10 + 4, none⟩ (.bool t0.f0)).setCell ⟨g, i * 10 + 4 + 1, none⟩ (.int .u64 t0.f1)).heap[w.heap.size]? = some (.cells #[.int .u8 z0, .int .u8 z1] 39 (0, 0))) := ⟨(HBW.out.1.setCell (p := ⟨g, i * 10 + 4, none⟩) hgw _).setCell (p := ⟨g, i * 10 + 4 + 1, none⟩) hgw _, blk_far (blk_far HBW.out.2 hgn _) hgn _⟩
      have c0 := node0 hE1 i (by simpa using hic)
      rw [List.getElem_set_self] at c0
      simp only [← hk0] at c0
      have hk1 : k0 ≤ 255 := by rw [hk0]; exact (wf_u8 (HW.out _ (List.getElem_mem _)).1).2
      clear hE1 hX hk0 hr0 hr1 hr2 ht0 ht1 ht2
      by_cases h5 : k0 = 5
      · have z5 : (k0 == 5) = true := beq_iff_eq.mpr h5
        obtain ⟨q10, q11⟩ := termAt (Kd.C_below HRL.out HB1.out.1) r1 (by rw [← HM.out]; exact l1) t1 HT.out.2.1
        obtain ⟨p7, f7, p6, f6⟩ := half_f5 HE1.out i (by simpa using hic) t1
        have hE2 := edit_f5 HE1.out i (by simpa using hic) t1
        rw [List.getElem_set_self, List.set_set] at hE2
        have HE2 := Aside0.mk hE2
        have HB2 : Aside0 (Below w.heap.size w ((((wr.setCell ⟨g, i * 10 + 4, none⟩ (.bool t0.f0)).setCell ⟨g, i * 10 + 4 + 1, none⟩ (.int .u64 t0.f1)).setCell ⟨g, i * 10 + 6, none⟩ (.bool t1.f0)).setCell ⟨g, i * 10 + 6 + 1, none⟩ (.int .u64 t1.f1)) ∧ ((((wr.setCell ⟨g, i * 10 + 4, none⟩ (.bool t0.f0)).setCell ⟨g, i * 10 + 4 + 1, none⟩ (.int .u64 t0.f1)).setCell ⟨g, i * 10 + 6, none⟩ (.bool t1.f0)).setCell ⟨g, i * 10 + 6 + 1, none⟩ (.int .u64 t1.f1)).heap[w.heap.size]? = some (.cells #[.int .u8 z0, .int .u8 z1] 39 (0, 0))) := ⟨(HB1.out.1.setCell (p := ⟨g, i * 10 + 6, none⟩) hgw _).setCell (p := ⟨g, i * 10 + 6 + 1, none⟩) hgw _, blk_far (blk_far HB1.out.2 hgn _) hgn _⟩
        obtain ⟨q20, q21⟩ := termAt (Kd.C_below HRL.out HB2.out.1) r2 (by rw [← HM.out]; exact l2) t2 HT.out.2.2
        obtain ⟨p9, f9, p8, f8⟩ := half_f6 HE2.out i (by simpa using hic) t2
        have hE3 := edit_f6 HE2.out i (by simpa using hic) t2
        rw [List.getElem_set_self, List.set_set] at hE3
        have HE3 := Aside0.mk hE3
        have HB3 : Aside0 (Below w.heap.size w ((((((wr.setCell ⟨g, i * 10 + 4, none⟩ (.bool t0.f0)).setCell ⟨g, i * 10 + 4 + 1, none⟩ (.int .u64 t0.f1)).setCell ⟨g, i * 10 + 6, none⟩ (.bool t1.f0)).setCell ⟨g, i * 10 + 6 + 1, none⟩ (.int .u64 t1.f1)).setCell ⟨g, i * 10 + 8, none⟩ (.bool t2.f0)).setCell ⟨g, i * 10 + 8 + 1, none⟩ (.int .u64 t2.f1)) ∧ ((((((wr.setCell ⟨g, i * 10 + 4, none⟩ (.bool t0.f0)).setCell ⟨g, i * 10 + 4 + 1, none⟩ (.int .u64 t0.f1)).setCell ⟨g, i * 10 + 6, none⟩ (.bool t1.f0)).setCell ⟨g, i * 10 + 6 + 1, none⟩ (.int .u64 t1.f1)).setCell ⟨g, i * 10 + 8, none⟩ (.bool t2.f0)).setCell ⟨g, i * 10 + 8 + 1, none⟩ (.int .u64 t2.f1)).heap[w.heap.size]? = some (.cells #[.int .u8 z0, .int .u8 z1] 39 (0, 0))) := ⟨(HB2.out.1.setCell (p := ⟨g, i * 10 + 8, none⟩) hgw _).setCell (p := ⟨g, i * 10 + 8 + 1, none⟩) hgw _, blk_far (blk_far HB2.out.2 hgn _) hgn _⟩
        have H5 := Aside0.mk h5
        clear hE2 hE3 h5
        go_wp2
        go_roundg (n - (i + 1))
        case measure => omega
        case rel =>
          refine ⟨i + 1, by go_num, by omega, by omega, ⟨?_⟩, HB3⟩
          have h := HE3.out
          rw [chgB_step l body i hil, chgN, if_pos (by rw [← HK.out]; exact H5.out), ← HM.out, ← HRR.out.1, ← HRR.out.2.1, ← HRR.out.2.2, ← HT.out.1, ← HT.out.2.1, ← HT.out.2.2]
          exact h
      · have z5 : (k0 == 5) = false := beq_eq_false_iff_ne.mpr h5
        have H5 := Aside0.mk h5
        clear h5
        go_wp2
        go_roundg (n - (i + 1))
        case measure => omega
        case rel =>
          refine ⟨i + 1, by go_num, by omega, by omega, ⟨?_⟩, HB1⟩
          have h := HE1.out
          rw [chgB_step l body i hil, chgN, if_neg (by rw [← HK.out]; exact H5.out), ← HM.out, ← HRR.out.1, ← HT.out.1]
          exact h
    · have hd : decide (i < n) = false := decide_eq_false (by omega)
      obtain rfl : i = n := by omega
      obtain ⟨O, hO⟩ : ∃ O, O = chgB l body i := ⟨_, rfl⟩
      have hOl : O.length = i := by rw [hO, chgB_len]; exact HN.out.symm
      obtain ⟨q, hq⟩ : ∃ q, q = checkB body := ⟨_, rfl⟩
      have hq2 : q = checkB O := by rw [hq, hO]; exact chgB_check l body i
      have hrow := HRi.out
      rw [← hO] at hrow
      have CS : Aside0 (∀ W, Below wr.heap.size wr W → Calls Tryd.prog 20 #[.slice (some ad) i c, .slice (some ⟨g, 0, none⟩) i c3] W fun e w' => e = .returned (.bool true) ∧ Below W.heap.size W w') := ⟨fun W hb => by
        have h := same_calls W (some ad) (some ⟨g, 0, none⟩) c c3 body O (Kd.C_below (Kd.C_below HR.out HBW.out.1) hb) (Kd.C_below (Kd.R_reads' hrow).2.2 hb)
        rwa [← HN.out, hOl, hO, chgB_same] at h⟩
      have C1 : Aside0 (∀ W, Below wr.heap.size wr W → Calls Tryd.prog 14 #[.slice (some ad) i c] W fun e w' => e = .returned (.int .i64 q) ∧ Below W.heap.size W w') := ⟨fun W hb => by
        have h := check_calls W (some ad) c body (Kd.C_below (Kd.C_below HR.out HBW.out.1) hb)
        rwa [← HN.out, ← hq] at h⟩
      have C2 : Aside0 (∀ W, Below wr.heap.size wr W → Calls Tryd.prog 14 #[.slice (some ⟨g, 0, none⟩) i c3] W fun e w' => e = .returned (.int .i64 q) ∧ Below W.heap.size W w') := ⟨fun W hb => by
        have h := check_calls W (some ⟨g, 0, none⟩) c3 O (Kd.C_below (Kd.R_reads' hrow).2.2 hb)
        rwa [hOl, ← hq2] at h⟩
      have HO := Aside0.mk hO
      have HOL := Aside0.mk hOl
      have HRO := Aside0.mk hrow
      have HB := Aside0.mk (Below.refl wr.heap.size wr)
      have zq : (q != q) = false := by simp
      clear hO hOl hq hq2 hrow HRi
      go_wp2_with (first
        | (go_at_call 20; (with_reducible refine (CS.out _ HB.out).mono ?_); rintro e W' ⟨rfl, hb'⟩; have HB' := Aside0.mk (below_step HB.out hb'); clear HB hb'; have HB := HB'; clear HB')
        | (go_at_call 14; (with_reducible refine (C1.out _ HB.out).mono ?_); rintro e W' ⟨rfl, hb'⟩; have HB' := Aside0.mk (below_step HB.out hb'); clear HB hb'; have HB := HB'; clear HB'))
      refine (C2.out _ HB.out).mono ?_
      rintro e W ⟨rfl, hb'⟩
      have HB' := Aside0.mk (below_step HB.out hb')
      clear HB hb' CS C1 C2
      have HB := HB'
      clear HB'
      have hRW := Kd.R_below HRO.out HB.out
      have HRW := Aside0.mk hRW
      have hbx : W.heap[w.heap.size]? = some (.cells #[.int .u8 z0, .int .u8 z1] 39 (0, 0)) := (HB.out.block _ (blk_lt HBW.out.2)).trans HBW.out.2
      have b0 : W.cell? ⟨w.heap.size, 0, none⟩ = some (.int .u8 z0) := blk_cell hbx 0
      have b1 : W.cell? ⟨w.heap.size, 1, none⟩ = some (.int .u8 z1) := blk_cell hbx 1
      have HBT := Aside0.mk (below_step HBW.out.1 HB.out)
      obtain ⟨k, hk⟩ : ∃ k : Nat, z0 % (i : Int) = k := ⟨(z0 % (i : Int)).toNat, by have := Int.emod_nonneg z0 (show (i : Int) ≠ 0 by omega); omega⟩
      have hkl : k < i := by have := Int.emod_lt_of_pos z0 (show (0 : Int) < i by omega); omega
      have hkO : k < O.length := by rw [HOL.out]; exact hkl
      have hkb : k < body.length := by rw [← HN.out]; exact hkl
      have n0 := node0 hRW k hkO
      have n1 := node1 hRW k hkO
      have n2 := node2 hRW k hkO
      have n3 := node3 hRW k hkO
      have fr0 := R_frozen hRW (by omega) (k * 10)
      have fr1 := R_frozen hRW (by omega) (k * 10 + 1)
      have fr2 := R_frozen hRW (by omega) (k * 10 + 2)
      have fr3 := R_frozen hRW (by omega) (k * 10 + 3)
      obtain ⟨x0, hx0⟩ : ∃ x, x = O[k].f0 := ⟨_, rfl⟩
      obtain ⟨x1, hx1⟩ : ∃ x, x = O[k].f1 := ⟨_, rfl⟩
      obtain ⟨x2, hx2⟩ : ∃ x, x = O[k].f2 := ⟨_, rfl⟩
      obtain ⟨x3, hx3⟩ : ∃ x, x = O[k].f3 := ⟨_, rfl⟩
      rw [← hx0] at n0
      rw [← hx1] at n1
      rw [← hx2] at n2
      rw [← hx3] at n3
      have HX := Aside0.mk (And.intro hx0 (And.intro hx1 (And.intro hx2 hx3)))
      have hOk : sameN body[k] O[k] = true := by
        have := chgB_same l body i
        rw [← HO.out] at this
        exact sameL_get this k hkb hkO
      have hs2 : x2.size ≤ 140737488351232 := by
        have h := (HW.out body[k] (List.getElem_mem _)).2.2.1.2
        simp only [sameN, Bool.and_eq_true, beq_iff_eq] at hOk
        rw [hx2]
        have e := hOk.1.2
        rw [Lib.toList_data, Lib.toList_data] at e
        have e2 := congrArg List.length e
        simp only [Array.length_toList] at e2
        have h3 : body[k].f2.data.size ≤ 140737488351232 := h
        show O[k].f2.data.size ≤ _
        omega
      have HOK := Aside0.mk hOk
      clear hRW hbx HB hx0 hx1 hx2 hx3 HBW HRO hOk
      rcases (by omega : z1 % 4 = 0 ∨ z1 % 4 = 1 ∨ z1 % 4 = 2 ∨ z1 % 4 = 3) with hj | hj | hj | hj
      · go_wp2_with fail
        have hE : kNode.R 36 (W.setCell ⟨g, k * 10, none⟩ (.int .u8 ((x0 + 1) % 256))) (w.heap.size + 1) (fun _ => True) (.slice (some ⟨g, 0, none⟩) i c3) (O.set k { O[k] with f0 := (x0 + 1) % 256 }) :=
          R_edit node_flat HRW.out k 0 hkO (by decide) _ _ (by simp [nodeC])
        have hne : sameN body[k] { O[k] with f0 := (x0 + 1) % 256 } = false := sameN_f0 HOK.out (by rw [← HX.out.1]; exact ne_u8 _)
        have hB0 : Below w.heap.size w (W.setCell ⟨g, k * 10, none⟩ (.int .u8 ((x0 + 1) % 256))) := HBT.out.setCell hgw _
        obtain ⟨W5, hW5⟩ : ∃ W5, W5 = W.setCell ⟨g, k * 10, none⟩ (.int .u8 ((x0 + 1) % 256)) := ⟨_, rfl⟩
        rw [← hW5] at hE hB0 ⊢
        have HE := Aside0.mk (And.intro hE hne)
        have HB0 := Aside0.mk hB0
        clear hW5 hE hne hB0 HRW HBT n0 n1 n2 n3 fr0 fr1 fr2 fr3 b0 b1
        have HB := Aside0.mk (Below.refl W5.heap.size W5)
        have CF : Aside0 (∀ W, Below W5.heap.size W5 W → Calls Tryd.prog 20 #[.slice (some ad) i c, .slice (some ⟨g, 0, none⟩) i c3] W fun e w' => e = .returned (.bool false) ∧ Below W.heap.size W w') := ⟨fun W hb => by
          have h := same_calls W (some ad) (some ⟨g, 0, none⟩) c c3 body _ (Kd.C_below (Kd.C_below HR.out HB0.out) hb) (Kd.C_below (Kd.R_reads' HE.out.1).2.2 hb)
          rw [sameL_ne k hkb (by simpa using hkO) (by rw [List.getElem_set_self]; exact HE.out.2), List.length_set, HOL.out, ← HN.out] at h
          exact h⟩
        refine (alive_calls _).mono ?_
        rintro e W' ⟨rfl, hb'⟩; have HB' := Aside0.mk (below_step HB.out hb'); clear HB hb'; have HB := HB'; clear HB'
        go_wp2_with (go_at_call 20; (with_reducible refine (CF.out _ HB.out).mono ?_); rintro e W' ⟨rfl, hb'⟩; have HB' := Aside0.mk (below_step HB.out hb'); clear HB hb'; have HB := HB'; clear HB')
        all_goals
          have hCb := Kd.C_below (Kd.C_below HR.out HB0.out) HB.out
          have hT2 := tail_C hCb (by rw [← HN.out]; exact hb0)
          have hT1 : i ≤ 1 → kNode.C _ (some ad) (body.drop 1).length (body.drop 1) := fun h1 => by
            rw [show body.drop 1 = [] from List.drop_eq_nil_of_le (by rw [← HN.out]; exact h1)]
            exact C_none W' _
          first
            | (with_reducible refine (tail_same _ (some ad) (some ⟨ad.block, ad.off + 10, none⟩) _ _ body i HN.out hb0 hCb hT2).mono ?_)
            | (with_reducible refine (tail_same _ (some ad) (some ad) _ _ body i HN.out hb0 hCb (hT1 (by omega))).mono ?_)
          clear hT1 hT2 hCb
          rintro e W' ⟨rfl, hb'⟩; have HB' := Aside0.mk (below_step HB.out hb'); clear HB hb'; have HB := HB'; clear HB'
          go_wp2
          go_ret
          exact ⟨rfl, below_step HB0.out HB.out⟩
      · go_wp2_with fail
        have hE : kNode.R 36 (W.setCell ⟨g, k * 10 + 2, none⟩ (.string (x2 ++ ⟨#[120]⟩))) (w.heap.size + 1) (fun _ => True) (.slice (some ⟨g, 0, none⟩) i c3) (O.set k { O[k] with f2 := x2 ++ ⟨#[120]⟩ }) :=
          R_edit node_flat HRW.out k 2 hkO (by decide) _ _ (by simp [nodeC])
        have hne : sameN body[k] { O[k] with f2 := x2 ++ ⟨#[120]⟩ } = false := sameN_f2 HOK.out (by rw [← HX.out.2.2.1]; exact ne_x _)
        have hB0 : Below w.heap.size w (W.setCell ⟨g, k * 10 + 2, none⟩ (.string (x2 ++ ⟨#[120]⟩))) := HBT.out.setCell hgw _
        obtain ⟨W5, hW5⟩ : ∃ W5, W5 = W.setCell ⟨g, k * 10 + 2, none⟩ (.string (x2 ++ ⟨#[120]⟩)) := ⟨_, rfl⟩
        rw [← hW5] at hE hB0 ⊢
        have HE := Aside0.mk (And.intro hE hne)
        have HB0 := Aside0.mk hB0
        clear hW5 hE hne hB0 HRW HBT n0 n1 n2 n3 fr0 fr1 fr2 fr3 b0 b1
        have HB := Aside0.mk (Below.refl W5.heap.size W5)
        have CF : Aside0 (∀ W, Below W5.heap.size W5 W → Calls Tryd.prog 20 #[.slice (some ad) i c, .slice (some ⟨g, 0, none⟩) i c3] W fun e w' => e = .returned (.bool false) ∧ Below W.heap.size W w') := ⟨fun W hb => by
          have h := same_calls W (some ad) (some ⟨g, 0, none⟩) c c3 body _ (Kd.C_below (Kd.C_below HR.out HB0.out) hb) (Kd.C_below (Kd.R_reads' HE.out.1).2.2 hb)
          rw [sameL_ne k hkb (by simpa using hkO) (by rw [List.getElem_set_self]; exact HE.out.2), List.length_set, HOL.out, ← HN.out] at h
          exact h⟩
        refine (alive_calls _).mono ?_
        rintro e W' ⟨rfl, hb'⟩; have HB' := Aside0.mk (below_step HB.out hb'); clear HB hb'; have HB := HB'; clear HB'
        go_wp2_with (go_at_call 20; (with_reducible refine (CF.out _ HB.out).mono ?_); rintro e W' ⟨rfl, hb'⟩; have HB' := Aside0.mk (below_step HB.out hb'); clear HB hb'; have HB := HB'; clear HB')
        all_goals
          have hCb := Kd.C_below (Kd.C_below HR.out HB0.out) HB.out
          have hT2 := tail_C hCb (by rw [← HN.out]; exact hb0)
          have hT1 : i ≤ 1 → kNode.C _ (some ad) (body.drop 1).length (body.drop 1) := fun h1 => by
            rw [show body.drop 1 = [] from List.drop_eq_nil_of_le (by rw [← HN.out]; exact h1)]
            exact C_none W' _
          first
            | (with_reducible refine (tail_same _ (some ad) (some ⟨ad.block, ad.off + 10, none⟩) _ _ body i HN.out hb0 hCb hT2).mono ?_)
            | (with_reducible refine (tail_same _ (some ad) (some ad) _ _ body i HN.out hb0 hCb (hT1 (by omega))).mono ?_)
          clear hT1 hT2 hCb
          rintro e W' ⟨rfl, hb'⟩; have HB' := Aside0.mk (below_step HB.out hb'); clear HB hb'; have HB := HB'; clear HB'
          go_wp2
          go_ret
          exact ⟨rfl, below_step HB0.out HB.out⟩
      · go_wp2_with fail
        have hE : kNode.R 36 (W.setCell ⟨g, k * 10 + 1, none⟩ (.int .i64 (wrap64 (x1 + 1)))) (w.heap.size + 1) (fun _ => True) (.slice (some ⟨g, 0, none⟩) i c3) (O.set k { O[k] with f1 := wrap64 (x1 + 1) }) :=
          R_edit node_flat HRW.out k 1 hkO (by decide) _ _ (by simp [nodeC])
        have hne : sameN body[k] { O[k] with f1 := wrap64 (x1 + 1) } = false := sameN_f1 HOK.out (by rw [← HX.out.2.1]; exact ne_i64 _)
        have hB0 : Below w.heap.size w (W.setCell ⟨g, k * 10 + 1, none⟩ (.int .i64 (wrap64 (x1 + 1)))) := HBT.out.setCell hgw _
        obtain ⟨W5, hW5⟩ : ∃ W5, W5 = W.setCell ⟨g, k * 10 + 1, none⟩ (.int .i64 (wrap64 (x1 + 1))) := ⟨_, rfl⟩
        rw [← hW5] at hE hB0 ⊢
        have HE := Aside0.mk (And.intro hE hne)
        have HB0 := Aside0.mk hB0
        clear hW5 hE hne hB0 HRW HBT n0 n1 n2 n3 fr0 fr1 fr2 fr3 b0 b1
        have HB := Aside0.mk (Below.refl W5.heap.size W5)
        have CF : Aside0 (∀ W, Below W5.heap.size W5 W → Calls Tryd.prog 20 #[.slice (some ad) i c, .slice (some ⟨g, 0, none⟩) i c3] W fun e w' => e = .returned (.bool false) ∧ Below W.heap.size W w') := ⟨fun W hb => by
          have h := same_calls W (some ad) (some ⟨g, 0, none⟩) c c3 body _ (Kd.C_below (Kd.C_below HR.out HB0.out) hb) (Kd.C_below (Kd.R_reads' HE.out.1).2.2 hb)
          rw [sameL_ne k hkb (by simpa using hkO) (by rw [List.getElem_set_self]; exact HE.out.2), List.length_set, HOL.out, ← HN.out] at h
          exact h⟩
        refine (alive_calls _).mono ?_
        rintro e W' ⟨rfl, hb'⟩; have HB' := Aside0.mk (below_step HB.out hb'); clear HB hb'; have HB := HB'; clear HB'
        go_wp2_with (go_at_call 20; (with_reducible refine (CF.out _ HB.out).mono ?_); rintro e W' ⟨rfl, hb'⟩; have HB' := Aside0.mk (below_step HB.out hb'); clear HB hb'; have HB := HB'; clear HB')
        all_goals
          have hCb := Kd.C_below (Kd.C_below HR.out HB0.out) HB.out
          have hT2 := tail_C hCb (by rw [← HN.out]; exact hb0)
          have hT1 : i ≤ 1 → kNode.C _ (some ad) (body.drop 1).length (body.drop 1) := fun h1 => by
            rw [show body.drop 1 = [] from List.drop_eq_nil_of_le (by rw [← HN.out]; exact h1)]
            exact C_none W' _
          first
            | (with_reducible refine (tail_same _ (some ad) (some ⟨ad.block, ad.off + 10, none⟩) _ _ body i HN.out hb0 hCb hT2).mono ?_)
            | (with_reducible refine (tail_same _ (some ad) (some ad) _ _ body i HN.out hb0 hCb (hT1 (by omega))).mono ?_)
          clear hT1 hT2 hCb
          rintro e W' ⟨rfl, hb'⟩; have HB' := Aside0.mk (below_step HB.out hb'); clear HB hb'; have HB := HB'; clear HB'
          go_wp2
          go_ret
          exact ⟨rfl, below_step HB0.out HB.out⟩
      · go_wp2_with fail
        have hE : kNode.R 36 (W.setCell ⟨g, k * 10 + 3, none⟩ (.int .i64 (wrap64 (x3 + 1)))) (w.heap.size + 1) (fun _ => True) (.slice (some ⟨g, 0, none⟩) i c3) (O.set k { O[k] with f3 := wrap64 (x3 + 1) }) :=
          R_edit node_flat HRW.out k 3 hkO (by decide) _ _ (by simp [nodeC])
        have hne : sameN body[k] { O[k] with f3 := wrap64 (x3 + 1) } = false := sameN_f3 HOK.out (by rw [← HX.out.2.2.2]; exact ne_i64 _)
        have hB0 : Below w.heap.size w (W.setCell ⟨g, k * 10 + 3, none⟩ (.int .i64 (wrap64 (x3 + 1)))) := HBT.out.setCell hgw _
        obtain ⟨W5, hW5⟩ : ∃ W5, W5 = W.setCell ⟨g, k * 10 + 3, none⟩ (.int .i64 (wrap64 (x3 + 1))) := ⟨_, rfl⟩
        rw [← hW5] at hE hB0 ⊢
        have HE := Aside0.mk (And.intro hE hne)
        have HB0 := Aside0.mk hB0
        clear hW5 hE hne hB0 HRW HBT n0 n1 n2 n3 fr0 fr1 fr2 fr3 b0 b1
        have HB := Aside0.mk (Below.refl W5.heap.size W5)
        have CF : Aside0 (∀ W, Below W5.heap.size W5 W → Calls Tryd.prog 20 #[.slice (some ad) i c, .slice (some ⟨g, 0, none⟩) i c3] W fun e w' => e = .returned (.bool false) ∧ Below W.heap.size W w') := ⟨fun W hb => by
          have h := same_calls W (some ad) (some ⟨g, 0, none⟩) c c3 body _ (Kd.C_below (Kd.C_below HR.out HB0.out) hb) (Kd.C_below (Kd.R_reads' HE.out.1).2.2 hb)
          rw [sameL_ne k hkb (by simpa using hkO) (by rw [List.getElem_set_self]; exact HE.out.2), List.length_set, HOL.out, ← HN.out] at h
          exact h⟩
        refine (alive_calls _).mono ?_
        rintro e W' ⟨rfl, hb'⟩; have HB' := Aside0.mk (below_step HB.out hb'); clear HB hb'; have HB := HB'; clear HB'
        go_wp2_with (go_at_call 20; (with_reducible refine (CF.out _ HB.out).mono ?_); rintro e W' ⟨rfl, hb'⟩; have HB' := Aside0.mk (below_step HB.out hb'); clear HB hb'; have HB := HB'; clear HB')
        all_goals
          have hCb := Kd.C_below (Kd.C_below HR.out HB0.out) HB.out
          have hT2 := tail_C hCb (by rw [← HN.out]; exact hb0)
          have hT1 : i ≤ 1 → kNode.C _ (some ad) (body.drop 1).length (body.drop 1) := fun h1 => by
            rw [show body.drop 1 = [] from List.drop_eq_nil_of_le (by rw [← HN.out]; exact h1)]
            exact C_none W' _
          first
            | (with_reducible refine (tail_same _ (some ad) (some ⟨ad.block, ad.off + 10, none⟩) _ _ body i HN.out hb0 hCb hT2).mono ?_)
            | (with_reducible refine (tail_same _ (some ad) (some ad) _ _ body i HN.out hb0 hCb (hT1 (by omega))).mono ?_)
          clear hT1 hT2 hCb
          rintro e W' ⟨rfl, hb'⟩; have HB' := Aside0.mk (below_step HB.out hb'); clear HB hb'; have HB := HB'; clear HB'
          go_wp2
          go_ret
          exact ⟨rfl, below_step HB0.out HB.out⟩
/-- TypesSame: true at every input. -/
theorem same_walk (w : World) (A : Option Addr) (c : Nat) (body : List Node) (hr : Kd.C kNode w A body.length body) (hc : body.length ≤ c) (hw : ∀ n ∈ body, Node.wf n)
    (B : Option Addr) (d : Nat) (l : List Term) (hrl : Kd.C kTerm w B l.length l) (hd : l.length ≤ d) (hwl : ∀ t ∈ l, Term.wf t) (z0 z1 : Int) (h0 : (Lit.int .u8 z0).wf = true) (h1 : (Lit.int .u8 z1).wf = true) :
    Calls Tryd.prog 5 #[.slice A body.length c, .slice B l.length d, .agg #[.int .u8 z0, .int .u8 z1]] w fun e w' => e = .returned (.bool true) ∧ Below w.heap.size w w' := by
  by_cases h : body.length = 0 ∨ 300 < body.length ∨ l.length = 0
  · exact same_no w A c body B d l z0 z1 h
  · exact same_yes w A c body B d l z0 z1 (wf_u8 h0) (wf_u8 h1) hr hc hrl (by omega) (by omega) hw
end L07
end Go.Proofs.YtoohandacpalpaaDoor
