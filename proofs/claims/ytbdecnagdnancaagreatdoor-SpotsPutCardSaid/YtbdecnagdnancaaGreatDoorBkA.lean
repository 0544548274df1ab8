/- The book of lists, plain part: an append that makes a new block changes nothing old. -/
import Derived.Test.YtbdecnagdnancaaGreatDoorAp
import Derived.ArgAppend

namespace Go.Proofs.YtbdecnagdnancaaGreatDoor
open Go.RowKit Go.Proofs.YtbdecnagdnancaaGreatDoorW.PrintWords Go.Proofs.YtbdecnagdnancaaGreatDoorW.PrintLast Go.Proofs.YtbdecnagdnancaaGreatDoorW.PrintMore
set_option linter.unusedVariables false
set_option linter.unusedSimpArgs false
section
variable {P : Program} {α : Type}
/-- append onto a row of the call's own: into its own block, or into a new one, and then nothing old has changed. -/
theorem run_append_two (d : Kd α) {Rr : α → List Value → Prop} {W : World} (base : Nat) (t t2 ty e e2 : TypeId) (z : Value) (bytes : Nat)
    (ht : P.underlying t = some (.slice e)) (ht2 : P.underlying t2 = some (.slice e2)) (hinfo : (P.info? e).map (fun i => (i.zero, i.size, i.bytes)) = some (some z, d.sz, bytes)) (hz : z.cells.size = d.sz) (hs0 : 0 < d.sz) (hb0 : 0 < bytes)
    (v : Value) (xs ys : List α) (ad : Addr) (m c : Nat) (ok okp : Nat → Prop)
    (HO : d.R e W base ok v xs) (HR : ReadsRow Rr d.sz W (some ad) m ys) (hKM : ∀ x cs, Rr x cs → d.M W base okp x cs) (hokp : ∀ k, okp k → ok k ∧ some k ≠ v.ownBlock) (hfresh : ∀ k, W.heap.size ≤ k → ok k)
    (hbase : base ≤ W.heap.size) (hm0 : 0 < m) (hl : (xs.length + m) * bytes ≤ 140737488355328) :
    ∃ v1 w1, (Builtin.append_ #[t, t2] ty #[v, .slice (some ad) m c]).run P W = .ok v1 w1 ∧ d.R e w1 base ok v1 (xs ++ ys) ∧ W.grownBy w1 v.ownBlock ∧ ((∃ A q, v = .slice A xs.length q ∧ v1 = .slice A (xs.length + m) q) ∨ ∃ b, v1.ownBlock = some b ∧ W.heap.size ≤ b ∧ W.grownBy w1 none) := by
  obtain ⟨v1, w1, hrun, hR, hg, hat⟩ := run_append_R (P := P) d base t t2 ty e e2 z bytes ht ht2 hinfo hz hs0 hb0 v xs ys (some ad) m c ok okp HO HR hKM hokp hfresh hbase hl
  refine ⟨v1, w1, hrun, hR, hg, ?_⟩
  obtain ⟨i0, hi, hzz⟩ := Option.map_eq_some_iff.1 hinfo
  simp only [Prod.mk.injEq] at hzz
  obtain ⟨hz0, hz1, hz2⟩ := hzz
  obtain ⟨Av, cv, rfl⟩ := Kd.R_slice HO
  have hm : ys.length = m := HR.1
  have hlen : xs.length + m ≤ 140737488355328 := Nat.le_trans (Nat.le_mul_of_pos_right _ hb0) hl
  obtain ⟨news, hnr, hnc⟩ := ReadsRow.inner_ HR
  have hnM : Reps (d.M W base okp) d.sz ys news := hnr.imp_ (fun p c hp => hKM p c hp)
  have hone : ∀ u ∈ news, u.oneCell' = true := by
    intro u hu
    obtain ⟨q, hq, rfl⟩ := List.mem_iff_getElem.1 hu
    have hql : q / d.sz < ys.length := by
      rw [Nat.div_lt_iff_lt_mul hs0, ← hnM.1]
      exact hq
    have hc := hnM.2 (q / d.sz) _ (List.getElem?_eq_getElem hql)
    refine d.K_one (d.K_of_M hc) _ ?_
    rw [List.mem_iff_getElem?]
    refine ⟨q % d.sz, ?_⟩
    rw [List.getElem?_take, if_pos (Nat.mod_lt _ hs0), List.getElem?_drop, Nat.mul_comm, Nat.div_add_mod, List.getElem?_eq_getElem hq]
  have hnl : news.length = m * d.sz := by rw [hnM.1, hm]
  obtain ⟨hok, inner, hown, hr⟩ := HO
  rw [append_types t t2 ty e e2 i0 ht ht2 hi] at hrun
  rcases hown.2 with ⟨hn0, hn⟩ | ⟨g, cap, cur, hn0, hbg, hgc, hnc', hcm, hcs, htake⟩
  · injection hn0 with h1 h2 h3
    subst h1
    rcases hat with hat | ⟨b, hb, hle⟩
    · obtain ⟨g', cap', hv', _⟩ := Kd.R_form hR (by rw [List.length_append]; omega)
      rw [hv'] at hat
      cases hat
    · exact .inr ⟨b, hb, hle, hg⟩
  · injection hn0 with h1 h2 h3
    subst h1 h3
    by_cases hroom : xs.length + m ≤ cv
    · have hfit : xs.length * d.sz + news.length ≤ cur.size := by rw [hnl, hcs, ← Nat.add_mul]; exact Nat.mul_le_mul_right _ hroom
      have h := run_append_room_cells (P := P) W t ty e i0 ht hi g 0 xs.length cv ad m c news (by rw [hnl, hz1]) hnc hone hroom
        (fun j hj => by rw [blk_cell hgc, hz1, Array.getElem?_eq_getElem (by omega)]; rfl) (fun j _ => blk_frozen hgc _)
      rw [hrun] at h
      injection h with h1 h2
      exact .inl ⟨_, _, rfl, h1⟩
    · obtain ⟨v2, w2, h, ho2, hg2⟩ := run_append_arg_grows (P := P) W t ty e i0 z d.sz bytes ht hi hz0 hz1 hz2 hz hs0 ⟨g, 0, none⟩ xs.length cv inner hown.1 (hown.cells (g := g) rfl) ad m c news hnl hnc (by omega) (by simp only [maxLen]; omega) hl
      rw [hrun] at h
      injection h with h1 h2
      subst h1 h2
      obtain ⟨g2, cap2, rfl, hge, hlt⟩ : ∃ g cap, v1 = .slice (some ⟨g, 0, none⟩) (xs.length + m) cap ∧ W.heap.size ≤ g ∧ g < w1.heap.size := by
        rcases ho2.2 with ⟨_, h0⟩ | ⟨g, cap, cur, hv, hb, hg, _⟩
        · omega
        · exact ⟨g, cap, hv, hb, blk_lt hg⟩
      exact .inr ⟨g2, rfl, hge, hg2⟩
/-- The same at a plain region's list. -/
theorem wpList_append_two {ops : Array Oper} {rest : List Oper} {o : Oper} {a : Act} {Q : Exit → Act → World → Prop} (hgd : o.guard = none) (d : Kd α) {Rr : α → List Value → Prop} {W : World} (base : Nat) (s x : Operand) (t t2 e e2 : TypeId) (z : Value) (bytes : Nat)
    (ho : o.op = .call { callee := .builtin .append, args := #[s, x], argTypes := #[t, t2] })
    (ht : P.underlying t = some (.slice e)) (ht2 : P.underlying t2 = some (.slice e2)) (hinfo : (P.info? e).map (fun i => (i.zero, i.size, i.bytes)) = some (some z, d.sz, bytes)) (hz : z.cells.size = d.sz) (hs0 : 0 < d.sz) (hb0 : 0 < bytes)
    (v : Value) (xs ys : List α) (ad : Addr) (m c : Nat) (ok okp : Nat → Prop) (hs : a.eval s = v) (hx : a.eval x = .slice (some ad) m c)
    (HO : d.R e W base ok v xs) (HR : ReadsRow Rr d.sz W (some ad) m ys) (hKM : ∀ x cs, Rr x cs → d.M W base okp x cs) (hokp : ∀ k, okp k → ok k ∧ some k ≠ v.ownBlock) (hfresh : ∀ k, W.heap.size ≤ k → ok k)
    (hbase : base ≤ W.heap.size) (hm0 : 0 < m) (hl : (xs.length + m) * bytes ≤ 140737488355328)
    (h : ∀ v1 w1, d.R e w1 base ok v1 (xs ++ ys) → W.grownBy w1 v.ownBlock → ((∃ A q, v = .slice A xs.length q ∧ v1 = .slice A (xs.length + m) q) ∨ ∃ b, v1.ownBlock = some b ∧ W.heap.size ≤ b ∧ W.grownBy w1 none) → wpList P ops Q rest (a.put o.dst v1) w1) :
    wpList P ops Q (o :: rest) a W := by
  obtain ⟨v1, w1, hrun, h1, h2, h3⟩ := run_append_two (P := P) d base t t2 o.type e e2 z bytes ht ht2 hinfo hz hs0 hb0 v xs ys ad m c ok okp HO HR hKM hokp hfresh hbase hm0 hl
  exact Kd.event_run hgd (exec_append s x t t2 ho v _ v1 hs hx hrun) (h v1 w1 h1 h2 h3)
/-- append onto a row of the call's own that is read through a slice of less capacity: in its own block, or in a new one, and then nothing old has changed. -/
theorem run_append_RC (d : Kd α) {Rr : α → List Value → Prop} {W : World} (base : Nat) (t t2 ty e e2 : TypeId) (z : Value) (bytes : Nat)
    (ht : P.underlying t = some (.slice e)) (ht2 : P.underlying t2 = some (.slice e2)) (hinfo : (P.info? e).map (fun i => (i.zero, i.size, i.bytes)) = some (some z, d.sz, bytes)) (hz : z.cells.size = d.sz) (hs0 : 0 < d.sz) (hb0 : 0 < bytes)
    (A : Option Addr) (n q cv : Nat) (xs ys : List α) (ad : Addr) (m c : Nat) (ok okp : Nat → Prop) (hn : n = xs.length) (hcq : cv ≤ q)
    (HO : d.R e W base ok (.slice A n q) xs) (HR : ReadsRow Rr d.sz W (some ad) m ys) (hKM : ∀ x cs, Rr x cs → d.M W base okp x cs) (hokp : ∀ k, okp k → ok k ∧ some k ≠ (Value.slice A n q).ownBlock) (hfresh : ∀ k, W.heap.size ≤ k → ok k)
    (hbase : base ≤ W.heap.size) (hm0 : 0 < m) (hl : (n + m) * bytes ≤ 140737488355328) :
    ∃ v1 w1, (Builtin.append_ #[t, t2] ty #[.slice A n cv, .slice (some ad) m c]).run P W = .ok v1 w1 ∧ W.grownBy w1 (Value.slice A n q).ownBlock ∧ ((v1 = .slice A (n + m) cv ∧ d.R e w1 base ok (.slice A (n + m) q) (xs ++ ys)) ∨ ∃ b, v1.ownBlock = some b ∧ W.heap.size ≤ b ∧ W.grownBy w1 none ∧ d.R e w1 base ok v1 (xs ++ ys)) := by
  subst hn
  obtain ⟨v1, w1, hrun, hR, hg, hat⟩ := run_append_two (P := P) d base t t2 ty e e2 z bytes ht ht2 hinfo hz hs0 hb0 (.slice A xs.length q) xs ys ad m c ok okp HO HR hKM hokp hfresh hbase hm0 hl
  obtain ⟨i0, hi, hzz⟩ := Option.map_eq_some_iff.1 hinfo
  simp only [Prod.mk.injEq] at hzz
  obtain ⟨hz0, hz1, hz2⟩ := hzz
  have hm : ys.length = m := HR.1
  have hlen : xs.length + m ≤ 140737488355328 := Nat.le_trans (Nat.le_mul_of_pos_right _ hb0) hl
  obtain ⟨news, hnr, hnc⟩ := ReadsRow.inner_ HR
  have hnM : Reps (d.M W base okp) d.sz ys news := hnr.imp_ (fun p c hp => hKM p c hp)
  have hone : ∀ u ∈ news, u.oneCell' = true := by
    intro u hu
    obtain ⟨p, hp, rfl⟩ := List.mem_iff_getElem.1 hu
    have hql : p / d.sz < ys.length := by
      rw [Nat.div_lt_iff_lt_mul hs0, ← hnM.1]
      exact hp
    have hc := hnM.2 (p / d.sz) _ (List.getElem?_eq_getElem hql)
    refine d.K_one (d.K_of_M hc) _ ?_
    rw [List.mem_iff_getElem?]
    refine ⟨p % d.sz, ?_⟩
    rw [List.getElem?_take, if_pos (Nat.mod_lt _ hs0), List.getElem?_drop, Nat.mul_comm, Nat.div_add_mod, List.getElem?_eq_getElem hp]
  have hnl : news.length = m * d.sz := by rw [hnM.1, hm]
  rw [append_types t t2 ty e e2 i0 ht ht2 hi] at hrun
  rw [append_types t t2 ty e e2 i0 ht ht2 hi]
  have HO' := HO
  obtain ⟨hok, inner, hown, hr⟩ := HO'
  rcases hown.2 with ⟨hn0, hn⟩ | ⟨g, cap, cur, hn0, hbg, hgc, hnc', hcm, hcs, htake⟩
  · injection hn0 with h1 h2 h3
    subst h1 h3
    obtain rfl : cv = 0 := by omega
    refine ⟨v1, w1, hrun, hg, ?_⟩
    rcases hat with ⟨A', q', he, hv⟩ | ⟨b, hb, hle, hg0⟩
    · injection he with e1 e2 e3
      subst e1
      obtain ⟨g, cap, hgv, _⟩ := Kd.R_form hR (by rw [List.length_append]; omega)
      rw [hv] at hgv
      injection hgv with e4
      cases e4
    · exact .inr ⟨b, hb, hle, hg0, hR⟩
  · injection hn0 with h1 h2 h3
    subst h1 h3
    by_cases hroom : xs.length + m ≤ cv
    · have hcell : ∀ j, j < news.length → (W.cell? ⟨g, 0 + xs.length * i0.size + j, none⟩).isSome = true := fun j hj => by
        have hfit : xs.length * d.sz + news.length ≤ cur.size := by rw [hnl, hcs, ← Nat.add_mul]; exact Nat.mul_le_mul_right _ (Nat.le_trans hroom hcq)
        rw [blk_cell hgc, hz1, Array.getElem?_eq_getElem (by omega)]; rfl
      have hq := run_append_room_cells (P := P) W t ty e i0 ht hi g 0 xs.length q ad m c news (by rw [hnl, hz1]) hnc hone (Nat.le_trans hroom hcq) hcell (fun j _ => blk_frozen hgc _)
      have hc := run_append_room_cells (P := P) W t ty e i0 ht hi g 0 xs.length cv ad m c news (by rw [hnl, hz1]) hnc hone hroom hcell (fun j _ => blk_frozen hgc _)
      rw [hrun] at hq
      injection hq with e1 e2
      subst e1
      rw [← e2] at hc
      exact ⟨_, w1, hc, hg, .inl ⟨rfl, hR⟩⟩
    · obtain ⟨v2, w2, h, ho2, hg2⟩ := run_append_arg_grows (P := P) W t ty e i0 z d.sz bytes ht hi hz0 hz1 hz2 hz hs0 ⟨g, 0, none⟩ xs.length cv inner hown.1 (hown.cells (g := g) rfl) ad m c news hnl hnc (by omega) (by simp only [maxLen]; omega) hl
      rcases ho2.2 with ⟨_, h0⟩ | ⟨g2, cap2, cur2, hv2, hb2, hgg, r1, r2, r3, r4⟩
      · omega
      have e0 : (xs ++ ys).length = xs.length + m := by rw [List.length_append, hm]
      have hob : v2.ownBlock = some g2 := by rw [hv2]; rfl
      have step : ∀ {x : α} {cs : List Value} {o : Nat → Prop}, d.M W base o x cs → (∀ k, o k → ok k) → d.M w2 base (fun k => ok k ∧ some k ≠ v2.ownBlock) x cs := by
        intro x cs o hx ho
        have h1 := d.M_move (w1 := w2) (fun k hk => hg2.block k hk.2.2.1 (fun h => by cases h)) (d.M_bound hx)
        refine d.M_mono (fun k hk => ⟨ho k hk.1, ?_⟩) h1
        rw [hob]
        intro he
        injection he with he
        have := hk.2.2.1
        omega
      refine ⟨v2, w2, h, ⟨hg2.os, hg2.tape, hg2.output, hg2.size, fun k hk _ => hg2.block k hk (fun h => by cases h)⟩, .inr ⟨g2, hob, hb2, hg2, ⟨fun k hk => ?_, inner ++ news, ⟨by rw [e0]; exact ho2.1, .inr ⟨g2, cap2, cur2, by rw [e0]; exact hv2, Nat.le_trans hbase hb2, hgg, by rw [e0]; exact r1, r2, r3, by rw [e0]; exact r4⟩⟩, Kd.reps_append (hr.imp_ (fun _ _ hx => step hx (fun _ hk => hk.1))) (hnM.imp_ (fun _ _ hx => step hx (fun k hk => (hokp k hk).1)))⟩⟩⟩
      rw [hob] at hk
      injection hk with hk
      subst hk
      exact hfresh _ hb2
/-- The same at a plain region's list. -/
theorem wpList_append_RC {ops : Array Oper} {rest : List Oper} {o : Oper} {a : Act} {Q : Exit → Act → World → Prop} (hgd : o.guard = none) (d : Kd α) {Rr : α → List Value → Prop} {W : World} (base : Nat) (s x : Operand) (t t2 e e2 : TypeId) (z : Value) (bytes : Nat)
    (ho : o.op = .call { callee := .builtin .append, args := #[s, x], argTypes := #[t, t2] })
    (ht : P.underlying t = some (.slice e)) (ht2 : P.underlying t2 = some (.slice e2)) (hinfo : (P.info? e).map (fun i => (i.zero, i.size, i.bytes)) = some (some z, d.sz, bytes)) (hz : z.cells.size = d.sz) (hs0 : 0 < d.sz) (hb0 : 0 < bytes)
    (A : Option Addr) (n q cv : Nat) (xs ys : List α) (ad : Addr) (m c : Nat) (ok okp : Nat → Prop) (hn : n = xs.length) (hcq : cv ≤ q) (hs : a.eval s = .slice A n cv) (hx : a.eval x = .slice (some ad) m c)
    (HO : d.R e W base ok (.slice A n q) xs) (HR : ReadsRow Rr d.sz W (some ad) m ys) (hKM : ∀ x cs, Rr x cs → d.M W base okp x cs) (hokp : ∀ k, okp k → ok k ∧ some k ≠ (Value.slice A n q).ownBlock) (hfresh : ∀ k, W.heap.size ≤ k → ok k)
    (hbase : base ≤ W.heap.size) (hm0 : 0 < m) (hl : (n + m) * bytes ≤ 140737488355328)
    (h : ∀ v1 w1, W.grownBy w1 (Value.slice A n q).ownBlock → ((v1 = .slice A (n + m) cv ∧ d.R e w1 base ok (.slice A (n + m) q) (xs ++ ys)) ∨ ∃ b, v1.ownBlock = some b ∧ W.heap.size ≤ b ∧ W.grownBy w1 none ∧ d.R e w1 base ok v1 (xs ++ ys)) → wpList P ops Q rest (a.put o.dst v1) w1) :
    wpList P ops Q (o :: rest) a W := by
  obtain ⟨v1, w1, hrun, h1, h2⟩ := run_append_RC (P := P) d base t t2 o.type e e2 z bytes ht ht2 hinfo hz hs0 hb0 A n q cv xs ys ad m c ok okp hn hcq HO HR hKM hokp hfresh hbase hm0 hl
  exact Kd.event_run hgd (exec_append s x t t2 ho _ _ v1 hs hx hrun) (h v1 w1 h1 h2)
/-- A whole element is stored into a row of the call's own: a step of a region that draws its order. -/
theorem step_store_el {ops : Array Oper} {o : Oper} {a : Act} {K : Act → World → Prop} {Q : Exit → Act → World → Prop} {E : Prop} (hgd : o.guard = none) (hN : o.dst = none) (d : Kd α) {W : World} (base : Nat) (t : TypeId) (p x : Operand) (ho : o.op = .store t p x) (e : TypeId) {g n cap o' : Nat} (i : Nat) (xs : List α) (x' : α) (u : Value) (seg : List Value) (ok okp : Nat → Prop)
    (haddr : a.eval p = .pointer (some ⟨g, o', none⟩)) (hoff : o' = i * d.sz) (hx : a.eval x = u) (hu : u.cells.toList = seg) (ht : (P.info? t).map (·.size) = some seg.length) (h1 : ∀ q ∈ seg, q.oneCell' = true) (hseg : seg.length = d.sz)
    (HO : d.R e W base ok (.slice (some ⟨g, 0, none⟩) n cap) xs) (hi : i < n) (hM : d.M W base okp x' seg) (hokp : ∀ k, okp k → ok k ∧ k ≠ g)
    (h : ∀ w1, d.R e w1 base ok (.slice (some ⟨g, 0, none⟩) n cap) (xs.set i x') → W.grownBy w1 (some g) → K a w1) :
    if Region.wanted o (yielded ops a.tmps) = true then Oper.wp P o a W K Q else E := by
  have hw : Region.wanted o (yielded ops a.tmps) = true := by simp [Region.wanted, hgd]
  rw [if_pos hw]
  subst hoff
  obtain ⟨c, hcl, _, hcc, _⟩ := Kd.R_elem HO x' (i : Int) (by omega) (by omega)
  obtain ⟨hrow, hg⟩ := Kd.R_seg HO (i : Int) (by omega) (by omega) (seg := seg) (j := 0) hcl hcc (by omega) (x' := x') (okp := okp) (by rw [List.take_zero, List.nil_append, Nat.zero_add, hseg, ← hcl, List.drop_length, List.append_nil]; exact hM) hokp
  rw [Int.toNat_natCast, Nat.add_zero] at hrow hg
  have hnx : n = xs.length := (Kd.R_reads' HO).1
  obtain ⟨_, inner, hown, hr⟩ := HO
  have hrun : (Instr.storeAt t (.pointer (some ⟨g, i * d.sz, none⟩)) u).run P W = .ok () (W.setCells g (i * d.sz) seg) := by
    rcases hown.2 with ⟨hv, _⟩ | ⟨g', cap', cur, hv, hb, hh, hnc, hcm, hcs, _⟩
    · cases hv
    injection hv with ha _ hc
    injection ha with ha
    injection ha with hg'
    subst hg'; subst hc
    refine run_store_run t u seg hh hu ht ?_ h1
    have h2 : i * d.sz + d.sz ≤ n * d.sz := by rw [← Nat.succ_mul]; exact Nat.mul_le_mul_right _ hi
    have h3 : n * d.sz ≤ cap * d.sz := Nat.mul_le_mul_right _ (by omega)
    omega
  unfold Oper.wp execOp
  simp only [ho, haddr, hx, Sem.run_bind, Sem.run_pure, Result.andThen_ok, hrun]
  show K (a.put o.dst undef) _
  rw [hN]
  exact h _ hrow hg
end
end Go.Proofs.YtbdecnagdnancaaGreatDoor
