
/- Several texts as one: BkA, BkB, BkC, BkD, BkE, BkF, BkG. -/
import Derived.Test.YtdecijmncpbheaaGreatDoorMQ
import Derived.ArgAppend
import Derived.Test.YtdecijmncpbheaaGreatDoorME
import Derived.Test.YtdecijmncpbheaaGreatDoorMT
import Derived.Deep.Cut

namespace Go.Proofs.YtdecijmncpbheaaGreatDoor
open Go.RowKit Go.Proofs.YtdecijmncpbheaaGreatDoorW.PrintWords Go.Proofs.YtdecijmncpbheaaGreatDoorW.PrintLast Go.Proofs.YtdecijmncpbheaaGreatDoorW.PrintMore
set_option linter.unusedVariables false
set_option linter.unusedSimpArgs false
section
variable {P : Program} {α : Type}
/-- append onto a row of the call's own: into its own block, or into a new one, and then nothing old has changed. -/
theorem run_append_two (d : Kd α) {Rr : α → List Value → Prop} {W : World} (base : Nat) (t t2 ty e e2 : TypeId) (z : Value) (bytes : Nat)
    (ht : P.underlying t = some (.slice e)) (ht2 : P.underlying t2 = some (.slice e2)) (hinfo : (P.info? e).map (fun i => (i.zero, i.size, i.bytes)) = some (some z, d.sz, bytes)) (hz : z.cells.size = d.sz) (hs0 : 0 < d.sz) (hb0 : 0 < bytes)
    (v : Value) (xs ys : List α) (ad : Addr) (m c : Nat) (ok okp : Nat → Prop)
    (HO : d.R e W base ok v xs) (HR : ReadsRow Rr d.sz W (some ad) m ys) (hKM : ∀ x cs, Rr x cs → d.M W base okp x cs) (hokp : ∀ k, okp k → ok k ∧ some k ≠ v.ownBlock) (hfresh : ∀ k, W.heap.size ≤ k → ok k)
    (hbase : base ≤ W.heap.size) (hm0 : 0 < m) (hl : (xs.length + m) * bytes ≤ 140737488355328) :
    ∃ v1 w1, (Builtin.append_ #[t, t2] ty #[v, .slice (some ad) m c]).run P W = .ok v1 w1 ∧ d.R e w1 base ok v1 (xs ++ ys) ∧ W.grownBy w1 v.ownBlock ∧ ((∃ A q, v = .slice A xs.length q ∧ v1 = .slice A (xs.length + m) q) ∨ ∃ b, v1.ownBlock = some b ∧ W.heap.size ≤ b ∧ W.grownBy w1 none) := by
  obtain ⟨v1, w1, hrun, hR, hg, hat⟩ := run_append_R (P := P) d base t t2 ty e e2 z bytes ht ht2 hinfo hz hs0 hb0 v xs ys (some ad) m c ok okp HO HR hKM hokp hfresh hbase hl
  refine ⟨v1, w1, hrun, hR, hg, ?_⟩
  obtain ⟨i0, hi, hzz⟩ := Option.map_eq_some_iff.1 hinfo
  simp only [Prod.mk.injEq] at hzz
  obtain ⟨hz0, hz1, hz2⟩ := hzz
  obtain ⟨Av, cv, rfl⟩ := Kd.R_slice HO
  have hm : ys.length = m := HR.1
  have hlen : xs.length + m ≤ 140737488355328 := Nat.le_trans (Nat.le_mul_of_pos_right _ hb0) hl
  obtain ⟨news, hnr, hnc⟩ := ReadsRow.inner_ HR
  have hnM : Reps (d.M W base okp) d.sz ys news := hnr.imp_ (fun p c hp => hKM p c hp)
  have hone : ∀ u ∈ news, u.oneCell' = true := by
    intro u hu
    obtain ⟨q, hq, rfl⟩ := List.mem_iff_getElem.1 hu
    have hql : q / d.sz < ys.length := by
      rw [Nat.div_lt_iff_lt_mul hs0, ← hnM.1]
      exact hq
    have hc := hnM.2 (q / d.sz) _ (List.getElem?_eq_getElem hql)
    refine d.K_one (d.K_of_M hc) _ ?_
    rw [List.mem_iff_getElem?]
    refine ⟨q % d.sz, ?_⟩
    rw [List.getElem?_take, if_pos (Nat.mod_lt _ hs0), List.getElem?_drop, Nat.mul_comm, Nat.div_add_mod, List.getElem?_eq_getElem hq]
  have hnl : news.length = m * d.sz := by rw [hnM.1, hm]
  obtain ⟨hok, inner, hown, hr⟩ := HO
  rw [append_types t t2 ty e e2 i0 ht ht2 hi] at hrun
  rcases hown.2 with ⟨hn0, hn⟩ | ⟨g, cap, cur, hn0, hbg, hgc, hnc', hcm, hcs, htake⟩
  · injection hn0 with h1 h2 h3
    subst h1
    rcases hat with hat | ⟨b, hb, hle⟩
    · obtain ⟨g', cap', hv', _⟩ := Kd.R_form hR (by rw [List.length_append]; omega)
      rw [hv'] at hat
      cases hat
    · exact .inr ⟨b, hb, hle, hg⟩
  · injection hn0 with h1 h2 h3
    subst h1 h3
    by_cases hroom : xs.length + m ≤ cv
    · have hfit : xs.length * d.sz + news.length ≤ cur.size := by rw [hnl, hcs, ← Nat.add_mul]; exact Nat.mul_le_mul_right _ hroom
      have h := run_append_room_cells (P := P) W t ty e i0 ht hi g 0 xs.length cv ad m c news (by rw [hnl, hz1]) hnc hone hroom
        (fun j hj => by rw [blk_cell hgc, hz1, Array.getElem?_eq_getElem (by omega)]; rfl) (fun j _ => blk_frozen hgc _)
      rw [hrun] at h
      injection h with h1 h2
      exact .inl ⟨_, _, rfl, h1⟩
    · obtain ⟨v2, w2, h, ho2, hg2⟩ := run_append_arg_grows (P := P) W t ty e i0 z d.sz bytes ht hi hz0 hz1 hz2 hz hs0 ⟨g, 0, none⟩ xs.length cv inner hown.1 (hown.cells (g := g) rfl) ad m c news hnl hnc (by omega) (by simp only [maxLen]; omega) hl
      rw [hrun] at h
      injection h with h1 h2
      subst h1 h2
      obtain ⟨g2, cap2, rfl, hge, hlt⟩ : ∃ g cap, v1 = .slice (some ⟨g, 0, none⟩) (xs.length + m) cap ∧ W.heap.size ≤ g ∧ g < w1.heap.size := by
        rcases ho2.2 with ⟨_, h0⟩ | ⟨g, cap, cur, hv, hb, hg, _⟩
        · omega
        · exact ⟨g, cap, hv, hb, blk_lt hg⟩
      exact .inr ⟨g2, rfl, hge, hg2⟩
/-- append onto a row of the call's own that is read through a slice of less capacity: in its own block, or in a new one, and then nothing old has changed. -/
theorem run_append_RC (d : Kd α) {Rr : α → List Value → Prop} {W : World} (base : Nat) (t t2 ty e e2 : TypeId) (z : Value) (bytes : Nat)
    (ht : P.underlying t = some (.slice e)) (ht2 : P.underlying t2 = some (.slice e2)) (hinfo : (P.info? e).map (fun i => (i.zero, i.size, i.bytes)) = some (some z, d.sz, bytes)) (hz : z.cells.size = d.sz) (hs0 : 0 < d.sz) (hb0 : 0 < bytes)
    (A : Option Addr) (n q cv : Nat) (xs ys : List α) (ad : Addr) (m c : Nat) (ok okp : Nat → Prop) (hn : n = xs.length) (hcq : cv ≤ q)
    (HO : d.R e W base ok (.slice A n q) xs) (HR : ReadsRow Rr d.sz W (some ad) m ys) (hKM : ∀ x cs, Rr x cs → d.M W base okp x cs) (hokp : ∀ k, okp k → ok k ∧ some k ≠ (Value.slice A n q).ownBlock) (hfresh : ∀ k, W.heap.size ≤ k → ok k)
    (hbase : base ≤ W.heap.size) (hm0 : 0 < m) (hl : (n + m) * bytes ≤ 140737488355328) :
    ∃ v1 w1, (Builtin.append_ #[t, t2] ty #[.slice A n cv, .slice (some ad) m c]).run P W = .ok v1 w1 ∧ W.grownBy w1 (Value.slice A n q).ownBlock ∧ ((v1 = .slice A (n + m) cv ∧ d.R e w1 base ok (.slice A (n + m) q) (xs ++ ys)) ∨ ∃ b, v1.ownBlock = some b ∧ W.heap.size ≤ b ∧ W.grownBy w1 none ∧ d.R e w1 base ok v1 (xs ++ ys)) := by
  subst hn
  obtain ⟨v1, w1, hrun, hR, hg, hat⟩ := run_append_two (P := P) d base t t2 ty e e2 z bytes ht ht2 hinfo hz hs0 hb0 (.slice A xs.length q) xs ys ad m c ok okp HO HR hKM hokp hfresh hbase hm0 hl
  obtain ⟨i0, hi, hzz⟩ := Option.map_eq_some_iff.1 hinfo
  simp only [Prod.mk.injEq] at hzz
  obtain ⟨hz0, hz1, hz2⟩ := hzz
  have hm : ys.length = m := HR.1
  have hlen : xs.length + m ≤ 140737488355328 := Nat.le_trans (Nat.le_mul_of_pos_right _ hb0) hl
  obtain ⟨news, hnr, hnc⟩ := ReadsRow.inner_ HR
  have hnM : Reps (d.M W base okp) d.sz ys news := hnr.imp_ (fun p c hp => hKM p c hp)
  have hone : ∀ u ∈ news, u.oneCell' = true := by
    intro u hu
    obtain ⟨p, hp, rfl⟩ := List.mem_iff_getElem.1 hu
    have hql : p / d.sz < ys.length := by
      rw [Nat.div_lt_iff_lt_mul hs0, ← hnM.1]
      exact hp
    have hc := hnM.2 (p / d.sz) _ (List.getElem?_eq_getElem hql)
    refine d.K_one (d.K_of_M hc) _ ?_
    rw [List.mem_iff_getElem?]
    refine ⟨p % d.sz, ?_⟩
    rw [List.getElem?_take, if_pos (Nat.mod_lt _ hs0), List.getElem?_drop, Nat.mul_comm, Nat.div_add_mod, List.getElem?_eq_getElem hp]
  have hnl : news.length = m * d.sz := by rw [hnM.1, hm]
  rw [append_types t t2 ty e e2 i0 ht ht2 hi] at hrun
  rw [append_types t t2 ty e e2 i0 ht ht2 hi]
  have HO' := HO
  obtain ⟨hok, inner, hown, hr⟩ := HO'
  rcases hown.2 with ⟨hn0, hn⟩ | ⟨g, cap, cur, hn0, hbg, hgc, hnc', hcm, hcs, htake⟩
  · injection hn0 with h1 h2 h3
    subst h1 h3
    obtain rfl : cv = 0 := by omega
    refine ⟨v1, w1, hrun, hg, ?_⟩
    rcases hat with ⟨A', q', he, hv⟩ | ⟨b, hb, hle, hg0⟩
    · injection he with e1 e2 e3
      subst e1
      obtain ⟨g, cap, hgv, _⟩ := Kd.R_form hR (by rw [List.length_append]; omega)
      rw [hv] at hgv
      injection hgv with e4
      cases e4
    · exact .inr ⟨b, hb, hle, hg0, hR⟩
  · injection hn0 with h1 h2 h3
    subst h1 h3
    by_cases hroom : xs.length + m ≤ cv
    · have hcell : ∀ j, j < news.length → (W.cell? ⟨g, 0 + xs.length * i0.size + j, none⟩).isSome = true := fun j hj => by
        have hfit : xs.length * d.sz + news.length ≤ cur.size := by rw [hnl, hcs, ← Nat.add_mul]; exact Nat.mul_le_mul_right _ (Nat.le_trans hroom hcq)
        rw [blk_cell hgc, hz1, Array.getElem?_eq_getElem (by omega)]; rfl
      have hq := run_append_room_cells (P := P) W t ty e i0 ht hi g 0 xs.length q ad m c news (by rw [hnl, hz1]) hnc hone (Nat.le_trans hroom hcq) hcell (fun j _ => blk_frozen hgc _)
      have hc := run_append_room_cells (P := P) W t ty e i0 ht hi g 0 xs.length cv ad m c news (by rw [hnl, hz1]) hnc hone hroom hcell (fun j _ => blk_frozen hgc _)
      rw [hrun] at hq
      injection hq with e1 e2
      subst e1
      rw [← e2] at hc
      exact ⟨_, w1, hc, hg, .inl ⟨rfl, hR⟩⟩
    · obtain ⟨v2, w2, h, ho2, hg2⟩ := run_append_arg_grows (P := P) W t ty e i0 z d.sz bytes ht hi hz0 hz1 hz2 hz hs0 ⟨g, 0, none⟩ xs.length cv inner hown.1 (hown.cells (g := g) rfl) ad m c news hnl hnc (by omega) (by simp only [maxLen]; omega) hl
      rcases ho2.2 with ⟨_, h0⟩ | ⟨g2, cap2, cur2, hv2, hb2, hgg, r1, r2, r3, r4⟩
      · omega
      have e0 : (xs ++ ys).length = xs.length + m := by rw [List.length_append, hm]
      have hob : v2.ownBlock = some g2 := by rw [hv2]; rfl
      have step : ∀ {x : α} {cs : List Value} {o : Nat → Prop}, d.M W base o x cs → (∀ k, o k → ok k) → d.M w2 base (fun k => ok k ∧ some k ≠ v2.ownBlock) x cs := by
        intro x cs o hx ho
        have h1 := d.M_move (w1 := w2) (fun k hk => hg2.block k hk.2.2.1 (fun h => by cases h)) (d.M_bound hx)
        refine d.M_mono (fun k hk => ⟨ho k hk.1, ?_⟩) h1
        rw [hob]
        intro he
        injection he with he
        have := hk.2.2.1
        omega
      refine ⟨v2, w2, h, ⟨hg2.os, hg2.tape, hg2.output, hg2.size, fun k hk _ => hg2.block k hk (fun h => by cases h)⟩, .inr ⟨g2, hob, hb2, hg2, ⟨fun k hk => ?_, inner ++ news, ⟨by rw [e0]; exact ho2.1, .inr ⟨g2, cap2, cur2, by rw [e0]; exact hv2, Nat.le_trans hbase hb2, hgg, by rw [e0]; exact r1, r2, r3, by rw [e0]; exact r4⟩⟩, Kd.reps_append (hr.imp_ (fun _ _ hx => step hx (fun _ hk => hk.1))) (hnM.imp_ (fun _ _ hx => step hx (fun k hk => (hokp k hk).1)))⟩⟩⟩
      rw [hob] at hk
      injection hk with hk
      subst hk
      exact hfresh _ hb2
/-- The same at a plain region's list. -/
theorem wpList_append_RC {ops : Array Oper} {rest : List Oper} {o : Oper} {a : Act} {Q : Exit → Act → World → Prop} (hgd : o.guard = none) (d : Kd α) {Rr : α → List Value → Prop} {W : World} (base : Nat) (s x : Operand) (t t2 e e2 : TypeId) (z : Value) (bytes : Nat)
    (ho : o.op = .call { callee := .builtin .append, args := #[s, x], argTypes := #[t, t2] })
    (ht : P.underlying t = some (.slice e)) (ht2 : P.underlying t2 = some (.slice e2)) (hinfo : (P.info? e).map (fun i => (i.zero, i.size, i.bytes)) = some (some z, d.sz, bytes)) (hz : z.cells.size = d.sz) (hs0 : 0 < d.sz) (hb0 : 0 < bytes)
    (A : Option Addr) (n q cv : Nat) (xs ys : List α) (ad : Addr) (m c : Nat) (ok okp : Nat → Prop) (hn : n = xs.length) (hcq : cv ≤ q) (hs : a.eval s = .slice A n cv) (hx : a.eval x = .slice (some ad) m c)
    (HO : d.R e W base ok (.slice A n q) xs) (HR : ReadsRow Rr d.sz W (some ad) m ys) (hKM : ∀ x cs, Rr x cs → d.M W base okp x cs) (hokp : ∀ k, okp k → ok k ∧ some k ≠ (Value.slice A n q).ownBlock) (hfresh : ∀ k, W.heap.size ≤ k → ok k)
    (hbase : base ≤ W.heap.size) (hm0 : 0 < m) (hl : (n + m) * bytes ≤ 140737488355328)
    (h : ∀ v1 w1, W.grownBy w1 (Value.slice A n q).ownBlock → ((v1 = .slice A (n + m) cv ∧ d.R e w1 base ok (.slice A (n + m) q) (xs ++ ys)) ∨ ∃ b, v1.ownBlock = some b ∧ W.heap.size ≤ b ∧ W.grownBy w1 none ∧ d.R e w1 base ok v1 (xs ++ ys)) → wpList P ops Q rest (a.put o.dst v1) w1) :
    wpList P ops Q (o :: rest) a W := by
  obtain ⟨v1, w1, hrun, h1, h2⟩ := run_append_RC (P := P) d base t t2 o.type e e2 z bytes ht ht2 hinfo hz hs0 hb0 A n q cv xs ys ad m c ok okp hn hcq HO HR hKM hokp hfresh hbase hm0 hl
  exact Kd.event_run hgd (exec_append s x t t2 ho _ _ v1 hs hx hrun) (h v1 w1 h1 h2)
/-- A whole element is stored into a row of the call's own: a step of a region that draws its order. -/
theorem step_store_el {ops : Array Oper} {o : Oper} {a : Act} {K : Act → World → Prop} {Q : Exit → Act → World → Prop} {E : Prop} (hgd : o.guard = none) (hN : o.dst = none) (d : Kd α) {W : World} (base : Nat) (t : TypeId) (p x : Operand) (ho : o.op = .store t p x) (e : TypeId) {g n cap o' : Nat} (i : Nat) (xs : List α) (x' : α) (u : Value) (seg : List Value) (ok okp : Nat → Prop)
    (haddr : a.eval p = .pointer (some ⟨g, o', none⟩)) (hoff : o' = i * d.sz) (hx : a.eval x = u) (hu : u.cells.toList = seg) (ht : (P.info? t).map (·.size) = some seg.length) (h1 : ∀ q ∈ seg, q.oneCell' = true) (hseg : seg.length = d.sz)
    (HO : d.R e W base ok (.slice (some ⟨g, 0, none⟩) n cap) xs) (hi : i < n) (hM : d.M W base okp x' seg) (hokp : ∀ k, okp k → ok k ∧ k ≠ g)
    (h : ∀ w1, d.R e w1 base ok (.slice (some ⟨g, 0, none⟩) n cap) (xs.set i x') → W.grownBy w1 (some g) → K a w1) :
    if Region.wanted o (yielded ops a.tmps) = true then Oper.wp P o a W K Q else E := by
  have hw : Region.wanted o (yielded ops a.tmps) = true := by simp [Region.wanted, hgd]
  rw [if_pos hw]
  subst hoff
  obtain ⟨c, hcl, _, hcc, _⟩ := Kd.R_elem HO x' (i : Int) (by omega) (by omega)
  obtain ⟨hrow, hg⟩ := Kd.R_seg HO (i : Int) (by omega) (by omega) (seg := seg) (j := 0) hcl hcc (by omega) (x' := x') (okp := okp) (by rw [List.take_zero, List.nil_append, Nat.zero_add, hseg, ← hcl, List.drop_length, List.append_nil]; exact hM) hokp
  rw [Int.toNat_natCast, Nat.add_zero] at hrow hg
  have hnx : n = xs.length := (Kd.R_reads' HO).1
  obtain ⟨_, inner, hown, hr⟩ := HO
  have hrun : (Instr.storeAt t (.pointer (some ⟨g, i * d.sz, none⟩)) u).run P W = .ok () (W.setCells g (i * d.sz) seg) := by
    rcases hown.2 with ⟨hv, _⟩ | ⟨g', cap', cur, hv, hb, hh, hnc, hcm, hcs, _⟩
    · cases hv
    injection hv with ha _ hc
    injection ha with ha
    injection ha with hg'
    subst hg'; subst hc
    refine run_store_run t u seg hh hu ht ?_ h1
    have h2 : i * d.sz + d.sz ≤ n * d.sz := by rw [← Nat.succ_mul]; exact Nat.mul_le_mul_right _ hi
    have h3 : n * d.sz ≤ cap * d.sz := Nat.mul_le_mul_right _ (by omega)
    omega
  unfold Oper.wp execOp
  simp only [ho, haddr, hx, Sem.run_bind, Sem.run_pure, Result.andThen_ok, hrun]
  show K (a.put o.dst undef) _
  rw [hN]
  exact h _ hrow hg
end
end Go.Proofs.YtdecijmncpbheaaGreatDoor

namespace Go.Proofs.YtdecijmncpbheaaGreatDoor
open Go.RowKit Go.Proofs.YtdecijmncpbheaaGreatDoorW.PrintWords Go.Proofs.YtdecijmncpbheaaGreatDoorW.PrintLast Go.Proofs.YtdecijmncpbheaaGreatDoorW.PrintMore
set_option linter.unusedVariables false
set_option linter.unusedSimpArgs false
namespace Bk
theorem fill0_Byte (w : World) (b : Nat) (h : w.cell? ⟨b, 1, none⟩ = some (.slice none 0 0)) : Calls Tryz.prog 52 #[.pointer (some ⟨b, 0, none⟩)] w fun e w' => e = .returned (.tuple #[]) ∧ w' = w := by
  go_enter Tryz.func52, Tryz.ntmps52
  go_wp2
  go_loopg [2] 1 (fun gk x W => x = .int .i64 0 ∧ W = w)
  case atStart => exact ⟨rfl, rfl⟩
  case round =>
    obtain ⟨rfl, rfl⟩ := hrel
    go_wp2
    go_end0
    exact ⟨rfl, rfl⟩
theorem grow0_Byte (w : World) (b : Nat) (h : w.cell? ⟨b, 1, none⟩ = some (.slice none 0 0)) : Calls Tryz.prog 67 #[.pointer (some ⟨b, 0, none⟩)] w fun e w' => e = .returned (.tuple #[]) ∧ w' = w := by
  go_enter Tryz.func67, Tryz.ntmps67
  go_wp2
  go_loopg [2] 1 (fun gk x W => x = .int .i64 0 ∧ W = w)
  case atStart => exact ⟨rfl, rfl⟩
  case round =>
    obtain ⟨rfl, rfl⟩ := hrel
    go_wp2
    go_end0
    exact ⟨rfl, rfl⟩
theorem look0_Byte (w : World) (b : Nat) (h : w.cell? ⟨b, 1, none⟩ = some (.slice none 0 0)) : Calls Tryz.prog 82 #[.pointer (some ⟨b, 0, none⟩)] w fun e w' => e = .returned (.bool true) ∧ w' = w := by
  go_enter Tryz.func82, Tryz.ntmps82
  go_wp2
  go_loopg [3] 1 (fun gk x W => x = .int .i64 0 ∧ W = w)
  case atStart => exact ⟨rfl, rfl⟩
  case round =>
    obtain ⟨rfl, rfl⟩ := hrel
    go_wp2
    go_ret
    exact ⟨rfl, rfl⟩
theorem fill0_Int (w : World) (b : Nat) (h : w.cell? ⟨b, 2, none⟩ = some (.slice none 0 0)) : Calls Tryz.prog 53 #[.pointer (some ⟨b, 0, none⟩)] w fun e w' => e = .returned (.tuple #[]) ∧ w' = w := by
  go_enter Tryz.func53, Tryz.ntmps53
  go_wp2
  go_loopg [2] 1 (fun gk x W => x = .int .i64 0 ∧ W = w)
  case atStart => exact ⟨rfl, rfl⟩
  case round =>
    obtain ⟨rfl, rfl⟩ := hrel
    go_wp2
    go_end0
    exact ⟨rfl, rfl⟩
theorem grow0_Int (w : World) (b : Nat) (h : w.cell? ⟨b, 2, none⟩ = some (.slice none 0 0)) : Calls Tryz.prog 68 #[.pointer (some ⟨b, 0, none⟩)] w fun e w' => e = .returned (.tuple #[]) ∧ w' = w := by
  go_enter Tryz.func68, Tryz.ntmps68
  go_wp2
  go_loopg [2] 1 (fun gk x W => x = .int .i64 0 ∧ W = w)
  case atStart => exact ⟨rfl, rfl⟩
  case round =>
    obtain ⟨rfl, rfl⟩ := hrel
    go_wp2
    go_end0
    exact ⟨rfl, rfl⟩
theorem look0_Int (w : World) (b : Nat) (h : w.cell? ⟨b, 2, none⟩ = some (.slice none 0 0)) : Calls Tryz.prog 83 #[.pointer (some ⟨b, 0, none⟩)] w fun e w' => e = .returned (.bool true) ∧ w' = w := by
  go_enter Tryz.func83, Tryz.ntmps83
  go_wp2
  go_loopg [3] 1 (fun gk x W => x = .int .i64 0 ∧ W = w)
  case atStart => exact ⟨rfl, rfl⟩
  case round =>
    obtain ⟨rfl, rfl⟩ := hrel
    go_wp2
    go_ret
    exact ⟨rfl, rfl⟩
theorem fill0_Text (w : World) (b : Nat) (h : w.cell? ⟨b, 3, none⟩ = some (.slice none 0 0)) : Calls Tryz.prog 54 #[.pointer (some ⟨b, 0, none⟩)] w fun e w' => e = .returned (.tuple #[]) ∧ w' = w := by
  go_enter Tryz.func54, Tryz.ntmps54
  go_wp2
  go_loopg [2] 1 (fun gk x W => x = .int .i64 0 ∧ W = w)
  case atStart => exact ⟨rfl, rfl⟩
  case round =>
    obtain ⟨rfl, rfl⟩ := hrel
    go_wp2
    go_end0
    exact ⟨rfl, rfl⟩
theorem grow0_Text (w : World) (b : Nat) (h : w.cell? ⟨b, 3, none⟩ = some (.slice none 0 0)) : Calls Tryz.prog 69 #[.pointer (some ⟨b, 0, none⟩)] w fun e w' => e = .returned (.tuple #[]) ∧ w' = w := by
  go_enter Tryz.func69, Tryz.ntmps69
  go_wp2
  go_loopg [2] 1 (fun gk x W => x = .int .i64 0 ∧ W = w)
  case atStart => exact ⟨rfl, rfl⟩
  case round =>
    obtain ⟨rfl, rfl⟩ := hrel
    go_wp2
    go_end0
    exact ⟨rfl, rfl⟩
theorem look0_Text (w : World) (b : Nat) (h : w.cell? ⟨b, 3, none⟩ = some (.slice none 0 0)) : Calls Tryz.prog 84 #[.pointer (some ⟨b, 0, none⟩)] w fun e w' => e = .returned (.bool true) ∧ w' = w := by
  go_enter Tryz.func84, Tryz.ntmps84
  go_wp2
  go_loopg [3] 1 (fun gk x W => x = .int .i64 0 ∧ W = w)
  case atStart => exact ⟨rfl, rfl⟩
  case round =>
    obtain ⟨rfl, rfl⟩ := hrel
    go_wp2
    go_ret
    exact ⟨rfl, rfl⟩
theorem fill0_Bool (w : World) (b : Nat) (h : w.cell? ⟨b, 5, none⟩ = some (.slice none 0 0)) : Calls Tryz.prog 56 #[.pointer (some ⟨b, 0, none⟩)] w fun e w' => e = .returned (.tuple #[]) ∧ w' = w := by
  go_enter Tryz.func56, Tryz.ntmps56
  go_wp2
  go_loopg [2] 1 (fun gk x W => x = .int .i64 0 ∧ W = w)
  case atStart => exact ⟨rfl, rfl⟩
  case round =>
    obtain ⟨rfl, rfl⟩ := hrel
    go_wp2
    go_end0
    exact ⟨rfl, rfl⟩
theorem grow0_Bool (w : World) (b : Nat) (h : w.cell? ⟨b, 5, none⟩ = some (.slice none 0 0)) : Calls Tryz.prog 71 #[.pointer (some ⟨b, 0, none⟩)] w fun e w' => e = .returned (.tuple #[]) ∧ w' = w := by
  go_enter Tryz.func71, Tryz.ntmps71
  go_wp2
  go_loopg [2] 1 (fun gk x W => x = .int .i64 0 ∧ W = w)
  case atStart => exact ⟨rfl, rfl⟩
  case round =>
    obtain ⟨rfl, rfl⟩ := hrel
    go_wp2
    go_end0
    exact ⟨rfl, rfl⟩
theorem look0_Bool (w : World) (b : Nat) (h : w.cell? ⟨b, 5, none⟩ = some (.slice none 0 0)) : Calls Tryz.prog 86 #[.pointer (some ⟨b, 0, none⟩)] w fun e w' => e = .returned (.bool true) ∧ w' = w := by
  go_enter Tryz.func86, Tryz.ntmps86
  go_wp2
  go_loopg [3] 1 (fun gk x W => x = .int .i64 0 ∧ W = w)
  case atStart => exact ⟨rfl, rfl⟩
  case round =>
    obtain ⟨rfl, rfl⟩ := hrel
    go_wp2
    go_ret
    exact ⟨rfl, rfl⟩
theorem fill0_BoolList (w : World) (b : Nat) (h : w.cell? ⟨b, 6, none⟩ = some (.slice none 0 0)) : Calls Tryz.prog 57 #[.pointer (some ⟨b, 0, none⟩)] w fun e w' => e = .returned (.tuple #[]) ∧ w' = w := by
  go_enter Tryz.func57, Tryz.ntmps57
  go_wp2
  go_loopg [2] 1 (fun gk x W => x = .int .i64 0 ∧ W = w)
  case atStart => exact ⟨rfl, rfl⟩
  case round =>
    obtain ⟨rfl, rfl⟩ := hrel
    go_wp2
    go_end0
    exact ⟨rfl, rfl⟩
theorem grow0_BoolList (w : World) (b : Nat) (h : w.cell? ⟨b, 6, none⟩ = some (.slice none 0 0)) : Calls Tryz.prog 72 #[.pointer (some ⟨b, 0, none⟩)] w fun e w' => e = .returned (.tuple #[]) ∧ w' = w := by
  go_enter Tryz.func72, Tryz.ntmps72
  go_wp2
  go_loopg [2] 1 (fun gk x W => x = .int .i64 0 ∧ W = w)
  case atStart => exact ⟨rfl, rfl⟩
  case round =>
    obtain ⟨rfl, rfl⟩ := hrel
    go_wp2
    go_end0
    exact ⟨rfl, rfl⟩
theorem look0_BoolList (w : World) (b : Nat) (h : w.cell? ⟨b, 6, none⟩ = some (.slice none 0 0)) : Calls Tryz.prog 87 #[.pointer (some ⟨b, 0, none⟩)] w fun e w' => e = .returned (.bool true) ∧ w' = w := by
  go_enter Tryz.func87, Tryz.ntmps87
  go_wp2
  go_loopg [3] 1 (fun gk x W => x = .int .i64 0 ∧ W = w)
  case atStart => exact ⟨rfl, rfl⟩
  case round =>
    obtain ⟨rfl, rfl⟩ := hrel
    go_wp2
    go_ret
    exact ⟨rfl, rfl⟩
theorem fill0_Pair (w : World) (b : Nat) (h : w.cell? ⟨b, 7, none⟩ = some (.slice none 0 0)) : Calls Tryz.prog 58 #[.pointer (some ⟨b, 0, none⟩)] w fun e w' => e = .returned (.tuple #[]) ∧ w' = w := by
  go_enter Tryz.func58, Tryz.ntmps58
  go_wp2
  go_loopg [2] 1 (fun gk x W => x = .int .i64 0 ∧ W = w)
  case atStart => exact ⟨rfl, rfl⟩
  case round =>
    obtain ⟨rfl, rfl⟩ := hrel
    go_wp2
    go_end0
    exact ⟨rfl, rfl⟩
theorem grow0_Pair (w : World) (b : Nat) (h : w.cell? ⟨b, 7, none⟩ = some (.slice none 0 0)) : Calls Tryz.prog 73 #[.pointer (some ⟨b, 0, none⟩)] w fun e w' => e = .returned (.tuple #[]) ∧ w' = w := by
  go_enter Tryz.func73, Tryz.ntmps73
  go_wp2
  go_loopg [2] 1 (fun gk x W => x = .int .i64 0 ∧ W = w)
  case atStart => exact ⟨rfl, rfl⟩
  case round =>
    obtain ⟨rfl, rfl⟩ := hrel
    go_wp2
    go_end0
    exact ⟨rfl, rfl⟩
theorem look0_Pair (w : World) (b : Nat) (h : w.cell? ⟨b, 7, none⟩ = some (.slice none 0 0)) : Calls Tryz.prog 88 #[.pointer (some ⟨b, 0, none⟩)] w fun e w' => e = .returned (.bool true) ∧ w' = w := by
  go_enter Tryz.func88, Tryz.ntmps88
  go_wp2
  go_loopg [3] 1 (fun gk x W => x = .int .i64 0 ∧ W = w)
  case atStart => exact ⟨rfl, rfl⟩
  case round =>
    obtain ⟨rfl, rfl⟩ := hrel
    go_wp2
    go_ret
    exact ⟨rfl, rfl⟩
theorem fill0_Term (w : World) (b : Nat) (h : w.cell? ⟨b, 10, none⟩ = some (.slice none 0 0)) : Calls Tryz.prog 61 #[.pointer (some ⟨b, 0, none⟩)] w fun e w' => e = .returned (.tuple #[]) ∧ w' = w := by
  go_enter Tryz.func61, Tryz.ntmps61
  go_wp2
  go_loopg [2] 1 (fun gk x W => x = .int .i64 0 ∧ W = w)
  case atStart => exact ⟨rfl, rfl⟩
  case round =>
    obtain ⟨rfl, rfl⟩ := hrel
    go_wp2
    go_end0
    exact ⟨rfl, rfl⟩
theorem grow0_Term (w : World) (b : Nat) (h : w.cell? ⟨b, 10, none⟩ = some (.slice none 0 0)) : Calls Tryz.prog 76 #[.pointer (some ⟨b, 0, none⟩)] w fun e w' => e = .returned (.tuple #[]) ∧ w' = w := by
  go_enter Tryz.func76, Tryz.ntmps76
  go_wp2
  go_loopg [2] 1 (fun gk x W => x = .int .i64 0 ∧ W = w)
  case atStart => exact ⟨rfl, rfl⟩
  case round =>
    obtain ⟨rfl, rfl⟩ := hrel
    go_wp2
    go_end0
    exact ⟨rfl, rfl⟩
theorem look0_Term (w : World) (b : Nat) (h : w.cell? ⟨b, 10, none⟩ = some (.slice none 0 0)) : Calls Tryz.prog 91 #[.pointer (some ⟨b, 0, none⟩)] w fun e w' => e = .returned (.bool true) ∧ w' = w := by
  go_enter Tryz.func91, Tryz.ntmps91
  go_wp2
  go_loopg [3] 1 (fun gk x W => x = .int .i64 0 ∧ W = w)
  case atStart => exact ⟨rfl, rfl⟩
  case round =>
    obtain ⟨rfl, rfl⟩ := hrel
    go_wp2
    go_ret
    exact ⟨rfl, rfl⟩
theorem fill0_Spot (w : World) (b : Nat) (h : w.cell? ⟨b, 11, none⟩ = some (.slice none 0 0)) : Calls Tryz.prog 62 #[.pointer (some ⟨b, 0, none⟩)] w fun e w' => e = .returned (.tuple #[]) ∧ w' = w := by
  go_enter Tryz.func62, Tryz.ntmps62
  go_wp2
  go_loopg [2] 1 (fun gk x W => x = .int .i64 0 ∧ W = w)
  case atStart => exact ⟨rfl, rfl⟩
  case round =>
    obtain ⟨rfl, rfl⟩ := hrel
    go_wp2
    go_end0
    exact ⟨rfl, rfl⟩
theorem grow0_Spot (w : World) (b : Nat) (h : w.cell? ⟨b, 11, none⟩ = some (.slice none 0 0)) : Calls Tryz.prog 77 #[.pointer (some ⟨b, 0, none⟩)] w fun e w' => e = .returned (.tuple #[]) ∧ w' = w := by
  go_enter Tryz.func77, Tryz.ntmps77
  go_wp2
  go_loopg [2] 1 (fun gk x W => x = .int .i64 0 ∧ W = w)
  case atStart => exact ⟨rfl, rfl⟩
  case round =>
    obtain ⟨rfl, rfl⟩ := hrel
    go_wp2
    go_end0
    exact ⟨rfl, rfl⟩
theorem look0_Spot (w : World) (b : Nat) (h : w.cell? ⟨b, 11, none⟩ = some (.slice none 0 0)) : Calls Tryz.prog 92 #[.pointer (some ⟨b, 0, none⟩)] w fun e w' => e = .returned (.bool true) ∧ w' = w := by
  go_enter Tryz.func92, Tryz.ntmps92
  go_wp2
  go_loopg [3] 1 (fun gk x W => x = .int .i64 0 ∧ W = w)
  case atStart => exact ⟨rfl, rfl⟩
  case round =>
    obtain ⟨rfl, rfl⟩ := hrel
    go_wp2
    go_ret
    exact ⟨rfl, rfl⟩
theorem fill0_Import (w : World) (b : Nat) (h : w.cell? ⟨b, 12, none⟩ = some (.slice none 0 0)) : Calls Tryz.prog 63 #[.pointer (some ⟨b, 0, none⟩)] w fun e w' => e = .returned (.tuple #[]) ∧ w' = w := by
  go_enter Tryz.func63, Tryz.ntmps63
  go_wp2
  go_loopg [2] 1 (fun gk x W => x = .int .i64 0 ∧ W = w)
  case atStart => exact ⟨rfl, rfl⟩
  case round =>
    obtain ⟨rfl, rfl⟩ := hrel
    go_wp2
    go_end0
    exact ⟨rfl, rfl⟩
theorem grow0_Import (w : World) (b : Nat) (h : w.cell? ⟨b, 12, none⟩ = some (.slice none 0 0)) : Calls Tryz.prog 78 #[.pointer (some ⟨b, 0, none⟩)] w fun e w' => e = .returned (.tuple #[]) ∧ w' = w := by
  go_enter Tryz.func78, Tryz.ntmps78
  go_wp2
  go_loopg [2] 1 (fun gk x W => x = .int .i64 0 ∧ W = w)
  case atStart => exact ⟨rfl, rfl⟩
  case round =>
    obtain ⟨rfl, rfl⟩ := hrel
    go_wp2
    go_end0
    exact ⟨rfl, rfl⟩
theorem look0_Import (w : World) (b : Nat) (h : w.cell? ⟨b, 12, none⟩ = some (.slice none 0 0)) : Calls Tryz.prog 93 #[.pointer (some ⟨b, 0, none⟩)] w fun e w' => e = .returned (.bool true) ∧ w' = w := by
  go_enter Tryz.func93, Tryz.ntmps93
  go_wp2
  go_loopg [3] 1 (fun gk x W => x = .int .i64 0 ∧ W = w)
  case atStart => exact ⟨rfl, rfl⟩
  case round =>
    obtain ⟨rfl, rfl⟩ := hrel
    go_wp2
    go_ret
    exact ⟨rfl, rfl⟩
theorem fill0_Entry (w : World) (b : Nat) (h : w.cell? ⟨b, 13, none⟩ = some (.slice none 0 0)) : Calls Tryz.prog 64 #[.pointer (some ⟨b, 0, none⟩)] w fun e w' => e = .returned (.tuple #[]) ∧ w' = w := by
  go_enter Tryz.func64, Tryz.ntmps64
  go_wp2
  go_loopg [2] 1 (fun gk x W => x = .int .i64 0 ∧ W = w)
  case atStart => exact ⟨rfl, rfl⟩
  case round =>
    obtain ⟨rfl, rfl⟩ := hrel
    go_wp2
    go_end0
    exact ⟨rfl, rfl⟩
theorem grow0_Entry (w : World) (b : Nat) (h : w.cell? ⟨b, 13, none⟩ = some (.slice none 0 0)) : Calls Tryz.prog 79 #[.pointer (some ⟨b, 0, none⟩)] w fun e w' => e = .returned (.tuple #[]) ∧ w' = w := by
  go_enter Tryz.func79, Tryz.ntmps79
  go_wp2
  go_loopg [2] 1 (fun gk x W => x = .int .i64 0 ∧ W = w)
  case atStart => exact ⟨rfl, rfl⟩
  case round =>
    obtain ⟨rfl, rfl⟩ := hrel
    go_wp2
    go_end0
    exact ⟨rfl, rfl⟩
theorem look0_Entry (w : World) (b : Nat) (h : w.cell? ⟨b, 13, none⟩ = some (.slice none 0 0)) : Calls Tryz.prog 94 #[.pointer (some ⟨b, 0, none⟩)] w fun e w' => e = .returned (.bool true) ∧ w' = w := by
  go_enter Tryz.func94, Tryz.ntmps94
  go_wp2
  go_loopg [3] 1 (fun gk x W => x = .int .i64 0 ∧ W = w)
  case atStart => exact ⟨rfl, rfl⟩
  case round =>
    obtain ⟨rfl, rfl⟩ := hrel
    go_wp2
    go_ret
    exact ⟨rfl, rfl⟩
theorem fill0_Item (w : World) (b : Nat) (h : w.cell? ⟨b, 14, none⟩ = some (.slice none 0 0)) : Calls Tryz.prog 65 #[.pointer (some ⟨b, 0, none⟩)] w fun e w' => e = .returned (.tuple #[]) ∧ w' = w := by
  go_enter Tryz.func65, Tryz.ntmps65
  go_wp2
  go_loopg [2] 1 (fun gk x W => x = .int .i64 0 ∧ W = w)
  case atStart => exact ⟨rfl, rfl⟩
  case round =>
    obtain ⟨rfl, rfl⟩ := hrel
    go_wp2
    go_end0
    exact ⟨rfl, rfl⟩
theorem grow0_Item (w : World) (b : Nat) (h : w.cell? ⟨b, 14, none⟩ = some (.slice none 0 0)) : Calls Tryz.prog 80 #[.pointer (some ⟨b, 0, none⟩)] w fun e w' => e = .returned (.tuple #[]) ∧ w' = w := by
  go_enter Tryz.func80, Tryz.ntmps80
  go_wp2
  go_loopg [2] 1 (fun gk x W => x = .int .i64 0 ∧ W = w)
  case atStart => exact ⟨rfl, rfl⟩
  case round =>
    obtain ⟨rfl, rfl⟩ := hrel
    go_wp2
    go_end0
    exact ⟨rfl, rfl⟩
theorem look0_Item (w : World) (b : Nat) (h : w.cell? ⟨b, 14, none⟩ = some (.slice none 0 0)) : Calls Tryz.prog 95 #[.pointer (some ⟨b, 0, none⟩)] w fun e w' => e = .returned (.bool true) ∧ w' = w := by
  go_enter Tryz.func95, Tryz.ntmps95
  go_wp2
  go_loopg [3] 1 (fun gk x W => x = .int .i64 0 ∧ W = w)
  case atStart => exact ⟨rfl, rfl⟩
  case round =>
    obtain ⟨rfl, rfl⟩ := hrel
    go_wp2
    go_ret
    exact ⟨rfl, rfl⟩
theorem fill0_Word (w : World) (b : Nat) (h : w.cell? ⟨b, 15, none⟩ = some (.slice none 0 0)) : Calls Tryz.prog 66 #[.pointer (some ⟨b, 0, none⟩)] w fun e w' => e = .returned (.tuple #[]) ∧ w' = w := by
  go_enter Tryz.func66, Tryz.ntmps66
  go_wp2
  go_loopg [2] 1 (fun gk x W => x = .int .i64 0 ∧ W = w)
  case atStart => exact ⟨rfl, rfl⟩
  case round =>
    obtain ⟨rfl, rfl⟩ := hrel
    go_wp2
    go_end0
    exact ⟨rfl, rfl⟩
theorem grow0_Word (w : World) (b : Nat) (h : w.cell? ⟨b, 15, none⟩ = some (.slice none 0 0)) : Calls Tryz.prog 81 #[.pointer (some ⟨b, 0, none⟩)] w fun e w' => e = .returned (.tuple #[]) ∧ w' = w := by
  go_enter Tryz.func81, Tryz.ntmps81
  go_wp2
  go_loopg [2] 1 (fun gk x W => x = .int .i64 0 ∧ W = w)
  case atStart => exact ⟨rfl, rfl⟩
  case round =>
    obtain ⟨rfl, rfl⟩ := hrel
    go_wp2
    go_end0
    exact ⟨rfl, rfl⟩
theorem look0_Word (w : World) (b : Nat) (h : w.cell? ⟨b, 15, none⟩ = some (.slice none 0 0)) : Calls Tryz.prog 96 #[.pointer (some ⟨b, 0, none⟩)] w fun e w' => e = .returned (.bool true) ∧ w' = w := by
  go_enter Tryz.func96, Tryz.ntmps96
  go_wp2
  go_loopg [3] 1 (fun gk x W => x = .int .i64 0 ∧ W = w)
  case atStart => exact ⟨rfl, rfl⟩
  case round =>
    obtain ⟨rfl, rfl⟩ := hrel
    go_wp2
    go_ret
    exact ⟨rfl, rfl⟩
end Bk
end Go.Proofs.YtdecijmncpbheaaGreatDoor

namespace Go.Proofs.YtdecijmncpbheaaGreatDoor
open Go.RowKit Go.Proofs.YtdecijmncpbheaaGreatDoorW.PrintWords Go.Proofs.YtdecijmncpbheaaGreatDoorW.PrintLast Go.Proofs.YtdecijmncpbheaaGreatDoorW.PrintMore
set_option linter.unusedVariables false
set_option linter.unusedSimpArgs false
namespace Bk
/-- A held list: what it is, what it has grown to, its number. -/
structure Hd where
  A : Option Addr
  n : Nat
  c : Nat
  B : Option Addr
  m : Nat
  q : Nat
  k : Nat
def heldC (x : Hd) : List Value := [.slice x.A x.n x.c, .slice x.B x.m x.q, .int .i64 (x.k : Int)]
def kHeld : Kd Hd where
  sz := 3
  E := []
  K := fun _ x cs => cs = heldC x
  M := fun _ _ _ x cs => cs = heldC x
  K_len := fun h => by rw [h]; rfl
  K_one := fun h => by rw [h]; intro v hv; simp [heldC] at hv; rcases hv with rfl | rfl | rfl <;> rfl
  K_below := fun _ h => h
  K_of_M := fun h => h
  M_mono := fun _ h => h
  M_bound := fun h => h
  M_move := fun _ h => h
  M_lower := fun _ h => h
/-- Element i of the held lists, its cells. -/
theorem C_held {w : World} {A : Option Addr} {xs : List Hd} {n : Nat} (h : kHeld.C w A n xs) (hn : n = xs.length) (j : Nat) (hj : j < xs.length) : ∃ ad, A = some ad ∧
    w.cell? (ad.add (j * 3)) = some (.slice xs[j].A xs[j].n xs[j].c) ∧ w.cell? ⟨(ad.add (j * 3)).block, (ad.add (j * 3)).off + 1, none⟩ = some (.slice xs[j].B xs[j].m xs[j].q) ∧ w.cell? ⟨(ad.add (j * 3)).block, (ad.add (j * 3)).off + 2, none⟩ = some (.int .i64 (xs[j].k : Int)) := by
  subst hn
  obtain ⟨_, _, hc⟩ := h
  obtain ⟨ad, e, hc⟩ := hc (by omega)
  obtain ⟨c, _, hk, hcc⟩ := hc j xs[j] (List.getElem?_eq_getElem hj)
  have hk : c = heldC xs[j] := hk
  subst hk
  refine ⟨ad, e, ?_, ?_, ?_⟩
  · exact hcc 0 _ rfl
  · rw [← add_field _ _ 1 (by omega)]; exact hcc 1 _ rfl
  · rw [← add_field _ _ 2 (by omega)]; exact hcc 2 _ rfl
theorem markNode_calls (w : World) (k : Nat) (hk : k ≤ 99) : Calls Tryz.prog 128 #[.int .i64 (k : Int)] w fun e w' => e = .returned (.agg #[.int .u8 0, .int .i64 (-(k : Int)), .string ⟨#[]⟩, .int .i64 0, .bool false, .int .u64 0, .bool false, .int .u64 0, .bool false, .int .u64 0]) ∧ Below w.heap.size w w' := by
  go_enter Tryz.func128, Tryz.ntmps128
  go_wp2
  exact bodyPost_ret (v := .agg #[.int .u8 0, .int .i64 (-(k : Int)), .string ⟨#[]⟩, .int .i64 0, .bool false, .int .u64 0, .bool false, .int .u64 0, .bool false, .int .u64 0]) (by simp [results, Tryz.results128, go_sem]) rfl ⟨rfl, below_alloc (Below.refl _ _) _⟩
theorem isNode_calls (w : World) (f0 f1 f3 : Int) (f2 : ByteArray) (a0 b0 c0 : Bool) (a1 b1 c1 : Int) (k : Nat) (hk : k ≤ 99) : Calls Tryz.prog 143 #[.agg #[.int .u8 f0, .int .i64 f1, .string f2, .int .i64 f3, .bool a0, .int .u64 a1, .bool b0, .int .u64 b1, .bool c0, .int .u64 c1], .int .i64 (k : Int)] w fun e w' => e = .returned (.bool (f1 == -(k : Int))) ∧ Below w.heap.size w w' := by
  go_enter Tryz.func143, Tryz.ntmps143
  go_wp2
  go_ret
  exact ⟨rfl, below_alloc (Below.refl _ _) _⟩
/-- Nothing but blocks of type e, from base on, has changed. -/
structure KeptE (e : TypeId) (base : Nat) (w W : World) : Prop where
  below : Below base w W
  same : ∀ (k : Nat) (o : Obj), w.heap[k]? = some o → (∀ cells, o ≠ .cells cells e (0, 0)) → W.heap[k]? = some o
  kind : ∀ (k : Nat) cells, w.heap[k]? = some (.cells cells e (0, 0)) → ∃ cells', W.heap[k]? = some (.cells cells' e (0, 0))
theorem KeptE.refl (e base : Nat) (w : World) : KeptE e base w w := ⟨Below.refl _ _, fun _ _ h _ => h, fun _ _ h => ⟨_, h⟩⟩
theorem KeptE.trans {e base : Nat} {w W V : World} (h : KeptE e base w W) (k : KeptE e base W V) : KeptE e base w V :=
  ⟨h.below.trans k.below, fun i o ho hn => k.same i o (h.same i o ho hn) hn, fun i cs hc => by obtain ⟨cs', hc'⟩ := h.kind i cs hc; exact k.kind i cs' hc'⟩
theorem KeptE.of_below {e base : Nat} {w W : World} (h : Below w.heap.size w W) (hb : base ≤ w.heap.size) : KeptE e base w W :=
  ⟨h.mono hb, fun i o ho _ => blk_below ho h, fun i cs hc => ⟨cs, blk_below hc h⟩⟩
theorem KeptE.grown {e base g : Nat} {w W : World} (hg : w.grownBy W (some g)) (hb : base ≤ g) (hs : base ≤ w.heap.size) {c c' : Array Value} (h1 : w.heap[g]? = some (.cells c e (0, 0))) (h2 : W.heap[g]? = some (.cells c' e (0, 0))) : KeptE e base w W := by
  refine ⟨(Below.refl base w).grown hg hs (fun k hk => by injection hk with hk; omega), fun k o ho hn => ?_, fun k cs hc => ?_⟩
  · refine blk_grown ho hg (fun he => ?_)
    injection he with he
    subst he
    rw [h1] at ho
    injection ho with ho
    exact hn c ho.symm
  · by_cases hk : k = g
    · subst hk; exact ⟨c', h2⟩
    · exact ⟨cs, blk_grown hc hg (fun he => hk (by injection he))⟩
theorem R_keepE {α : Type} {d : Kd α} {e e' base base' : Nat} {ok : Nat → Prop} {w W : World} {v : Value} {xs : List α} (h : d.R e' w base' ok v xs) (hE : d.E = []) (hne : e' ≠ e) (hk : KeptE e base w W) : d.R e' W base' ok v xs :=
  Kd.R_mono (Kd.R_step (Kd.R_tight hE h) (fun k hk' _ => by
    obtain ⟨cs, hc⟩ := own_typed (Kd.R_own h).choose_spec k hk'.symm
    exact (hk.same k _ hc (fun cells he => by injection he with _ h2; exact hne h2)).trans hc.symm)) (fun k hk' => h.1 k hk'.symm)
/-- The lists that are held lie apart. -/
def Apart (hs : List Hd) : Prop := ∀ (i j : Nat) (x y : Hd), hs[i]? = some x → hs[j]? = some y → i ≠ j → ∀ a b, x.A = some a → y.A = some b → a.block ≠ b.block
/-- A row of the call's own that is read through a slice of no more capacity. -/
def RC {α : Type} (d : Kd α) (e : TypeId) (W : World) (base : Nat) (A : Option Addr) (n c : Nat) (xs : List α) : Prop := ∃ q, c ≤ q ∧ d.R e W base (fun _ => True) (.slice A n q) xs
theorem RC.of {α : Type} {d : Kd α} {e : TypeId} {W : World} {base n c : Nat} {A : Option Addr} {xs : List α} (h : d.R e W base (fun _ => True) (.slice A n c) xs) : RC d e W base A n c xs := ⟨c, Nat.le_refl _, h⟩
theorem RC.below {α : Type} {d : Kd α} {e : TypeId} {W V : World} {base n c : Nat} {A : Option Addr} {xs : List α} (h : RC d e W base A n c xs) (hb : Below W.heap.size W V) : RC d e V base A n c xs := by
  obtain ⟨q, hq, h⟩ := h
  exact ⟨q, hq, Kd.R_below h hb⟩
theorem RC.grown2 {α : Type} {d : Kd α} {e : TypeId} {W V : World} {base n c : Nat} {A : Option Addr} {xs : List α} {row : Option Nat} (h : RC d e W base A n c xs) (hE : d.E = []) (hg : W.grownBy V row) (hne : ∀ k, row = some k → some k ≠ (Value.slice A n c).ownBlock) : RC d e V base A n c xs := by
  obtain ⟨q, hq, h⟩ := h
  exact ⟨q, hq, Kd.R_grown2 h hE hg (fun k hk he => hne k hk (by cases A <;> exact he))⟩
theorem RC.reads {α : Type} {d : Kd α} {e : TypeId} {W : World} {base n c : Nat} {A : Option Addr} {xs : List α} (h : RC d e W base A n c xs) : n = xs.length ∧ d.C W A n xs := by
  obtain ⟨q, hq, h⟩ := h
  obtain ⟨rfl, _, hc⟩ := Kd.R_reads' h
  exact ⟨rfl, hc⟩
theorem RC.typed {α : Type} {d : Kd α} {e : TypeId} {W : World} {base n c : Nat} {A : Option Addr} {xs : List α} (h : RC d e W base A n c xs) (a : Addr) (ha : A = some a) : base ≤ a.block ∧ a.block < W.heap.size ∧ ∃ cells, W.heap[a.block]? = some (.cells cells e (0, 0)) := by
  obtain ⟨q, hq, h⟩ := h
  have o : (Value.slice A n q).ownBlock = some a.block := by rw [ha]; rfl
  exact ⟨own_base (Kd.R_own h).choose_spec _ o, own_lt (Kd.R_own h).choose_spec _ o, own_typed (Kd.R_own h).choose_spec _ o⟩
theorem RC.lower {α : Type} {d : Kd α} {e : TypeId} {W : World} {base base' n c : Nat} {A : Option Addr} {xs : List α} (h : RC d e W base A n c xs) (hb : base' ≤ base) : RC d e W base' A n c xs := by
  obtain ⟨q, hq, h⟩ := h
  exact ⟨q, hq, Kd.R_lower h hb⟩
theorem RC.set {α : Type} {d : Kd α} {e : TypeId} {w : World} {base n c : Nat} {A : Option Addr} {xs : List α} (h : RC d e w base A n c xs) {g t : Nat} {cells : Array Value} (hb : w.heap[g]? = some (.cells cells t (0, 0))) (ht : ∀ q, q ∈ e :: d.E → q ≠ t) (j : Nat) (u : Value) : RC d e (w.setCell ⟨g, j, none⟩ u) base A n c xs := by
  obtain ⟨q, hq, h⟩ := h
  exact ⟨q, hq, Kd.R_set h hb ht j u⟩
/-- Each of the lists, as it reads. -/
def Lists {α : Type} (d : Kd α) (e base : Nat) (hs : List Hd) (W : World) (cur : Nat → List α) : Prop := ∀ (j : Nat) (x : Hd), hs[j]? = some x → RC d e W base x.A x.n x.c (cur j)
theorem Lists.below {α : Type} {d : Kd α} {e base : Nat} {hs : List Hd} {W V : World} {cur : Nat → List α} (h : Lists d e base hs W cur) (hb : Below W.heap.size W V) : Lists d e base hs V cur := fun j x hx => (h j x hx).below hb
theorem Lists.put {α : Type} {d : Kd α} {e base g : Nat} {hs : List Hd} {W V : World} {cur : Nat → List α} (h : Lists d e base hs W cur) (hE : d.E = []) (ha : Apart hs) {i : Nat} {x : Hd} (hx : hs[i]? = some x) {ad : Addr} (hA : x.A = some ad) (hgb : ad.block = g) (hg : W.grownBy V (some g)) {ys : List α} (hr : RC d e V base x.A x.n x.c ys) : Lists d e base hs V (fun j => if j = i then ys else cur j) := by
  intro j y hy
  show RC d e V base y.A y.n y.c (if j = i then ys else cur j)
  by_cases hj : j = i
  · subst hj
    rw [hx] at hy
    injection hy with hy
    subst hy
    rw [if_pos rfl]
    exact hr
  · rw [if_neg hj]
    refine (h j y hy).grown2 hE hg (fun k hk he => ?_)
    injection hk with hk
    subst hk
    cases hyA : y.A with
    | none => rw [hyA] at he; cases he
    | some b =>
      rw [hyA] at he
      have hb : g = b.block := by simpa [Value.ownBlock] using he
      exact ha i j x y hx hy (fun e => hj e.symm) ad b hA hyA (by rw [hgb, hb])
theorem R_has {α : Type} {d : Kd α} {e base g n cap : Nat} {ok : Nat → Prop} {W : World} {xs : List α} (h : d.R e W base ok (.slice (some ⟨g, 0, none⟩) n cap) xs) (z : α) (k : Nat) (hk : k < n) (j : Nat) (hj : j < d.sz) : ∃ v, W.cell? ⟨g, k * d.sz + j, none⟩ = some v ∧ W.frozen? ⟨g, k * d.sz + j, none⟩ = false := by
  obtain ⟨c, hcl, _, hcc, hf⟩ := Kd.R_elem h z (k : Int) (by omega) (by omega)
  exact ⟨c[j]'(by omega), hcc j _ (List.getElem?_eq_getElem _), hf j⟩
theorem R_puts {α : Type} {d : Kd α} {e base g n cap : Nat} {W : World} {xs : List α} (h : d.R e W base (fun _ => True) (.slice (some ⟨g, 0, none⟩) n cap) xs) (k : Nat) (hk : k < n) (x' : α) (seg : List Value) (hseg : seg.length = d.sz) (hM : d.M W base (fun _ => False) x' seg) :
    d.R e (W.setCells g (k * d.sz) seg) base (fun _ => True) (.slice (some ⟨g, 0, none⟩) n cap) (xs.set k x') ∧ W.grownBy (W.setCells g (k * d.sz) seg) (some g) := by
  obtain ⟨c, hcl, _, hcc, _⟩ := Kd.R_elem h x' (k : Int) (by omega) (by omega)
  have := Kd.R_seg h (k : Int) (by omega) (by omega) (seg := seg) (j := 0) hcl hcc (by omega) (x' := x') (okp := fun _ => False) (by rw [List.take_zero, List.nil_append, Nat.zero_add, hseg, ← hcl, List.drop_length, List.append_nil]; exact hM) (fun _ h => h.elim)
  rwa [Int.toNat_natCast, Nat.add_zero] at this
theorem marks_step {α : Type} (xs : List α) (m : α) (k : Nat) (hk : k < xs.length) : (List.replicate k m ++ xs.drop k).set k m = List.replicate (k + 1) m ++ xs.drop (k + 1) := by
  rw [List.set_append_right _ _ (by simp), List.length_replicate, Nat.sub_self, List.drop_eq_getElem_cons hk, List.set_cons_zero, List.replicate_succ', List.append_assoc]
  rfl
def markN (k : Nat) : Node := ⟨0, -(k : Int), ⟨#[]⟩, 0, ⟨false, 0⟩, ⟨false, 0⟩, ⟨false, 0⟩⟩
theorem Lists.congr {α : Type} {d : Kd α} {e base : Nat} {hs : List Hd} {W : World} {cur cur' : Nat → List α} (h : Lists d e base hs W cur) (he : ∀ j, j < hs.length → cur j = cur' j) : Lists d e base hs W cur' := fun j x hx => by
  have hj : j < hs.length := (List.getElem?_eq_some_iff.1 hx).1
  rw [← he j hj]; exact h j x hx
theorem Lists.store {α : Type} {d : Kd α} {e base g : Nat} {hs : List Hd} {W V V' : World} {cur : Nat → List α} (h : Lists d e base hs W cur) (hE : d.E = []) (ha : Apart hs) {i : Nat} {x : Hd} (hx : hs[i]? = some x) (hA : x.A = some ⟨g, 0, none⟩) (hb : Below W.heap.size W V) (hbs : base ≤ W.heap.size) (hg : V.grownBy V' (some g)) {ys : List α} (hr : RC d e V' base x.A x.n x.c ys) :
    Lists d e base hs V' (fun j => if j = i then ys else cur j) ∧ KeptE e base W V' := by
  obtain ⟨r1, _, c, hc⟩ := ((h.below hb) i x hx).typed _ hA
  obtain ⟨_, _, c', hc'⟩ := hr.typed _ hA
  exact ⟨(h.below hb).put hE ha hx hA rfl hg hr, (KeptE.of_below hb hbs).trans (KeptE.grown hg r1 (Nat.le_trans hbs hb.size) hc hc')⟩
def filledN (hs : List Hd) (j : Nat) : List Node := ((hs[j]?).map fun x => List.replicate x.n (markN x.k)).getD []
theorem nodeHas {e base g n cap : Nat} {ok : Nat → Prop} {W : World} {xs : List Node} (h : kNode.R e W base ok (.slice (some ⟨g, 0, none⟩) n cap) xs) (k : Nat) (hk : k < n) : (∃ v0 v1 v2 v3 v4 v5 v6 v7 v8 v9, W.cell? ⟨g, k * 10, none⟩ = some v0 ∧ W.cell? ⟨g, k * 10 + 1, none⟩ = some v1 ∧ W.cell? ⟨g, k * 10 + 2, none⟩ = some v2 ∧ W.cell? ⟨g, k * 10 + 3, none⟩ = some v3 ∧ W.cell? ⟨g, k * 10 + 4, none⟩ = some v4 ∧ W.cell? ⟨g, k * 10 + 5, none⟩ = some v5 ∧ W.cell? ⟨g, k * 10 + 6, none⟩ = some v6 ∧ W.cell? ⟨g, k * 10 + 7, none⟩ = some v7 ∧ W.cell? ⟨g, k * 10 + 8, none⟩ = some v8 ∧ W.cell? ⟨g, k * 10 + 9, none⟩ = some v9) ∧ W.frozen? ⟨g, k * 10, none⟩ = false ∧ W.frozen? ⟨g, k * 10 + 1, none⟩ = false ∧ W.frozen? ⟨g, k * 10 + 2, none⟩ = false ∧ W.frozen? ⟨g, k * 10 + 3, none⟩ = false ∧ W.frozen? ⟨g, k * 10 + 4, none⟩ = false ∧ W.frozen? ⟨g, k * 10 + 5, none⟩ = false ∧ W.frozen? ⟨g, k * 10 + 6, none⟩ = false ∧ W.frozen? ⟨g, k * 10 + 7, none⟩ = false ∧ W.frozen? ⟨g, k * 10 + 8, none⟩ = false ∧ W.frozen? ⟨g, k * 10 + 9, none⟩ = false := by
  have H := fun j (hj : j < 10) => R_has h (markN 0) k hk j hj
  obtain ⟨v0, q0, r0⟩ := H 0 (by decide)
  obtain ⟨v1, q1, r1⟩ := H 1 (by decide)
  obtain ⟨v2, q2, r2⟩ := H 2 (by decide)
  obtain ⟨v3, q3, r3⟩ := H 3 (by decide)
  obtain ⟨v4, q4, r4⟩ := H 4 (by decide)
  obtain ⟨v5, q5, r5⟩ := H 5 (by decide)
  obtain ⟨v6, q6, r6⟩ := H 6 (by decide)
  obtain ⟨v7, q7, r7⟩ := H 7 (by decide)
  obtain ⟨v8, q8, r8⟩ := H 8 (by decide)
  obtain ⟨v9, q9, r9⟩ := H 9 (by decide)
  exact ⟨⟨v0, v1, v2, v3, v4, v5, v6, v7, v8, v9, q0, q1, q2, q3, q4, q5, q6, q7, q8, q9⟩, r0, r1, r2, r3, r4, r5, r6, r7, r8, r9⟩
set_option maxRecDepth 100000 in
set_option maxHeartbeats 16000000 in
theorem fillNode_calls (w : World) (base b0 b N c : Nat) (A : Option Addr) (ok : Nat → Prop) (hs : List Hd) (xs : Nat → List Node) (cs : Array Value) (hN : N = hs.length) (hbk : w.heap[b]? = some (.cells cs 66 (0, 0))) (hc8 : cs[8]? = some (.slice A N c))
    (hH : kHeld.R 167 w b0 ok (.slice A N c) hs) (hL : Lists kNode 119 base hs w xs) (hn : ∀ x ∈ hs, x.n ≤ 5000 ∧ x.k ≤ 99) (ha : Apart hs) (hbs : base ≤ w.heap.size) (hN9 : N ≤ 1000) :
    Calls Tryz.prog 59 #[.pointer (some ⟨b, 0, none⟩)] w fun e w' => e = .returned (.tuple #[]) ∧ KeptE 119 base w w' ∧ Lists kNode 119 base hs w' (filledN hs) := by
  have HBK := Aside0.mk (And.intro hbk (And.intro hH (And.intro ha hn)))
  have HN := Aside0.mk hN
  have HL := Aside0.mk hL
  have HC := Aside0.mk hc8
  clear hbk hH hN ha hn hL hc8
  go_enter Tryz.func59, Tryz.ntmps59
  go_wp2
  go_loopg [2] (N + 1) (fun gk v W => ∃ i : Nat, v = .int .i64 (i : Int) ∧ i ≤ N ∧ N + 1 - i ≤ gk ∧ Aside0 (Lists kNode 119 base hs W (fun j => if j < i then filledN hs j else xs j)) ∧ Aside0 (KeptE 119 base w W))
  case atStart => exact ⟨0, rfl, Nat.zero_le _, by omega, ⟨HL.out.congr (fun j _ => by simp)⟩, ⟨KeptE.refl _ _ _⟩⟩
  case round =>
    obtain ⟨i, rfl, hi, hkg, HLW, HKW⟩ := hrel
    have gx := HKW.out.same b _ HBK.out.1 (fun cells he => by injection he with _ h2; exact absurd h2 (by decide))
    have x8 := (blk_cell gx 8).trans HC.out
    clear gx
    rcases Nat.lt_or_ge i N with hlt | hge
    · have hd : decide (i < N) = true := decide_eq_true hlt
      have hil : i < hs.length := by rw [← HN.out]; exact hlt
      have hHW := R_keepE HBK.out.2.1 rfl (by decide) HKW.out
      obtain ⟨ad, rfl, y0, y1, y2⟩ := C_held (Kd.R_reads' hHW).2.2 rfl i hil
      obtain ⟨x, hx⟩ : ∃ x, hs[i] = x := ⟨_, rfl⟩
      rw [hx] at y0 y1 y2
      obtain ⟨xA, xn, xc, xB, xm, xq, xk⟩ := x
      dsimp only at y0 y1 y2
      have hxi : hs[i]? = some ⟨xA, xn, xc, xB, xm, xq, xk⟩ := by rw [List.getElem?_eq_getElem hil, hx]
      have hb := HBK.out.2.2.2 _ (hx ▸ List.getElem_mem hil)
      dsimp only at hb
      have HX := Aside0.mk hxi
      clear hHW hx hxi
      go_wp2
      have HG : Aside0 ((wr.alloc (.cells #[.slice xA xn xc, .slice xB xm xq, .int .i64 (xk : Int)] 167)).heap[wr.heap.size]? = some (.cells #[.slice xA xn xc, .slice xB xm xq, .int .i64 (xk : Int)] 167 (0, 0))) := ⟨blk_new _ _⟩
      have HLB := Aside0.mk (HLW.out.below (below_alloc (Below.refl wr.heap.size wr) (.cells #[.slice xA xn xc, .slice xB xm xq, .int .i64 (xk : Int)] 167)))
      have HKB := Aside0.mk (HKW.out.trans (KeptE.of_below (below_alloc (Below.refl wr.heap.size wr) (.cells #[.slice xA xn xc, .slice xB xm xq, .int .i64 (xk : Int)] 167)) (Nat.le_trans hbs HKW.out.below.size)))
      generalize World.alloc wr (.cells #[.slice xA xn xc, .slice xB xm xq, .int .i64 (xk : Int)] 167) = wb at *
      clear y0 y1 y2 HLW x8
      obtain ⟨g0, rfl⟩ : ∃ g0, gk = g0 + 1 := ⟨gk - 1, by omega⟩
      go_loopg [4] (xn + 1) (fun gk v W => ∃ k : Nat, v = .int .i64 (k : Int) ∧ k ≤ xn ∧ xn + 1 - k ≤ gk ∧ Aside0 (Lists kNode 119 base hs W (fun j => if j = i then List.replicate k (markN xk) ++ (xs i).drop k else if j < i then filledN hs j else xs j)) ∧ Aside0 (KeptE 119 base wb W))
      case atStart => exact ⟨0, rfl, Nat.zero_le _, by omega, ⟨HLB.out.congr (fun j _ => by by_cases hj : j = i <;> simp [hj])⟩, ⟨KeptE.refl _ _ _⟩⟩
      case round =>
        obtain ⟨k, rfl, hk, hkg2, HLW, HKW2⟩ := hrel
        have gx := HKW2.out.same _ _ HG.out (fun cells he => by injection he with _ h2; exact absurd h2 (by decide))
        have z0 := (blk_cell gx 0).trans (show _ = some (Value.slice xA xn xc) from rfl)
        have z2 := (blk_cell gx 2).trans (show _ = some (Value.int .i64 (xk : Int)) from rfl)
        clear gx
        rcases Nat.lt_or_ge k xn with hlt2 | hge2
        · have hd2 : decide (k < xn) = true := decide_eq_true hlt2
          obtain ⟨Q, hQ, hli⟩ := HLW.out i _ HX.out
          have HLI := Aside0.mk hli
          clear hli
          obtain ⟨g, rfl⟩ := R_pos HLI.out (show 0 < xn by omega)
          have hlx : (List.replicate k (markN xk) ++ (xs i).drop k).length = xn := by
            have := (Kd.R_reads' HLI.out).1
            simp only [if_pos] at this
            exact this.symm
          have HLX := Aside0.mk hlx
          clear hlx
          go_wp2
          go_region_with (go_at_call 128; (with_reducible refine (markNode_calls _ xk hb.2).mono ?_); rintro e W4 ⟨rfl, hb4⟩; have HB4 := Aside0.mk ((Below.refl wr.heap.size wr).drew.trans hb4); clear hb4; have t0 := pw_cell_below HB4.out z0; have t2 := pw_cell_below HB4.out z2; obtain ⟨⟨v0, v1, v2, v3, v4, v5, v6, v7, v8, v9, q0, q1, q2, q3, q4, q5, q6, q7, q8, q9⟩, r0, r1, r2, r3, r4, r5, r6, r7, r8, r9⟩ := nodeHas (Kd.R_below HLI.out HB4.out) k hlt2)
          all_goals (
            go_wp2
            go_roundg (gk - 1)
            case measure => omega
            case rel =>
              have hp := R_puts (Kd.R_below HLI.out HB4.out) k hlt2 (markN xk) (nodeC (markN xk)) rfl (k119_mkM W4 base (fun _ => False) (markN xk))
              have hs5 := HLW.out.store rfl HBK.out.2.2.1 HX.out rfl HB4.out (Nat.le_trans hbs (HKB.out.trans HKW2.out).below.size) hp.2 ⟨Q, hQ, hp.1⟩
              refine ⟨k + 1, by go_num, by omega, by omega, ⟨hs5.1.congr (fun j _ => ?_)⟩, ⟨HKW2.out.trans hs5.2⟩⟩
              have hxl : k < (xs i).length := by have := HLX.out; simp only [List.length_append, List.length_replicate, List.length_drop] at this; omega
              by_cases hj : j = i
              · subst hj
                simp only [if_pos]
                exact marks_step (xs j) (markN xk) k hxl
              · rw [if_neg hj, if_neg hj, if_neg hj])
        · have hd2 : decide (k < xn) = false := decide_eq_false (by omega)
          have HE : Aside0 (k = xn) := ⟨by omega⟩
          have hxl : (xs i).drop k = [] := by
            have := (HLW.out i _ HX.out).reads.1
            simp only [if_pos, List.length_append, List.length_replicate, List.length_drop] at this
            exact List.drop_eq_nil_of_le (by omega)
          have HXL := Aside0.mk hxl
          clear hge2 hkg2 hxl
          go_wp2
          go_roundg g0
          case measure => omega
          case rel =>
            refine ⟨i + 1, by go_num, by omega, by omega, ⟨HLW.out.congr (fun j _ => ?_)⟩, ⟨HKB.out.trans HKW2.out⟩⟩
            by_cases hj : j = i
            · rw [if_pos hj, if_pos (by omega), HXL.out, List.append_nil, hj, HE.out, filledN, HX.out]
              rfl
            · by_cases hj2 : j < i
              · rw [if_neg hj, if_pos hj2, if_pos (by omega)]
              · rw [if_neg hj, if_neg hj2, if_neg (by omega)]
    · have hd : decide (i < N) = false := decide_eq_false (by omega)
      have HE : Aside0 (i = N) := ⟨by omega⟩
      clear hi hge hkg
      go_wp2
      go_end0
      exact ⟨rfl, HKW.out, HLW.out.congr (fun j hj => by rw [HE.out, HN.out, if_pos hj])⟩
end Bk
end Go.Proofs.YtdecijmncpbheaaGreatDoor

namespace Go.Proofs.YtdecijmncpbheaaGreatDoor
open Go.RowKit Go.Proofs.YtdecijmncpbheaaGreatDoorW.PrintWords Go.Proofs.YtdecijmncpbheaaGreatDoorW.PrintLast Go.Proofs.YtdecijmncpbheaaGreatDoorW.PrintMore
set_option linter.unusedVariables false
set_option linter.unusedSimpArgs false
namespace Bk
/-- Nothing but blocks of two types, from base on, has changed. -/
structure Kept2 (e e2 : TypeId) (base : Nat) (w W : World) : Prop where
  below : Below base w W
  same : ∀ (k : Nat) (o : Obj), w.heap[k]? = some o → (∀ cells, o ≠ .cells cells e (0, 0)) → (∀ cells, o ≠ .cells cells e2 (0, 0)) → W.heap[k]? = some o
theorem Kept2.refl (e e2 base : Nat) (w : World) : Kept2 e e2 base w w := ⟨Below.refl _ _, fun _ _ h _ _ => h⟩
theorem Kept2.trans {e e2 base : Nat} {w W V : World} (h : Kept2 e e2 base w W) (k : Kept2 e e2 base W V) : Kept2 e e2 base w V := ⟨h.below.trans k.below, fun i o ho h1 h2 => k.same i o (h.same i o ho h1 h2) h1 h2⟩
theorem Kept2.of_below {e e2 base : Nat} {w W : World} (h : Below w.heap.size w W) (hb : base ≤ w.heap.size) : Kept2 e e2 base w W := ⟨h.mono hb, fun i o ho _ _ => blk_below ho h⟩
theorem Kept2.grown {e e2 base g : Nat} {w W : World} (hg : w.grownBy W (some g)) (hb : base ≤ g) (hs : base ≤ w.heap.size) {t : TypeId} (ht : t = e ∨ t = e2) {c : Array Value} (h1 : w.heap[g]? = some (.cells c t (0, 0))) : Kept2 e e2 base w W := by
  refine ⟨(Below.refl base w).grown hg hs (fun k hk => by injection hk with hk; omega), fun k o ho hn hn2 => ?_⟩
  refine blk_grown ho hg (fun he => ?_)
  injection he with he
  subst he
  rw [h1] at ho
  injection ho with ho
  rcases ht with rfl | rfl
  · exact hn c ho.symm
  · exact hn2 c ho.symm
theorem Kept2.own {α : Type} {d : Kd α} {e e2 base : Nat} {ok : Nat → Prop} {W w1 : World} {v : Value} {xs : List α} (h : d.R e W base ok v xs) (hg : W.grownBy w1 v.ownBlock) (hs : base ≤ W.heap.size) : Kept2 e e2 base W w1 := by
  cases hv : v.ownBlock with
  | none =>
    rw [hv] at hg
    exact Kept2.of_below ((Below.refl W.heap.size W).grown hg (Nat.le_refl _) (fun k hk => by cases hk)) hs
  | some g =>
    rw [hv] at hg
    obtain ⟨c, hc⟩ := own_typed (Kd.R_own h).choose_spec g hv
    exact Kept2.grown hg (own_base (Kd.R_own h).choose_spec g hv) hs (.inl rfl) hc
/-- The held lists but for what they have grown to. -/
def Same (hs hs2 : List Hd) : Prop := hs2.length = hs.length ∧ ∀ (j : Nat) (x : Hd), hs2[j]? = some x → ∃ y, hs[j]? = some y ∧ x.A = y.A ∧ x.n = y.n ∧ x.c = y.c ∧ x.k = y.k
section
variable {α : Type}
/-- What the first i lists have grown to. -/
def Longs (d : Kd α) (e base S0 : Nat) (mark : Nat → α) (hs2 : List Hd) (i : Nat) (W : World) : Prop := ∀ (j : Nat) (x : Hd), j < i → hs2[j]? = some x → x.m = x.n + 40 ∧ RC d e W base x.B x.m x.q (List.replicate x.m (mark x.k)) ∧ ∀ b, x.B = some b → ((∃ a, x.A = some a ∧ a.block = b.block) ∨ S0 ≤ b.block)
def filled (mark : Nat → α) (hs : List Hd) (j : Nat) : List α := ((hs[j]?).map fun x => List.replicate x.n (mark x.k)).getD []
/-- The state within list i's growing: w0 the world at the call, S1 the heap's size at the round's start. -/
structure G (d : Kd α) (e eH base b0 : Nat) (mark : Nat → α) (w0 : World) (hs hs2 : List Hd) (A0 : Option Addr) (N c0 i : Nat) (x : Hd) (S1 : Nat) (W : World) (B : Option Addr) (k q : Nat) : Prop where
  row : RC d e W base B (x.n + k) q (List.replicate (x.n + k) (mark x.k))
  place : (B = x.A ∧ q = x.c) ∨ ∃ b, B = some b ∧ S1 ≤ b.block
  lists : Lists d e base hs W (filled mark hs)
  longs : Longs d e base w0.heap.size mark hs2 i W
  longsLt : ∀ (j : Nat) (y : Hd), j < i → hs2[j]? = some y → ∀ b, y.B = some b → b.block < S1
  held : kHeld.R eH W b0 (fun _ => True) (.slice A0 N c0) hs2
  kept : Kept2 e eH base w0 W
theorem G.below {d : Kd α} {e eH base b0 : Nat} {mark : Nat → α} {w0 : World} {hs hs2 : List Hd} {A0 : Option Addr} {N c0 i : Nat} {x : Hd} {S1 : Nat} {W V : World} {B : Option Addr} {k q : Nat} (g : G d e eH base b0 mark w0 hs hs2 A0 N c0 i x S1 W B k q) (hbs : base ≤ w0.heap.size) (hb : Below W.heap.size W V) : G d e eH base b0 mark w0 hs hs2 A0 N c0 i x S1 V B k q :=
  ⟨g.row.below hb, g.place, g.lists.below hb, fun j y hj hy => ⟨(g.longs j y hj hy).1, (g.longs j y hj hy).2.1.below hb, (g.longs j y hj hy).2.2⟩, g.longsLt, Kd.R_below g.held hb, g.kept.trans (Kept2.of_below hb (Nat.le_trans hbs g.kept.below.size))⟩
theorem G.step {d : Kd α} {e eH base b0 : Nat} {mark : Nat → α} {w0 : World} {hs hs2 : List Hd} {A0 : Option Addr} {N c0 i : Nat} {x : Hd} {S1 : Nat} {W w1 : World} {B : Option Addr} {k q Q : Nat} {v1 : Value} (h : G d e eH base b0 mark w0 hs hs2 A0 N c0 i x S1 W B k q) (hE : d.E = []) (hne : eH ≠ e) (ha : Apart hs) (hsame : Same hs hs2) (hx : hs2[i]? = some x) (hbs : base ≤ w0.heap.size) (hS : w0.heap.size ≤ S1) (hSW : S1 ≤ W.heap.size)
    (hlt : ∀ (j : Nat) (y : Hd), hs[j]? = some y → ∀ a, y.A = some a → a.block < w0.heap.size) (hqQ : q ≤ Q)
    (hg : W.grownBy w1 (Value.slice B (x.n + k) Q).ownBlock) (hat : (v1 = .slice B (x.n + k + 1) q ∧ d.R e w1 base (fun _ => True) (.slice B (x.n + k + 1) Q) (List.replicate (x.n + k) (mark x.k) ++ [mark x.k])) ∨ ∃ b, v1.ownBlock = some b ∧ W.heap.size ≤ b ∧ W.grownBy w1 none ∧ d.R e w1 base (fun _ => True) v1 (List.replicate (x.n + k) (mark x.k) ++ [mark x.k])) :
    ∃ B' q', v1 = .slice B' (x.n + (k + 1)) q' ∧ G d e eH base b0 mark w0 hs hs2 A0 N c0 i x S1 w1 B' (k + 1) q' := by
  have hrep : List.replicate (x.n + k) (mark x.k) ++ [mark x.k] = List.replicate (x.n + (k + 1)) (mark x.k) := by rw [← Nat.add_assoc, List.replicate_succ']
  rw [hrep] at hat
  obtain ⟨y, hy, hyA, hyn, hyc, hyk⟩ := hsame.2 i x hx
  rcases hat with ⟨hv, hR⟩ | ⟨b, hb, hle, hg0, hR⟩
  · subst hv
    rw [Nat.add_assoc] at hR ⊢
    obtain ⟨g, cap, hgv, hbg, hgl, cells, hgc⟩ := Kd.R_form hR (by rw [List.length_replicate]; omega)
    injection hgv with hB _ _
    subst hB
    have hg' : W.grownBy w1 (some g) := hg
    have hglt : g < w0.heap.size ∧ x.A = some ⟨g, 0, none⟩ ∧ q = x.c ∨ S1 ≤ g := by
      rcases h.place with ⟨h1, h2⟩ | ⟨b, h1, h2⟩
      · exact .inl ⟨hlt i y hy ⟨g, 0, none⟩ (by rw [← hyA, ← h1]), h1.symm, h2⟩
      · injection h1 with h1
        rw [← h1] at h2
        exact .inr h2
    obtain ⟨_, _, cW, hcW⟩ := h.row.typed ⟨g, 0, none⟩ rfl
    refine ⟨some ⟨g, 0, none⟩, q, rfl, ⟨⟨Q, hqQ, hR⟩, h.place, fun j z hz => ?_, fun j z hj hz => ?_, h.longsLt, Kd.R_grown2 h.held rfl hg' (fun k hk => by injection hk with hk; subst hk; exact Kd.R_ne h.held hcW hne), h.kept.trans (Kept2.grown hg' (Kd.R_base hR g rfl) (Nat.le_trans hbs h.kept.below.size) (.inl rfl) hcW)⟩⟩
    · by_cases hj : j = i ∧ x.A = some ⟨g, 0, none⟩ ∧ q = x.c
      · obtain ⟨rfl, hxA, hq⟩ := hj
        rw [hz] at hy
        injection hy with hy
        subst hy
        rw [filled, hz, ← hyA, ← hyn, ← hyc, hxA, ← hq]
        have := Kd.R_take hR (m := x.n) (by rw [List.length_replicate]; omega)
        rw [List.take_replicate, Nat.min_eq_left (by omega)] at this
        show RC d e w1 base _ _ _ (List.replicate z.n (mark z.k))
        rw [← hyn, ← hyk]
        exact ⟨Q, hqQ, this⟩
      · refine (h.lists j z hz).grown2 hE hg' (fun k' hk he => ?_)
        injection hk with hk
        subst hk
        cases hzA : z.A with
        | none => rw [hzA] at he; cases he
        | some a =>
          rw [hzA] at he
          have hb : g = a.block := by simpa [Value.ownBlock] using he
          rcases hglt with ⟨h1, h2, h3⟩ | h1
          · by_cases hji : j = i
            · exact hj ⟨hji, h2, h3⟩
            · exact ha j i z y hz hy hji a ⟨g, 0, none⟩ hzA (by rw [← hyA, h2]) hb.symm
          · have := hlt j z hz a hzA
            omega
    · obtain ⟨l1, l2, l3⟩ := h.longs j z hj hz
      refine ⟨l1, l2.grown2 hE hg' (fun k' hk he => ?_), l3⟩
      injection hk with hk
      subst hk
      cases hzB : z.B with
      | none => rw [hzB] at he; cases he
      | some b =>
        rw [hzB] at he
        have hb : g = b.block := by simpa [Value.ownBlock] using he
        rcases hglt with ⟨h1, h2, h3⟩ | h1
        · rcases l3 b hzB with ⟨a, hzA, hab⟩ | h4
          · obtain ⟨u, hu, huA, _⟩ := hsame.2 j z hz
            exact ha j i u y hu hy (by omega) a ⟨g, 0, none⟩ (by rw [← huA, hzA]) (by rw [← hyA, h2]) (by rw [hab, ← hb])
          · omega
        · have := h.longsLt j z hj hz b hzB
          omega
  · obtain ⟨B', q', hv1⟩ := Kd.R_slice hR
    rw [List.length_replicate] at hv1
    subst hv1
    have hbel : Below W.heap.size W w1 := (Below.refl _ _).grown hg0 (Nat.le_refl _) (fun k hk => by cases hk)
    have h2 := h.below hbs hbel
    refine ⟨B', q', rfl, ⟨.of hR, .inr ?_, h2.lists, h2.longs, h2.longsLt, h2.held, h2.kept⟩⟩
    cases B' with
    | none => cases hb
    | some b' =>
      refine ⟨b', rfl, ?_⟩
      have : b'.block = b := by simpa [Value.ownBlock] using hb
      omega
end
end Bk
end Go.Proofs.YtdecijmncpbheaaGreatDoor

namespace Go.Proofs.YtdecijmncpbheaaGreatDoor
open Go.RowKit Go.Proofs.YtdecijmncpbheaaGreatDoorW.PrintWords Go.Proofs.YtdecijmncpbheaaGreatDoorW.PrintLast Go.Proofs.YtdecijmncpbheaaGreatDoorW.PrintMore
set_option linter.unusedVariables false
set_option linter.unusedSimpArgs false
namespace Bk
theorem Kept2.cell {e e2 base g o : Nat} {W : World} (hb : base ≤ g) {t : TypeId} (ht : t = e ∨ t = e2) {c : Array Value} (h1 : W.heap[g]? = some (.cells c t (0, 0))) (v : Value) : Kept2 e e2 base W (W.setCell ⟨g, o, none⟩ v) := by
  refine ⟨(Below.refl base W).setCell (p := ⟨g, o, none⟩) hb v, fun k ob ho hn hn2 => setCell_other v ho (fun he => ?_)⟩
  subst he
  rw [h1] at ho
  injection ho with ho
  rcases ht with rfl | rfl
  · exact hn c ho.symm
  · exact hn2 c ho.symm
theorem Same.put {hs hs2 : List Hd} (h : Same hs hs2) {i : Nat} {x x' : Hd} (hx : hs2[i]? = some x) (h1 : x'.A = x.A ∧ x'.n = x.n ∧ x'.c = x.c ∧ x'.k = x.k) : Same hs (hs2.set i x') := by
  refine ⟨by rw [List.length_set]; exact h.1, fun j z hz => ?_⟩
  by_cases hj : j = i
  · subst hj
    rw [List.getElem?_set_self (List.getElem?_eq_some_iff.1 hx).1] at hz
    injection hz with hz
    subst hz
    obtain ⟨y, hy, a1, a2, a3, a4⟩ := h.2 j x hx
    exact ⟨y, hy, h1.1.trans a1, h1.2.1.trans a2, h1.2.2.1.trans a3, h1.2.2.2.trans a4⟩
  · rw [List.getElem?_set_ne (fun e => hj e.symm)] at hz
    exact h.2 j z hz
theorem held_flat : Flat kHeld heldC := fun w base ok x c => Iff.rfl
theorem node_M {w : World} {base : Nat} {x : Node} {cs : List Value} (h : kNode.K w x cs) : kNode.M w base (fun _ => False) x cs := by
  rw [k119_open h]
  exact k119_mkM w base _ x
set_option maxRecDepth 100000 in
set_option maxHeartbeats 16000000 in
theorem growNode_calls (w : World) (base b0 b N c : Nat) (A : Option Addr) (hs : List Hd) (cs : Array Value) (hN : N = hs.length) (hbk : w.heap[b]? = some (.cells cs 66 (0, 0))) (hc8 : cs[8]? = some (.slice A N c))
    (hH : kHeld.R 167 w b0 (fun _ => True) (.slice A N c) hs) (hL : Lists kNode 119 base hs w (filled markN hs)) (hn : ∀ x ∈ hs, x.n ≤ 5000 ∧ x.k ≤ 99) (ha : Apart hs) (hbs : base ≤ w.heap.size) (hN9 : N ≤ 1000) (hb0 : base ≤ b0) :
    Calls Tryz.prog 74 #[.pointer (some ⟨b, 0, none⟩)] w fun e w' => e = .returned (.tuple #[]) ∧ Kept2 119 167 base w w' ∧ ∃ hs2, Same hs hs2 ∧ kHeld.R 167 w' b0 (fun _ => True) (.slice A N c) hs2 ∧ Lists kNode 119 base hs w' (filled markN hs) ∧ Longs kNode 119 base w.heap.size markN hs2 N w' := by
  have hlt : ∀ (j : Nat) (y : Hd), hs[j]? = some y → ∀ a, y.A = some a → a.block < w.heap.size := fun j y hy a hya => ((hL j y hy).typed a hya).2.1
  have HLT := Aside0.mk hlt
  have HBK := Aside0.mk (And.intro hbk (And.intro ha hn))
  have HN := Aside0.mk hN
  have HL := Aside0.mk hL
  have HH := Aside0.mk hH
  have HC := Aside0.mk hc8
  clear hbk hH hN ha hn hL hc8 hlt
  go_enter Tryz.func74, Tryz.ntmps74
  go_wp2
  go_loopg [2] (N + 1) (fun gk v W => ∃ (i : Nat) (hs2 : List Hd), v = .int .i64 (i : Int) ∧ i ≤ N ∧ N + 1 - i ≤ gk ∧ Aside0 (Same hs hs2 ∧ kHeld.R 167 W b0 (fun _ => True) (.slice A N c) hs2 ∧ Lists kNode 119 base hs W (filled markN hs) ∧ Longs kNode 119 base w.heap.size markN hs2 i W) ∧ Aside0 (Kept2 119 167 base w W))
  case atStart => exact ⟨0, hs, rfl, Nat.zero_le _, by omega, ⟨⟨rfl, fun j x hx => ⟨x, hx, rfl, rfl, rfl, rfl⟩⟩, HH.out, HL.out, fun j x hj => by omega⟩, ⟨Kept2.refl _ _ _ _⟩⟩
  case round =>
    obtain ⟨i, hs2, rfl, hi, hkg, HS, HK⟩ := hrel
    have gx := HK.out.same b _ HBK.out.1 (fun cells he => by injection he with _ h2; exact absurd h2 (by decide)) (fun cells he => by injection he with _ h2; exact absurd h2 (by decide))
    have x8 := (blk_cell gx 8).trans HC.out
    clear gx
    rcases Nat.lt_or_ge i N with hlt | hge
    · have hd : decide (i < N) = true := decide_eq_true hlt
      have hil : i < hs2.length := by rw [HS.out.1.1, ← HN.out]; exact hlt
      obtain ⟨ad, rfl, y0, y1, y2⟩ := C_held (Kd.R_reads' HS.out.2.1).2.2 rfl i hil
      obtain ⟨x, hx⟩ : ∃ x, hs2[i] = x := ⟨_, rfl⟩
      rw [hx] at y0 y1 y2
      have hxi : hs2[i]? = some x := by rw [List.getElem?_eq_getElem hil, hx]
      obtain ⟨y, hy, hyA, hyn, hyc, hyk⟩ := HS.out.1.2 i x hxi
      have hb := HBK.out.2.2 _ (List.mem_of_getElem? hy)
      rw [← hyn, ← hyk] at hb
      obtain ⟨xA, xn, xc, xB, xm, xq, xk⟩ := x
      dsimp only at y0 y1 y2 hb
      have HX := Aside0.mk hxi
      have HG0 : Aside0 (G kNode 119 167 base b0 markN w hs hs2 (some ad) N c i ⟨xA, xn, xc, xB, xm, xq, xk⟩ wr.heap.size wr xA 0 xc) := ⟨by
        have h1 := HS.out.2.2.1 i y hy
        rw [filled, hy] at h1
        simp only [Option.map_some, Option.getD_some, ← hyA, ← hyn, ← hyc, ← hyk] at h1
        refine ⟨h1, .inl ⟨rfl, rfl⟩, HS.out.2.2.1, HS.out.2.2.2, fun j z hj hz b hb => ?_, HS.out.2.1, HK.out⟩
        exact ((HS.out.2.2.2 j z hj hz).2.1.typed b hb).2.1⟩
      clear hx hxi hy hyA hyn hyc hyk
      go_wp2
      have HBX : Aside0 ((wr.alloc (.cells #[.slice xA xn xc, .slice xB xm xq, .int .i64 (xk : Int)] 167)).heap[wr.heap.size]? = some (.cells #[.slice xA xn xc, .slice xB xm xq, .int .i64 (xk : Int)] 167 (0, 0))) := ⟨blk_new _ _⟩
      have HG1 := Aside0.mk (HG0.out.below hbs (below_alloc (Below.refl wr.heap.size wr) (.cells #[.slice xA xn xc, .slice xB xm xq, .int .i64 (xk : Int)] 167)))
      generalize World.alloc wr (.cells #[.slice xA xn xc, .slice xB xm xq, .int .i64 (xk : Int)] 167) = wb at *
      clear HG0 y0 y1 y2 x8
      have hS1 := HK.out.below.size
      generalize wr.heap.size = S1 at *
      have HS1 := Aside0.mk hS1
      clear hS1
      obtain ⟨g0, rfl⟩ : ∃ g0, gk = g0 + 1 := ⟨gk - 1, by omega⟩
      go_loopg [4, 5] 41 (fun gk b4 b5 W => ∃ (k q : Nat) (B : Option Addr), b5 = .int .i64 (k : Int) ∧ b4 = .slice B (xn + k) q ∧ k ≤ 40 ∧ 41 - k ≤ gk ∧ Aside0 (G kNode 119 167 base b0 markN w hs hs2 (some ad) N c i ⟨xA, xn, xc, xB, xm, xq, xk⟩ S1 W B k q) ∧ Aside0 (W.heap[S1]? = some (.cells #[.slice xA xn xc, .slice xB xm xq, .int .i64 (xk : Int)] 167 (0, 0))))
      case atStart => exact ⟨0, xc, xA, rfl, rfl, Nat.zero_le _, by omega, HG1, HBX⟩
      case round =>
        clear HG1 HBX
        obtain ⟨k, q, B, rfl, rfl, hk, hkg2, HG, HBX⟩ := hrel
        have z2 := (blk_cell HBX.out 2).trans (show _ = some (Value.int .i64 (xk : Int)) from rfl)
        rcases Nat.lt_or_ge k 40 with hlt2 | hge2
        · have hd2 : decide ((k : Int) < 40) = true := decide_eq_true (by omega)
          obtain ⟨Q, hQ, hrq⟩ := HG.out.row
          have HRQ := Aside0.mk hrq
          clear hrq
          go_wp2_with (first
            | (go_at_call 128; (with_reducible refine (markNode_calls _ xk hb.2).mono ?_); rintro e W4 ⟨rfl, hb4⟩; have HB4 := Aside0.mk hb4; have HB5 := Aside0.mk (below_alloc hb4 (.cells #[.int .u8 0, .int .i64 (-(xk : Int)), .string ⟨#[]⟩, .int .i64 0, .bool false, .int .u64 0, .bool false, .int .u64 0, .bool false, .int .u64 0] 119)); clear hb4)
            | (at_builtin; go_loud (refine wpList_append_RC rfl kNode base (.tmp 28) (.tmp 32) 22 22 119 119 (.agg #[.int .u8 0, .int .i64 0, .string ⟨#[]⟩, .int .i64 0, .bool false, .int .u64 0, .bool false, .int .u64 0, .bool false, .int .u64 0]) 88 rfl (by kernel_rfl) (by kernel_rfl) L07.infoN rfl (by decide) (by decide) B (xn + k) Q q (List.replicate (xn + k) (markN xk)) [markN xk] ⟨W4.heap.size, 0, none⟩ 1 1 (fun _ => True) (fun _ => False) (by rw [List.length_replicate]) hQ rfl rfl (Kd.R_below HRQ.out HB5.out) (node_C W4 (markN xk)) (fun x cs h => node_M h) (fun _ h => h.elim) (fun _ _ => trivial) (Nat.le_trans hbs (HG.out.below hbs HB5.out).kept.below.size) (by decide) (by omega) ?_; intro v1 w1 hg1 hat1; have hbx := blk_below HBX.out HB5.out; have HBX7 := Aside0.mk (blk_grown hbx hg1 (Kd.R_ne (Kd.R_below HRQ.out HB5.out) hbx (by decide))); obtain ⟨B', q', rfl, hG⟩ := (HG.out.below hbs HB5.out).step rfl (by decide) HBK.out.2.1 HS.out.1 HX.out hbs HS1.out (Nat.le_of_lt (blk_lt hbx)) HLT.out hQ hg1 hat1; have HG7 := Aside0.mk hG; clear hg1 hat1 hG hbx)))
          go_roundg (gk - 1)
          case measure => omega
          case rel => exact ⟨k + 1, q', B', by go_num, rfl, by omega, by omega, HG7, HBX7⟩
        · have hd2 : decide ((k : Int) < 40) = false := decide_eq_false (by omega)
          have HE : Aside0 (k = 40) := ⟨by omega⟩
          clear hge2 hkg2 hk z2
          have gx := HG.out.kept.same b _ HBK.out.1 (fun cells he => by injection he with _ h2; exact absurd h2 (by decide)) (fun cells he => by injection he with _ h2; exact absurd h2 (by decide))
          have x8 := (blk_cell gx 8).trans HC.out
          clear gx
          obtain ⟨g2, cap2, hv2, hbg2, hgl2, c2, hgc2⟩ := Kd.R_form HG.out.held (Nat.lt_of_le_of_lt (Nat.zero_le _) hil)
          injection hv2 with hv2 _ _
          injection hv2 with hv2
          subst hv2
          obtain ⟨u1, u2, u3'⟩ := R_has HG.out.held ⟨none, 0, 0, none, 0, 0, 0⟩ i hlt 1 (by decide)
          replace u2 : _ = _ := u2
          have o1 : wr.cell? ⟨g2, i * 3 + 1, none⟩ = some u1 := u2
          have o2 : wr.frozen? ⟨g2, i * 3 + 1, none⟩ = false := u3'
          have HGC := Aside0.mk (And.intro hbg2 hgc2)
          clear u2 u3' hgl2 hbg2 hgc2
          go_wp2
          go_roundg g0
          case measure => omega
          case rel =>
            have hxe : hs2[i] = ⟨xA, xn, xc, xB, xm, xq, xk⟩ := by
              have := HX.out
              rw [List.getElem?_eq_getElem hil] at this
              injection this
            have hheld := R_edit held_flat HG.out.held i 1 hil (by decide) ⟨xA, xn, xc, B, xn + k, q, xk⟩ (.slice B (xn + k) q) (by rw [hxe]; rfl)
            refine ⟨i + 1, hs2.set i ⟨xA, xn, xc, B, xn + k, q, xk⟩, by go_num, by omega, by omega, ⟨HS.out.1.put HX.out ⟨rfl, rfl, rfl, rfl⟩, hheld, fun j z hz => (HG.out.lists j z hz).set HGC.out.2 (fun t ht => ?_) _ _, fun j z hj hz => ?_⟩, ⟨HG.out.kept.trans (Kept2.cell (Nat.le_trans hb0 HGC.out.1) (.inr rfl) HGC.out.2 _)⟩⟩
            · have ht : t = 119 := List.mem_singleton.1 (show t ∈ [119] from ht)
              rw [ht]; decide
            · by_cases hji : j = i
              · subst hji
                rw [List.getElem?_set_self hil] at hz
                injection hz with hz
                subst hz
                refine ⟨by rw [HE.out], HG.out.row.set HGC.out.2 (fun t ht => ?_) _ _, fun b' hb' => ?_⟩
                · have ht : t = 119 := List.mem_singleton.1 (show t ∈ [119] from ht)
                  rw [ht]; decide
                · rcases HG.out.place with ⟨h1, _⟩ | ⟨b'', h1, h2⟩
                  · exact .inl ⟨b', by rw [← hb', h1], rfl⟩
                  · rw [h1] at hb'
                    injection hb' with hb'
                    subst hb'
                    exact .inr (Nat.le_trans HS1.out h2)
              · rw [List.getElem?_set_ne (fun e => hji e.symm)] at hz
                obtain ⟨l1, l2, l3⟩ := HG.out.longs j z (by omega) hz
                refine ⟨l1, l2.set HGC.out.2 (fun t ht => ?_) _ _, l3⟩
                have ht : t = 119 := List.mem_singleton.1 (show t ∈ [119] from ht)
                rw [ht]; decide
    · have hd : decide (i < N) = false := decide_eq_false (by omega)
      have HE : Aside0 (i = N) := ⟨by omega⟩
      clear hi hge hkg
      go_wp2
      go_end0
      exact ⟨rfl, HK.out, hs2, HS.out.1, HS.out.2.1, HS.out.2.2.1, by rw [← HE.out]; exact HS.out.2.2.2⟩
end Bk
end Go.Proofs.YtdecijmncpbheaaGreatDoor

namespace Go.Proofs.YtdecijmncpbheaaGreatDoor
open Go.RowKit Go.Proofs.YtdecijmncpbheaaGreatDoorW.PrintWords Go.Proofs.YtdecijmncpbheaaGreatDoorW.PrintLast Go.Proofs.YtdecijmncpbheaaGreatDoorW.PrintMore
set_option linter.unusedVariables false
set_option linter.unusedSimpArgs false
namespace Bk
/-- Held lists that have grown, as they read. -/
def Reads {α : Type} (d : Kd α) (mark : Nat → α) (hs : List Hd) (w : World) : Prop := ∀ (j : Nat) (x : Hd), hs[j]? = some x → x.m = x.n + 40 ∧ x.n ≤ 5000 ∧ x.k ≤ 99 ∧ d.C w x.A x.n (List.replicate x.n (mark x.k)) ∧ d.C w x.B x.m (List.replicate x.m (mark x.k))
theorem Reads.below {α : Type} {d : Kd α} {mark : Nat → α} {hs : List Hd} {w W : World} (h : Reads d mark hs w) (hb : Below w.heap.size w W) : Reads d mark hs W := fun j x hx => by
  obtain ⟨h1, h2, h3, h4, h5⟩ := h j x hx
  exact ⟨h1, h2, h3, Kd.C_below h4 hb, Kd.C_below h5 hb⟩
/-- Element j of a row of marks. -/
theorem C_markN {w : World} {A : Option Addr} {n k : Nat} (h : kNode.C w A n (List.replicate n (markN k))) (j : Nat) (hj : j < n) : ∃ ad, A = some ad ∧
    w.cell? (ad.add (j * 10)) = some (.int .u8 0) ∧ w.cell? ⟨(ad.add (j * 10)).block, (ad.add (j * 10)).off + 1, none⟩ = some (.int .i64 (-(k : Int))) ∧ w.cell? ⟨(ad.add (j * 10)).block, (ad.add (j * 10)).off + 2, none⟩ = some (.string ⟨#[]⟩) ∧ w.cell? ⟨(ad.add (j * 10)).block, (ad.add (j * 10)).off + 3, none⟩ = some (.int .i64 0) ∧ w.cell? ⟨(ad.add (j * 10)).block, (ad.add (j * 10)).off + 4, none⟩ = some (.bool false) ∧ w.cell? ⟨(ad.add (j * 10)).block, (ad.add (j * 10)).off + 5, none⟩ = some (.int .u64 0) ∧ w.cell? ⟨(ad.add (j * 10)).block, (ad.add (j * 10)).off + 6, none⟩ = some (.bool false) ∧ w.cell? ⟨(ad.add (j * 10)).block, (ad.add (j * 10)).off + 7, none⟩ = some (.int .u64 0) ∧ w.cell? ⟨(ad.add (j * 10)).block, (ad.add (j * 10)).off + 8, none⟩ = some (.bool false) ∧ w.cell? ⟨(ad.add (j * 10)).block, (ad.add (j * 10)).off + 9, none⟩ = some (.int .u64 0) := by
  obtain ⟨ad, e, x0, x1, x2, x3, x4, x5, x6, x7, x8, x9⟩ := C_nodeN (xs := List.replicate n (markN k)) (by rw [List.length_replicate]; exact h) j (by rw [List.length_replicate]; exact hj)
  rw [List.getElem_replicate] at x0 x1 x2 x3 x4 x5 x6 x7 x8 x9
  exact ⟨ad, e, x0, x1, x2, x3, x4, x5, x6, x7, x8, x9⟩
theorem isMark_calls (w : World) (k : Nat) (hk : k ≤ 99) : Calls Tryz.prog 143 #[.agg #[.int .u8 0, .int .i64 (-(k : Int)), .string ⟨#[]⟩, .int .i64 0, .bool false, .int .u64 0, .bool false, .int .u64 0, .bool false, .int .u64 0], .int .i64 (k : Int)] w fun e w' => e = .returned (.bool true) ∧ Below w.heap.size w w' := by
  have := isNode_calls w 0 (-(k : Int)) 0 ⟨#[]⟩ false false false 0 0 0 k hk
  rwa [show (-(k : Int) == -(k : Int)) = true from beq_self_eq_true _] at this
set_option maxRecDepth 100000 in
set_option maxHeartbeats 16000000 in
theorem lookNode_calls (w : World) (b N c : Nat) (A : Option Addr) (hs : List Hd) (hN : N = hs.length) (hc8 : w.cell? ⟨b, 8, none⟩ = some (.slice A N c)) (hH : kHeld.C w A N hs) (hR : Reads kNode markN hs w) (hN9 : N ≤ 1000) :
    Calls Tryz.prog 89 #[.pointer (some ⟨b, 0, none⟩)] w fun e w' => e = .returned (.bool true) ∧ Below w.heap.size w w' := by
  have HN := Aside0.mk hN
  have HR := Aside0.mk hR
  have HH := Aside0.mk hH
  have HC := Aside0.mk hc8
  clear hN hR hH hc8
  go_enter Tryz.func89, Tryz.ntmps89
  go_wp2
  go_loopg [3] (N + 1) (fun gk v W => ∃ i : Nat, v = .int .i64 (i : Int) ∧ i ≤ N ∧ N + 1 - i ≤ gk ∧ Aside0 (Below w.heap.size w W))
  case atStart => exact ⟨0, rfl, Nat.zero_le _, by omega, ⟨Below.refl _ _⟩⟩
  case round =>
    obtain ⟨i, rfl, hi, hkg, HB⟩ := hrel
    have x8 := pw_cell_below HB.out HC.out
    rcases Nat.lt_or_ge i N with hlt | hge
    · have hd : decide (i < N) = true := decide_eq_true hlt
      have hil : i < hs.length := by rw [← HN.out]; exact hlt
      obtain ⟨ad, rfl, y0, y1, y2⟩ := C_held (Kd.C_below HH.out HB.out) HN.out i hil
      obtain ⟨x, hx⟩ : ∃ x, hs[i] = x := ⟨_, rfl⟩
      rw [hx] at y0 y1 y2
      have hxi : hs[i]? = some x := by rw [List.getElem?_eq_getElem hil, hx]
      obtain ⟨h1, h2, h3, h4, h5⟩ := HR.out.below HB.out i x hxi
      obtain ⟨xA, xn, xc, xB, xm, xq, xk⟩ := x
      dsimp only at y0 y1 y2 h1 h2 h3 h4 h5
      subst h1
      have H4 := Aside0.mk (And.intro h4 h5)
      clear h4 h5 hx hxi
      have e40 : (((xn + 40 : Nat) : Int) != (xn : Int) + 40) = false := by simp
      go_wp2
      have HBX : Aside0 ((wr.alloc (.cells #[.slice xA xn xc, .slice xB (xn + 40) xq, .int .i64 (xk : Int)] 167)).heap[wr.heap.size]? = some (.cells #[.slice xA xn xc, .slice xB (xn + 40) xq, .int .i64 (xk : Int)] 167 (0, 0))) := ⟨blk_new _ _⟩
      have HBW := Aside0.mk (HB.out.trans ((below_alloc (Below.refl wr.heap.size wr) (.cells #[.slice xA xn xc, .slice xB (xn + 40) xq, .int .i64 (xk : Int)] 167)).mono HB.out.size))
      have H5 := Aside0.mk (And.intro (Kd.C_below H4.out.1 (below_alloc (Below.refl wr.heap.size wr) (.cells #[.slice xA xn xc, .slice xB (xn + 40) xq, .int .i64 (xk : Int)] 167))) (Kd.C_below H4.out.2 (below_alloc (Below.refl wr.heap.size wr) (.cells #[.slice xA xn xc, .slice xB (xn + 40) xq, .int .i64 (xk : Int)] 167))))
      generalize World.alloc wr (.cells #[.slice xA xn xc, .slice xB (xn + 40) xq, .int .i64 (xk : Int)] 167) = wb at *
      clear y0 y1 y2 x8 H4
      generalize wr.heap.size = S1 at *
      obtain ⟨g0, rfl⟩ : ∃ g0, gk = g0 + 1 := ⟨gk - 1, by omega⟩
      go_loopg [5] (xn + 41) (fun gk v W => ∃ k : Nat, v = .int .i64 (k : Int) ∧ k ≤ xn + 40 ∧ xn + 41 - k ≤ gk ∧ Aside0 (Below wb.heap.size wb W))
      case atStart => exact ⟨0, rfl, Nat.zero_le _, by omega, ⟨Below.refl _ _⟩⟩
      case round =>
        obtain ⟨k, rfl, hk, hkg2, HB2⟩ := hrel
        have gx := blk_below HBX.out HB2.out
        have z0 := (blk_cell gx 0).trans (show _ = some (Value.slice xA xn xc) from rfl)
        have z1 := (blk_cell gx 1).trans (show _ = some (Value.slice xB (xn + 40) xq) from rfl)
        have z2 := (blk_cell gx 2).trans (show _ = some (Value.int .i64 (xk : Int)) from rfl)
        clear gx
        rcases Nat.lt_or_ge k (xn + 40) with hlt2 | hge2
        · have hd2 : decide (k < xn + 40) = true := decide_eq_true hlt2
          have hd2' : decide ((k : Int) < (xn : Int) + 40) = true := decide_eq_true (by omega)
          have hlt3 : (k : Int) < (xn : Int) + 40 := by omega
          obtain ⟨ad2, rfl, t0, t1, t2, t3, t4, t5, t6, t7, t8, t9⟩ := C_markN (Kd.C_below H5.out.2 HB2.out) k hlt2
          by_cases hkn : k < xn
          · have hd3 : decide (k < xn) = true := decide_eq_true hkn
            obtain ⟨ad3, rfl, s0, s1, s2, s3, s4, s5, s6, s7, s8, s9⟩ := C_markN (Kd.C_below H5.out.1 HB2.out) k hkn
            go_wp2
            have z0' := Ext.cell z0
            have z1' := Ext.cell z1
            have z2' := Ext.cell z2
            have t0' := Ext.cell t0
            have t1' := Ext.cell t1
            have t2' := Ext.cell t2
            have t3' := Ext.cell t3
            have t4' := Ext.cell t4
            have t5' := Ext.cell t5
            have t6' := Ext.cell t6
            have t7' := Ext.cell t7
            have t8' := Ext.cell t8
            have t9' := Ext.cell t9
            have s0' := Ext.cell s0
            have s1' := Ext.cell s1
            have s2' := Ext.cell s2
            have s3' := Ext.cell s3
            have s4' := Ext.cell s4
            have s5' := Ext.cell s5
            have s6' := Ext.cell s6
            have s7' := Ext.cell s7
            have s8' := Ext.cell s8
            have s9' := Ext.cell s9
            clear z0 z1 z2 t0 t1 t2 t3 t4 t5 t6 t7 t8 t9 s0 s1 s2 s3 s4 s5 s6 s7 s8 s9
            (refine region_ext (by kernel_rfl) (by kernel_rfl) ?_; (repeat (go_big_quiet_step ((go_at_call 143; exact ext_of (isMark_calls _ xk h3))))); with_reducible refine wpQuiet_end ?_; rintro e0)
            go_wp2
            go_roundg (gk - 1)
            case measure => omega
            case rel => exact ⟨k + 1, by go_num, by omega, by omega, ⟨below_step HB2.out e0.below⟩⟩
          · have hd3 : decide (k < xn) = false := decide_eq_false hkn
            go_wp2
            have z0' := Ext.cell z0
            have z1' := Ext.cell z1
            have z2' := Ext.cell z2
            have t0' := Ext.cell t0
            have t1' := Ext.cell t1
            have t2' := Ext.cell t2
            have t3' := Ext.cell t3
            have t4' := Ext.cell t4
            have t5' := Ext.cell t5
            have t6' := Ext.cell t6
            have t7' := Ext.cell t7
            have t8' := Ext.cell t8
            have t9' := Ext.cell t9
            clear z0 z1 z2 t0 t1 t2 t3 t4 t5 t6 t7 t8 t9
            (refine region_ext (by kernel_rfl) (by kernel_rfl) ?_; (repeat (go_big_quiet_step ((go_at_call 143; exact ext_of (isMark_calls _ xk h3))))); with_reducible refine wpQuiet_end ?_; rintro e0)
            go_wp2
            go_roundg (gk - 1)
            case measure => omega
            case rel => exact ⟨k + 1, by go_num, by omega, by omega, ⟨below_step HB2.out e0.below⟩⟩
        · have hd2 : decide (k < xn + 40) = false := decide_eq_false (by omega)
          have hd2' : decide ((k : Int) < (xn : Int) + 40) = false := decide_eq_false (by omega)
          go_wp2
          go_roundg g0
          case measure => omega
          case rel => exact ⟨i + 1, by go_num, by omega, by omega, ⟨HBW.out.trans (HB2.out.mono HBW.out.size)⟩⟩
    · have hd : decide (i < N) = false := decide_eq_false (by omega)
      go_wp2
      go_ret
      exact ⟨rfl, HB.out⟩
end Bk
end Go.Proofs.YtdecijmncpbheaaGreatDoor

namespace Go.Proofs.YtdecijmncpbheaaGreatDoor
open Go.RowKit Go.Proofs.YtdecijmncpbheaaGreatDoorW.PrintWords Go.Proofs.YtdecijmncpbheaaGreatDoorW.PrintLast Go.Proofs.YtdecijmncpbheaaGreatDoorW.PrintMore
set_option linter.unusedVariables false
set_option linter.unusedSimpArgs false
namespace Bk
theorem KeptE.two {e e2 base : Nat} {w W : World} (h : KeptE e base w W) : Kept2 e e2 base w W := ⟨h.below, fun k o ho h1 _ => h.same k o ho h1⟩
theorem Kept2.box {e e2 t base b : Nat} {w W : World} {cs : Array Value} (h : Kept2 e e2 base w W) (hb : w.heap[b]? = some (.cells cs t (0, 0))) (h1 : t ≠ e) (h2 : t ≠ e2) : W.heap[b]? = some (.cells cs t (0, 0)) :=
  h.same b _ hb (fun cells he => by injection he with _ h3; exact h1 h3) (fun cells he => by injection he with _ h3; exact h2 h3)
theorem R_keep2 {α : Type} {d : Kd α} {e e2 t base base' : Nat} {ok : Nat → Prop} {w W : World} {v : Value} {xs : List α} (h : d.R t w base' ok v xs) (hE : d.E = []) (h1 : t ≠ e) (h2 : t ≠ e2) (hk : Kept2 e e2 base w W) : d.R t W base' ok v xs :=
  Kd.R_mono (Kd.R_step (Kd.R_tight hE h) (fun k hk' _ => by
    obtain ⟨cs, hc⟩ := own_typed (Kd.R_own h).choose_spec k hk'.symm
    exact (hk.box hc h1 h2).trans hc.symm)) (fun k hk' => h.1 k hk'.symm)
theorem RC.keep2 {α : Type} {d : Kd α} {e e2 t base base' : Nat} {w W : World} {n c : Nat} {A : Option Addr} {xs : List α} (h : RC d t w base' A n c xs) (hE : d.E = []) (h1 : t ≠ e) (h2 : t ≠ e2) (hk : Kept2 e e2 base w W) : RC d t W base' A n c xs := by
  obtain ⟨q, hq, h⟩ := h
  exact ⟨q, hq, R_keep2 h hE h1 h2 hk⟩
section
variable {α : Type}
/-- One kind's lists: those that are held, and what they read. -/
structure Pk (d : Kd α) (e eH b0 : Nat) (A : Option Addr) (N c : Nat) (hs : List Hd) (cur : Nat → List α) (W : World) : Prop where
  held : kHeld.R eH W b0 (fun _ => True) (.slice A N c) hs
  lists : Lists d e b0 hs W cur
theorem Pk.keep {d : Kd α} {e eH b0 : Nat} {A : Option Addr} {N c : Nat} {hs : List Hd} {cur : Nat → List α} {W V : World} {e1 e2 : Nat} (h : Pk d e eH b0 A N c hs cur W) (hE : d.E = []) (k : Kept2 e1 e2 b0 W V) (h1 : e ≠ e1) (h2 : e ≠ e2) (h3 : eH ≠ e1) (h4 : eH ≠ e2) : Pk d e eH b0 A N c hs cur V :=
  ⟨R_keep2 h.held rfl h3 h4 k, fun j x hx => (h.lists j x hx).keep2 hE h1 h2 k⟩
theorem Pk.below {d : Kd α} {e eH b0 : Nat} {A : Option Addr} {N c : Nat} {hs : List Hd} {cur : Nat → List α} {W V : World} (h : Pk d e eH b0 A N c hs cur W) (hb : Below W.heap.size W V) : Pk d e eH b0 A N c hs cur V :=
  ⟨Kd.R_below h.held hb, fun j x hx => (h.lists j x hx).below hb⟩
/-- One kind's lists, grown. -/
structure Gr (d : Kd α) (e eH b0 S0 : Nat) (mark : Nat → α) (A : Option Addr) (N c : Nat) (hs hs2 : List Hd) (W : World) : Prop where
  same : Same hs hs2
  held : kHeld.R eH W b0 (fun _ => True) (.slice A N c) hs2
  lists : Lists d e b0 hs W (filled mark hs)
  longs : Longs d e b0 S0 mark hs2 N W
theorem Gr.keep {d : Kd α} {e eH b0 S0 : Nat} {mark : Nat → α} {A : Option Addr} {N c : Nat} {hs hs2 : List Hd} {W V : World} {e1 e2 : Nat} (h : Gr d e eH b0 S0 mark A N c hs hs2 W) (hE : d.E = []) (k : Kept2 e1 e2 b0 W V) (h1 : e ≠ e1) (h2 : e ≠ e2) (h3 : eH ≠ e1) (h4 : eH ≠ e2) : Gr d e eH b0 S0 mark A N c hs hs2 V :=
  ⟨h.same, R_keep2 h.held rfl h3 h4 k, fun j x hx => (h.lists j x hx).keep2 hE h1 h2 k, fun j x hj hx => ⟨(h.longs j x hj hx).1, (h.longs j x hj hx).2.1.keep2 hE h1 h2 k, (h.longs j x hj hx).2.2⟩⟩
theorem Gr.below {d : Kd α} {e eH b0 S0 : Nat} {mark : Nat → α} {A : Option Addr} {N c : Nat} {hs hs2 : List Hd} {W V : World} (h : Gr d e eH b0 S0 mark A N c hs hs2 W) (hb : Below W.heap.size W V) : Gr d e eH b0 S0 mark A N c hs hs2 V :=
  ⟨h.same, Kd.R_below h.held hb, fun j x hx => (h.lists j x hx).below hb, fun j x hj hx => ⟨(h.longs j x hj hx).1, (h.longs j x hj hx).2.1.below hb, (h.longs j x hj hx).2.2⟩⟩
theorem Gr.reads {d : Kd α} {e eH b0 S0 : Nat} {mark : Nat → α} {A : Option Addr} {N c : Nat} {hs hs2 : List Hd} {W : World} (h : Gr d e eH b0 S0 mark A N c hs hs2 W) (hN : N = hs.length) (hn : ∀ x ∈ hs, x.n ≤ 5000 ∧ x.k ≤ 99) : N = hs2.length ∧ kHeld.C W A N hs2 ∧ Reads d mark hs2 W := by
  have hl : N = hs2.length := by rw [hN, h.same.1]
  refine ⟨hl, ?_, fun j x hx => ?_⟩
  · have := (Kd.R_reads' h.held).2.2
    rwa [← hl] at this
  · obtain ⟨y, hy, hA, hyn, hyc, hyk⟩ := h.same.2 j x hx
    have hj : j < N := by rw [hl]; exact (List.getElem?_eq_some_iff.1 hx).1
    obtain ⟨l1, l2, _⟩ := h.longs j x hj hx
    have hb := hn y (List.mem_of_getElem? hy)
    refine ⟨l1, by omega, by omega, ?_, ?_⟩
    · have h1 := (h.lists j y hy).reads.2
      rw [filled, hy] at h1
      simp only [Option.map_some, Option.getD_some] at h1
      rwa [hA, hyn, hyk]
    · exact l2.reads.2
theorem Pk.nil (d : Kd α) (e eH b0 : Nat) (cur : Nat → List α) (W : World) : Pk d e eH b0 none 0 0 [] cur W := ⟨Kd.R_nil _ _ _ _ _, fun j x hx => by simp at hx⟩
theorem Lists.nil {d : Kd α} {e b0 : Nat} {W : World} : Lists d e b0 [] W (fun _ => []) := fun j x hx => by simp at hx
theorem Lists.add {d : Kd α} {e b0 : Nat} {hs : List Hd} {cur : Nat → List α} {W : World} (h : Lists d e b0 hs W cur) {x : Hd} {ys : List α} (hr : RC d e W b0 x.A x.n x.c ys) : Lists d e b0 (hs ++ [x]) W (fun j => if j < hs.length then cur j else ys) := by
  intro j y hy
  by_cases hj : j < hs.length
  · rw [List.getElem?_append_left hj] at hy
    simp only [if_pos hj]
    exact h j y hy
  · rw [List.getElem?_append_right (by omega)] at hy
    obtain ⟨h1, h2⟩ := List.getElem?_eq_some_iff.1 hy
    rw [List.length_singleton] at h1
    have : j - hs.length = 0 := by omega
    simp only [this, List.getElem_singleton] at h2
    subst h2
    simp only [if_neg hj]
    exact hr
end
section
variable {α : Type}
def GrE (d : Kd α) (e eH b0 : Nat) (mark : Nat → α) (A : Option Addr) (N c : Nat) (hs hs2 : List Hd) (W : World) : Prop := ∃ S0, Gr d e eH b0 S0 mark A N c hs hs2 W
theorem GrE.keep {d : Kd α} {e eH b0 : Nat} {mark : Nat → α} {A : Option Addr} {N c : Nat} {hs hs2 : List Hd} {W V : World} {e1 e2 : Nat} (h : GrE d e eH b0 mark A N c hs hs2 W) (hE : d.E = []) (k : Kept2 e1 e2 b0 W V) (h1 : e ≠ e1) (h2 : e ≠ e2) (h3 : eH ≠ e1) (h4 : eH ≠ e2) : GrE d e eH b0 mark A N c hs hs2 V := by
  obtain ⟨S0, h⟩ := h
  exact ⟨S0, h.keep hE k h1 h2 h3 h4⟩
theorem GrE.below {d : Kd α} {e eH b0 : Nat} {mark : Nat → α} {A : Option Addr} {N c : Nat} {hs hs2 : List Hd} {W V : World} (h : GrE d e eH b0 mark A N c hs hs2 W) (hb : Below W.heap.size W V) : GrE d e eH b0 mark A N c hs hs2 V := by
  obtain ⟨S0, h⟩ := h
  exact ⟨S0, h.below hb⟩
theorem GrE.reads {d : Kd α} {e eH b0 : Nat} {mark : Nat → α} {A : Option Addr} {N c : Nat} {hs hs2 : List Hd} {W : World} (h : GrE d e eH b0 mark A N c hs hs2 W) (hN : N = hs.length) (hn : ∀ x ∈ hs, x.n ≤ 5000 ∧ x.k ≤ 99) : N = hs2.length ∧ kHeld.C W A N hs2 ∧ Reads d mark hs2 W := by
  obtain ⟨S0, h⟩ := h
  exact h.reads hN hn
end
theorem Apart.nil : Apart [] := fun i j x y h => by simp at h
theorem Apart.one (x : Hd) : Apart [x] := fun i j a b h1 h2 hne => by
  have h1 := (List.getElem?_eq_some_iff.1 h1).1
  have h2 := (List.getElem?_eq_some_iff.1 h2).1
  simp at h1 h2
  omega
theorem Apart.add {hs : List Hd} (h : Apart hs) (x : Hd) (hx : ∀ y ∈ hs, ∀ a b, y.A = some a → x.A = some b → a.block ≠ b.block) : Apart (hs ++ [x]) := by
  have key : ∀ (i : Nat) (y : Hd), (hs ++ [x])[i]? = some y → (i < hs.length ∧ hs[i]? = some y) ∨ (i = hs.length ∧ y = x) := fun i y hy => by
    by_cases hi : i < hs.length
    · rw [List.getElem?_append_left hi] at hy
      exact .inl ⟨hi, hy⟩
    · rw [List.getElem?_append_right (by omega)] at hy
      obtain ⟨h1, h2⟩ := List.getElem?_eq_some_iff.1 hy
      rw [List.length_singleton] at h1
      have : i - hs.length = 0 := by omega
      simp only [this, List.getElem_singleton] at h2
      exact .inr ⟨by omega, h2.symm⟩
  intro i j y z hy hz hne a b ha hb
  rcases key i y hy with ⟨h1, h2⟩ | ⟨h1, rfl⟩
  · rcases key j z hz with ⟨h3, h4⟩ | ⟨h3, rfl⟩
    · exact h i j y z h2 h4 hne a b ha hb
    · exact hx y (List.mem_of_getElem? h2) a b ha hb
  · rcases key j z hz with ⟨h3, h4⟩ | ⟨h3, rfl⟩
    · exact fun e => hx z (List.mem_of_getElem? h4) b a hb ha e.symm
    · omega
end Bk
end Go.Proofs.YtdecijmncpbheaaGreatDoor
