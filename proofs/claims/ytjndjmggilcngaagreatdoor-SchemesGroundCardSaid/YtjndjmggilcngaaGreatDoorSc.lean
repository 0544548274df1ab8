/- schemes.Check: may a scheme be, by a walk through its code. -/
import Derived.Test.YtjndjmggilcngaaGreatDoorEv
import Derived.Test.YtjndjmggilcngaaGreatDoorMD

namespace Go.Proofs.YtjndjmggilcngaaGreatDoor
open Go.RowKit Go.Proofs.YtjndjmggilcngaaGreatDoorW.PrintWords Go.Proofs.YtjndjmggilcngaaGreatDoorW.PrintLast Go.Proofs.YtjndjmggilcngaaGreatDoorW.PrintMore
set_option linter.unusedVariables false
set_option linter.unusedSimpArgs false
/-- What schemes.Check answers. -/
def schemeB (hasL hasX : Int → Bool) (lv ev : Int) (body : List Node) (L E : List Bound) : Int :=
  if checkB body ≠ 0 then checkB body
  else if boundsB hasL lv L ≠ 0 then boundsB hasL lv L
  else if boundsB hasX ev E ≠ 0 then boundsB hasX ev E
  else if ((labB body).all (fun x => termOk hasL lv x.f3) && (effB body).all (fun x => termOk hasX ev x.f3)) = true then 0 else 1
theorem bounds_vars {has : Int → Bool} {vars : Int} {l : List Bound} (h : boundsB has vars l = 0) : 0 ≤ vars ∧ vars ≤ 64 ∧ l.length ≤ 256 ∧ ∀ b ∈ l, termOk has vars b.f0 = true ∧ termOk has vars b.f1 = true := by
  unfold boundsB at h
  split at h
  · cases h
  · split at h
    · rename_i h1 h2
      refine ⟨by omega, by omega, by omega, fun b hb => ?_⟩
      have := List.all_eq_true.1 h2 b hb
      rwa [Bool.and_eq_true] at this
    · cases h
theorem bound_C (w : World) (b : Bound) : kBound.C (w.alloc (.cells #[.bool b.f0.f0, .int .u64 b.f0.f1, .bool b.f1.f0, .int .u64 b.f1.f1] 156)) (some ⟨w.heap.size, 0, none⟩) 1 [b] := by
  have h := reps_cons (R := kBound.K (w.alloc (.cells ([Value.bool b.f0.f0, .int .u64 b.f0.f1, .bool b.f1.f0, .int .u64 b.f1.f1] ++ []).toArray 156))) (k156_mk _ b) rfl (Reps.none _ kBound.sz)
  exact C_block (blk_new w _) h (show 1 ≤ 9223372036854775807 by decide)
set_option maxRecDepth 100000 in
set_option maxHeartbeats 4000000 in
theorem chk11L_calls (w : World) (b1 b2 : Nat) (x : Spot) (vars : Nat) (hv64 : vars ≤ 64) (v : Value) (o : Option (List Int)) (hx : 0 ≤ x.f3.f1) (h1 : w.cell? ⟨b1, 0, none⟩ = some (.iface 54 v)) (h2 : w.cell? ⟨b2, 0, none⟩ = some (.int .i64 (vars : Int))) (hv : LatV w v o) :
    Calls Tryz.prog 128 #[spotV x, .pointer (some ⟨b1, 0, none⟩), .pointer (some ⟨b2, 0, none⟩)] w fun e w' => e = .returned (.bool (termOk (hasLat o) (vars : Int) x.f3)) ∧ Below w.heap.size w w' := by
  have hl1 := World.block_lt_of_cell? w _ h1
  have hl2 := World.block_lt_of_cell? w _ h2
  have HV := Aside0.mk hv
  have HX := Aside0.mk hx
  clear hv hx
  obtain ⟨z, hz⟩ : ∃ z, z = termOk (hasLat o) (vars : Int) x.f3 := ⟨_, rfl⟩
  rw [← hz]
  have HZ : Aside0 (boundsB (hasLat o) (vars : Int) [⟨x.f3, x.f3⟩] = if z then 0 else 1) := ⟨by
    rw [boundsB, if_neg (by simp; omega)]
    simp [← hz]⟩
  clear hz
  obtain ⟨O, hO⟩ : ∃ O : Obj, O = .cells #[.int .i64 x.f0, .int .u8 x.f1, .int .u8 x.f2, .bool x.f3.f0, .int .u64 x.f3.f1] 131 := ⟨_, rfl⟩
  obtain ⟨O2, hO2⟩ : ∃ O : Obj, O = .cells #[.bool x.f3.f0, .int .u64 x.f3.f1, .bool x.f3.f0, .int .u64 x.f3.f1] 156 := ⟨_, rfl⟩
  have HB := Aside0.mk (below_alloc (below_alloc (Below.refl w.heap.size w) O) O2)
  have HC : Aside0 (kBound.C ((w.alloc O).alloc O2) (some ⟨w.heap.size + 1, 0, none⟩) 1 [⟨x.f3, x.f3⟩]) := ⟨by have := bound_C (w.alloc O) ⟨x.f3, x.f3⟩; rw [World.size_alloc] at this; rw [hO2]; exact this⟩
  have HV2 := Aside0.mk (HV.out.kept HB.out)
  have BC := Aside0.mk (bchkL_calls ((w.alloc O).alloc O2) (some ⟨w.heap.size + 1, 0, none⟩) 1 1 [⟨x.f3, x.f3⟩] (vars : Int) v o rfl (fun b hb => by rw [List.mem_singleton.1 hb]; exact ⟨HX.out, HX.out⟩) HC.out HV2.out)
  subst hO hO2
  simp only [spotV]
  cases z with
  | false =>
    go_enter Tryz.func128, Tryz.ntmps128
    go_wp2_with (go_at_call 126; (with_reducible refine (BC.out).mono ?_); rintro e W' ⟨rfl, hb'⟩; have HB' := Aside0.mk (below_step HB.out hb'); clear HB hb'; have HB := HB'; clear HB'; rw [HZ.out])
    go_ret
    exact ⟨rfl, HB.out⟩
  | true =>
    go_enter Tryz.func128, Tryz.ntmps128
    go_wp2_with (go_at_call 126; (with_reducible refine (BC.out).mono ?_); rintro e W' ⟨rfl, hb'⟩; have HB' := Aside0.mk (below_step HB.out hb'); clear HB hb'; have HB := HB'; clear HB'; rw [HZ.out])
    go_ret
    exact ⟨rfl, HB.out⟩
theorem mayL_calls (w : World) (v : Value) (vars : Int) : Calls Tryz.prog 127 #[.iface 54 v, .int .i64 vars] w fun e w' => ∃ b1 b2 : Nat, e = .returned (.func (.func 128) #[] #[.pointer (some ⟨b1, 0, none⟩), .pointer (some ⟨b2, 0, none⟩)]) ∧ w'.cell? ⟨b1, 0, none⟩ = some (.iface 54 v) ∧ w'.cell? ⟨b2, 0, none⟩ = some (.int .i64 vars) ∧ Below w.heap.size w w' := by
  have g1 := blk_cell (blk_alloc (blk_new w (.cells #[.iface 54 v] 88)) (.cells #[.int .i64 vars] 3)) 0
  have g2 := blk_cell (blk_new (w.alloc (.cells #[.iface 54 v] 88)) (.cells #[.int .i64 vars] 3)) 0
  rw [World.size_alloc] at g2
  have G := Aside0.mk (And.intro g1 g2)
  clear g1 g2
  go_enter Tryz.func127, Tryz.ntmps127
  go_wp2
  go_ret
  exact ⟨_, _, rfl, G.out.1, G.out.2, below_alloc (below_alloc (Below.refl _ _) _) _⟩
set_option maxRecDepth 100000 in
set_option maxHeartbeats 4000000 in
theorem chk11E_calls (w : World) (b1 b2 : Nat) (x : Spot) (vars : Nat) (hv64 : vars ≤ 64) (v : Value) (o : Option Int) (hx : 0 ≤ x.f3.f1) (h1 : w.cell? ⟨b1, 0, none⟩ = some (.iface 55 v)) (h2 : w.cell? ⟨b2, 0, none⟩ = some (.int .i64 (vars : Int))) (hv : EffV w v o) :
    Calls Tryz.prog 128 #[spotV x, .pointer (some ⟨b1, 0, none⟩), .pointer (some ⟨b2, 0, none⟩)] w fun e w' => e = .returned (.bool (termOk (hasEff o) (vars : Int) x.f3)) ∧ Below w.heap.size w w' := by
  have hl1 := World.block_lt_of_cell? w _ h1
  have hl2 := World.block_lt_of_cell? w _ h2
  have HV := Aside0.mk hv
  have HX := Aside0.mk hx
  clear hv hx
  obtain ⟨z, hz⟩ : ∃ z, z = termOk (hasEff o) (vars : Int) x.f3 := ⟨_, rfl⟩
  rw [← hz]
  have HZ : Aside0 (boundsB (hasEff o) (vars : Int) [⟨x.f3, x.f3⟩] = if z then 0 else 1) := ⟨by
    rw [boundsB, if_neg (by simp; omega)]
    simp [← hz]⟩
  clear hz
  obtain ⟨O, hO⟩ : ∃ O : Obj, O = .cells #[.int .i64 x.f0, .int .u8 x.f1, .int .u8 x.f2, .bool x.f3.f0, .int .u64 x.f3.f1] 131 := ⟨_, rfl⟩
  obtain ⟨O2, hO2⟩ : ∃ O : Obj, O = .cells #[.bool x.f3.f0, .int .u64 x.f3.f1, .bool x.f3.f0, .int .u64 x.f3.f1] 156 := ⟨_, rfl⟩
  have HB := Aside0.mk (below_alloc (below_alloc (Below.refl w.heap.size w) O) O2)
  have HC : Aside0 (kBound.C ((w.alloc O).alloc O2) (some ⟨w.heap.size + 1, 0, none⟩) 1 [⟨x.f3, x.f3⟩]) := ⟨by have := bound_C (w.alloc O) ⟨x.f3, x.f3⟩; rw [World.size_alloc] at this; rw [hO2]; exact this⟩
  have HV2 := Aside0.mk (HV.out.kept HB.out)
  have BC := Aside0.mk (bchkE_calls ((w.alloc O).alloc O2) (some ⟨w.heap.size + 1, 0, none⟩) 1 1 [⟨x.f3, x.f3⟩] (vars : Int) v o rfl (fun b hb => by rw [List.mem_singleton.1 hb]; exact ⟨HX.out, HX.out⟩) HC.out HV2.out)
  subst hO hO2
  simp only [spotV]
  cases z with
  | false =>
    go_enter Tryz.func128, Tryz.ntmps128
    go_wp2_with (go_at_call 126; (with_reducible refine (BC.out).mono ?_); rintro e W' ⟨rfl, hb'⟩; have HB' := Aside0.mk (below_step HB.out hb'); clear HB hb'; have HB := HB'; clear HB'; rw [HZ.out])
    go_ret
    exact ⟨rfl, HB.out⟩
  | true =>
    go_enter Tryz.func128, Tryz.ntmps128
    go_wp2_with (go_at_call 126; (with_reducible refine (BC.out).mono ?_); rintro e W' ⟨rfl, hb'⟩; have HB' := Aside0.mk (below_step HB.out hb'); clear HB hb'; have HB := HB'; clear HB'; rw [HZ.out])
    go_ret
    exact ⟨rfl, HB.out⟩
theorem mayE_calls (w : World) (v : Value) (vars : Int) : Calls Tryz.prog 127 #[.iface 55 v, .int .i64 vars] w fun e w' => ∃ b1 b2 : Nat, e = .returned (.func (.func 128) #[] #[.pointer (some ⟨b1, 0, none⟩), .pointer (some ⟨b2, 0, none⟩)]) ∧ w'.cell? ⟨b1, 0, none⟩ = some (.iface 55 v) ∧ w'.cell? ⟨b2, 0, none⟩ = some (.int .i64 vars) ∧ Below w.heap.size w w' := by
  have g1 := blk_cell (blk_alloc (blk_new w (.cells #[.iface 55 v] 88)) (.cells #[.int .i64 vars] 3)) 0
  have g2 := blk_cell (blk_new (w.alloc (.cells #[.iface 55 v] 88)) (.cells #[.int .i64 vars] 3)) 0
  rw [World.size_alloc] at g2
  have G := Aside0.mk (And.intro g1 g2)
  clear g1 g2
  go_enter Tryz.func127, Tryz.ntmps127
  go_wp2
  go_ret
  exact ⟨_, _, rfl, G.out.1, G.out.2, below_alloc (below_alloc (Below.refl _ _) _) _⟩
/-- A scheme, as it comes in: its values. -/
structure SchY where
  lv : Int
  ev : Int
  A : Option Addr
  c : Nat
  body : List Node
  LA : Option Addr
  lc : Nat
  L : List Bound
  EA : Option Addr
  ec : Nat
  E : List Bound
def Bound.wf (b : Bound) : Prop := Term.wf b.f0 ∧ Term.wf b.f1
def SchY.v (y : SchY) : Value := .agg #[.int .i64 y.lv, .int .i64 y.ev, .slice y.A y.body.length y.c, .slice y.LA y.L.length y.lc, .slice y.EA y.E.length y.ec]
structure SchY.ok (w : World) (y : SchY) : Prop where
  rb : kNode.C w y.A y.body.length y.body
  wb : ∀ n ∈ y.body, Node.wf n
  rl : kBound.C w y.LA y.L.length y.L
  wl : ∀ b ∈ y.L, Bound.wf b
  re : kBound.C w y.EA y.E.length y.E
  we : ∀ b ∈ y.E, Bound.wf b
  lw : (Lit.int .i64 y.lv).wf = true
  ew : (Lit.int .i64 y.ev).wf = true
theorem SchY.ok.kept {w W : World} {y : SchY} (h : y.ok w) (hb : Below w.heap.size w W) : y.ok W := ⟨Kd.C_below h.rb hb, h.wb, Kd.C_below h.rl hb, h.wl, Kd.C_below h.re hb, h.we, h.lw, h.ew⟩
theorem bound_nn {l : List Bound} (h : ∀ b ∈ l, Bound.wf b) : ∀ b ∈ l, 0 ≤ b.f0.f1 ∧ 0 ≤ b.f1.f1 := fun b hb => ⟨(wf_DU (h b hb).1).1, (wf_DU (h b hb).2).1⟩
abbrev sOf (o : Option (List Int)) (p : Option Int) (y : SchY) : Int := schemeB (hasLat o) (hasEff p) y.lv y.ev y.body y.L y.E
set_option maxRecDepth 100000 in
set_option maxHeartbeats 8000000 in
theorem scheme_calls (w : World) (y : SchY) (hy : y.ok w) (v1 v2 : Value) (o : Option (List Int)) (p : Option Int) (hv1 : LatV w v1 o) (hv2 : EffV w v2 p) :
    Calls Tryz.prog 40 #[y.v, .iface 54 v1, .iface 55 v2] w fun e w' => e = .returned (.int .i64 (sOf o p y)) ∧ Below w.heap.size w w' := by
  obtain ⟨lv, ev, A, c, a, LA, lc, L, EA, ec, E⟩ := y
  obtain ⟨hr, hwa, hrl, hwl, hre, hwe, -, -⟩ := hy
  simp only at hr hwa hrl hwl hre hwe
  simp only [SchY.v, sOf]
  obtain ⟨r, hr0⟩ : ∃ r, r = schemeB (hasLat o) (hasEff p) lv ev a L E := ⟨_, rfl⟩
  rw [← hr0]
  obtain ⟨qa, hqa⟩ : ∃ q, q = checkB a := ⟨_, rfl⟩
  obtain ⟨ql, hql⟩ : ∃ q, q = boundsB (hasLat o) lv L := ⟨_, rfl⟩
  obtain ⟨qe, hqe⟩ : ∃ q, q = boundsB (hasEff p) ev E := ⟨_, rfl⟩
  have HRE : Aside0 (r = if qa ≠ 0 then qa else if ql ≠ 0 then ql else if qe ≠ 0 then qe else if ((labB a).all (fun x => termOk (hasLat o) lv x.f3) && (effB a).all (fun x => termOk (hasEff p) ev x.f3)) = true then 0 else 1) := ⟨by rw [hr0, schemeB, hqa, hql, hqe]⟩
  obtain ⟨n, hn⟩ : ∃ n, n = a.length := ⟨_, rfl⟩
  obtain ⟨k, hk⟩ : ∃ n, n = L.length := ⟨_, rfl⟩
  obtain ⟨m, hm⟩ : ∃ n, n = E.length := ⟨_, rfl⟩
  have CK : Aside0 (∀ W, Below w.heap.size w W → Calls Tryz.prog 101 #[.slice A n c] W fun e w' => e = .returned (.int .i64 qa) ∧ Below W.heap.size W w') := ⟨fun W hb => by rw [hqa, hn]; exact check_calls W A c a (Kd.C_below hr hb)⟩
  have BL : Aside0 (∀ W, Below w.heap.size w W → Calls Tryz.prog 126 #[.iface 54 v1, .int .i64 lv, .slice LA k lc] W fun e w' => e = .returned (.int .i64 ql) ∧ Below W.heap.size W w') := ⟨fun W hb => by rw [hql]; exact bchkL_calls W LA lc k L lv v1 o hk (bound_nn hwl) (by rw [hk]; exact Kd.C_below hrl hb) (hv1.kept hb)⟩
  have BE : Aside0 (∀ W, Below w.heap.size w W → Calls Tryz.prog 126 #[.iface 55 v2, .int .i64 ev, .slice EA m ec] W fun e w' => e = .returned (.int .i64 qe) ∧ Below W.heap.size W w') := ⟨fun W hb => by rw [hqe]; exact bchkE_calls W EA ec m E ev v2 p hm (bound_nn hwe) (by rw [hm]; exact Kd.C_below hre hb) (hv2.kept hb)⟩
  have HR := Aside0.mk hr
  have HWA := Aside0.mk hwa
  have HN := Aside0.mk hn
  have HQ := Aside0.mk (And.intro hqa (And.intro hql hqe))
  have HV := Aside0.mk (And.intro hv1 hv2)
  rw [← hn, ← hk, ← hm]
  obtain ⟨O, hO⟩ : ∃ O : Obj, O = .cells #[.int .i64 lv, .int .i64 ev, .slice A n c, .slice LA k lc, .slice EA m ec] 80 := ⟨_, rfl⟩
  have HB := Aside0.mk (below_alloc (Below.refl w.heap.size w) O)
  have g := blk_new w O
  subst hO
  have c0 := (blk_cell g 0).trans (show _ = some (Value.int .i64 lv) from rfl)
  have c1 := (blk_cell g 1).trans (show _ = some (Value.int .i64 ev) from rfl)
  have c2 := (blk_cell g 2).trans (show _ = some (Value.slice A n c) from rfl)
  have c3 := (blk_cell g 3).trans (show _ = some (Value.slice LA k lc) from rfl)
  have c4 := (blk_cell g 4).trans (show _ = some (Value.slice EA m ec) from rfl)
  clear g hr0 hr hwa hrl hwl hre hwe hqa hql hqe hn hk hm hv1 hv2
  by_cases q1 : qa = 0
  rotate_left
  · have z1 : (qa != 0) = true := bne_iff_ne.mpr q1
    have HE : Aside0 (r = qa) := ⟨by rw [HRE.out, if_pos q1]⟩
    clear HRE q1
    go_enter Tryz.func40, Tryz.ntmps40
    go_wp2_with (go_at_call 101; (with_reducible refine (CK.out _ HB.out).mono ?_); rintro e W' ⟨rfl, hb'⟩; replace c0 := pw_cell_below hb' c0; replace c1 := pw_cell_below hb' c1; replace c2 := pw_cell_below hb' c2; replace c3 := pw_cell_below hb' c3; replace c4 := pw_cell_below hb' c4; have HB' := Aside0.mk (below_step HB.out hb'); clear HB hb'; have HB := HB'; clear HB')
    go_ret
    rw [HE.out]
    exact ⟨rfl, HB.out⟩
  subst q1
  by_cases q1 : ql = 0
  rotate_left
  · have z1 : (ql != 0) = true := bne_iff_ne.mpr q1
    have HE : Aside0 (r = ql) := ⟨by rw [HRE.out, if_neg (by simp), if_pos q1]⟩
    clear HRE q1
    go_enter Tryz.func40, Tryz.ntmps40
    go_wp2_with (first | (go_at_call 101; (with_reducible refine (CK.out _ HB.out).mono ?_); rintro e W' ⟨rfl, hb'⟩; replace c0 := pw_cell_below hb' c0; replace c1 := pw_cell_below hb' c1; replace c2 := pw_cell_below hb' c2; replace c3 := pw_cell_below hb' c3; replace c4 := pw_cell_below hb' c4; have HB' := Aside0.mk (below_step HB.out hb'); clear HB hb'; have HB := HB'; clear HB') | (go_at_call 126; (with_reducible refine (BL.out _ HB.out).mono ?_); rintro e W' ⟨rfl, hb'⟩; replace c0 := pw_cell_below hb' c0; replace c1 := pw_cell_below hb' c1; replace c2 := pw_cell_below hb' c2; replace c3 := pw_cell_below hb' c3; replace c4 := pw_cell_below hb' c4; have HB' := Aside0.mk (below_step HB.out hb'); clear HB hb'; have HB := HB'; clear HB'))
    go_ret
    rw [HE.out]
    exact ⟨rfl, HB.out⟩
  subst q1
  by_cases q1 : qe = 0
  rotate_left
  · have z1 : (qe != 0) = true := bne_iff_ne.mpr q1
    have HE : Aside0 (r = qe) := ⟨by rw [HRE.out, if_neg (by simp), if_neg (by simp), if_pos q1]⟩
    clear HRE q1
    go_enter Tryz.func40, Tryz.ntmps40
    go_wp2_with (first | (go_at_call 101; (with_reducible refine (CK.out _ HB.out).mono ?_); rintro e W' ⟨rfl, hb'⟩; replace c0 := pw_cell_below hb' c0; replace c1 := pw_cell_below hb' c1; replace c2 := pw_cell_below hb' c2; replace c3 := pw_cell_below hb' c3; replace c4 := pw_cell_below hb' c4; have HB' := Aside0.mk (below_step HB.out hb'); clear HB hb'; have HB := HB'; clear HB') | (go_at_call 126; (with_reducible refine (BL.out _ HB.out).mono ?_); rintro e W' ⟨rfl, hb'⟩; replace c0 := pw_cell_below hb' c0; replace c1 := pw_cell_below hb' c1; replace c2 := pw_cell_below hb' c2; replace c3 := pw_cell_below hb' c3; replace c4 := pw_cell_below hb' c4; have HB' := Aside0.mk (below_step HB.out hb'); clear HB hb'; have HB := HB'; clear HB') | (go_at_call 126; (with_reducible refine (BE.out _ HB.out).mono ?_); rintro e W' ⟨rfl, hb'⟩; replace c0 := pw_cell_below hb' c0; replace c1 := pw_cell_below hb' c1; replace c2 := pw_cell_below hb' c2; replace c3 := pw_cell_below hb' c3; replace c4 := pw_cell_below hb' c4; have HB' := Aside0.mk (below_step HB.out hb'); clear HB hb'; have HB := HB'; clear HB'))
    go_ret
    rw [HE.out]
    exact ⟨rfl, HB.out⟩
  subst q1
  have HRE2 : Aside0 (r = if ((labB a).all (fun x => termOk (hasLat o) lv x.f3) && (effB a).all (fun x => termOk (hasEff p) ev x.f3)) = true then 0 else 1) := ⟨by rw [HRE.out, if_neg (by simp), if_neg (by simp), if_neg (by simp)]⟩
  obtain ⟨hl0, hl64, -⟩ := bounds_vars HQ.out.2.1.symm
  obtain ⟨he0, he64, -⟩ := bounds_vars HQ.out.2.2.symm
  obtain ⟨lv, rfl⟩ := Int.eq_ofNat_of_zero_le hl0
  obtain ⟨ev, rfl⟩ := Int.eq_ofNat_of_zero_le he0
  have hl64' : lv ≤ 64 := by omega
  have he64' : ev ≤ 64 := by omega
  clear HRE hl0 hl64 he0 he64
  go_enter Tryz.func40, Tryz.ntmps40
  go_wp2_with (first | (go_at_call 101; (with_reducible refine (CK.out _ HB.out).mono ?_); rintro e W' ⟨rfl, hb'⟩; replace c0 := pw_cell_below hb' c0; replace c1 := pw_cell_below hb' c1; replace c2 := pw_cell_below hb' c2; replace c3 := pw_cell_below hb' c3; replace c4 := pw_cell_below hb' c4; have HB' := Aside0.mk (below_step HB.out hb'); clear HB hb'; have HB := HB'; clear HB') | (go_at_call 126; (with_reducible refine (BL.out _ HB.out).mono ?_); rintro e W' ⟨rfl, hb'⟩; replace c0 := pw_cell_below hb' c0; replace c1 := pw_cell_below hb' c1; replace c2 := pw_cell_below hb' c2; replace c3 := pw_cell_below hb' c3; replace c4 := pw_cell_below hb' c4; have HB' := Aside0.mk (below_step HB.out hb'); clear HB hb'; have HB := HB'; clear HB') | (go_at_call 126; (with_reducible refine (BE.out _ HB.out).mono ?_); rintro e W' ⟨rfl, hb'⟩; replace c0 := pw_cell_below hb' c0; replace c1 := pw_cell_below hb' c1; replace c2 := pw_cell_below hb' c2; replace c3 := pw_cell_below hb' c3; replace c4 := pw_cell_below hb' c4; have HB' := Aside0.mk (below_step HB.out hb'); clear HB hb'; have HB := HB'; clear HB'))
  have OF := of_calls _ A c a (Kd.C_below HR.out HB.out)
  rw [← HN.out] at OF
  refine OF.mono ?_
  clear OF
  rintro e W1 ⟨u1, u2, rfl, s1, s2, hb'⟩
  obtain ⟨A1, d1, rfl⟩ := Kd.R_slice s1
  obtain ⟨A2, d2, rfl⟩ := Kd.R_slice s2
  obtain ⟨la, hla⟩ : ∃ l, l = labB a := ⟨_, rfl⟩
  obtain ⟨xa, hxa⟩ : ∃ l, l = effB a := ⟨_, rfl⟩
  have n1 : ∀ x ∈ la, 0 ≤ x.f3.f1 := by rw [hla]; exact labB_nonneg HWA.out
  have n2 : ∀ x ∈ xa, 0 ≤ x.f3.f1 := by rw [hxa]; exact effB_nonneg HWA.out
  have q1 : la.length ≤ 256 := by rw [hla]; exact labB_max a
  have q2 : xa.length ≤ 256 := by rw [hxa]; exact effB_max a
  replace s1 := (Kd.R_reads' s1).2.2
  replace s2 := (Kd.R_reads' s2).2.2
  rw [← hla] at s1 ⊢
  rw [← hxa] at s2 ⊢
  have HRE3 : Aside0 (r = if (la.all (fun x => termOk (hasLat o) lv x.f3) && xa.all (fun x => termOk (hasEff p) ev x.f3)) = true then 0 else 1) := ⟨by rw [HRE2.out, hla, hxa]⟩
  obtain ⟨K1, hK1⟩ : ∃ L, L = la.length := ⟨_, rfl⟩
  obtain ⟨K2, hK2⟩ : ∃ L, L = xa.length := ⟨_, rfl⟩
  rw [← hK1] at s1 q1 ⊢
  rw [← hK2] at s2 q2 ⊢
  have HK := Aside0.mk (And.intro hK1 hK2)
  have HNN := Aside0.mk (And.intro n1 n2)
  have HS := Aside0.mk (And.intro s1 s2)
  replace c0 := pw_cell_below hb' c0; replace c1 := pw_cell_below hb' c1; replace c2 := pw_cell_below hb' c2; replace c3 := pw_cell_below hb' c3; replace c4 := pw_cell_below hb' c4
  have HB' := Aside0.mk (below_step HB.out hb'); clear HB hb'; have HB := HB'; clear HB'
  have HVW := Aside0.mk (And.intro (HV.out.1.kept HB.out) (HV.out.2.kept HB.out))
  have HB1 := HB
  clear hla hxa n1 n2 s1 s2 hK1 hK2 HRE2 HB CK BL BE
  have HB := Aside0.mk (Below.refl W1.heap.size W1)
  obtain ⟨t1, ht1⟩ : ∃ t, t = la.all (fun x => termOk (hasLat o) lv x.f3) := ⟨_, rfl⟩
  obtain ⟨t2, ht2⟩ : ∃ t, t = xa.all (fun x => termOk (hasEff p) ev x.f3) := ⟨_, rfl⟩
  have HRE4 : r = if (t1 && t2) = true then 0 else 1 := by rw [HRE3.out, ht1, ht2]
  have T1 : Aside0 (∀ W b1 b2, Below W1.heap.size W1 W → W.cell? ⟨b1, 0, none⟩ = some (.iface 54 v1) → W.cell? ⟨b2, 0, none⟩ = some (.int .i64 (lv : Int)) → Calls Tryz.prog 119 #[.slice A1 K1 d1, .func (.func 128) #[] #[.pointer (some ⟨b1, 0, none⟩), .pointer (some ⟨b2, 0, none⟩)]] W fun e w' => e = .returned (.bool t1) ∧ Below W.heap.size W w') := ⟨fun W b1 b2 hb g1 g2 => by
    rw [ht1]
    exact everyC_calls W A1 d1 K1 la _ _ _ HK.out.1 (by omega) (Kd.C_below HS.out.1 hb) fun W2 hb2 x hx => chk11L_calls W2 b1 b2 x lv hl64' v1 o (HNN.out.1 x hx) (pw_cell_below hb2 g1) (pw_cell_below hb2 g2) ((HVW.out.1.kept hb).kept hb2)⟩
  have T2 : Aside0 (∀ W b1 b2, Below W1.heap.size W1 W → W.cell? ⟨b1, 0, none⟩ = some (.iface 55 v2) → W.cell? ⟨b2, 0, none⟩ = some (.int .i64 (ev : Int)) → Calls Tryz.prog 119 #[.slice A2 K2 d2, .func (.func 128) #[] #[.pointer (some ⟨b1, 0, none⟩), .pointer (some ⟨b2, 0, none⟩)]] W fun e w' => e = .returned (.bool t2) ∧ Below W.heap.size W w') := ⟨fun W b1 b2 hb g1 g2 => by
    rw [ht2]
    exact everyC_calls W A2 d2 K2 xa _ _ _ HK.out.2 (by omega) (Kd.C_below HS.out.2 hb) fun W2 hb2 x hx => chk11E_calls W2 b1 b2 x ev he64' v2 p (HNN.out.2 x hx) (pw_cell_below hb2 g1) (pw_cell_below hb2 g2) ((HVW.out.2.kept hb).kept hb2)⟩
  clear ht1 ht2 HRE3
  have HRE4 := Aside0.mk HRE4
  go_wp2_with fail
  refine (mayL_calls _ v1 _).mono ?_
  rintro e W2 ⟨b1, b2, rfl, g1, g2, hb'⟩
  replace c0 := pw_cell_below hb' c0; replace c1 := pw_cell_below hb' c1; replace c2 := pw_cell_below hb' c2; replace c3 := pw_cell_below hb' c3; replace c4 := pw_cell_below hb' c4
  have HB' := Aside0.mk (below_step HB.out hb'); clear HB hb'; have HB := HB'; clear HB'
  cases t1 with
  | false =>
    have HE : Aside0 (r = 1) := ⟨by rw [HRE4.out]; rfl⟩
    clear HRE4
    go_wp2_with (go_at_call 119; (with_reducible refine (T1.out _ _ _ HB.out g1 g2).mono ?_); rintro e W' ⟨rfl, hb'⟩; replace c0 := pw_cell_below hb' c0; replace c1 := pw_cell_below hb' c1; replace c2 := pw_cell_below hb' c2; replace c3 := pw_cell_below hb' c3; replace c4 := pw_cell_below hb' c4; have HB' := Aside0.mk (below_step HB.out hb'); clear HB hb'; have HB := HB'; clear HB')
    go_ret
    rw [HE.out]
    exact ⟨rfl, below_step HB1.out HB.out⟩
  | true =>
    go_wp2_with (go_at_call 119; (with_reducible refine (T1.out _ _ _ HB.out g1 g2).mono ?_); rintro e W' ⟨rfl, hb'⟩; replace c0 := pw_cell_below hb' c0; replace c1 := pw_cell_below hb' c1; replace c2 := pw_cell_below hb' c2; replace c3 := pw_cell_below hb' c3; replace c4 := pw_cell_below hb' c4; have HB' := Aside0.mk (below_step HB.out hb'); clear HB hb'; have HB := HB'; clear HB')
    refine (mayE_calls _ v2 _).mono ?_
    rintro e W3 ⟨b3, b4, rfl, g3, g4, hb'⟩
    replace c0 := pw_cell_below hb' c0; replace c1 := pw_cell_below hb' c1; replace c2 := pw_cell_below hb' c2; replace c3 := pw_cell_below hb' c3; replace c4 := pw_cell_below hb' c4
    have HB' := Aside0.mk (below_step HB.out hb'); clear HB hb'; have HB := HB'; clear HB'
    cases t2 with
    | false =>
      have HE : Aside0 (r = 1) := ⟨by rw [HRE4.out]; rfl⟩
      clear HRE4
      go_wp2_with (go_at_call 119; (with_reducible refine (T2.out _ _ _ HB.out g3 g4).mono ?_); rintro e W' ⟨rfl, hb'⟩; replace c0 := pw_cell_below hb' c0; replace c1 := pw_cell_below hb' c1; replace c2 := pw_cell_below hb' c2; replace c3 := pw_cell_below hb' c3; replace c4 := pw_cell_below hb' c4; have HB' := Aside0.mk (below_step HB.out hb'); clear HB hb'; have HB := HB'; clear HB')
      go_ret
      rw [HE.out]
      exact ⟨rfl, below_step HB1.out HB.out⟩
    | true =>
      have HE : Aside0 (r = 0) := ⟨by rw [HRE4.out]; rfl⟩
      clear HRE4
      go_wp2_with (go_at_call 119; (with_reducible refine (T2.out _ _ _ HB.out g3 g4).mono ?_); rintro e W' ⟨rfl, hb'⟩; replace c0 := pw_cell_below hb' c0; replace c1 := pw_cell_below hb' c1; replace c2 := pw_cell_below hb' c2; replace c3 := pw_cell_below hb' c3; replace c4 := pw_cell_below hb' c4; have HB' := Aside0.mk (below_step HB.out hb'); clear HB hb'; have HB := HB'; clear HB')
      go_ret
      rw [HE.out]
      exact ⟨rfl, below_step HB1.out HB.out⟩
end Go.Proofs.YtjndjmggilcngaaGreatDoor
