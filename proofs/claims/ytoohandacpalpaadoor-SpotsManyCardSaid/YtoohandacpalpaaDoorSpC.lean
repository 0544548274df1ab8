/- The function that 'sides' hands back: in each round a node's place and its side. -/
import Derived.Test.YtoohandacpalpaaDoorSpB
import Derived.Test.YtoohandacpalpaaDoorRf
import Derived.RangeFuncCalls
import Derived.RangeFuncLeaves
import Derived.Shelf.Abstract
import Derived.Shelf.RegionOpen
import Derived.WalkKit
import Derived.OwnWalkIn
import Derived.TacticsInMore
import Derived.LoopNIn
import Derived.LoopIn
namespace Go.Proofs.YtoohandacpalpaaDoor
open Go.RowKit Go.Shelf Go.Proofs.YtoohandacpalpaaDoorW.PrintWords Go.Proofs.YtoohandacpalpaaDoorW.PrintLast Go.Proofs.YtoohandacpalpaaDoorW.PrintMore
set_option linter.unusedVariables false
set_option linter.unusedSimpArgs false
attribute [local go_sem] Oper.semAt_some
/-- The iterator's own rows. -/
def sidesT (o : Obj) : Prop := ∃ cells, o = .cells cells 48 (0, 0)
/-- What a round must keep. -/
def sidesKp (n0 : Nat) (A B : World) : Prop := Below n0 A B ∧ ∀ (k : Nat) cells t, (t = 48 ∨ t = 36) → A.heap[k]? = some (.cells cells t (0, 0)) → B.heap[k]? = some (.cells cells t (0, 0))
def sidesE (x : Nat × Int) : Array Value := #[.int .i64 (x.1 : Int), .int .u8 x.2]
def sidesXs (ss : List Int) : List (Nat × Int) := (List.range ss.length).zip ss
theorem sidesXs_len (ss : List Int) : (sidesXs ss).length = ss.length := by simp [sidesXs]
theorem sidesXs_get (ss : List Int) (k : Nat) (h : k < (sidesXs ss).length) (h2 : k < ss.length) : (sidesXs ss)[k] = (k, ss[k]) := by simp [sidesXs]
theorem R_cellI8 {W : World} {e base g n cap : Nat} {ok : Nat → Prop} {xs : List Int} (h : (Kd.int .u8).R e W base ok (.slice (some ⟨g, 0, none⟩) n cap) xs) (i : Nat) (hi : i < xs.length) : W.cell? ⟨g, i, none⟩ = some (.int .u8 xs[i]) := by
  obtain ⟨ad, e, hc⟩ := C_intN (Kd.R_reads' h).2.2 i hi
  cases e
  rw [add_plain] at hc
  simpa using hc
theorem R_lastI8 {W : World} {e base g n cap : Nat} {ok : Nat → Prop} {xs : List Int} {s : Int} (h : (Kd.int .u8).R e W base ok (.slice (some ⟨g, 0, none⟩) n cap) (xs ++ [s])) : W.cell? ⟨g, xs.length, none⟩ = some (.int .u8 s) := by
  have := R_cellI8 h xs.length (by simp)
  simpa using this
theorem R_typed {A B : World} {base : Nat} {v : Value} {xs : List Int} (h : (Kd.int .u8).R 48 A base (fun _ => True) v xs) (hm : ∀ (k : Nat) cells, A.heap[k]? = some (.cells cells 48 (0, 0)) → B.heap[k]? = A.heap[k]?) : (Kd.int .u8).R 48 B base (fun _ => True) v xs := by
  refine Kd.R_mono (Kd.R_move (Kd.R_bound h) (fun k hk => ?_)) (fun _ _ => trivial)
  obtain ⟨_, _, _, q, hq, cells, hc⟩ := hk
  simp only [Kd.int, Kd.scalar, List.mem_cons, List.not_mem_nil, or_false] at hq
  subst hq
  exact hm k cells hc
theorem below_then {n0 : Nat} {A B C : World} (h : Below n0 A B) (h2 : Below n0 B C) : Below n0 A C := h.trans h2
theorem sides_own {A : World} {base : Nat} {v : Value} {xs : List Int} (h : (Kd.int .u8).R 48 A base (fun _ => True) v xs) (q : Nat) (hq : v.ownBlock = some q) : base ≤ q ∧ ∃ o : Obj, A.heap[q]? = some o ∧ sidesT o := by
  obtain ⟨_, h1, _, t, ht, cells, hc⟩ := (Kd.R_bound h).1 q hq
  simp only [Kd.int, Kd.scalar, List.mem_cons, List.not_mem_nil, or_false] at ht
  subst ht
  exact ⟨h1, _, hc, cells, rfl⟩
theorem grown_none {A B : World} (h : Below A.heap.size A B) : A.grownBy B none := ⟨h.os, h.tape, h.output, h.size, fun k hk _ => h.block k hk⟩
theorem C_ints {W : World} {g : Nat} {t : TypeId} {xs : List Int} (hb : W.heap[g]? = some (.cells (xs.map (Value.int .u8)).toArray t (0, 0))) (hl : xs.length ≤ 9223372036854775807) : (Kd.int .u8).C W (some ⟨g, 0, none⟩) xs.length xs := by
  refine C_block hb ⟨by simp [Kd.int, Kd.scalar], fun j p hj => ?_⟩ hl
  have h1 := (List.getElem?_eq_some_iff.1 hj).1
  show _ = [Value.int .u8 p]
  have : ((xs.map (Value.int .u8)).drop (j * 1)).take 1 = [Value.int .u8 p] := by
    rw [Nat.mul_one, List.drop_eq_getElem_cons (by simpa using h1)]
    simp only [List.take_succ_cons, List.take_zero, List.getElem_map, List.cons.injEq, and_true]
    rw [List.getElem?_eq_getElem h1] at hj
    injection hj with hj
    rw [hj]
  exact this
set_option maxRecDepth 100000 in
set_option maxHeartbeats 4000000 in
theorem sides1_rows (n : Nat) (hn1 : 2 ≤ n) (w0 w : World) (A : Option Addr) (c : Nat) (body : List Node) (Bb : Nat) (hz : checkB body = 0) (hb : Bb < w.heap.size) (hc : w.cell? ⟨Bb, 0, none⟩ = some (.slice A body.length c)) (hr : kNode.C w0 A body.length body) (hb0 : Below w0.heap.size w0 w) :
    SeqRows Fence.wide n Tryd.prog 61 #[.pointer (some ⟨Bb, 0, none⟩)] sidesE sidesT (sidesKp w0.heap.size) (sidesXs (sidesB body)) w := by
  intro l J W hW hJ hY h0
  have hn2 : 1 ≤ n := by omega
  have hn3 : 1 ≤ n - 1 := by omega
  have hlen : (sidesB body).length = body.length := sidesB_len hz 0
  have hl128 : body.length ≤ 128 := (checkB_L hz).2.1
  have hBb := (hW.cell (p := ⟨Bb, 0, none⟩) hb).trans hc
  have HR := Aside0.mk hr
  have HW0 := Aside0.mk (below_step hb0 hW)
  have HZ := Aside0.mk hz
  have HL := Aside0.mk hlen
  have HJ := Aside0.mk hJ
  have HY := Aside0.mk hY
  have H0 := Aside0.mk h0
  have HBL := Aside0.mk hb
  have HW := Aside0.mk hW
  obtain ⟨N, hN⟩ : ∃ N, N = body.length := ⟨_, rfl⟩
  have HN := Aside0.mk hN
  rw [← hN] at hBb hl128
  clear hJ hY h0 hr hz hlen hN hc hW hb0
  refine callsIn_of_wp Tryd.func61 rfl trivial ?_ rfl
  simp only [Tryd.ntmps61, List.size_toArray, List.length_cons, List.length_nil, Nat.reduceAdd, Nat.reduceSub, Array.replicate_succ, Array.replicate_zero, List.push_toArray, List.append_toArray, List.nil_append, List.cons_append]
  have hBb2 := ((below_alloc (Below.refl W.heap.size W) (.cells #[.int .u8 0] 48)).cell (p := ⟨Bb, 0, none⟩) (Nat.lt_of_lt_of_le hb HW.out.size)).trans hBb
  gi_wp2
  have HO : Aside0 ((Kd.int .u8).R 48 (W.alloc (.cells #[.int .u8 0] 48)) W.heap.size (fun _ => True) (.slice (some ⟨W.heap.size, 0, none⟩) 1 1) [0]) := ⟨R_block (cells := [.int .u8 0]) (blk_new W _) (Nat.le_refl _) trivial ⟨rfl, fun k p hk => by
    rcases k with _ | k
    · obtain rfl : (0 : Int) = p := by simpa using hk
      rfl
    · simp at hk⟩ (by decide)⟩
  have HJ1 : Aside0 (J 0 (W.alloc (.cells #[.int .u8 0] 48))) := ⟨HJ.out 0 _ _ none H0.out (World.grownBy_alloc W _ none) (fun r e => by cases e)⟩
  have HB1 := Aside0.mk (And.intro (below_alloc HW0.out (.cells #[.int .u8 0] 48)) (show W.heap.size ≤ (W.alloc (.cells #[.int .u8 0] 48)).heap.size by simp))
  gi_loopw [11, 3] (fun i v wr => ∃ (k m : Nat) (A2 : Option Addr) (cap : Nat), i = .int .i64 (k : Int) ∧ v = .slice A2 m cap ∧ k ≤ N ∧ Aside0 (m = (leftL (body.take k) [0]).length ∧ J k wr ∧ (Kd.int .u8).R 48 wr W.heap.size (fun _ => True) (.slice A2 m cap) (leftL (body.take k) [0]).reverse ∧ Below w0.heap.size w0 wr ∧ W.heap.size ≤ wr.heap.size))
    (fun i v wr => N - (intOf i).toNat)
  case atStart => exact ⟨0, 1, _, _, rfl, rfl, Nat.zero_le _, ⟨rfl, HJ1.out, HO.out, HB1.out.1, HB1.out.2⟩⟩
  case round =>
    clear HO HJ1 HB1 hBb hBb2
    obtain ⟨k, m, A2, cap, rfl, rfl, hkN, HI⟩ := hrel
    rcases Nat.lt_or_ge k N with hlt | hge
    · have hd : decide (k < N) = true := decide_eq_true hlt
      have hkb : k < body.length := by rw [← HN.out]; exact hlt
      obtain ⟨s, r, hst, hsk⟩ := leftL_pos body [0] k HL.out hkb
      obtain ⟨hm, hJk, hRo, hBo, hWs⟩ := HI.out
      rw [hst, List.length_cons] at hm
      rw [hst, List.reverse_cons] at hRo
      have hs2 : (sidesXs (sidesB body))[k]'(by rw [sidesXs_len, HL.out]; exact hkb) = (k, s) := by
        rw [sidesXs_get _ _ _ (by rw [HL.out]; exact hkb)]
        rw [List.getElem?_eq_getElem (by rw [show sidesL body [0] = sidesB body from rfl, HL.out]; exact hkb)] at hsk
        injection hsk with hsk
        rw [← hsk]; rfl
      obtain ⟨M, hM⟩ : ∃ M, M = r.length := ⟨_, rfl⟩
      have hMb : M ≤ 1024 := by
        have h1 := leftL_len (body.take k) [0] (fun n hn => (check_f3 HZ.out n (List.mem_of_mem_take hn)).2)
        rw [hst, List.length_take] at h1
        simp only [List.length_cons, List.length_nil] at h1
        omega
      have HMM := Aside0.mk hM
      rw [← hM] at hm
      subst hm
      have HST := Aside0.mk hst
      obtain ⟨g, cap', hv, hBg, hgl, cells, hgc⟩ := Kd.R_form hRo (by simp)
      injection hv with hv1 hv2 hv3
      subst hv3
      subst hv1
      have hcl := R_lastI8 hRo
      rw [List.length_reverse, ← hM] at hcl
      have hcap : M + 1 ≤ cap := by
        have h3 := (Kd.R_reads' hRo).2.1
        exact h3
      obtain ⟨ad, rfl, c0, c1, c2, c3, c4, c5, c6, c7, c8, c9⟩ := C_nodeN (Kd.C_below HR.out hBo) k hkb
      obtain ⟨nd, hnd⟩ : ∃ nd, nd = body[k] := ⟨_, rfl⟩
      rw [← hnd] at c0 c1 c2 c3 c4 c5 c6 c7 c8 c9
      have hcl2 := fun o => pw_cell_below (below_alloc (Below.refl wr.heap.size wr) o) hcl
      have HND := Aside0.mk hnd
      have HRO := Aside0.mk hRo
      have HBO := Aside0.mk hBo
      have HJ2 := Aside0.mk (HJ.out k _ _ none hJk (World.grownBy_alloc wr (.cells (nodeC nd).toArray 36) none) (fun r e => by cases e))
      obtain ⟨fn, tmps, assign, bod, hy, hR⟩ := HY.out k (by rw [sidesXs_len, HL.out]; exact hkb) _ HJ2.out
      rw [hs2] at hy
      simp only [sidesE, nodeC] at hy
      have HRR := Aside0.mk hR
      clear hR hs2 hsk hst hRo hBo hJk hnd hM HI hgc hgl hBg hcl
      clear hv2
      have hw1 : IntKind.i64.wrap (((M + 1 : Nat) : Int) - 1) = (M : Int) := by rw [IntWalk.i64_in _ (by omega)]; omega
      have HWS := Aside0.mk hWs
      clear hWs
      gi_wp2
      refine HRR.out.mono ?_
      rintro e W3 ⟨rfl, hJ3, hk3⟩
      have hnb := hk3.2 _ _ _ (.inr rfl) (blk_new wr (.cells (nodeC nd).toArray 36))
      have hR3 := R_typed (Kd.R_below HRO.out (below_alloc (Below.refl _ _) (.cells (nodeC nd).toArray 36))) (fun k cells h => (hk3.2 k cells _ (.inl rfl) h).trans h.symm)
      have hR4 := Kd.R_take hR3 (m := M) (by first | omega | (rw [List.length_append, List.length_reverse, ← HMM.out]; omega))
      rw [List.take_left' (by rw [List.length_reverse, HMM.out])] at hR4
      have HR4 := Aside0.mk hR4
      have HB3 := Aside0.mk (below_then (below_alloc HBO.out (.cells (nodeC nd).toArray 36)) hk3.1)
      have HS3 : Aside0 (W.heap.size ≤ W3.heap.size) := ⟨by have h1 := HWS.out; have h2 := hk3.1.size; simp at h2; omega⟩
      have HJ3 := Aside0.mk hJ3
      have hf3 := check_f3 HZ.out nd (by rw [HND.out]; exact List.getElem_mem _)
      obtain ⟨K, hK⟩ : ∃ K : Nat, nd.f3 = K := ⟨nd.f3.toNat, by omega⟩
      have hK8 : K ≤ 8 := by omega
      obtain ⟨b, hb'⟩ : ∃ b, b = wr.heap.size := ⟨_, rfl⟩
      rw [← hb'] at hnb ⊢
      have hnk : ∀ o, (W3.alloc o).cell? ⟨b, 3, none⟩ = some (.int .i64 (K : Int)) := fun o => by rw [blk_cell (blk_alloc hnb o) 3, ← hK]; rfl
      have HNB := Aside0.mk hnb
      have HK3 := Aside0.mk hK
      clear hnb hR3 hR4 hJ3 hk3 hf3 hb' HRR HRO HBO HWS hK c0 c1 c2 c3 c4 c5 c6 c7 c8 c9 hcl2 hy HJ2
      have hmy := check_may HZ.out nd (by rw [HND.out]; exact List.getElem_mem _)
      by_cases k4 : nd.f0 = 4
      · obtain rfl : K = 1 := by have := may_ref hmy k4; have := HK3.out; omega
        have hbs : (belowS nd s).reverse = [2] := by unfold belowS; rw [if_neg (by omega), if_pos k4, HK3.out]; rfl
        gi_wp2_with (first | (refine ⟨trivial, ?_⟩; gi_at_call 62; refine (callsIn_wide.2 (repeat_calls _ s _ hK8 ⟨W3.heap.size, 0, none⟩ 1 (by rw [blk_cell (blk_new W3 _) 0]; rfl) (by simp))).mono ?_; rintro e W4 ⟨rfl, hg4, hb4⟩; have hn0 : W4.cell? ⟨b, 0, none⟩ = some (.int .u8 nd.f0) := (hb4.cell (p := ⟨b, 0, none⟩) (by have := blk_lt HNB.out; simp; omega)).trans (by rw [blk_cell (blk_alloc HNB.out _) 0]; rfl); rw [World.size_alloc] at hg4; have hgc := blk_cell hg4; have hgf := blk_frozen hg4; have HG4 := Aside0.mk hg4; have HB4 := Aside0.mk (Below.trans (below_alloc (Below.refl W3.heap.size W3) (.cells #[.int .u8 s] 48)) (hb4.mono (by simp))); clear hg4 hb4) | (gi_at_builtin; have HE : Aside0 (Below W3.heap.size W3 (W4.setCell ⟨W3.heap.size + 1, 0, none⟩ (.int .u8 2)) ∧ (Kd.int .u8).C (W4.setCell ⟨W3.heap.size + 1, 0, none⟩ (.int .u8 2)) (some ⟨W3.heap.size + 1, 0, none⟩) 1 (belowS nd s).reverse) := ⟨HB4.out.setCell (p := ⟨W3.heap.size + 1, 0, none⟩) (Nat.le_succ _) _, (by rw [hbs]; exact C_ints (xs := [2]) (by simpa using blk_set HG4.out 0 (.int .u8 2)) (by decide))⟩; refine wpListIn_append_R rfl (Kd.int .u8) W.heap.size (.tmp 49) (.tmp 50) 71 71 48 48 (.int .u8 0) 1 rfl (by kernel_rfl) (by kernel_rfl) infoS rfl (by decide) (by decide) (.slice (some ⟨g, 0, none⟩) M cap) r.reverse (belowS nd s).reverse (some ⟨W3.heap.size + 1, 0, none⟩) _ _ (fun _ => True) (fun _ => False) rfl rfl (Kd.R_below HR4.out HE.out.1) HE.out.2 (fun x cs h => h) (fun _ h => h.elim) (fun _ _ => trivial) (Nat.le_trans HS3.out HE.out.1.size) (by rw [List.length_reverse, ← HMM.out]; omega) ?_; intro v1 w6 HO6 hg6 hat; obtain ⟨A6, c6, rfl⟩ := Kd.R_slice HO6; obtain ⟨L, hL⟩ : ∃ L, L = (r.reverse ++ (belowS nd s).reverse).length := ⟨_, rfl⟩; rw [← hL] at HO6 ⊢; have HL2 := Aside0.mk hL; clear hL; have HO7 := Aside0.mk HO6; have HG6 := Aside0.mk hg6; clear HO6 hg6 hat))
        go_roundw
        case rel =>
          have hnext : leftL (body.take (k + 1)) [0] = belowS nd s ++ r := by
            rw [List.take_succ_eq_append_getElem hkb, ← HND.out]
            exact leftL_snoc _ _ _ _ _ HST.out
          have hrev : (leftL (body.take (k + 1)) [0]).reverse = r.reverse ++ (belowS nd s).reverse := by rw [hnext, List.reverse_append]
          have hown : ∀ q, (Value.slice (some ⟨g, 0, none⟩) M cap).ownBlock = some q → W.heap.size ≤ q ∧ ∃ o : Obj, _ := fun q hq => sides_own (Kd.R_below HR4.out HE.out.1) q hq
          refine ⟨k + 1, L, A6, c6, by go_num, rfl, by omega, ⟨?_, ?_, ?_, ?_, ?_⟩⟩
          · rw [HL2.out, ← hrev, List.length_reverse]
          · exact HJ.out _ _ _ _ (HJ.out _ _ _ none HJ3.out (grown_none HE.out.1) (fun r e => by cases e)) HG6.out (fun q hq => hown q hq)
          · rw [hrev]; exact HO7.out
          · exact (below_step HB3.out HE.out.1).grown HG6.out (Nat.le_trans HB3.out.size HE.out.1.size) (fun q hq => Nat.le_trans HW0.out.size (hown q hq).1)
          · exact Nat.le_trans HS3.out (Nat.le_trans HE.out.1.size HG6.out.size)
        case measure => simp [intOf]; omega
      · have e4 : (nd.f0 == 4) = false := beq_eq_false_iff_ne.mpr k4
        by_cases k5 : nd.f0 = 5
        · obtain rfl : K = 2 := by have := may_fun hmy k5; have := HK3.out; omega
          have hbs : (belowS nd s).reverse = [s, turnI s] := by unfold belowS; rw [if_pos k5, HK3.out]; rfl
          gi_wp2_with (first | (refine ⟨trivial, ?_⟩; gi_at_call 62; refine (callsIn_wide.2 (repeat_calls _ s _ hK8 ⟨W3.heap.size, 0, none⟩ 1 (by rw [blk_cell (blk_new W3 _) 0]; rfl) (by simp))).mono ?_; rintro e W4 ⟨rfl, hg4, hb4⟩; have hn0 : W4.cell? ⟨b, 0, none⟩ = some (.int .u8 nd.f0) := (hb4.cell (p := ⟨b, 0, none⟩) (by have := blk_lt HNB.out; simp; omega)).trans (by rw [blk_cell (blk_alloc HNB.out _) 0]; rfl); rw [World.size_alloc] at hg4; have hgc := blk_cell hg4; have hgf := blk_frozen hg4; have HG4 := Aside0.mk hg4; have HB4 := Aside0.mk (Below.trans (below_alloc (Below.refl W3.heap.size W3) (.cells #[.int .u8 s] 48)) (hb4.mono (by simp))); clear hg4 hb4) | (refine ⟨trivial, ?_⟩; gi_at_call 55; refine (callsIn_wide.2 (turned_calls _ s)).mono ?_; rintro e W5 ⟨rfl, rfl⟩) | (gi_at_builtin; have HE : Aside0 (Below W3.heap.size W3 (W4.setCell ⟨W3.heap.size + 1, 1, none⟩ (.int .u8 (turnI s))) ∧ (Kd.int .u8).C (W4.setCell ⟨W3.heap.size + 1, 1, none⟩ (.int .u8 (turnI s))) (some ⟨W3.heap.size + 1, 0, none⟩) 2 (belowS nd s).reverse) := ⟨HB4.out.setCell (p := ⟨W3.heap.size + 1, 1, none⟩) (Nat.le_succ _) _, (by rw [hbs]; exact C_ints (xs := [s, turnI s]) (by simpa using blk_set HG4.out 1 (.int .u8 (turnI s))) (show 2 ≤ _ by decide))⟩; refine wpListIn_append_R rfl (Kd.int .u8) W.heap.size (.tmp 49) (.tmp 50) 71 71 48 48 (.int .u8 0) 1 rfl (by kernel_rfl) (by kernel_rfl) infoS rfl (by decide) (by decide) (.slice (some ⟨g, 0, none⟩) M cap) r.reverse (belowS nd s).reverse (some ⟨W3.heap.size + 1, 0, none⟩) _ _ (fun _ => True) (fun _ => False) rfl rfl (Kd.R_below HR4.out HE.out.1) HE.out.2 (fun x cs h => h) (fun _ h => h.elim) (fun _ _ => trivial) (Nat.le_trans HS3.out HE.out.1.size) (by rw [List.length_reverse, ← HMM.out]; omega) ?_; intro v1 w6 HO6 hg6 hat; obtain ⟨A6, c6, rfl⟩ := Kd.R_slice HO6; obtain ⟨L, hL⟩ : ∃ L, L = (r.reverse ++ (belowS nd s).reverse).length := ⟨_, rfl⟩; rw [← hL] at HO6 ⊢; have HL2 := Aside0.mk hL; clear hL; have HO7 := Aside0.mk HO6; have HG6 := Aside0.mk hg6; clear HO6 hg6 hat))
          go_roundw
          case rel =>
            have hnext : leftL (body.take (k + 1)) [0] = belowS nd s ++ r := by
              rw [List.take_succ_eq_append_getElem hkb, ← HND.out]
              exact leftL_snoc _ _ _ _ _ HST.out
            have hrev : (leftL (body.take (k + 1)) [0]).reverse = r.reverse ++ (belowS nd s).reverse := by rw [hnext, List.reverse_append]
            have hown : ∀ q, (Value.slice (some ⟨g, 0, none⟩) M cap).ownBlock = some q → W.heap.size ≤ q ∧ ∃ o : Obj, _ := fun q hq => sides_own (Kd.R_below HR4.out HE.out.1) q hq
            refine ⟨k + 1, L, A6, c6, by go_num, rfl, by omega, ⟨?_, ?_, ?_, ?_, ?_⟩⟩
            · rw [HL2.out, ← hrev, List.length_reverse]
            · exact HJ.out _ _ _ _ (HJ.out _ _ _ none HJ3.out (grown_none HE.out.1) (fun r e => by cases e)) HG6.out (fun q hq => hown q hq)
            · rw [hrev]; exact HO7.out
            · exact (below_step HB3.out HE.out.1).grown HG6.out (Nat.le_trans HB3.out.size HE.out.1.size) (fun q hq => Nat.le_trans HW0.out.size (hown q hq).1)
            · exact Nat.le_trans HS3.out (Nat.le_trans HE.out.1.size HG6.out.size)
          case measure => simp [intOf]; omega
        · have e5 : (nd.f0 == 5) = false := beq_eq_false_iff_ne.mpr k5
          have hbs : (belowS nd s).reverse = List.replicate K s := by unfold belowS; rw [if_neg k5, if_neg k4, HK3.out, Int.toNat_natCast, List.reverse_replicate]
          gi_wp2_with (first | (refine ⟨trivial, ?_⟩; gi_at_call 62; refine (callsIn_wide.2 (repeat_calls _ s _ hK8 ⟨W3.heap.size, 0, none⟩ 1 (by rw [blk_cell (blk_new W3 _) 0]; rfl) (by simp))).mono ?_; rintro e W4 ⟨rfl, hg4, hb4⟩; have hn0 : W4.cell? ⟨b, 0, none⟩ = some (.int .u8 nd.f0) := (hb4.cell (p := ⟨b, 0, none⟩) (by have := blk_lt HNB.out; simp; omega)).trans (by rw [blk_cell (blk_alloc HNB.out _) 0]; rfl); rw [World.size_alloc] at hg4; have hgc := blk_cell hg4; have hgf := blk_frozen hg4; have HG4 := Aside0.mk hg4; have HB4 := Aside0.mk (Below.trans (below_alloc (Below.refl W3.heap.size W3) (.cells #[.int .u8 s] 48)) (hb4.mono (by simp))); clear hg4 hb4) | (gi_at_builtin; have HE : Aside0 (Below W3.heap.size W3 W4 ∧ (Kd.int .u8).C W4 (some ⟨W3.heap.size + 1, 0, none⟩) K (belowS nd s).reverse) := ⟨HB4.out, (by have h := C_ints (xs := List.replicate K s) (by rw [List.map_replicate]; exact HG4.out) (by simp; omega); rw [List.length_replicate] at h; rw [hbs]; exact h)⟩; refine wpListIn_append_R rfl (Kd.int .u8) W.heap.size (.tmp 49) (.tmp 50) 71 71 48 48 (.int .u8 0) 1 rfl (by kernel_rfl) (by kernel_rfl) infoS rfl (by decide) (by decide) (.slice (some ⟨g, 0, none⟩) M cap) r.reverse (belowS nd s).reverse (some ⟨W3.heap.size + 1, 0, none⟩) _ _ (fun _ => True) (fun _ => False) rfl rfl (Kd.R_below HR4.out HE.out.1) HE.out.2 (fun x cs h => h) (fun _ h => h.elim) (fun _ _ => trivial) (Nat.le_trans HS3.out HE.out.1.size) (by rw [List.length_reverse, ← HMM.out]; omega) ?_; intro v1 w6 HO6 hg6 hat; obtain ⟨A6, c6, rfl⟩ := Kd.R_slice HO6; obtain ⟨L, hL⟩ : ∃ L, L = (r.reverse ++ (belowS nd s).reverse).length := ⟨_, rfl⟩; rw [← hL] at HO6 ⊢; have HL2 := Aside0.mk hL; clear hL; have HO7 := Aside0.mk HO6; have HG6 := Aside0.mk hg6; clear HO6 hg6 hat))
          go_roundw
          case rel =>
            have hnext : leftL (body.take (k + 1)) [0] = belowS nd s ++ r := by
              rw [List.take_succ_eq_append_getElem hkb, ← HND.out]
              exact leftL_snoc _ _ _ _ _ HST.out
            have hrev : (leftL (body.take (k + 1)) [0]).reverse = r.reverse ++ (belowS nd s).reverse := by rw [hnext, List.reverse_append]
            have hown : ∀ q, (Value.slice (some ⟨g, 0, none⟩) M cap).ownBlock = some q → W.heap.size ≤ q ∧ ∃ o : Obj, _ := fun q hq => sides_own (Kd.R_below HR4.out HE.out.1) q hq
            refine ⟨k + 1, L, A6, c6, by go_num, rfl, by omega, ⟨?_, ?_, ?_, ?_, ?_⟩⟩
            · rw [HL2.out, ← hrev, List.length_reverse]
            · exact HJ.out _ _ _ _ (HJ.out _ _ _ none HJ3.out (grown_none HE.out.1) (fun r e => by cases e)) HG6.out (fun q hq => hown q hq)
            · rw [hrev]; exact HO7.out
            · exact (below_step HB3.out HE.out.1).grown HG6.out (Nat.le_trans HB3.out.size HE.out.1.size) (fun q hq => Nat.le_trans HW0.out.size (hown q hq).1)
            · exact Nat.le_trans HS3.out (Nat.le_trans HE.out.1.size HG6.out.size)
          case measure => simp [intOf]; omega
    · have hd : decide (k < N) = false := decide_eq_false (by omega)
      obtain rfl : k = N := by omega
      gi_wp2
      go_end0
      refine ⟨⟨_, rfl⟩, ?_⟩
      rw [sidesXs_len, HL.out, ← HN.out]
      exact HI.out.2.1
end Go.Proofs.YtoohandacpalpaaDoor
