/- trees.reader: named. -/
import Derived.Test.YtdecijmncpbheaaGreatDoorTrZt

namespace Go.Proofs.YtdecijmncpbheaaGreatDoor
open Go.RowKit Go.Proofs.YtdecijmncpbheaaGreatDoorW.PrintWords Go.Proofs.YtdecijmncpbheaaGreatDoorW.PrintLast Go.Proofs.YtdecijmncpbheaaGreatDoorW.PrintMore
set_option linter.unusedVariables false
set_option linter.unusedSimpArgs false
open Go.Shelf
namespace Tr
open Wd (gB_refl gB_trans gB_below gB_set)
theorem nodeP_ws {s s1 : PS} {a : Unit} (h : nodeP s = .ok a s1) : s1 = ⟨s.ws, s.l, s.c, s.n + 1⟩ := by
  unfold nodeP at h
  split at h
  · cases h
  · injection h with h1 h2
    exact h2.symm
theorem second {w0 w : World} {A : Option Addr} {x y : Wrd} {r : List Wrd} (h : kWord.C w0 A (x :: y :: r).length (x :: y :: r)) (hb : Below w0.heap.size w0 w) : ∃ ad, A = some ad ∧ w.cell? ⟨ad.block, ad.off + 4, none⟩ = some (.int .u8 y.f0) ∧ w.cell? ⟨ad.block, ad.off + 4 + 1, none⟩ = some (.string y.f1) := by
  obtain ⟨ad, e, hc⟩ := at_T134 (Kd.C_below h hb) 1 (by omega) (by simp; omega)
  refine ⟨ad, e, ?_⟩
  rw [show rd_T134 (x :: y :: r) 1 = y from rfl] at hc
  exact ⟨hc.1, hc.2.1⟩
def dotW : List Wrd → Bool
  | [] => false
  | y :: _ => y.f0 == 2 && y.f1.data.toList == [46]
theorem isM_take {s : PS} {x : Wrd} {r : List Wrd} (h : s.ws = x :: r) : isM [46] (takeP s) = dotW r := by
  obtain ⟨ws, l, c, n⟩ := s
  simp only at h
  subst h
  cases r <;> rfl
theorem infoS : (Tryz.prog.info? 9).map (fun i => (i.zero, i.size, i.bytes)) = some (some (.string ⟨#[]⟩), 1, 16) := by kernel_rfl
theorem C_importN {w : World} {A : Option Addr} {xs : List Import} (h : Kd.C kImport w A xs.length xs) (j : Nat) (hj : j < xs.length) : ∃ ad, A = some ad ∧ w.cell? (ad.add (j * 2)) = some (.string xs[j].f0) ∧ w.cell? ⟨(ad.add (j * 2)).block, (ad.add (j * 2)).off + 1, none⟩ = some (.int .u32 xs[j].f1) := by
  obtain ⟨ad, e, hc⟩ := at_T205 h (j : Int) (by omega) (by omega)
  refine ⟨ad, e, ?_⟩
  have e2 : rd_T205 xs (j : Int) = xs[j] := by
    rw [rd_T205, Int.toNat_natCast, List.getD_eq_getElem?_getD, List.getElem?_eq_getElem hj]
    rfl
  rw [e2, Int.toNat_natCast] at hc
  exact hc
theorem name_ways (t : ByteArray) : (isBase t.data.toList = true ∧ (t.toList == [98, 111, 111, 108]) = true) ∨ (isBase t.data.toList = true ∧ (t.toList == [98, 111, 111, 108]) = false ∧ (t.toList == [105, 110, 116]) = true) ∨ (isBase t.data.toList = true ∧ (t.toList == [98, 111, 111, 108]) = false ∧ (t.toList == [105, 110, 116]) = false ∧ (t.toList == [116, 101, 120, 116]) = true) ∨ (isBase t.data.toList = true ∧ (t.toList == [98, 111, 111, 108]) = false ∧ (t.toList == [105, 110, 116]) = false ∧ (t.toList == [116, 101, 120, 116]) = false ∧ (t.toList == [117, 110, 105, 116]) = true) ∨ (isBase t.data.toList = false ∧ isRef t.data.toList = true ∧ (t.toList == [98, 111, 111, 108]) = false ∧ (t.toList == [105, 110, 116]) = false ∧ (t.toList == [116, 101, 120, 116]) = false ∧ (t.toList == [117, 110, 105, 116]) = false ∧ (t.toList == [114, 101, 102]) = true) ∨ (isBase t.data.toList = false ∧ isRef t.data.toList = false ∧ (t.toList == [98, 111, 111, 108]) = false ∧ (t.toList == [105, 110, 116]) = false ∧ (t.toList == [116, 101, 120, 116]) = false ∧ (t.toList == [117, 110, 105, 116]) = false ∧ (t.toList == [114, 101, 102]) = false) := by
  rw [ByteArray.toList_eq]
  unfold isBase isRef
  cases h1 : (t.data.toList == [98, 111, 111, 108]) <;> cases h2 : (t.data.toList == [105, 110, 116]) <;> cases h3 : (t.data.toList == [116, 101, 120, 116]) <;> cases h4 : (t.data.toList == [117, 110, 105, 116]) <;> cases h5 : (t.data.toList == [114, 101, 102]) <;> simp
set_option maxRecDepth 100000 in
set_option maxHeartbeats 4000000 in
theorem named_part (w0 : World) (fv : FV) (F : FI) (b g : Nat) (q : PS → PR (List Nd)) (HF : Aside0 (FaceOk w0 fv F)) (HNA : Aside0 (Wd.NumsAt w0)) (hkA : KR LN q) (HDA : Aside0 (Deep w0 fv b 193 g q)) :
    Part w0 fv b 224 (g + 1) (namedP F q) := by
  intro ne w s hne h1 h ho hnb
  have hmf : ∀ (fn : Fn) (first cap : Array Value) (w : World), (Instr.makeFunc fn first cap).run Tryz.prog w = .ok (.func fn first cap) w := fun _ _ _ _ => rfl
  obtain ⟨R, hR⟩ : ∃ R, R = namedP F q s := ⟨_, rfl⟩
  have HI := Aside0.mk (isK_calls w0 fv b w s 0 h)
  cases hk : isK 0 s with
  | false =>
    have HFL := Aside0.mk (fails_calls w0 fv b w s 11 h)
    have HRR : Aside0 (R = .err 11 (place s).1 (place s).2) := ⟨by rw [hR, namedP, if_neg (by rw [hk]; decide)]; rfl⟩
    rw [hk] at HI
    rw [← hR]
    clear h ho hnb hR hne h1 hk
    go_enter Tryz.func224, Tryz.ntmps224
    go_wp2_with (first | (go_at_call 194; (with_reducible refine HI.out.mono ?_); rintro e W ⟨rfl, rfl⟩) | (go_at_call 221; (with_reducible refine HFL.out.mono ?_); rintro e WY ⟨rfl, hb⟩; unfold faultE faultV))
    rw [HRR.out]
    exact ⟨rfl, Res.err (gB_below hb)⟩
  | true =>
    rw [hk] at HI
    have HE0 : Aside0 (R = (nodeP s).bind fun _ s => if isM [46] (takeP s) then (placeP F.imports s).bind fun i s => (mustM [46] s).bind fun _ s => (mustN s).bind fun nm s => nameP F q (1 + i) nm s else nameP F q 0 (headT s) (takeP s)) := ⟨by rw [hR, namedP, if_pos hk]⟩
    rw [← hR] at hnb ⊢
    have HNB := Aside0.mk hnb
    have HK := Aside0.mk hkA
    have HKS := Aside0.mk hk
    have HO0 := Aside0.mk ho
    have HG0 := Aside0.mk (gB_refl w b)
    have HST := Aside0.mk h
    have hfr := h.fresh
    have HNE := Aside0.mk (And.intro hne h1)
    have hw : IntKind.i64.wrap (ne + 1) = ne + 1 := by rw [IntKind.wrap_i64]; omega
    clear h ho hnb hR hne h1 hk hkA
    go_enter Tryz.func224, Tryz.ntmps224
    go_wp2_with (first | (go_at_call 194; (with_reducible refine HI.out.mono ?_); rintro e W ⟨rfl, hW⟩; obtain rfl := hW.symm))
    have HC := Aside0.mk (node_calls w0 fv b _ s ⟨2, 0, ⟨#[]⟩, 0, t0, t0, t0⟩ HST.out)
    try simp only [World.size_alloc, World.size_setCell] at HC
    go_wp2_with fail
    refine HC.out.mono ?_
    clear HC
    intro e W1 hres
    rcases Res.ways hres with ⟨a1, s1, v1, hr, rfl, hv, hst, hg⟩ | ⟨kk, ll, lc, hr, rfl, hg⟩
    rotate_left
    · have he := HE0.out
      rw [hr] at he
      have HX := Aside0.mk (And.intro (gB_trans HG0.out hg) he)
      clear hres hr hg he
      go_wp2
      rw [HX.out.2]
      exact ⟨rfl, Res.err HX.out.1⟩
    have he := HE0.out
    rw [hr] at he
    try simp only [bind_ok] at he
    have HE1 := Aside0.mk he
    have HR1 := Aside0.mk hr
    have HS1 := Aside0.mk hst
    have HV1 := Aside0.mk hv
    have HG1 := Aside0.mk (gB_trans HG0.out hg)
    have HGs1 := Aside0.mk hg
    clear hres hr hg he hst hv
    obtain ⟨gn, hv1, hgn, hbn⟩ := HV1.out
    subst hv1
    have hgw : w.heap.size ≤ gn := hgn
    have hgb : some gn ≠ some b := by intro e; have := Option.some.inj e; omega
    have HO1 := Aside0.mk (kr_nodeP _ _ _ HR1.out HO0.out).1
    have HN1 := Aside0.mk hbn
    have hs1 := nodeP_ws HR1.out
    obtain ⟨ws, l, col, n⟩ := s
    cases ws with
    | nil => cases HKS.out
    | cons x r =>
      have hws : s1.ws = x :: r := by rw [hs1]
      have HKS1 : Aside0 (isK 0 s1 = true) := ⟨by rw [isK, hws]; exact HKS.out⟩
      obtain ⟨⟨A2, c2, hrd, hlen, hC⟩, hbase, hbel⟩ := HS1.out
      rw [hws] at hC hlen
      have c0 := blk_cell hrd 0
      rw [hws] at c0
      have HM1 : Aside0 (mustN s1 = .ok (headT s1) (takeP s1)) := ⟨by rw [mustN, if_pos HKS1.out]⟩
      have HMD : Aside0 (isM [46] (takeP s1) = dotW r) := ⟨isM_take hws⟩
      have HPL : Aside0 (∀ s2, s2 = s1 → True) := ⟨fun _ _ => trivial⟩
      clear HV1 hgn hbn HE0 HGs1 HR1 hs1 HKS HI HPL
      cases r with
      | nil =>
        have HRE : Aside0 (R = (mustN s1).bind fun nm s => nameP F q 0 nm s) := ⟨by
          rw [HE1.out, HMD.out, HM1.out]
          rfl⟩
        have d0 : decide (((1 : Nat) : Int) > 1) = false := by decide
        simp at c0
        clear hws hrd hlen hC hbase hbel HE1 HMD HM1 HKS1
        have HE1 := HRE
        clear HRE
        have HC := Aside0.mk (mustN_calls w0 fv b _ s1 HS1.out)
        try simp only [World.size_alloc, World.size_setCell] at HC
        go_wp2_with fail
        refine HC.out.mono ?_
        clear HC
        intro e W2 hres
        rcases Res.ways hres with ⟨a2, s2, v2, hr, rfl, hv, hst, hg⟩ | ⟨kk, ll, lc, hr, rfl, hg⟩
        rotate_left
        · have he := HE1.out
          rw [hr] at he
          have HX := Aside0.mk (And.intro (gB_trans HG1.out hg) he)
          clear hres hr hg he
          go_wp2
          rw [HX.out.2]
          exact ⟨rfl, Res.err HX.out.1⟩
        have he := HE1.out
        rw [hr] at he
        try simp only [bind_ok] at he
        have HE2 := Aside0.mk he
        have HR2 := Aside0.mk hr
        have HS2 := Aside0.mk hst
        have HV2 := Aside0.mk hv
        have HG2 := Aside0.mk (gB_trans HG1.out hg)
        have HGs2 := Aside0.mk hg
        clear hres hr hg he hst hv
        have HO2 := Aside0.mk (kr_mustN _ _ _ HR2.out HO1.out).1
        have hv := HV2.out
        subst hv
        have HNq := Aside0.mk (blk_grown HN1.out HGs2.out hgb)
        have q2 := blk_cell HNq.out 2
        have f2 := blk_frozen HNq.out 2
        simp [nodeCs] at q2
        have HN2 : Aside0 ((W2.setCell ⟨gn, 2, none⟩ (.string a2)).heap[gn]? = some (.cells (nodeCs ⟨2, 0, a2, 0, t0, t0, t0⟩) 119 (0, 0))) := ⟨blk_put HNq.out 2 _ rfl⟩
        have hs1 := setOne HS2.out HG2.out hgw 2 (.string a2) hfr HST.out.below
        have HS2 := Aside0.mk hs1.1
        have HG2 := Aside0.mk hs1.2
        have he := HE2.out
        rw [show nameP F q 0 a2 s2 = (mustM [64] s2).bind fun _ s => (labelP F s).bind fun l s => nameE q 0 a2 l s from rfl] at he
        have HE2 := Aside0.mk he
        clear hs1 HNq HN1 HGs2 HR2 HS1 HG1 HE1 HO1 he HV2
        have HC := Aside0.mk (mark_at w0 fv b _ s2 ⟨#[64]⟩ HS2.out)
        try simp only [World.size_alloc, World.size_setCell] at HC
        go_wp2_with fail
        refine HC.out.mono ?_
        clear HC
        intro e W3 hres
        rcases Res.ways hres with ⟨a3, s3, v3, hr, rfl, hv, hst, hg⟩ | ⟨kk, ll, lc, hr, rfl, hg⟩
        rotate_left
        · have he := HE2.out
          rw [hr] at he
          have HX := Aside0.mk (And.intro (gB_trans HG2.out hg) he)
          clear hres hr hg he
          go_wp2
          rw [HX.out.2]
          exact ⟨rfl, Res.err HX.out.1⟩
        have he := HE2.out
        rw [hr] at he
        try simp only [bind_ok] at he
        have HE3 := Aside0.mk he
        have HR3 := Aside0.mk hr
        have HS3 := Aside0.mk hst
        have HV3 := Aside0.mk hv
        have HG3 := Aside0.mk (gB_trans HG2.out hg)
        have HGs3 := Aside0.mk hg
        clear hres hr hg he hst hv
        have HO3 := Aside0.mk (kr_mustM _ _ _ _ HR3.out HO2.out).1
        have HN3 := Aside0.mk (blk_grown HN2.out HGs3.out hgb)
        clear HN2 HGs3 HR3 HS2 HG2 HE2 HV3 HO2 q2 f2
        have HC := Aside0.mk (label_calls w0 fv F b W3 s3 HS3.out HF HNA HO3.out.1 (nb_of HE3.out HNB.out))
        try simp only [World.size_alloc, World.size_setCell] at HC
        go_wp2_with fail
        refine HC.out.mono ?_
        clear HC
        intro e W4 hres
        rcases Res.ways hres with ⟨a4, s4, v4, hr, rfl, hv, hst, hg⟩ | ⟨kk, ll, lc, hr, rfl, hg⟩
        rotate_left
        · have he := HE3.out
          rw [hr] at he
          have HX := Aside0.mk (And.intro (gB_trans HG3.out hg) he)
          clear hres hr hg he
          go_wp2
          rw [HX.out.2]
          exact ⟨rfl, Res.err HX.out.1⟩
        have he := HE3.out
        rw [hr] at he
        try simp only [bind_ok] at he
        have HE4 := Aside0.mk he
        have HR4 := Aside0.mk hr
        have HS4 := Aside0.mk hst
        have HV4 := Aside0.mk hv
        have HG4 := Aside0.mk (gB_trans HG3.out hg)
        have HGs4 := Aside0.mk hg
        clear hres hr hg he hst hv
        have HO4 := Aside0.mk (kr_label F _ _ _ HR4.out HO3.out).1
        obtain ⟨tb4, tn4⟩ := a4
        have hv := HV4.out
        simp only at hv
        subst hv
        have HNq := Aside0.mk (blk_grown HN3.out HGs4.out hgb)
        have q0 := blk_cell HNq.out 4
        have q1 := blk_cell HNq.out 5
        have f0 := blk_frozen HNq.out 4
        have f1 := blk_frozen HNq.out 5
        simp [nodeCs] at q0 q1
        have HN4 : Aside0 (((W4.setCell ⟨gn, 4, none⟩ (.bool tb4)).setCell ⟨gn, 5, none⟩ (.int .u64 tn4)).heap[gn]? = some (.cells (nodeCs ⟨2, 0, a2, 0, ⟨tb4, tn4⟩, t0, t0⟩) 119 (0, 0))) := ⟨blk_put (blk_put HNq.out 4 _ rfl) 5 _ rfl⟩
        have hs1 := setOne HS4.out HG4.out hgw 4 (.bool tb4) hfr HST.out.below
        have hs2 := setOne hs1.1 hs1.2 hgw 5 (.int .u64 tn4) hfr HST.out.below
        have HS4 := Aside0.mk hs2.1
        have HG4 := Aside0.mk hs2.2
        clear hs1 hs2 HNq
        clear HN3 HGs4 HR4 HV4 HS3 HG3 HE3 HO3
        have q0 := blk_cell HN4.out 0
        have q1 := blk_cell HN4.out 1
        have q2 := blk_cell HN4.out 2
        have q3 := blk_cell HN4.out 3
        have f0 := blk_frozen HN4.out 0
        have f2 := blk_frozen HN4.out 2
        have f3 := blk_frozen HN4.out 3
        simp [nodeCs] at q0 q1 q2 q3
        rcases name_ways a2 with ⟨hb, z1⟩ | ⟨hb, z1, z2⟩ | ⟨hb, z1, z2, z3⟩ | ⟨hb, z1, z2, z3, z4⟩ | ⟨hb, hr, z1, z2, z3, z4, z5⟩ | ⟨hb, hr, z1, z2, z3, z4, z5⟩
        · have HBR := Aside0.mk hb
          clear hb
          have HRR : Aside0 (R = .ok [⟨1, 0, a2, 0, ⟨tb4, tn4⟩, t0, t0⟩] s4) := ⟨by rw [HE4.out, nameE, if_neg (by omega), if_pos HBR.out]⟩
          have hs1 := setOne HS4.out HG4.out hgw 0 (.int .u8 1) hfr HST.out.below
          have HF := Aside0.mk (And.intro hs1 (row_one (x := ⟨1, 0, a2, 0, ⟨tb4, tn4⟩, t0, t0⟩) (blk_put HN4.out 0 (.int .u8 1) rfl) hgw))
          clear hs1
          go_wp2_with fail
          go_ret
          rw [HRR.out]
          exact Res.ret HF.out.2 HF.out.1.1 HF.out.1.2
        · have HBR := Aside0.mk hb
          clear hb
          have HRR : Aside0 (R = .ok [⟨1, 0, a2, 0, ⟨tb4, tn4⟩, t0, t0⟩] s4) := ⟨by rw [HE4.out, nameE, if_neg (by omega), if_pos HBR.out]⟩
          have hs1 := setOne HS4.out HG4.out hgw 0 (.int .u8 1) hfr HST.out.below
          have HF := Aside0.mk (And.intro hs1 (row_one (x := ⟨1, 0, a2, 0, ⟨tb4, tn4⟩, t0, t0⟩) (blk_put HN4.out 0 (.int .u8 1) rfl) hgw))
          clear hs1
          go_wp2_with fail
          go_ret
          rw [HRR.out]
          exact Res.ret HF.out.2 HF.out.1.1 HF.out.1.2
        · have HBR := Aside0.mk hb
          clear hb
          have HRR : Aside0 (R = .ok [⟨1, 0, a2, 0, ⟨tb4, tn4⟩, t0, t0⟩] s4) := ⟨by rw [HE4.out, nameE, if_neg (by omega), if_pos HBR.out]⟩
          have hs1 := setOne HS4.out HG4.out hgw 0 (.int .u8 1) hfr HST.out.below
          have HF := Aside0.mk (And.intro hs1 (row_one (x := ⟨1, 0, a2, 0, ⟨tb4, tn4⟩, t0, t0⟩) (blk_put HN4.out 0 (.int .u8 1) rfl) hgw))
          clear hs1
          go_wp2_with fail
          go_ret
          rw [HRR.out]
          exact Res.ret HF.out.2 HF.out.1.1 HF.out.1.2
        · have HBR := Aside0.mk hb
          clear hb
          have HRR : Aside0 (R = .ok [⟨1, 0, a2, 0, ⟨tb4, tn4⟩, t0, t0⟩] s4) := ⟨by rw [HE4.out, nameE, if_neg (by omega), if_pos HBR.out]⟩
          have hs1 := setOne HS4.out HG4.out hgw 0 (.int .u8 1) hfr HST.out.below
          have HF := Aside0.mk (And.intro hs1 (row_one (x := ⟨1, 0, a2, 0, ⟨tb4, tn4⟩, t0, t0⟩) (blk_put HN4.out 0 (.int .u8 1) rfl) hgw))
          clear hs1
          go_wp2_with fail
          go_ret
          rw [HRR.out]
          exact Res.ret HF.out.2 HF.out.1.1 HF.out.1.2
        · have HBR := Aside0.mk (And.intro hb hr)
          clear hb hr
          have HE4 : Aside0 (R = (q s4).bind fun b s => .ok (⟨4, 0, ⟨#[]⟩, 1, ⟨tb4, tn4⟩, t0, t0⟩ :: b) s) := ⟨by rw [HE4.out, nameE, if_neg (by omega), if_neg (by rw [HBR.out.1]; decide), if_pos HBR.out.2]⟩
          have hs1 := setOne HS4.out HG4.out hgw 0 (.int .u8 4) hfr HST.out.below
          have hs2 := setOne hs1.1 hs1.2 hgw 2 (.string ⟨#[]⟩) hfr HST.out.below
          have hs3 := setOne hs2.1 hs2.2 hgw 3 (.int .i64 1) hfr HST.out.below
          have HN4 : Aside0 ((((W4.setCell ⟨gn, 4, none⟩ (.bool tb4)).setCell ⟨gn, 5, none⟩ (.int .u64 tn4)).setCell ⟨gn, 0, none⟩ (.int .u8 4) |>.setCell ⟨gn, 2, none⟩ (.string ⟨#[]⟩) |>.setCell ⟨gn, 3, none⟩ (.int .i64 1)).heap[gn]? = some (.cells (nodeCs ⟨4, 0, ⟨#[]⟩, 1, ⟨tb4, tn4⟩, t0, t0⟩) 119 (0, 0))) := ⟨blk_put (blk_put (blk_put HN4.out 0 (.int .u8 4) rfl) 2 (.string ⟨#[]⟩) rfl) 3 (.int .i64 1) rfl⟩
          have HS4 := Aside0.mk hs3.1
          have HG4 := Aside0.mk hs3.2
          clear hs1 hs2 hs3
          have HC := Aside0.mk (HDA.out (ne + 1) _ s4 (by have := HNE.out.1; omega) (by have := HNE.out.2; omega) HS4.out HO4.out (nb_of HE4.out HNB.out))
          try simp only [World.size_alloc, World.size_setCell] at HC
          go_wp2_with fail
          refine HC.out.mono ?_
          clear HC
          intro e W5 hres
          rcases Res.ways hres with ⟨a5, s5, v5, hr, rfl, hv, hst, hg⟩ | ⟨kk, ll, lc, hr, rfl, hg⟩
          rotate_left
          · have he := HE4.out
            rw [hr] at he
            have HX := Aside0.mk (And.intro (gB_trans HG4.out hg) he)
            clear hres hr hg he
            go_wp2
            rw [HX.out.2]
            exact ⟨rfl, Res.err HX.out.1⟩
          have he := HE4.out
          rw [hr] at he
          try simp only [bind_ok] at he
          have HE5 := Aside0.mk he
          have HR5 := Aside0.mk hr
          have HS5 := Aside0.mk hst
          have HV5 := Aside0.mk hv
          have HG5 := Aside0.mk (gB_trans HG4.out hg)
          have HGs5 := Aside0.mk hg
          clear hres hr hg he hst hv
          obtain ⟨okk, mk, ek1, ek2⟩ := HK.out _ _ _ HR5.out HO4.out
          have HLN : Aside0 (a5.length ≤ 128) := ⟨by have := okk.2; have := ek2.1; omega⟩
          have HN5 := Aside0.mk (blk_grown HN4.out HGs5.out hgb)
          obtain ⟨x5, hx5⟩ : ∃ x : Nd, x = ⟨4, 0, ⟨#[]⟩, 1, ⟨tb4, tn4⟩, t0, t0⟩ := ⟨_, rfl⟩
          have hN := HN5.out
          rw [← hx5] at hN
          have HR0 := Aside0.mk (row_one hN hgw)
          have HRR : Aside0 (R = .ok (x5 :: a5) s5) := ⟨by rw [HE5.out, hx5]⟩
          obtain ⟨A9, c9, hv9, _, hC9⟩ := Kd.R_reads HV5.out
          subst hv9
          obtain ⟨m9, hm9⟩ : ∃ m, m = a5.length := ⟨_, rfl⟩
          have HL9 : Aside0 (([x5].length + m9) * 88 ≤ 140737488355328) := ⟨by have := HLN.out; simp only [List.length_singleton]; omega⟩
          rw [← hm9] at hC9 ⊢
          have HC9 := Aside0.mk hC9
          clear hm9 hC9 HV5 okk ek1 ek2 hN hx5
          go_wp2_with (at_builtin; refine wpList_append_R rfl kNode w.heap.size (.tmp 111) (.tmp 117) 22 22 119 119 (.agg #[.int .u8 0, .int .i64 0, .string ⟨#[]⟩, .int .i64 0, .bool false, .int .u64 0, .bool false, .int .u64 0, .bool false, .int .u64 0]) 88 rfl (by kernel_rfl) (by kernel_rfl) infoN rfl (by decide) (by decide) (.slice (some ⟨gn, 0, none⟩) 1 1) [x5] a5 A9 m9 c9 (fun _ => True) (fun _ => False) rfl rfl HR0.out HC9.out (fun x cs h => nodeM h) (fun _ h => h.elim) (fun _ _ => trivial) HG5.out.size HL9.out ?_; intro v8 WX HO8 hg8 hat; obtain ⟨A8, c8, rfl⟩ := Kd.R_slice HO8; obtain ⟨l, hl⟩ : ∃ l, l = [x5] ++ a5 := ⟨_, rfl⟩; rw [← hl] at HO8 ⊢; have HLX := Aside0.mk hl; clear hl; have HR8 := Aside0.mk HO8; have HS8 := Aside0.mk (HS5.out.row hg8 (fun e => hgb e.symm) HST.out HG5.out (fun j hj => by have : gn = j := Option.some.inj hj; omega)); have HG8 := Aside0.mk (grown_row HG5.out hg8 (fun j hj => by have : gn = j := Option.some.inj hj; omega)); clear HO8 hg8 hat)
          rw [show x5 :: a5 = l from HLX.out.symm] at HRR
          go_ret
          rw [HRR.out]
          exact Res.ret HR8.out HS8.out HG8.out
        · have HBR := Aside0.mk (And.intro hb hr)
          clear hb hr
          have HRR : Aside0 (R = .ok [⟨2, 0, a2, 0, ⟨tb4, tn4⟩, t0, t0⟩] s4) := ⟨by rw [HE4.out, nameE, if_neg (by omega), if_neg (by rw [HBR.out.1]; decide), if_neg (by rw [HBR.out.2]; decide)]⟩
          have HF := Aside0.mk (row_one (x := ⟨2, 0, a2, 0, ⟨tb4, tn4⟩, t0, t0⟩) HN4.out hgw)
          go_wp2_with fail
          go_ret
          rw [HRR.out]
          exact Res.ret HF.out HS4.out HG4.out
      | cons y r2 =>
        obtain ⟨ad, hA, y0, y1⟩ := second hC hbel
        subst hA
        obtain ⟨N, hN⟩ : ∃ N, N = (x :: y :: r2).length := ⟨_, rfl⟩
        rw [← hN] at hlen c0
        have hN2 : 1 < N := by rw [hN]; simp
        have d0 : decide ((N : Int) > 1) = true := decide_eq_true (by omega)
        simp at c0
        clear hws hrd hC hbase hbel HKS1 hN
        cases hk2 : (y.f0 == 2) with
        | false =>
          have HRE : Aside0 (R = (mustN s1).bind fun nm s => nameP F q 0 nm s) := ⟨by
            rw [HE1.out, HMD.out, HM1.out, dotW, hk2]
            rfl⟩
          clear HE1 HMD HM1
          have HE1 := HRE
          clear HRE
          have HC := Aside0.mk (mustN_calls w0 fv b _ s1 HS1.out)
          try simp only [World.size_alloc, World.size_setCell] at HC
          go_wp2_with fail
          refine HC.out.mono ?_
          clear HC
          intro e W2 hres
          rcases Res.ways hres with ⟨a2, s2, v2, hr, rfl, hv, hst, hg⟩ | ⟨kk, ll, lc, hr, rfl, hg⟩
          rotate_left
          · have he := HE1.out
            rw [hr] at he
            have HX := Aside0.mk (And.intro (gB_trans HG1.out hg) he)
            clear hres hr hg he
            go_wp2
            rw [HX.out.2]
            exact ⟨rfl, Res.err HX.out.1⟩
          have he := HE1.out
          rw [hr] at he
          try simp only [bind_ok] at he
          have HE2 := Aside0.mk he
          have HR2 := Aside0.mk hr
          have HS2 := Aside0.mk hst
          have HV2 := Aside0.mk hv
          have HG2 := Aside0.mk (gB_trans HG1.out hg)
          have HGs2 := Aside0.mk hg
          clear hres hr hg he hst hv
          have HO2 := Aside0.mk (kr_mustN _ _ _ HR2.out HO1.out).1
          have hv := HV2.out
          subst hv
          have HNq := Aside0.mk (blk_grown HN1.out HGs2.out hgb)
          have q2 := blk_cell HNq.out 2
          have f2 := blk_frozen HNq.out 2
          simp [nodeCs] at q2
          have HN2 : Aside0 ((W2.setCell ⟨gn, 2, none⟩ (.string a2)).heap[gn]? = some (.cells (nodeCs ⟨2, 0, a2, 0, t0, t0, t0⟩) 119 (0, 0))) := ⟨blk_put HNq.out 2 _ rfl⟩
          have hs1 := setOne HS2.out HG2.out hgw 2 (.string a2) hfr HST.out.below
          have HS2 := Aside0.mk hs1.1
          have HG2 := Aside0.mk hs1.2
          have he := HE2.out
          rw [show nameP F q 0 a2 s2 = (mustM [64] s2).bind fun _ s => (labelP F s).bind fun l s => nameE q 0 a2 l s from rfl] at he
          have HE2 := Aside0.mk he
          clear hs1 HNq HN1 HGs2 HR2 HS1 HG1 HE1 HO1 he HV2
          have HC := Aside0.mk (mark_at w0 fv b _ s2 ⟨#[64]⟩ HS2.out)
          try simp only [World.size_alloc, World.size_setCell] at HC
          go_wp2_with fail
          refine HC.out.mono ?_
          clear HC
          intro e W3 hres
          rcases Res.ways hres with ⟨a3, s3, v3, hr, rfl, hv, hst, hg⟩ | ⟨kk, ll, lc, hr, rfl, hg⟩
          rotate_left
          · have he := HE2.out
            rw [hr] at he
            have HX := Aside0.mk (And.intro (gB_trans HG2.out hg) he)
            clear hres hr hg he
            go_wp2
            rw [HX.out.2]
            exact ⟨rfl, Res.err HX.out.1⟩
          have he := HE2.out
          rw [hr] at he
          try simp only [bind_ok] at he
          have HE3 := Aside0.mk he
          have HR3 := Aside0.mk hr
          have HS3 := Aside0.mk hst
          have HV3 := Aside0.mk hv
          have HG3 := Aside0.mk (gB_trans HG2.out hg)
          have HGs3 := Aside0.mk hg
          clear hres hr hg he hst hv
          have HO3 := Aside0.mk (kr_mustM _ _ _ _ HR3.out HO2.out).1
          have HN3 := Aside0.mk (blk_grown HN2.out HGs3.out hgb)
          clear HN2 HGs3 HR3 HS2 HG2 HE2 HV3 HO2 q2 f2
          have HC := Aside0.mk (label_calls w0 fv F b W3 s3 HS3.out HF HNA HO3.out.1 (nb_of HE3.out HNB.out))
          try simp only [World.size_alloc, World.size_setCell] at HC
          go_wp2_with fail
          refine HC.out.mono ?_
          clear HC
          intro e W4 hres
          rcases Res.ways hres with ⟨a4, s4, v4, hr, rfl, hv, hst, hg⟩ | ⟨kk, ll, lc, hr, rfl, hg⟩
          rotate_left
          · have he := HE3.out
            rw [hr] at he
            have HX := Aside0.mk (And.intro (gB_trans HG3.out hg) he)
            clear hres hr hg he
            go_wp2
            rw [HX.out.2]
            exact ⟨rfl, Res.err HX.out.1⟩
          have he := HE3.out
          rw [hr] at he
          try simp only [bind_ok] at he
          have HE4 := Aside0.mk he
          have HR4 := Aside0.mk hr
          have HS4 := Aside0.mk hst
          have HV4 := Aside0.mk hv
          have HG4 := Aside0.mk (gB_trans HG3.out hg)
          have HGs4 := Aside0.mk hg
          clear hres hr hg he hst hv
          have HO4 := Aside0.mk (kr_label F _ _ _ HR4.out HO3.out).1
          obtain ⟨tb4, tn4⟩ := a4
          have hv := HV4.out
          simp only at hv
          subst hv
          have HNq := Aside0.mk (blk_grown HN3.out HGs4.out hgb)
          have q0 := blk_cell HNq.out 4
          have q1 := blk_cell HNq.out 5
          have f0 := blk_frozen HNq.out 4
          have f1 := blk_frozen HNq.out 5
          simp [nodeCs] at q0 q1
          have HN4 : Aside0 (((W4.setCell ⟨gn, 4, none⟩ (.bool tb4)).setCell ⟨gn, 5, none⟩ (.int .u64 tn4)).heap[gn]? = some (.cells (nodeCs ⟨2, 0, a2, 0, ⟨tb4, tn4⟩, t0, t0⟩) 119 (0, 0))) := ⟨blk_put (blk_put HNq.out 4 _ rfl) 5 _ rfl⟩
          have hs1 := setOne HS4.out HG4.out hgw 4 (.bool tb4) hfr HST.out.below
          have hs2 := setOne hs1.1 hs1.2 hgw 5 (.int .u64 tn4) hfr HST.out.below
          have HS4 := Aside0.mk hs2.1
          have HG4 := Aside0.mk hs2.2
          clear hs1 hs2 HNq
          clear HN3 HGs4 HR4 HV4 HS3 HG3 HE3 HO3
          have q0 := blk_cell HN4.out 0
          have q1 := blk_cell HN4.out 1
          have q2 := blk_cell HN4.out 2
          have q3 := blk_cell HN4.out 3
          have f0 := blk_frozen HN4.out 0
          have f2 := blk_frozen HN4.out 2
          have f3 := blk_frozen HN4.out 3
          simp [nodeCs] at q0 q1 q2 q3
          rcases name_ways a2 with ⟨hb, z1⟩ | ⟨hb, z1, z2⟩ | ⟨hb, z1, z2, z3⟩ | ⟨hb, z1, z2, z3, z4⟩ | ⟨hb, hr, z1, z2, z3, z4, z5⟩ | ⟨hb, hr, z1, z2, z3, z4, z5⟩
          · have HBR := Aside0.mk hb
            clear hb
            have HRR : Aside0 (R = .ok [⟨1, 0, a2, 0, ⟨tb4, tn4⟩, t0, t0⟩] s4) := ⟨by rw [HE4.out, nameE, if_neg (by omega), if_pos HBR.out]⟩
            have hs1 := setOne HS4.out HG4.out hgw 0 (.int .u8 1) hfr HST.out.below
            have HF := Aside0.mk (And.intro hs1 (row_one (x := ⟨1, 0, a2, 0, ⟨tb4, tn4⟩, t0, t0⟩) (blk_put HN4.out 0 (.int .u8 1) rfl) hgw))
            clear hs1
            go_wp2_with fail
            go_ret
            rw [HRR.out]
            exact Res.ret HF.out.2 HF.out.1.1 HF.out.1.2
          · have HBR := Aside0.mk hb
            clear hb
            have HRR : Aside0 (R = .ok [⟨1, 0, a2, 0, ⟨tb4, tn4⟩, t0, t0⟩] s4) := ⟨by rw [HE4.out, nameE, if_neg (by omega), if_pos HBR.out]⟩
            have hs1 := setOne HS4.out HG4.out hgw 0 (.int .u8 1) hfr HST.out.below
            have HF := Aside0.mk (And.intro hs1 (row_one (x := ⟨1, 0, a2, 0, ⟨tb4, tn4⟩, t0, t0⟩) (blk_put HN4.out 0 (.int .u8 1) rfl) hgw))
            clear hs1
            go_wp2_with fail
            go_ret
            rw [HRR.out]
            exact Res.ret HF.out.2 HF.out.1.1 HF.out.1.2
          · have HBR := Aside0.mk hb
            clear hb
            have HRR : Aside0 (R = .ok [⟨1, 0, a2, 0, ⟨tb4, tn4⟩, t0, t0⟩] s4) := ⟨by rw [HE4.out, nameE, if_neg (by omega), if_pos HBR.out]⟩
            have hs1 := setOne HS4.out HG4.out hgw 0 (.int .u8 1) hfr HST.out.below
            have HF := Aside0.mk (And.intro hs1 (row_one (x := ⟨1, 0, a2, 0, ⟨tb4, tn4⟩, t0, t0⟩) (blk_put HN4.out 0 (.int .u8 1) rfl) hgw))
            clear hs1
            go_wp2_with fail
            go_ret
            rw [HRR.out]
            exact Res.ret HF.out.2 HF.out.1.1 HF.out.1.2
          · have HBR := Aside0.mk hb
            clear hb
            have HRR : Aside0 (R = .ok [⟨1, 0, a2, 0, ⟨tb4, tn4⟩, t0, t0⟩] s4) := ⟨by rw [HE4.out, nameE, if_neg (by omega), if_pos HBR.out]⟩
            have hs1 := setOne HS4.out HG4.out hgw 0 (.int .u8 1) hfr HST.out.below
            have HF := Aside0.mk (And.intro hs1 (row_one (x := ⟨1, 0, a2, 0, ⟨tb4, tn4⟩, t0, t0⟩) (blk_put HN4.out 0 (.int .u8 1) rfl) hgw))
            clear hs1
            go_wp2_with fail
            go_ret
            rw [HRR.out]
            exact Res.ret HF.out.2 HF.out.1.1 HF.out.1.2
          · have HBR := Aside0.mk (And.intro hb hr)
            clear hb hr
            have HE4 : Aside0 (R = (q s4).bind fun b s => .ok (⟨4, 0, ⟨#[]⟩, 1, ⟨tb4, tn4⟩, t0, t0⟩ :: b) s) := ⟨by rw [HE4.out, nameE, if_neg (by omega), if_neg (by rw [HBR.out.1]; decide), if_pos HBR.out.2]⟩
            have hs1 := setOne HS4.out HG4.out hgw 0 (.int .u8 4) hfr HST.out.below
            have hs2 := setOne hs1.1 hs1.2 hgw 2 (.string ⟨#[]⟩) hfr HST.out.below
            have hs3 := setOne hs2.1 hs2.2 hgw 3 (.int .i64 1) hfr HST.out.below
            have HN4 : Aside0 ((((W4.setCell ⟨gn, 4, none⟩ (.bool tb4)).setCell ⟨gn, 5, none⟩ (.int .u64 tn4)).setCell ⟨gn, 0, none⟩ (.int .u8 4) |>.setCell ⟨gn, 2, none⟩ (.string ⟨#[]⟩) |>.setCell ⟨gn, 3, none⟩ (.int .i64 1)).heap[gn]? = some (.cells (nodeCs ⟨4, 0, ⟨#[]⟩, 1, ⟨tb4, tn4⟩, t0, t0⟩) 119 (0, 0))) := ⟨blk_put (blk_put (blk_put HN4.out 0 (.int .u8 4) rfl) 2 (.string ⟨#[]⟩) rfl) 3 (.int .i64 1) rfl⟩
            have HS4 := Aside0.mk hs3.1
            have HG4 := Aside0.mk hs3.2
            clear hs1 hs2 hs3
            have HC := Aside0.mk (HDA.out (ne + 1) _ s4 (by have := HNE.out.1; omega) (by have := HNE.out.2; omega) HS4.out HO4.out (nb_of HE4.out HNB.out))
            try simp only [World.size_alloc, World.size_setCell] at HC
            go_wp2_with fail
            refine HC.out.mono ?_
            clear HC
            intro e W5 hres
            rcases Res.ways hres with ⟨a5, s5, v5, hr, rfl, hv, hst, hg⟩ | ⟨kk, ll, lc, hr, rfl, hg⟩
            rotate_left
            · have he := HE4.out
              rw [hr] at he
              have HX := Aside0.mk (And.intro (gB_trans HG4.out hg) he)
              clear hres hr hg he
              go_wp2
              rw [HX.out.2]
              exact ⟨rfl, Res.err HX.out.1⟩
            have he := HE4.out
            rw [hr] at he
            try simp only [bind_ok] at he
            have HE5 := Aside0.mk he
            have HR5 := Aside0.mk hr
            have HS5 := Aside0.mk hst
            have HV5 := Aside0.mk hv
            have HG5 := Aside0.mk (gB_trans HG4.out hg)
            have HGs5 := Aside0.mk hg
            clear hres hr hg he hst hv
            obtain ⟨okk, mk, ek1, ek2⟩ := HK.out _ _ _ HR5.out HO4.out
            have HLN : Aside0 (a5.length ≤ 128) := ⟨by have := okk.2; have := ek2.1; omega⟩
            have HN5 := Aside0.mk (blk_grown HN4.out HGs5.out hgb)
            obtain ⟨x5, hx5⟩ : ∃ x : Nd, x = ⟨4, 0, ⟨#[]⟩, 1, ⟨tb4, tn4⟩, t0, t0⟩ := ⟨_, rfl⟩
            have hN := HN5.out
            rw [← hx5] at hN
            have HR0 := Aside0.mk (row_one hN hgw)
            have HRR : Aside0 (R = .ok (x5 :: a5) s5) := ⟨by rw [HE5.out, hx5]⟩
            obtain ⟨A9, c9, hv9, _, hC9⟩ := Kd.R_reads HV5.out
            subst hv9
            obtain ⟨m9, hm9⟩ : ∃ m, m = a5.length := ⟨_, rfl⟩
            have HL9 : Aside0 (([x5].length + m9) * 88 ≤ 140737488355328) := ⟨by have := HLN.out; simp only [List.length_singleton]; omega⟩
            rw [← hm9] at hC9 ⊢
            have HC9 := Aside0.mk hC9
            clear hm9 hC9 HV5 okk ek1 ek2 hN hx5
            go_wp2_with (at_builtin; refine wpList_append_R rfl kNode w.heap.size (.tmp 111) (.tmp 117) 22 22 119 119 (.agg #[.int .u8 0, .int .i64 0, .string ⟨#[]⟩, .int .i64 0, .bool false, .int .u64 0, .bool false, .int .u64 0, .bool false, .int .u64 0]) 88 rfl (by kernel_rfl) (by kernel_rfl) infoN rfl (by decide) (by decide) (.slice (some ⟨gn, 0, none⟩) 1 1) [x5] a5 A9 m9 c9 (fun _ => True) (fun _ => False) rfl rfl HR0.out HC9.out (fun x cs h => nodeM h) (fun _ h => h.elim) (fun _ _ => trivial) HG5.out.size HL9.out ?_; intro v8 WX HO8 hg8 hat; obtain ⟨A8, c8, rfl⟩ := Kd.R_slice HO8; obtain ⟨l, hl⟩ : ∃ l, l = [x5] ++ a5 := ⟨_, rfl⟩; rw [← hl] at HO8 ⊢; have HLX := Aside0.mk hl; clear hl; have HR8 := Aside0.mk HO8; have HS8 := Aside0.mk (HS5.out.row hg8 (fun e => hgb e.symm) HST.out HG5.out (fun j hj => by have : gn = j := Option.some.inj hj; omega)); have HG8 := Aside0.mk (grown_row HG5.out hg8 (fun j hj => by have : gn = j := Option.some.inj hj; omega)); clear HO8 hg8 hat)
            rw [show x5 :: a5 = l from HLX.out.symm] at HRR
            go_ret
            rw [HRR.out]
            exact Res.ret HR8.out HS8.out HG8.out
          · have HBR := Aside0.mk (And.intro hb hr)
            clear hb hr
            have HRR : Aside0 (R = .ok [⟨2, 0, a2, 0, ⟨tb4, tn4⟩, t0, t0⟩] s4) := ⟨by rw [HE4.out, nameE, if_neg (by omega), if_neg (by rw [HBR.out.1]; decide), if_neg (by rw [HBR.out.2]; decide)]⟩
            have HF := Aside0.mk (row_one (x := ⟨2, 0, a2, 0, ⟨tb4, tn4⟩, t0, t0⟩) HN4.out hgw)
            go_wp2_with fail
            go_ret
            rw [HRR.out]
            exact Res.ret HF.out HS4.out HG4.out
        | true =>
          cases hz : (y.f1.toList == [46]) with
          | false =>
            have HRE : Aside0 (R = (mustN s1).bind fun nm s => nameP F q 0 nm s) := ⟨by
              rw [ByteArray.toList_eq] at hz
              rw [HE1.out, HMD.out, HM1.out, dotW, hk2, hz]
              rfl⟩
            clear HE1 HMD HM1
            have HE1 := HRE
            clear HRE
            have HC := Aside0.mk (mustN_calls w0 fv b _ s1 HS1.out)
            try simp only [World.size_alloc, World.size_setCell] at HC
            go_wp2_with fail
            refine HC.out.mono ?_
            clear HC
            intro e W2 hres
            rcases Res.ways hres with ⟨a2, s2, v2, hr, rfl, hv, hst, hg⟩ | ⟨kk, ll, lc, hr, rfl, hg⟩
            rotate_left
            · have he := HE1.out
              rw [hr] at he
              have HX := Aside0.mk (And.intro (gB_trans HG1.out hg) he)
              clear hres hr hg he
              go_wp2
              rw [HX.out.2]
              exact ⟨rfl, Res.err HX.out.1⟩
            have he := HE1.out
            rw [hr] at he
            try simp only [bind_ok] at he
            have HE2 := Aside0.mk he
            have HR2 := Aside0.mk hr
            have HS2 := Aside0.mk hst
            have HV2 := Aside0.mk hv
            have HG2 := Aside0.mk (gB_trans HG1.out hg)
            have HGs2 := Aside0.mk hg
            clear hres hr hg he hst hv
            have HO2 := Aside0.mk (kr_mustN _ _ _ HR2.out HO1.out).1
            have hv := HV2.out
            subst hv
            have HNq := Aside0.mk (blk_grown HN1.out HGs2.out hgb)
            have q2 := blk_cell HNq.out 2
            have f2 := blk_frozen HNq.out 2
            simp [nodeCs] at q2
            have HN2 : Aside0 ((W2.setCell ⟨gn, 2, none⟩ (.string a2)).heap[gn]? = some (.cells (nodeCs ⟨2, 0, a2, 0, t0, t0, t0⟩) 119 (0, 0))) := ⟨blk_put HNq.out 2 _ rfl⟩
            have hs1 := setOne HS2.out HG2.out hgw 2 (.string a2) hfr HST.out.below
            have HS2 := Aside0.mk hs1.1
            have HG2 := Aside0.mk hs1.2
            have he := HE2.out
            rw [show nameP F q 0 a2 s2 = (mustM [64] s2).bind fun _ s => (labelP F s).bind fun l s => nameE q 0 a2 l s from rfl] at he
            have HE2 := Aside0.mk he
            clear hs1 HNq HN1 HGs2 HR2 HS1 HG1 HE1 HO1 he HV2
            have HC := Aside0.mk (mark_at w0 fv b _ s2 ⟨#[64]⟩ HS2.out)
            try simp only [World.size_alloc, World.size_setCell] at HC
            go_wp2_with fail
            refine HC.out.mono ?_
            clear HC
            intro e W3 hres
            rcases Res.ways hres with ⟨a3, s3, v3, hr, rfl, hv, hst, hg⟩ | ⟨kk, ll, lc, hr, rfl, hg⟩
            rotate_left
            · have he := HE2.out
              rw [hr] at he
              have HX := Aside0.mk (And.intro (gB_trans HG2.out hg) he)
              clear hres hr hg he
              go_wp2
              rw [HX.out.2]
              exact ⟨rfl, Res.err HX.out.1⟩
            have he := HE2.out
            rw [hr] at he
            try simp only [bind_ok] at he
            have HE3 := Aside0.mk he
            have HR3 := Aside0.mk hr
            have HS3 := Aside0.mk hst
            have HV3 := Aside0.mk hv
            have HG3 := Aside0.mk (gB_trans HG2.out hg)
            have HGs3 := Aside0.mk hg
            clear hres hr hg he hst hv
            have HO3 := Aside0.mk (kr_mustM _ _ _ _ HR3.out HO2.out).1
            have HN3 := Aside0.mk (blk_grown HN2.out HGs3.out hgb)
            clear HN2 HGs3 HR3 HS2 HG2 HE2 HV3 HO2 q2 f2
            have HC := Aside0.mk (label_calls w0 fv F b W3 s3 HS3.out HF HNA HO3.out.1 (nb_of HE3.out HNB.out))
            try simp only [World.size_alloc, World.size_setCell] at HC
            go_wp2_with fail
            refine HC.out.mono ?_
            clear HC
            intro e W4 hres
            rcases Res.ways hres with ⟨a4, s4, v4, hr, rfl, hv, hst, hg⟩ | ⟨kk, ll, lc, hr, rfl, hg⟩
            rotate_left
            · have he := HE3.out
              rw [hr] at he
              have HX := Aside0.mk (And.intro (gB_trans HG3.out hg) he)
              clear hres hr hg he
              go_wp2
              rw [HX.out.2]
              exact ⟨rfl, Res.err HX.out.1⟩
            have he := HE3.out
            rw [hr] at he
            try simp only [bind_ok] at he
            have HE4 := Aside0.mk he
            have HR4 := Aside0.mk hr
            have HS4 := Aside0.mk hst
            have HV4 := Aside0.mk hv
            have HG4 := Aside0.mk (gB_trans HG3.out hg)
            have HGs4 := Aside0.mk hg
            clear hres hr hg he hst hv
            have HO4 := Aside0.mk (kr_label F _ _ _ HR4.out HO3.out).1
            obtain ⟨tb4, tn4⟩ := a4
            have hv := HV4.out
            simp only at hv
            subst hv
            have HNq := Aside0.mk (blk_grown HN3.out HGs4.out hgb)
            have q0 := blk_cell HNq.out 4
            have q1 := blk_cell HNq.out 5
            have f0 := blk_frozen HNq.out 4
            have f1 := blk_frozen HNq.out 5
            simp [nodeCs] at q0 q1
            have HN4 : Aside0 (((W4.setCell ⟨gn, 4, none⟩ (.bool tb4)).setCell ⟨gn, 5, none⟩ (.int .u64 tn4)).heap[gn]? = some (.cells (nodeCs ⟨2, 0, a2, 0, ⟨tb4, tn4⟩, t0, t0⟩) 119 (0, 0))) := ⟨blk_put (blk_put HNq.out 4 _ rfl) 5 _ rfl⟩
            have hs1 := setOne HS4.out HG4.out hgw 4 (.bool tb4) hfr HST.out.below
            have hs2 := setOne hs1.1 hs1.2 hgw 5 (.int .u64 tn4) hfr HST.out.below
            have HS4 := Aside0.mk hs2.1
            have HG4 := Aside0.mk hs2.2
            clear hs1 hs2 HNq
            clear HN3 HGs4 HR4 HV4 HS3 HG3 HE3 HO3
            have q0 := blk_cell HN4.out 0
            have q1 := blk_cell HN4.out 1
            have q2 := blk_cell HN4.out 2
            have q3 := blk_cell HN4.out 3
            have f0 := blk_frozen HN4.out 0
            have f2 := blk_frozen HN4.out 2
            have f3 := blk_frozen HN4.out 3
            simp [nodeCs] at q0 q1 q2 q3
            rcases name_ways a2 with ⟨hb, z1⟩ | ⟨hb, z1, z2⟩ | ⟨hb, z1, z2, z3⟩ | ⟨hb, z1, z2, z3, z4⟩ | ⟨hb, hr, z1, z2, z3, z4, z5⟩ | ⟨hb, hr, z1, z2, z3, z4, z5⟩
            · have HBR := Aside0.mk hb
              clear hb
              have HRR : Aside0 (R = .ok [⟨1, 0, a2, 0, ⟨tb4, tn4⟩, t0, t0⟩] s4) := ⟨by rw [HE4.out, nameE, if_neg (by omega), if_pos HBR.out]⟩
              have hs1 := setOne HS4.out HG4.out hgw 0 (.int .u8 1) hfr HST.out.below
              have HF := Aside0.mk (And.intro hs1 (row_one (x := ⟨1, 0, a2, 0, ⟨tb4, tn4⟩, t0, t0⟩) (blk_put HN4.out 0 (.int .u8 1) rfl) hgw))
              clear hs1
              go_wp2_with fail
              go_ret
              rw [HRR.out]
              exact Res.ret HF.out.2 HF.out.1.1 HF.out.1.2
            · have HBR := Aside0.mk hb
              clear hb
              have HRR : Aside0 (R = .ok [⟨1, 0, a2, 0, ⟨tb4, tn4⟩, t0, t0⟩] s4) := ⟨by rw [HE4.out, nameE, if_neg (by omega), if_pos HBR.out]⟩
              have hs1 := setOne HS4.out HG4.out hgw 0 (.int .u8 1) hfr HST.out.below
              have HF := Aside0.mk (And.intro hs1 (row_one (x := ⟨1, 0, a2, 0, ⟨tb4, tn4⟩, t0, t0⟩) (blk_put HN4.out 0 (.int .u8 1) rfl) hgw))
              clear hs1
              go_wp2_with fail
              go_ret
              rw [HRR.out]
              exact Res.ret HF.out.2 HF.out.1.1 HF.out.1.2
            · have HBR := Aside0.mk hb
              clear hb
              have HRR : Aside0 (R = .ok [⟨1, 0, a2, 0, ⟨tb4, tn4⟩, t0, t0⟩] s4) := ⟨by rw [HE4.out, nameE, if_neg (by omega), if_pos HBR.out]⟩
              have hs1 := setOne HS4.out HG4.out hgw 0 (.int .u8 1) hfr HST.out.below
              have HF := Aside0.mk (And.intro hs1 (row_one (x := ⟨1, 0, a2, 0, ⟨tb4, tn4⟩, t0, t0⟩) (blk_put HN4.out 0 (.int .u8 1) rfl) hgw))
              clear hs1
              go_wp2_with fail
              go_ret
              rw [HRR.out]
              exact Res.ret HF.out.2 HF.out.1.1 HF.out.1.2
            · have HBR := Aside0.mk hb
              clear hb
              have HRR : Aside0 (R = .ok [⟨1, 0, a2, 0, ⟨tb4, tn4⟩, t0, t0⟩] s4) := ⟨by rw [HE4.out, nameE, if_neg (by omega), if_pos HBR.out]⟩
              have hs1 := setOne HS4.out HG4.out hgw 0 (.int .u8 1) hfr HST.out.below
              have HF := Aside0.mk (And.intro hs1 (row_one (x := ⟨1, 0, a2, 0, ⟨tb4, tn4⟩, t0, t0⟩) (blk_put HN4.out 0 (.int .u8 1) rfl) hgw))
              clear hs1
              go_wp2_with fail
              go_ret
              rw [HRR.out]
              exact Res.ret HF.out.2 HF.out.1.1 HF.out.1.2
            · have HBR := Aside0.mk (And.intro hb hr)
              clear hb hr
              have HE4 : Aside0 (R = (q s4).bind fun b s => .ok (⟨4, 0, ⟨#[]⟩, 1, ⟨tb4, tn4⟩, t0, t0⟩ :: b) s) := ⟨by rw [HE4.out, nameE, if_neg (by omega), if_neg (by rw [HBR.out.1]; decide), if_pos HBR.out.2]⟩
              have hs1 := setOne HS4.out HG4.out hgw 0 (.int .u8 4) hfr HST.out.below
              have hs2 := setOne hs1.1 hs1.2 hgw 2 (.string ⟨#[]⟩) hfr HST.out.below
              have hs3 := setOne hs2.1 hs2.2 hgw 3 (.int .i64 1) hfr HST.out.below
              have HN4 : Aside0 ((((W4.setCell ⟨gn, 4, none⟩ (.bool tb4)).setCell ⟨gn, 5, none⟩ (.int .u64 tn4)).setCell ⟨gn, 0, none⟩ (.int .u8 4) |>.setCell ⟨gn, 2, none⟩ (.string ⟨#[]⟩) |>.setCell ⟨gn, 3, none⟩ (.int .i64 1)).heap[gn]? = some (.cells (nodeCs ⟨4, 0, ⟨#[]⟩, 1, ⟨tb4, tn4⟩, t0, t0⟩) 119 (0, 0))) := ⟨blk_put (blk_put (blk_put HN4.out 0 (.int .u8 4) rfl) 2 (.string ⟨#[]⟩) rfl) 3 (.int .i64 1) rfl⟩
              have HS4 := Aside0.mk hs3.1
              have HG4 := Aside0.mk hs3.2
              clear hs1 hs2 hs3
              have HC := Aside0.mk (HDA.out (ne + 1) _ s4 (by have := HNE.out.1; omega) (by have := HNE.out.2; omega) HS4.out HO4.out (nb_of HE4.out HNB.out))
              try simp only [World.size_alloc, World.size_setCell] at HC
              go_wp2_with fail
              refine HC.out.mono ?_
              clear HC
              intro e W5 hres
              rcases Res.ways hres with ⟨a5, s5, v5, hr, rfl, hv, hst, hg⟩ | ⟨kk, ll, lc, hr, rfl, hg⟩
              rotate_left
              · have he := HE4.out
                rw [hr] at he
                have HX := Aside0.mk (And.intro (gB_trans HG4.out hg) he)
                clear hres hr hg he
                go_wp2
                rw [HX.out.2]
                exact ⟨rfl, Res.err HX.out.1⟩
              have he := HE4.out
              rw [hr] at he
              try simp only [bind_ok] at he
              have HE5 := Aside0.mk he
              have HR5 := Aside0.mk hr
              have HS5 := Aside0.mk hst
              have HV5 := Aside0.mk hv
              have HG5 := Aside0.mk (gB_trans HG4.out hg)
              have HGs5 := Aside0.mk hg
              clear hres hr hg he hst hv
              obtain ⟨okk, mk, ek1, ek2⟩ := HK.out _ _ _ HR5.out HO4.out
              have HLN : Aside0 (a5.length ≤ 128) := ⟨by have := okk.2; have := ek2.1; omega⟩
              have HN5 := Aside0.mk (blk_grown HN4.out HGs5.out hgb)
              obtain ⟨x5, hx5⟩ : ∃ x : Nd, x = ⟨4, 0, ⟨#[]⟩, 1, ⟨tb4, tn4⟩, t0, t0⟩ := ⟨_, rfl⟩
              have hN := HN5.out
              rw [← hx5] at hN
              have HR0 := Aside0.mk (row_one hN hgw)
              have HRR : Aside0 (R = .ok (x5 :: a5) s5) := ⟨by rw [HE5.out, hx5]⟩
              obtain ⟨A9, c9, hv9, _, hC9⟩ := Kd.R_reads HV5.out
              subst hv9
              obtain ⟨m9, hm9⟩ : ∃ m, m = a5.length := ⟨_, rfl⟩
              have HL9 : Aside0 (([x5].length + m9) * 88 ≤ 140737488355328) := ⟨by have := HLN.out; simp only [List.length_singleton]; omega⟩
              rw [← hm9] at hC9 ⊢
              have HC9 := Aside0.mk hC9
              clear hm9 hC9 HV5 okk ek1 ek2 hN hx5
              go_wp2_with (at_builtin; refine wpList_append_R rfl kNode w.heap.size (.tmp 111) (.tmp 117) 22 22 119 119 (.agg #[.int .u8 0, .int .i64 0, .string ⟨#[]⟩, .int .i64 0, .bool false, .int .u64 0, .bool false, .int .u64 0, .bool false, .int .u64 0]) 88 rfl (by kernel_rfl) (by kernel_rfl) infoN rfl (by decide) (by decide) (.slice (some ⟨gn, 0, none⟩) 1 1) [x5] a5 A9 m9 c9 (fun _ => True) (fun _ => False) rfl rfl HR0.out HC9.out (fun x cs h => nodeM h) (fun _ h => h.elim) (fun _ _ => trivial) HG5.out.size HL9.out ?_; intro v8 WX HO8 hg8 hat; obtain ⟨A8, c8, rfl⟩ := Kd.R_slice HO8; obtain ⟨l, hl⟩ : ∃ l, l = [x5] ++ a5 := ⟨_, rfl⟩; rw [← hl] at HO8 ⊢; have HLX := Aside0.mk hl; clear hl; have HR8 := Aside0.mk HO8; have HS8 := Aside0.mk (HS5.out.row hg8 (fun e => hgb e.symm) HST.out HG5.out (fun j hj => by have : gn = j := Option.some.inj hj; omega)); have HG8 := Aside0.mk (grown_row HG5.out hg8 (fun j hj => by have : gn = j := Option.some.inj hj; omega)); clear HO8 hg8 hat)
              rw [show x5 :: a5 = l from HLX.out.symm] at HRR
              go_ret
              rw [HRR.out]
              exact Res.ret HR8.out HS8.out HG8.out
            · have HBR := Aside0.mk (And.intro hb hr)
              clear hb hr
              have HRR : Aside0 (R = .ok [⟨2, 0, a2, 0, ⟨tb4, tn4⟩, t0, t0⟩] s4) := ⟨by rw [HE4.out, nameE, if_neg (by omega), if_neg (by rw [HBR.out.1]; decide), if_neg (by rw [HBR.out.2]; decide)]⟩
              have HF := Aside0.mk (row_one (x := ⟨2, 0, a2, 0, ⟨tb4, tn4⟩, t0, t0⟩) HN4.out hgw)
              go_wp2_with fail
              go_ret
              rw [HRR.out]
              exact Res.ret HF.out HS4.out HG4.out
          | true =>
            have HRE : Aside0 (R = (placeP F.imports s1).bind fun i s => (mustM [46] s).bind fun _ s => (mustN s).bind fun nm s => nameP F q (1 + i) nm s) := ⟨by
              rw [ByteArray.toList_eq] at hz
              rw [HE1.out, HMD.out, dotW, hk2, hz]
              rfl⟩
            clear HE1 HMD HM1
            have HE1 := HRE
            clear HRE
            have hq4 : ∃ xs, fv.im.n = xs.length ∧ kImport.C w0 fv.im.A xs.length xs ∧ F.imports = xs.map (·.f0) ∧ xs.length * 24 ≤ 140737488351232 := HF.out.im
            obtain ⟨xs, him, hCI, hFI, hMX⟩ := hq4
            have HMX := Aside0.mk hMX
            obtain ⟨⟨A3, c3, hrd, _, _⟩, _, hbel⟩ := HS1.out
            have c6 := blk_cell hrd 6
            obtain ⟨IA, hIA⟩ : ∃ A, A = fv.im.A := ⟨_, rfl⟩
            simp only [him, ← hIA] at c6
            rw [← hIA] at hCI
            have hmx := hCI.2.1
            have HIM := Aside0.mk (And.intro hCI (And.intro hFI hbel))
            obtain ⟨m, hm⟩ : ∃ m, m = xs.length := ⟨_, rfl⟩
            rw [← hm] at c6 hmx
            simp at c6
            have HML := Aside0.mk hm
            clear him hCI hFI hrd hbel hm hMX hIA
            go_wp2
            go_loopg [6, 49] (m + 1) (fun gk v i W => ∃ (k : Nat) (A : Option Addr) (c : Nat), v = .slice A k c ∧ i = .int .i64 (k : Int) ∧ k ≤ m ∧ m + 1 - k ≤ gk ∧ Aside0 (ST w0 fv b W s1) ∧ Aside0 (w.grownBy W (some b)) ∧ Aside0 (W.heap[gn]? = some (.cells (nodeCs ⟨2, 0, ⟨#[]⟩, 0, t0, t0, t0⟩) 119 (0, 0))) ∧ Aside0 (Kd.string.R 9 W w.heap.size (fun j => j ≠ gn) (.slice A k c) ((xs.take k).map (·.f0))))
            case atStart => exact ⟨0, none, 0, rfl, rfl, by omega, by omega, HS1, HG1, HN1, ⟨Kd.R_nil _ _ _ _ _⟩⟩
            case round =>
              clear HS1 HG1 HN1
              obtain ⟨k, A, c, rfl, rfl, hk, hkg, HS1, HG1, HN1, HRW⟩ := hrel
              have hlk : ((xs.take k).map (·.f0)).length = k := by rw [List.length_map, List.length_take]; have := HML.out; omega
              rcases Nat.lt_or_ge k m with hlt | hge
              · have hd : decide (k < m) = true := decide_eq_true hlt
                have hk2 : k < xs.length := by rw [← HML.out]; exact hlt
                obtain ⟨ai, rfl, i0, i1⟩ := C_importN (Kd.C_below HIM.out.1 HS1.out.below) k hk2
                obtain ⟨nm, hnm⟩ : ∃ x, x = xs[k].f0 := ⟨_, rfl⟩
                obtain ⟨sm, hsm⟩ : ∃ x, x = xs[k].f1 := ⟨_, rfl⟩
                rw [← hnm] at i0
                rw [← hsm] at i1
                have hNX : ((xs.take k).map (·.f0)) ++ [nm] = (xs.take (k + 1)).map (·.f0) := by
                  rw [List.take_succ_eq_append_getElem hk2, List.map_append, hnm]
                  rfl
                obtain ⟨O1, hO1⟩ : ∃ O : Obj, O = .cells #[.string nm, .int .u32 sm] 205 := ⟨_, rfl⟩
                obtain ⟨O2, hO2⟩ : ∃ O : Obj, O = .cells #[.string nm] 9 := ⟨_, rfl⟩
                have HB2 : Aside0 (Below wr.heap.size wr ((wr.alloc O1).alloc O2)) := ⟨below_alloc (below_alloc (Below.refl _ _) _) _⟩
                have HC1 : Aside0 (Kd.string.C ((wr.alloc O1).alloc O2) (some ⟨wr.heap.size + 1, 0, none⟩) 1 [nm]) := ⟨by
                  have := C_lit (fun x : ByteArray => Value.string x) (fun _ => rfl) (wr.alloc O1) [nm] 9 (by simp)
                  rw [World.size_alloc] at this
                  rw [hO2]
                  exact this⟩
                have HRW2 := Aside0.mk (Kd.R_below HRW.out HB2.out)
                have HL2 : Aside0 ((((xs.take k).map (·.f0)).length + 1) * 16 ≤ 140737488355328) := ⟨by rw [hlk]; have := HMX.out; omega⟩
                have HFR2 : Aside0 (∀ j, ((wr.alloc O1).alloc O2).heap.size ≤ j → j ≠ gn) := ⟨fun j hj e => by have := blk_lt HN1.out; rw [World.size_alloc, World.size_alloc] at hj; omega⟩
                have HNB9 : Aside0 (some gn ≠ (Value.slice A k c).ownBlock ∧ some b ≠ (Value.slice A k c).ownBlock ∧ ∀ j, (Value.slice A k c).ownBlock = some j → w.heap.size ≤ j) := ⟨⟨fun e => HRW.out.1 _ e.symm rfl, fun e => by have := (Kd.R_bound HRW.out).1 _ e.symm; have := this.2.1; omega, fun j hj => ((Kd.R_bound HRW.out).1 _ hj).2.1⟩⟩
                have HX2 : Aside0 (ST w0 fv b ((wr.alloc O1).alloc O2) s1 ∧ w.grownBy ((wr.alloc O1).alloc O2) (some b) ∧ ((wr.alloc O1).alloc O2).heap[gn]? = some (.cells (nodeCs ⟨2, 0, ⟨#[]⟩, 0, t0, t0, t0⟩) 119 (0, 0)) ∧ w.heap.size ≤ ((wr.alloc O1).alloc O2).heap.size) := ⟨⟨HS1.out.step HB2.out, gB_trans HG1.out (gB_below HB2.out), blk_alloc (blk_alloc HN1.out _) _, (gB_trans HG1.out (gB_below HB2.out)).size⟩⟩
                obtain ⟨ys, hys⟩ : ∃ ys, ys = (xs.take k).map (·.f0) := ⟨_, rfl⟩
                rw [← hys] at hlk HRW2 HL2 hNX
                have HNX := Aside0.mk hNX
                have HLK := Aside0.mk hlk
                have HLN2 : Aside0 (((xs.take (k + 1)).map (·.f0)).length = k + 1) := ⟨by rw [List.length_map, List.length_take]; omega⟩
                rw [hO1, hO2] at HB2 HC1 HRW2 HFR2 HX2
                clear hNX hnm hsm hO1 hO2 HRW HS1 HG1 HN1 hys hlk
                go_wp2_with (at_builtin; refine wpList_append_R rfl Kd.string w.heap.size (.tmp 53) (.tmp 56) 72 72 9 9 (.string ⟨#[]⟩) 16 rfl (by kernel_rfl) (by kernel_rfl) infoS rfl (by decide) (by decide) (.slice A k c) ys [nm] (some ⟨wr.heap.size + 1, 0, none⟩) 1 1 (fun j => j ≠ gn) (fun _ => False) rfl rfl HRW2.out HC1.out (fun x cs h => h) (fun _ h => h.elim) HFR2.out HX2.out.2.2.2 HL2.out ?_; intro v8 WX HO8 hg8 hat; obtain ⟨A8, c8, rfl⟩ := Kd.R_slice HO8; rw [HNX.out, HLN2.out] at HO8 ⊢; have HR8 := Aside0.mk HO8; have HN8 := Aside0.mk (blk_grown HX2.out.2.2.1 hg8 HNB9.out.1); have HS8 := Aside0.mk (HX2.out.1.row hg8 HNB9.out.2.1 HST.out HX2.out.2.1 HNB9.out.2.2); have HG8 := Aside0.mk (grown_row HX2.out.2.1 hg8 HNB9.out.2.2); clear HO8 hg8 hat)
                go_roundg (gk - 1)
                case measure => omega
                case rel => exact ⟨k + 1, A8, c8, rfl, by go_num, by omega, by omega, HS8, HG8, HN8, HR8⟩
              · have hd : decide (k < m) = false := decide_eq_false (by omega)
                obtain rfl : k = m := by omega
                have hL : (xs.take k).map (·.f0) = F.imports := by rw [HIM.out.2.1, HML.out, List.take_length]
                rw [hL] at HRW hlk
                obtain ⟨A9, c9, e9, _, hC9⟩ := Kd.R_reads HRW.out
                injection e9 with e1 e2 e3
                subst e1
                rw [← e2] at hC9
                have HPL : Aside0 (Calls Tryz.prog 227 #[.pointer (some ⟨b, 0, none⟩), .slice A k c] wr (Res w0 fv b wr (placeP F.imports s1) (fun i v _ => v = .int .i64 (i : Int)))) := ⟨by
                  have := place_calls w0 fv b wr s1 A c F.imports HS1.out (by rw [hlk]; exact hC9)
                  rw [hlk] at this
                  exact this⟩
                have HLK := Aside0.mk hlk
                clear e2 e3 hC9 hL hlk HRW
                have HC := Aside0.mk (HPL.out)
                try simp only [World.size_alloc, World.size_setCell] at HC
                go_wp2_with fail
                refine HC.out.mono ?_
                clear HC
                intro e W2 hres
                rcases Res.ways hres with ⟨a2, s2, v2, hr, rfl, hv, hst, hg⟩ | ⟨kk, ll, lc, hr, rfl, hg⟩
                rotate_left
                · have he := HE1.out
                  rw [hr] at he
                  have HX := Aside0.mk (And.intro (gB_trans HG1.out hg) he)
                  clear hres hr hg he
                  go_wp2
                  rw [HX.out.2]
                  exact ⟨rfl, Res.err HX.out.1⟩
                have he := HE1.out
                rw [hr] at he
                try simp only [bind_ok] at he
                have HE2 := Aside0.mk he
                have HR2 := Aside0.mk hr
                have HS2 := Aside0.mk hst
                have HV2 := Aside0.mk hv
                have HG2 := Aside0.mk (gB_trans HG1.out hg)
                have HGs2 := Aside0.mk hg
                clear hres hr hg he hst hv
                have hlt := placeP_lt HR2.out
                rw [HLK.out] at hlt
                have hv := HV2.out
                subst hv
                have hml := HMX.out
                have hw2 : IntKind.i64.wrap (1 + (a2 : Int)) = 1 + (a2 : Int) := by rw [IntKind.wrap_i64]; have := HML.out; omega
                have HO2 := Aside0.mk (kr_placeP _ _ _ _ HR2.out HO1.out).1
                have HNq := Aside0.mk (blk_grown HN1.out HGs2.out hgb)
                have q1 := blk_cell HNq.out 1
                have f1 := blk_frozen HNq.out 1
                simp [nodeCs] at q1
                have HN2 : Aside0 ((W2.setCell ⟨gn, 1, none⟩ (.int .i64 (1 + (a2 : Int)))).heap[gn]? = some (.cells (nodeCs ⟨2, 1 + (a2 : Int), ⟨#[]⟩, 0, t0, t0, t0⟩) 119 (0, 0))) := ⟨blk_put HNq.out 1 _ rfl⟩
                have hs2 := setOne HS2.out HG2.out hgw 1 (.int .i64 (1 + (a2 : Int))) hfr HST.out.below
                have HS2 := Aside0.mk hs2.1
                have HG2 := Aside0.mk hs2.2
                clear hs2 HNq HPL HS1 HG1 HN1 HGs2 HR2 HV2
                have HC := Aside0.mk (mark_at w0 fv b _ s2 ⟨#[46]⟩ HS2.out)
                try simp only [World.size_alloc, World.size_setCell] at HC
                go_wp2_with fail
                refine HC.out.mono ?_
                clear HC
                intro e W3 hres
                rcases Res.ways hres with ⟨a3, s3, v3, hr, rfl, hv, hst, hg⟩ | ⟨kk, ll, lc, hr, rfl, hg⟩
                rotate_left
                · have he := HE2.out
                  rw [hr] at he
                  have HX := Aside0.mk (And.intro (gB_trans HG2.out hg) he)
                  clear hres hr hg he
                  go_wp2
                  rw [HX.out.2]
                  exact ⟨rfl, Res.err HX.out.1⟩
                have he := HE2.out
                rw [hr] at he
                try simp only [bind_ok] at he
                have HE3 := Aside0.mk he
                have HR3 := Aside0.mk hr
                have HS3 := Aside0.mk hst
                have HV3 := Aside0.mk hv
                have HG3 := Aside0.mk (gB_trans HG2.out hg)
                have HGs3 := Aside0.mk hg
                clear hres hr hg he hst hv
                have HO3 := Aside0.mk (kr_mustM _ _ _ _ HR3.out HO2.out).1
                have HN3 := Aside0.mk (blk_grown HN2.out HGs3.out hgb)
                clear HN2 HGs3 HR3 HS2 HG2 HE2 HV3 HO2 q1 f1
                have HC := Aside0.mk (mustN_calls w0 fv b _ s3 HS3.out)
                try simp only [World.size_alloc, World.size_setCell] at HC
                go_wp2_with fail
                refine HC.out.mono ?_
                clear HC
                intro e W4 hres
                rcases Res.ways hres with ⟨a4, s4, v4, hr, rfl, hv, hst, hg⟩ | ⟨kk, ll, lc, hr, rfl, hg⟩
                rotate_left
                · have he := HE3.out
                  rw [hr] at he
                  have HX := Aside0.mk (And.intro (gB_trans HG3.out hg) he)
                  clear hres hr hg he
                  go_wp2
                  rw [HX.out.2]
                  exact ⟨rfl, Res.err HX.out.1⟩
                have he := HE3.out
                rw [hr] at he
                try simp only [bind_ok] at he
                have HE4 := Aside0.mk he
                have HR4 := Aside0.mk hr
                have HS4 := Aside0.mk hst
                have HV4 := Aside0.mk hv
                have HG4 := Aside0.mk (gB_trans HG3.out hg)
                have HGs4 := Aside0.mk hg
                clear hres hr hg he hst hv
                have HO4 := Aside0.mk (kr_mustN _ _ _ HR4.out HO3.out).1
                have hv := HV4.out
                subst hv
                have HNq := Aside0.mk (blk_grown HN3.out HGs4.out hgb)
                have q2 := blk_cell HNq.out 2
                have f2 := blk_frozen HNq.out 2
                simp [nodeCs] at q2
                have HN4 : Aside0 ((W4.setCell ⟨gn, 2, none⟩ (.string a4)).heap[gn]? = some (.cells (nodeCs ⟨2, (1 + (a2 : Int)), a4, 0, t0, t0, t0⟩) 119 (0, 0))) := ⟨blk_put HNq.out 2 _ rfl⟩
                have hs1 := setOne HS4.out HG4.out hgw 2 (.string a4) hfr HST.out.below
                have HS4 := Aside0.mk hs1.1
                have HG4 := Aside0.mk hs1.2
                have he := HE4.out
                rw [show nameP F q (1 + a2) a4 s4 = (mustM [64] s4).bind fun _ s => (labelP F s).bind fun l s => nameE q (1 + a2) a4 l s from rfl] at he
                have HE4 := Aside0.mk he
                clear hs1 HNq HN3 HGs4 HR4 HS3 HG3 HE3 HO3 he HV4
                have HC := Aside0.mk (mark_at w0 fv b _ s4 ⟨#[64]⟩ HS4.out)
                try simp only [World.size_alloc, World.size_setCell] at HC
                go_wp2_with fail
                refine HC.out.mono ?_
                clear HC
                intro e W5 hres
                rcases Res.ways hres with ⟨a5, s5, v5, hr, rfl, hv, hst, hg⟩ | ⟨kk, ll, lc, hr, rfl, hg⟩
                rotate_left
                · have he := HE4.out
                  rw [hr] at he
                  have HX := Aside0.mk (And.intro (gB_trans HG4.out hg) he)
                  clear hres hr hg he
                  go_wp2
                  rw [HX.out.2]
                  exact ⟨rfl, Res.err HX.out.1⟩
                have he := HE4.out
                rw [hr] at he
                try simp only [bind_ok] at he
                have HE5 := Aside0.mk he
                have HR5 := Aside0.mk hr
                have HS5 := Aside0.mk hst
                have HV5 := Aside0.mk hv
                have HG5 := Aside0.mk (gB_trans HG4.out hg)
                have HGs5 := Aside0.mk hg
                clear hres hr hg he hst hv
                have HO5 := Aside0.mk (kr_mustM _ _ _ _ HR5.out HO4.out).1
                have HN5 := Aside0.mk (blk_grown HN4.out HGs5.out hgb)
                clear HN4 HGs5 HR5 HS4 HG4 HE4 HV5 HO4 q2 f2
                have HC := Aside0.mk (label_calls w0 fv F b W5 s5 HS5.out HF HNA HO5.out.1 (nb_of HE5.out HNB.out))
                try simp only [World.size_alloc, World.size_setCell] at HC
                go_wp2_with fail
                refine HC.out.mono ?_
                clear HC
                intro e W6 hres
                rcases Res.ways hres with ⟨a6, s6, v6, hr, rfl, hv, hst, hg⟩ | ⟨kk, ll, lc, hr, rfl, hg⟩
                rotate_left
                · have he := HE5.out
                  rw [hr] at he
                  have HX := Aside0.mk (And.intro (gB_trans HG5.out hg) he)
                  clear hres hr hg he
                  go_wp2
                  rw [HX.out.2]
                  exact ⟨rfl, Res.err HX.out.1⟩
                have he := HE5.out
                rw [hr] at he
                try simp only [bind_ok] at he
                have HE6 := Aside0.mk he
                have HR6 := Aside0.mk hr
                have HS6 := Aside0.mk hst
                have HV6 := Aside0.mk hv
                have HG6 := Aside0.mk (gB_trans HG5.out hg)
                have HGs6 := Aside0.mk hg
                clear hres hr hg he hst hv
                have HO6 := Aside0.mk (kr_label F _ _ _ HR6.out HO5.out).1
                obtain ⟨tb6, tn6⟩ := a6
                have hv := HV6.out
                simp only at hv
                subst hv
                have HNq := Aside0.mk (blk_grown HN5.out HGs6.out hgb)
                have q0 := blk_cell HNq.out 4
                have q1 := blk_cell HNq.out 5
                have f0 := blk_frozen HNq.out 4
                have f1 := blk_frozen HNq.out 5
                simp [nodeCs] at q0 q1
                have HN6 : Aside0 (((W6.setCell ⟨gn, 4, none⟩ (.bool tb6)).setCell ⟨gn, 5, none⟩ (.int .u64 tn6)).heap[gn]? = some (.cells (nodeCs ⟨2, (1 + (a2 : Int)), a4, 0, ⟨tb6, tn6⟩, t0, t0⟩) 119 (0, 0))) := ⟨blk_put (blk_put HNq.out 4 _ rfl) 5 _ rfl⟩
                have hs1 := setOne HS6.out HG6.out hgw 4 (.bool tb6) hfr HST.out.below
                have hs2 := setOne hs1.1 hs1.2 hgw 5 (.int .u64 tn6) hfr HST.out.below
                have HS6 := Aside0.mk hs2.1
                have HG6 := Aside0.mk hs2.2
                clear hs1 hs2 HNq
                clear HN5 HGs6 HR6 HV6 HS5 HG5 HE5 HO5
                have q1 := blk_cell HN6.out 1
                simp [nodeCs] at q1
                have dm : decide ((1 : Int) + (a2 : Int) > 0) = true := decide_eq_true (by omega)
                have HRR : Aside0 (R = .ok [⟨2, 1 + (a2 : Int), a4, 0, ⟨tb6, tn6⟩, t0, t0⟩] s6) := ⟨by
                  rw [HE6.out, nameE, if_pos (by omega), show ((1 + a2 : Nat) : Int) = 1 + (a2 : Int) by omega]⟩
                have HF := Aside0.mk (row_one (x := ⟨2, 1 + (a2 : Int), a4, 0, ⟨tb6, tn6⟩, t0, t0⟩) HN6.out hgw)
                go_wp2_with fail
                go_ret
                rw [HRR.out]
                exact Res.ret HF.out HS6.out HG6.out
end Tr
end Go.Proofs.YtdecijmncpbheaaGreatDoor
