/- trees.reader: tuple. -/
import Derived.Test.YtdecijmncpbheaaGreatDoorMTy

namespace Go.Proofs.YtdecijmncpbheaaGreatDoor
open Go.RowKit Go.Proofs.YtdecijmncpbheaaGreatDoorW.PrintWords Go.Proofs.YtdecijmncpbheaaGreatDoorW.PrintLast Go.Proofs.YtdecijmncpbheaaGreatDoorW.PrintMore
set_option linter.unusedVariables false
set_option linter.unusedSimpArgs false
open Go.Shelf
namespace Tr
open Wd (gB_refl gB_trans gB_below gB_set)
theorem rowN_far1 {w : World} {base gn : Nat} {v : Value} {l : List Nd} (h : kNode.R 119 w base (fun k => k ≠ gn) v l) (i : Nat) (u : Value) : kNode.R 119 (w.setCell ⟨gn, i, none⟩ u) base (fun k => k ≠ gn) v l := Kd.R_far h (p := ⟨gn, i, none⟩) (fun k hk => hk) u
theorem tupL_hit {p : PS → PR (List Nd)} {g kids : Nat} {all : List Nd} {s : PS} {K : Nat × List Nd → PS → PR (List Nd)} (h : isM [41] s = true) : ((tupL p g kids all s).bind fun r s => (mustM [64] s).bind fun _ s => K r s) = (marksP [[41], [64]] s).bind fun _ s => K (kids, all) s := by
  have e : tupL p g kids all s = (mustM [41] s).bind fun _ s => .ok (kids, all) s := by cases g <;> rw [tupL, if_pos h]
  rw [e]
  show _ = ((mustM [41] s).bind fun _ s => (mustM [64] s).bind fun _ s => .ok () s).bind _
  cases mustM [41] s with
  | ok a s1 =>
    show ((mustM [64] s1).bind fun _ s => K (kids, all) s) = ((mustM [64] s1).bind fun _ s => .ok () s).bind _
    cases mustM [64] s1 <;> rfl
  | err k l c => rfl
  | bad => rfl
def tupC (p : PS → PR (List Nd)) (kids : Nat) (all : List Nd) (s : PS) : PR (Nat × List Nd) := if 8 ≤ kids then failsP 3 s else (p s).bind fun b s => tupL p (8 - kids - 1) (kids + 1) (all ++ b) s
theorem tupL_miss {p : PS → PR (List Nd)} {kids : Nat} {all : List Nd} {s : PS} (hk : kids ≤ 8) (h : isM [41] s = false) : tupL p (8 - kids) kids all s = (if 0 < kids then mustM [44] s else .ok () s).bind fun _ s => tupC p kids all s := by
  cases hg : 8 - kids with
  | zero =>
    rw [tupL, if_neg (by rw [h]; decide)]
    congr 1
    funext _ s
    rw [tupC, if_pos (by omega)]
  | succ m =>
    rw [tupL, if_neg (by rw [h]; decide)]
    congr 1
    funext _ s
    rw [tupC, if_neg (by omega), show 8 - kids - 1 = m by omega]
theorem grown_row {w W W' : World} {b : Nat} {o : Option Nat} (hg : w.grownBy W (some b)) (h : W.grownBy W' o) (ho : ∀ j, o = some j → w.heap.size ≤ j) : w.grownBy W' (some b) :=
  ⟨h.os.trans hg.os, h.tape.trans hg.tape, h.output.trans hg.output, Nat.le_trans hg.size h.size, fun i hi hn => (h.block i (Nat.lt_of_lt_of_le hi hg.size) (fun e => by have := ho i e.symm; omega)).trans (hg.block i hi hn)⟩
theorem ST.row {w0 w W W' : World} {fv : FV} {b : Nat} {s s0 : PS} {o : Option Nat} (h : ST w0 fv b W s) (hg : W.grownBy W' o) (hne : some b ≠ o) (h0 : ST w0 fv b w s0) (hw : w.grownBy W (some b)) (ho : ∀ j, o = some j → w.heap.size ≤ j) : ST w0 fv b W' s := by
  obtain ⟨⟨A, c, h1, h2, h3⟩, h4, h5⟩ := h
  exact ⟨⟨A, c, blk_grown h1 hg hne, h2, h3⟩, h4, below_gB h0.below (grown_row hw hg ho) h4⟩
theorem bind_assoc {α β γ : Type} (r : PR α) (f : α → PS → PR β) (g : β → PS → PR γ) : (r.bind f).bind g = r.bind fun a s => (f a s).bind g := by cases r <;> rfl
set_option maxRecDepth 100000 in
set_option maxHeartbeats 4000000 in
theorem tuple_part (w0 : World) (fv : FV) (F : FI) (b g : Nat) (p : PS → PR (List Nd)) (HF : Aside0 (FaceOk w0 fv F)) (HNA : Aside0 (Wd.NumsAt w0)) (hkW : KR LN p) (HDW : Aside0 (Deep w0 fv b 159 g p)) :
    Part w0 fv b 223 (g + 1) (tupleP F p) := by
  intro ne w s hne h1 h ho hnb
  have hmf : ∀ (fn : Fn) (first cap : Array Value) (w : World), (Instr.makeFunc fn first cap).run Tryz.prog w = .ok (.func fn first cap) w := fun _ _ _ _ => rfl
  obtain ⟨R, hR⟩ : ∃ R, R = tupleP F p s := ⟨_, rfl⟩
  have HE0 : Aside0 (R = (nodeP s).bind fun _ s => (mustM [40] s).bind fun _ s => (tupL p 8 0 [] s).bind fun r s => (mustM [64] s).bind fun _ s => (labelP F s).bind fun l s => .ok (⟨3, 0, ⟨#[]⟩, r.1, l, t0, t0⟩ :: r.2) s) := ⟨hR⟩
  rw [← hR] at hnb ⊢
  have HNB := Aside0.mk hnb
  have HK := Aside0.mk hkW
  have HO0 := Aside0.mk ho
  have HG0 := Aside0.mk (gB_refl w b)
  have HST := Aside0.mk h
  have hfr := h.fresh
  have HNE := Aside0.mk (And.intro hne h1)
  have hw : IntKind.i64.wrap (ne + 1) = ne + 1 := by rw [IntKind.wrap_i64]; omega
  clear h ho hnb hR hne h1 hkW
  go_enter Tryz.func223, Tryz.ntmps223
  have HC := Aside0.mk (node_calls w0 fv b w s ⟨3, 0, ⟨#[]⟩, 0, t0, t0, t0⟩ HST.out)
  try simp only [World.size_alloc, World.size_setCell] at HC
  go_wp2_with fail
  refine HC.out.mono ?_
  clear HC
  intro e W1 hres
  rcases Res.ways hres with ⟨a1, s1, v1, hr, rfl, hv, hst, hg⟩ | ⟨kk, ll, lc, hr, rfl, hg⟩
  rotate_left
  · have he := HE0.out
    rw [hr] at he
    have HX := Aside0.mk (And.intro (gB_trans HG0.out hg) he)
    clear hres hr hg he
    go_wp2
    rw [HX.out.2]
    exact ⟨rfl, Res.err HX.out.1⟩
  have he := HE0.out
  rw [hr] at he
  try simp only [bind_ok] at he
  have HE1 := Aside0.mk he
  have HR1 := Aside0.mk hr
  have HS1 := Aside0.mk hst
  have HV1 := Aside0.mk hv
  have HG1 := Aside0.mk (gB_trans HG0.out hg)
  have HGs1 := Aside0.mk hg
  clear hres hr hg he hst hv
  obtain ⟨gn, hv1, hgn, hbn⟩ := HV1.out
  subst hv1
  have hgw : w.heap.size ≤ gn := hgn
  have hgb : some gn ≠ some b := by intro e; have := Option.some.inj e; omega
  have HO1 := Aside0.mk (kr_nodeP _ _ _ HR1.out HO0.out).1
  have HN1 := Aside0.mk hbn
  clear HV1 hgn hbn HE0 HGs1 HR1
  have HC := Aside0.mk (mark_at w0 fv b _ s1 ⟨#[40]⟩ HS1.out)
  try simp only [World.size_alloc, World.size_setCell] at HC
  go_wp2_with fail
  refine HC.out.mono ?_
  clear HC
  intro e W2 hres
  rcases Res.ways hres with ⟨a2, s2, v2, hr, rfl, hv, hst, hg⟩ | ⟨kk, ll, lc, hr, rfl, hg⟩
  rotate_left
  · have he := HE1.out
    rw [hr] at he
    have HX := Aside0.mk (And.intro (gB_trans HG1.out hg) he)
    clear hres hr hg he
    go_wp2
    rw [HX.out.2]
    exact ⟨rfl, Res.err HX.out.1⟩
  have he := HE1.out
  rw [hr] at he
  try simp only [bind_ok] at he
  have HE2 := Aside0.mk he
  have HR2 := Aside0.mk hr
  have HS2 := Aside0.mk hst
  have HV2 := Aside0.mk hv
  have HG2 := Aside0.mk (gB_trans HG1.out hg)
  have HGs2 := Aside0.mk hg
  clear hres hr hg he hst hv
  have HO2 := Aside0.mk (kr_mustM _ _ _ _ HR2.out HO1.out).1
  have HN2 := Aside0.mk (blk_grown HN1.out HGs2.out hgb)
  clear HN1 HGs2 HR2 HS1 HG1 HE1 HV2 HO1
  go_wp2
  go_loopg [6] 10 (fun gk v W => ∃ (kids : Nat) (sk : PS) (A : Option Addr) (c : Nat) (all : List Nd), v = .slice A all.length c ∧ kids ≤ 8 ∧ 10 - kids ≤ gk ∧ Aside0 (ST w0 fv b W sk) ∧ Aside0 (Okay sk) ∧ Aside0 (all.length ≤ sk.n) ∧ Aside0 (w.grownBy W (some b)) ∧ Aside0 (W.heap[gn]? = some (.cells (nodeCs ⟨3, 0, ⟨#[]⟩, kids, t0, t0, t0⟩) 119 (0, 0))) ∧ Aside0 (kNode.R 119 W w.heap.size (fun k => k ≠ gn) (.slice A all.length c) all) ∧ Aside0 (R = (tupL p (8 - kids) kids all sk).bind fun r s => (mustM [64] s).bind fun _ s => (labelP F s).bind fun l s => .ok (⟨3, 0, ⟨#[]⟩, r.1, l, t0, t0⟩ :: r.2) s))
  case atStart => exact ⟨0, s2, none, 0, [], rfl, by omega, by omega, HS2, HO2, ⟨Nat.zero_le _⟩, HG2, HN2, ⟨Kd.R_nil _ _ _ _ _⟩, HE2⟩
  case round =>
    clear HS2 HO2 HG2 HN2 HE2
    obtain ⟨kids, sk, A, c, all, rfl, hk, hkg, HS, HO, HLA, HG, HN, HRW, HE⟩ := hrel
    have HI := Aside0.mk (is_at w0 fv b wr sk ⟨#[41]⟩ HS.out)
    have HS0 := Aside0.mk (HS.out.step (below_alloc (Below.refl _ _) (.cells #[.string ⟨#[41]⟩] 9)))
    have HG0 := Aside0.mk (gB_trans HG.out (gB_below (below_alloc (Below.refl _ _) (.cells #[.string ⟨#[41]⟩] 9))))
    have HN0 := Aside0.mk (blk_alloc HN.out (.cells #[.string ⟨#[41]⟩] 9))
    have HRW0 := Aside0.mk (Kd.R_below HRW.out (below_alloc (Below.refl _ _) (.cells #[.string ⟨#[41]⟩] 9)))
    obtain ⟨n, hn⟩ : ∃ n, n = all.length := ⟨_, rfl⟩
    have HNL := Aside0.mk hn
    rw [← hn] at HRW0 ⊢
    clear hn
    cases hm : isM [41] sk with
    | true =>
      have hm2 : isM (⟨#[41]⟩ : ByteArray).data.toList sk = true := hm
      rw [hm2] at HI
      have HE0 : Aside0 (R = (marksP [[41], [64]] sk).bind fun _ s => (labelP F s).bind fun l s => .ok (⟨3, 0, ⟨#[]⟩, kids, l, t0, t0⟩ :: all) s) := ⟨by
        rw [HE.out, tupL_hit (K := fun r s => (labelP F s).bind fun l s => .ok (⟨3, 0, ⟨#[]⟩, r.1, l, t0, t0⟩ :: r.2) s) hm]⟩
      clear hm hm2 HS HG HN HRW HE
      go_wp2_with (go_at_call 194; (with_reducible refine HI.out.mono ?_); rintro e W ⟨rfl, rfl⟩)
      have HC := Aside0.mk (marks2_at w0 fv b _ sk ⟨#[41]⟩ ⟨#[64]⟩ HS0.out)
      try simp only [World.size_alloc, World.size_setCell] at HC
      go_wp2_with fail
      refine HC.out.mono ?_
      clear HC
      intro e W1 hres
      rcases Res.ways hres with ⟨a1, s1, v1, hr, rfl, hv, hst, hg⟩ | ⟨kk, ll, lc, hr, rfl, hg⟩
      rotate_left
      · have he := HE0.out
        rw [hr] at he
        have HX := Aside0.mk (And.intro (gB_trans HG0.out hg) he)
        clear hres hr hg he
        go_wp2
        rw [HX.out.2]
        exact ⟨rfl, Res.err HX.out.1⟩
      have he := HE0.out
      rw [hr] at he
      try simp only [bind_ok] at he
      have HE1 := Aside0.mk he
      have HR1 := Aside0.mk hr
      have HS1 := Aside0.mk hst
      have HV1 := Aside0.mk hv
      have HG1 := Aside0.mk (gB_trans HG0.out hg)
      have HGs1 := Aside0.mk hg
      clear hres hr hg he hst hv
      have HO1 := Aside0.mk (kr_marks2 _ _ _ _ _ HR1.out HO.out).1
      have HN1 := Aside0.mk (blk_grown HN0.out HGs1.out hgb)
      have HRW1 := Aside0.mk (rowN_grown HRW0.out HGs1.out hfr)
      clear HN0 HRW0 HGs1 HS0 HG0 HE0 HV1 HI
      have HC := Aside0.mk (label_calls w0 fv F b W1 s1 HS1.out HF HNA HO1.out.1 (nb_of HE1.out HNB.out))
      try simp only [World.size_alloc, World.size_setCell] at HC
      go_wp2_with fail
      refine HC.out.mono ?_
      clear HC
      intro e W2 hres
      rcases Res.ways hres with ⟨a2, s2, v2, hr, rfl, hv, hst, hg⟩ | ⟨kk, ll, lc, hr, rfl, hg⟩
      rotate_left
      · have he := HE1.out
        rw [hr] at he
        have HX := Aside0.mk (And.intro (gB_trans HG1.out hg) he)
        clear hres hr hg he
        go_wp2
        rw [HX.out.2]
        exact ⟨rfl, Res.err HX.out.1⟩
      have he := HE1.out
      rw [hr] at he
      try simp only [bind_ok] at he
      have HE2 := Aside0.mk he
      have HR2 := Aside0.mk hr
      have HS2 := Aside0.mk hst
      have HV2 := Aside0.mk hv
      have HG2 := Aside0.mk (gB_trans HG1.out hg)
      have HGs2 := Aside0.mk hg
      clear hres hr hg he hst hv
      have HRW2 := Aside0.mk (rowN_far (rowN_grown HRW1.out HGs2.out hfr) 4 (.bool a2.f0) 5 (.int .u64 a2.f1))
      obtain ⟨tb2, tn2⟩ := a2
      have hv := HV2.out
      simp only at hv
      subst hv
      have HNq := Aside0.mk (blk_grown HN1.out HGs2.out hgb)
      have q0 := blk_cell HNq.out 4
      have q1 := blk_cell HNq.out 5
      have f0 := blk_frozen HNq.out 4
      have f1 := blk_frozen HNq.out 5
      simp [nodeCs] at q0 q1
      have HN2 : Aside0 (((W2.setCell ⟨gn, 4, none⟩ (.bool tb2)).setCell ⟨gn, 5, none⟩ (.int .u64 tn2)).heap[gn]? = some (.cells (nodeCs ⟨3, 0, ⟨#[]⟩, kids, ⟨tb2, tn2⟩, t0, t0⟩) 119 (0, 0))) := ⟨blk_put (blk_put HNq.out 4 _ rfl) 5 _ rfl⟩
      have hs1 := setOne HS2.out HG2.out hgw 4 (.bool tb2) hfr HST.out.below
      have hs2 := setOne hs1.1 hs1.2 hgw 5 (.int .u64 tn2) hfr HST.out.below
      have HS2 := Aside0.mk hs2.1
      have HG2 := Aside0.mk hs2.2
      clear hs1 hs2 HNq
      clear HN1 HRW1 HGs2 HV2 HS1 HG1 HE1
      obtain ⟨x, hx⟩ : ∃ x : Nd, x = ⟨3, 0, ⟨#[]⟩, kids, ⟨tb2, tn2⟩, t0, t0⟩ := ⟨_, rfl⟩
      have HRR : Aside0 (R = .ok (x :: all) s2) := ⟨by rw [HE2.out, hx]⟩
      have hN := HN2.out
      rw [← hx] at hN
      have HR0 := Aside0.mk (row_one hN hgw)
      obtain ⟨A9, c9, e9, _, hC9⟩ := Kd.R_reads HRW2.out
      injection e9 with e1 e2 e3
      subst e1
      rw [← e2] at hC9
      have HC9 := Aside0.mk hC9
      have HL9 : Aside0 (([x].length + n) * 88 ≤ 140737488355328) := ⟨by have := HLA.out; have := HO.out.2; have := HNL.out; simp only [List.length_singleton]; omega⟩
      clear e2 e3 hC9 hN hx
      go_wp2_with (at_builtin; refine wpList_append_R rfl kNode w.heap.size (.tmp 55) (.tmp 56) 22 22 119 119 (.agg #[.int .u8 0, .int .i64 0, .string ⟨#[]⟩, .int .i64 0, .bool false, .int .u64 0, .bool false, .int .u64 0, .bool false, .int .u64 0]) 88 rfl (by kernel_rfl) (by kernel_rfl) infoN rfl (by decide) (by decide) (.slice (some ⟨gn, 0, none⟩) 1 1) [x] all A n c (fun _ => True) (fun _ => False) rfl rfl HR0.out HC9.out (fun x cs h => nodeM h) (fun _ h => h.elim) (fun _ _ => trivial) HG2.out.size HL9.out ?_; intro v8 WX HO8 hg8 hat; obtain ⟨A8, c8, rfl⟩ := Kd.R_slice HO8; obtain ⟨l, hl⟩ : ∃ l, l = [x] ++ all := ⟨_, rfl⟩; rw [← hl] at HO8 ⊢; have HLX := Aside0.mk hl; clear hl; have HR8 := Aside0.mk HO8; have HS8 := Aside0.mk (HS2.out.row hg8 (fun e => hgb e.symm) HST.out HG2.out (fun j hj => by have : gn = j := Option.some.inj hj; omega)); have HG8 := Aside0.mk (grown_row HG2.out hg8 (fun j hj => by have : gn = j := Option.some.inj hj; omega)); clear HO8 hg8 hat)
      rw [show x :: all = l from HLX.out.symm] at HRR
      go_ret
      rw [HRR.out]
      exact Res.ret HR8.out HS8.out HG8.out
    | false =>
      have hm2 : isM (⟨#[41]⟩ : ByteArray).data.toList sk = false := hm
      rw [hm2] at HI
      have hE0 := HE.out
      rw [tupL_miss hk hm, bind_assoc] at hE0
      have HE0 := Aside0.mk hE0
      have q3 := blk_cell HN0.out 3
      simp [nodeCs] at q3
      have HLA0 := HLA
      have HO0 := HO
      clear hm hm2 HS HG HN HRW HE hE0
      rcases Nat.lt_or_ge kids 1 with hz | hz
      · have d0 : decide ((kids : Int) > 0) = false := decide_eq_false (by omega)
        have he0 := HE0.out
        rw [if_neg (by omega)] at he0
        simp only [bind_ok] at he0
        have HE0 := Aside0.mk he0
        clear he0
        obtain ⟨s0, hs0⟩ : ∃ s, s = sk := ⟨_, rfl⟩
        rw [← hs0] at HS0 HE0 HO0 HLA0
        clear hs0
        go_wp2_with (go_at_call 194; (with_reducible refine HI.out.mono ?_); rintro e W ⟨rfl, rfl⟩)
        clear HI
        have q3 := blk_cell HN0.out 3
        simp [nodeCs] at q3
        rcases Nat.lt_or_ge kids 8 with hlt | hge
        · have d8 : decide ((kids : Int) ≥ 8) = false := decide_eq_false (by omega)
          have he0 := HE0.out
          rw [tupC, if_neg (by omega), bind_assoc] at he0
          have HE0 := Aside0.mk he0
          clear he0
          have HC := Aside0.mk (HDW.out (ne + 1) _ s0 (by have := HNE.out.1; omega) (by have := HNE.out.2; omega) HS0.out HO0.out (nb_of HE0.out HNB.out))
          try simp only [World.size_alloc, World.size_setCell] at HC
          go_wp2_with fail
          refine HC.out.mono ?_
          clear HC
          intro e W1 hres
          rcases Res.ways hres with ⟨a1, s1, v1, hr, rfl, hv, hst, hg⟩ | ⟨kk, ll, lc, hr, rfl, hg⟩
          rotate_left
          · have he := HE0.out
            rw [hr] at he
            have HX := Aside0.mk (And.intro (gB_trans HG0.out hg) he)
            clear hres hr hg he
            go_wp2
            rw [HX.out.2]
            exact ⟨rfl, Res.err HX.out.1⟩
          have he := HE0.out
          rw [hr] at he
          try simp only [bind_ok] at he
          have HE1 := Aside0.mk he
          have HR1 := Aside0.mk hr
          have HS1 := Aside0.mk hst
          have HV1 := Aside0.mk hv
          have HG1 := Aside0.mk (gB_trans HG0.out hg)
          have HGs1 := Aside0.mk hg
          clear hres hr hg he hst hv
          obtain ⟨okk, mk, ek1, ek2⟩ := HK.out _ _ _ HR1.out HO0.out
          have HO1 := Aside0.mk okk
          have HLN : Aside0 (all.length + a1.length ≤ s1.n) := ⟨by have := HLA0.out; have := ek2.1; omega⟩
          clear okk ek1 ek2
          have HN1 := Aside0.mk (blk_grown HN0.out HGs1.out hgb)
          have HRW1 := Aside0.mk (rowN_grown HRW0.out HGs1.out hfr)
          obtain ⟨A9, c9, hv9, _, hC9⟩ := Kd.R_reads HV1.out
          subst hv9
          obtain ⟨m9, hm9⟩ : ∃ m, m = a1.length := ⟨_, rfl⟩
          have HM9 := Aside0.mk hm9
          rw [← hm9] at hC9 ⊢
          have HC9 := Aside0.mk hC9
          have HL9 : Aside0 ((all.length + m9) * 88 ≤ 140737488355328) := ⟨by have := HLN.out; have := HO1.out.2; omega⟩
          have HFR9 : Aside0 (∀ j, W1.heap.size ≤ j → j ≠ gn) := ⟨fun j hj e => by have := blk_lt HN1.out; omega⟩
          have HNB9 : Aside0 (some gn ≠ (Value.slice A n c).ownBlock ∧ some b ≠ (Value.slice A n c).ownBlock ∧ ∀ j, (Value.slice A n c).ownBlock = some j → w.heap.size ≤ j) := ⟨⟨fun e => HRW1.out.1 _ e.symm rfl, fun e => by have := (Kd.R_bound HRW1.out).1 _ e.symm; have := this.2.1; omega, fun j hj => ((Kd.R_bound HRW1.out).1 _ hj).2.1⟩⟩
          clear hm9 hC9 HV1 q3
          have hwk : IntKind.i64.wrap ((kids : Int) + 1) = ((kids + 1 : Nat) : Int) := by rw [IntKind.wrap_i64]; omega
          go_wp2_with (at_builtin; refine wpList_append_R rfl kNode w.heap.size (.tmp 39) (.tmp 45) 22 22 119 119 (.agg #[.int .u8 0, .int .i64 0, .string ⟨#[]⟩, .int .i64 0, .bool false, .int .u64 0, .bool false, .int .u64 0, .bool false, .int .u64 0]) 88 rfl (by kernel_rfl) (by kernel_rfl) infoN rfl (by decide) (by decide) (.slice A n c) all a1 A9 m9 c9 (fun k => k ≠ gn) (fun _ => False) rfl rfl HRW1.out HC9.out (fun x cs h => nodeM h) (fun _ h => h.elim) HFR9.out HG1.out.size HL9.out ?_; intro v8 WX HO8 hg8 hat; obtain ⟨A8, c8, rfl⟩ := Kd.R_slice HO8; obtain ⟨l8, hl8⟩ : ∃ l, l = all ++ a1 := ⟨_, rfl⟩; rw [← hl8] at HO8 ⊢; have HL8 := Aside0.mk hl8; clear hl8; have HR8 := Aside0.mk HO8; have HN8 := Aside0.mk (blk_grown HN1.out hg8 HNB9.out.1); have HS8 := Aside0.mk (HS1.out.row hg8 HNB9.out.2.1 HST.out HG1.out HNB9.out.2.2); have HG8 := Aside0.mk (grown_row HG1.out hg8 HNB9.out.2.2); have q3 := blk_cell HN8.out 3; have f3 := blk_frozen HN8.out 3; simp [nodeCs] at q3; clear HO8 hg8 hat)
          have hN7 : (WX.setCell ⟨gn, 3, none⟩ (.int .i64 ((kids + 1 : Nat) : Int))).heap[gn]? = some (.cells (nodeCs ⟨3, 0, ⟨#[]⟩, ((kids + 1 : Nat) : Int), t0, t0, t0⟩) 119 (0, 0)) := blk_put HN8.out 3 _ rfl
          have hs7 := setOne HS8.out HG8.out hgw 3 (.int .i64 ((kids + 1 : Nat) : Int)) hfr HST.out.below
          have HF7 := Aside0.mk (And.intro hN7 (And.intro hs7 (rowN_far1 HR8.out 3 (.int .i64 ((kids + 1 : Nat) : Int)))))
          clear hN7 hs7
          have e7 : (kids : Int) + 1 = ((kids + 1 : Nat) : Int) := by omega
          rw [e7]
          go_roundg (gk - 1)
          case measure => omega
          case rel =>
            refine ⟨kids + 1, s1, A8, c8, l8, rfl, by omega, by omega, ⟨HF7.out.2.1.1⟩, HO1, ⟨by rw [HL8.out, List.length_append]; exact HLN.out⟩, ⟨HF7.out.2.1.2⟩, ⟨HF7.out.1⟩, ⟨HF7.out.2.2⟩, ⟨?_⟩⟩
            rw [HE1.out, HL8.out, show 8 - kids - 1 = 8 - (kids + 1) by omega]
        · exfalso; omega
      · have d0 : decide ((kids : Int) > 0) = true := decide_eq_true (by omega)
        have he0 := HE0.out
        rw [if_pos (show 0 < kids by omega)] at he0
        have HE0 := Aside0.mk he0
        clear he0
        go_wp2_with (go_at_call 194; (with_reducible refine HI.out.mono ?_); rintro e W ⟨rfl, rfl⟩)
        have HC := Aside0.mk (mark_at w0 fv b _ sk ⟨#[44]⟩ HS0.out)
        try simp only [World.size_alloc, World.size_setCell] at HC
        go_wp2_with fail
        refine HC.out.mono ?_
        clear HC
        intro e W1 hres
        rcases Res.ways hres with ⟨a1, s1, v1, hr, rfl, hv, hst, hg⟩ | ⟨kk, ll, lc, hr, rfl, hg⟩
        rotate_left
        · have he := HE0.out
          rw [hr] at he
          have HX := Aside0.mk (And.intro (gB_trans HG0.out hg) he)
          clear hres hr hg he
          go_wp2
          rw [HX.out.2]
          exact ⟨rfl, Res.err HX.out.1⟩
        have he := HE0.out
        rw [hr] at he
        try simp only [bind_ok] at he
        have HE1 := Aside0.mk he
        have HR1 := Aside0.mk hr
        have HS1 := Aside0.mk hst
        have HV1 := Aside0.mk hv
        have HG1 := Aside0.mk (gB_trans HG0.out hg)
        have HGs1 := Aside0.mk hg
        clear hres hr hg he hst hv
        obtain ⟨okk, mk, ek1, ek2⟩ := kr_mustM _ _ _ _ HR1.out HO0.out
        have HO1 := Aside0.mk okk
        have HLA1 : Aside0 (all.length ≤ s1.n) := ⟨by have := HLA0.out; omega⟩
        have HN1 := Aside0.mk (blk_grown HN0.out HGs1.out hgb)
        have HRW1 := Aside0.mk (rowN_grown HRW0.out HGs1.out hfr)
        clear okk ek1 ek2 HN0 HRW0 HGs1 HS0 HG0 HE0 HV1 HI q3 HR1
        have q3 := blk_cell HN1.out 3
        simp [nodeCs] at q3
        rcases Nat.lt_or_ge kids 8 with hlt | hge
        · have d8 : decide ((kids : Int) ≥ 8) = false := decide_eq_false (by omega)
          have he0 := HE1.out
          rw [tupC, if_neg (by omega), bind_assoc] at he0
          have HE1 := Aside0.mk he0
          clear he0
          have HC := Aside0.mk (HDW.out (ne + 1) _ s1 (by have := HNE.out.1; omega) (by have := HNE.out.2; omega) HS1.out HO1.out (nb_of HE1.out HNB.out))
          try simp only [World.size_alloc, World.size_setCell] at HC
          go_wp2_with fail
          refine HC.out.mono ?_
          clear HC
          intro e W2 hres
          rcases Res.ways hres with ⟨a2, s2, v2, hr, rfl, hv, hst, hg⟩ | ⟨kk, ll, lc, hr, rfl, hg⟩
          rotate_left
          · have he := HE1.out
            rw [hr] at he
            have HX := Aside0.mk (And.intro (gB_trans HG1.out hg) he)
            clear hres hr hg he
            go_wp2
            rw [HX.out.2]
            exact ⟨rfl, Res.err HX.out.1⟩
          have he := HE1.out
          rw [hr] at he
          try simp only [bind_ok] at he
          have HE2 := Aside0.mk he
          have HR2 := Aside0.mk hr
          have HS2 := Aside0.mk hst
          have HV2 := Aside0.mk hv
          have HG2 := Aside0.mk (gB_trans HG1.out hg)
          have HGs2 := Aside0.mk hg
          clear hres hr hg he hst hv
          obtain ⟨okk, mk, ek1, ek2⟩ := HK.out _ _ _ HR2.out HO1.out
          have HO2 := Aside0.mk okk
          have HLN : Aside0 (all.length + a2.length ≤ s2.n) := ⟨by have := HLA1.out; have := ek2.1; omega⟩
          clear okk ek1 ek2
          have HN2 := Aside0.mk (blk_grown HN1.out HGs2.out hgb)
          have HRW2 := Aside0.mk (rowN_grown HRW1.out HGs2.out hfr)
          obtain ⟨A9, c9, hv9, _, hC9⟩ := Kd.R_reads HV2.out
          subst hv9
          obtain ⟨m9, hm9⟩ : ∃ m, m = a2.length := ⟨_, rfl⟩
          have HM9 := Aside0.mk hm9
          rw [← hm9] at hC9 ⊢
          have HC9 := Aside0.mk hC9
          have HL9 : Aside0 ((all.length + m9) * 88 ≤ 140737488355328) := ⟨by have := HLN.out; have := HO2.out.2; omega⟩
          have HFR9 : Aside0 (∀ j, W2.heap.size ≤ j → j ≠ gn) := ⟨fun j hj e => by have := blk_lt HN2.out; omega⟩
          have HNB9 : Aside0 (some gn ≠ (Value.slice A n c).ownBlock ∧ some b ≠ (Value.slice A n c).ownBlock ∧ ∀ j, (Value.slice A n c).ownBlock = some j → w.heap.size ≤ j) := ⟨⟨fun e => HRW2.out.1 _ e.symm rfl, fun e => by have := (Kd.R_bound HRW2.out).1 _ e.symm; have := this.2.1; omega, fun j hj => ((Kd.R_bound HRW2.out).1 _ hj).2.1⟩⟩
          clear hm9 hC9 HV2 q3
          have hwk : IntKind.i64.wrap ((kids : Int) + 1) = ((kids + 1 : Nat) : Int) := by rw [IntKind.wrap_i64]; omega
          go_wp2_with (at_builtin; refine wpList_append_R rfl kNode w.heap.size (.tmp 39) (.tmp 45) 22 22 119 119 (.agg #[.int .u8 0, .int .i64 0, .string ⟨#[]⟩, .int .i64 0, .bool false, .int .u64 0, .bool false, .int .u64 0, .bool false, .int .u64 0]) 88 rfl (by kernel_rfl) (by kernel_rfl) infoN rfl (by decide) (by decide) (.slice A n c) all a2 A9 m9 c9 (fun k => k ≠ gn) (fun _ => False) rfl rfl HRW2.out HC9.out (fun x cs h => nodeM h) (fun _ h => h.elim) HFR9.out HG2.out.size HL9.out ?_; intro v8 WX HO8 hg8 hat; obtain ⟨A8, c8, rfl⟩ := Kd.R_slice HO8; obtain ⟨l8, hl8⟩ : ∃ l, l = all ++ a2 := ⟨_, rfl⟩; rw [← hl8] at HO8 ⊢; have HL8 := Aside0.mk hl8; clear hl8; have HR8 := Aside0.mk HO8; have HN8 := Aside0.mk (blk_grown HN2.out hg8 HNB9.out.1); have HS8 := Aside0.mk (HS2.out.row hg8 HNB9.out.2.1 HST.out HG2.out HNB9.out.2.2); have HG8 := Aside0.mk (grown_row HG2.out hg8 HNB9.out.2.2); have q3 := blk_cell HN8.out 3; have f3 := blk_frozen HN8.out 3; simp [nodeCs] at q3; clear HO8 hg8 hat)
          have hN7 : (WX.setCell ⟨gn, 3, none⟩ (.int .i64 ((kids + 1 : Nat) : Int))).heap[gn]? = some (.cells (nodeCs ⟨3, 0, ⟨#[]⟩, ((kids + 1 : Nat) : Int), t0, t0, t0⟩) 119 (0, 0)) := blk_put HN8.out 3 _ rfl
          have hs7 := setOne HS8.out HG8.out hgw 3 (.int .i64 ((kids + 1 : Nat) : Int)) hfr HST.out.below
          have HF7 := Aside0.mk (And.intro hN7 (And.intro hs7 (rowN_far1 HR8.out 3 (.int .i64 ((kids + 1 : Nat) : Int)))))
          clear hN7 hs7
          have e7 : (kids : Int) + 1 = ((kids + 1 : Nat) : Int) := by omega
          rw [e7]
          go_roundg (gk - 1)
          case measure => omega
          case rel =>
            refine ⟨kids + 1, s2, A8, c8, l8, rfl, by omega, by omega, ⟨HF7.out.2.1.1⟩, HO2, ⟨by rw [HL8.out, List.length_append]; exact HLN.out⟩, ⟨HF7.out.2.1.2⟩, ⟨HF7.out.1⟩, ⟨HF7.out.2.2⟩, ⟨?_⟩⟩
            rw [HE2.out, HL8.out, show 8 - kids - 1 = 8 - (kids + 1) by omega]
        · have d8 : decide ((kids : Int) ≥ 8) = true := decide_eq_true (by omega)
          have HFL := Aside0.mk (fails_calls w0 fv b _ s1 3 HS1.out)
          have HRR : Aside0 (R = .err 3 (place s1).1 (place s1).2) := ⟨by
            have he := HE1.out
            rw [tupC, if_pos (by omega)] at he
            exact he⟩
          go_wp2_with (go_at_call 221; (with_reducible refine HFL.out.mono ?_); rintro e WY ⟨rfl, hb⟩; unfold faultE faultV)
          rw [HRR.out]
          exact ⟨rfl, Res.err (gB_trans HG1.out (gB_below hb))⟩
end Tr
end Go.Proofs.YtdecijmncpbheaaGreatDoor
