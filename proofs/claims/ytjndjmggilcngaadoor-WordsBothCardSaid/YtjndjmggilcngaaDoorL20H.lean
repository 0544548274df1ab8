/- WordsBoth: a walk through its code at every input. -/
import Derived.Test.YtjndjmggilcngaaDoorL20S

namespace Go.Proofs.YtjndjmggilcngaaDoor
open Go.RowKit Go.Proofs.YtjndjmggilcngaaDoorW.PrintWords Go.Proofs.YtjndjmggilcngaaDoorW.PrintLast Go.Proofs.YtjndjmggilcngaaDoorW.PrintMore
set_option linter.unusedVariables false
set_option linter.unusedSimpArgs false
namespace L20
open Wd
theorem both_list (a b : ByteArray) : (a ++ ⟨#[10]⟩ ++ b).data.toList = a.data.toList ++ 10 :: b.data.toList := by
  simp
set_option maxRecDepth 100000 in
set_option maxHeartbeats 8000000 in
theorem both_walk (w : World) (HT : Aside0 (RangesAt w ∧ NumsAt w)) (a : ByteArray) (ha : a.size ≤ reachBytes) (b : ByteArray) (hb : b.size ≤ reachBytes) : Calls Tryd.prog 5 #[.string a, .string b] w fun e w' => e = .returned (.bool true) ∧ Below w.heap.size w w' := by
  have HB := Aside0.mk (Below.refl w.heap.size w)
  have ha : a.size ≤ 9223372036854775 := Nat.le_trans ha (by decide)
  have hb : b.size ≤ 9223372036854775 := Nat.le_trans hb (by decide)
  by_cases hbig : 4000 < a.size + b.size
  · have d1 : decide (4000 < (a.size : Int) + (b.size : Int)) = true := decide_eq_true (by omega)
    clear hbig
    go_enter Tryd.func5, Tryd.ntmps5
    go_wp2_with (go_at_call 8; (with_reducible refine (lives_calls _ (tabs_below HT.out HB.out)).mono ?_); rintro e W' ⟨rfl, hb'⟩; have HBL := Aside0.mk (below_step HB.out hb'); clear hb')
    go_ret
    exact ⟨rfl, HBL.out⟩
  have d1 : decide (4000 < (a.size : Int) + (b.size : Int)) = false := decide_eq_false (by omega)
  have hla : a.data.toList.length ≤ 1048576 := by rw [Array.length_toList]; show a.size ≤ _; omega
  have hlb : b.data.toList.length ≤ 1048576 := by rw [Array.length_toList]; show b.size ≤ _; omega
  have hlc : (a ++ ⟨#[10]⟩ ++ b).data.toList.length ≤ 1048576 := by
    rw [both_list, List.length_append, List.length_cons, Array.length_toList, Array.length_toList]
    show a.size + (b.size + 1) ≤ _
    omega
  have hca := ofW_count a.data.toList
  have hcb := ofW_count b.data.toList
  rw [Array.length_toList] at hca hcb
  have ka := ofW_K _ hla
  have kb := ofW_K _ hlb
  have kc := ofW_K _ hlc
  rw [both_list, scanK_both] at kc
  obtain ⟨la, pa, qa, ea, hfa⟩ : ∃ l line col er, ofW a.data.toList = (l, line, col, er) := ⟨_, _, _, _, rfl⟩
  obtain ⟨lb, pb, qb, eb, hfb⟩ : ∃ l line col er, ofW b.data.toList = (l, line, col, er) := ⟨_, _, _, _, rfl⟩
  obtain ⟨lc, pc, qc, ec, hfc⟩ : ∃ l line col er, ofW (a ++ ⟨#[10]⟩ ++ b).data.toList = (l, line, col, er) := ⟨_, _, _, _, rfl⟩
  rw [← both_list, hfc] at kc
  rw [hfa] at ka
  rw [hfb] at kb
  simp only at ka kb kc
  rw [hfa] at hca
  rw [hfb] at hcb
  obtain ⟨na, hna⟩ : ∃ m, m = la.length := ⟨_, rfl⟩
  obtain ⟨nb, hnb⟩ : ∃ m, m = lb.length := ⟨_, rfl⟩
  obtain ⟨nc, hnc⟩ : ∃ m, m = lc.length := ⟨_, rfl⟩
  have HFA : Aside0 (∀ W, Below w.heap.size w W → Calls Tryd.prog 9 #[.string a] W fun e w' => ∃ A c, e = .returned (.tuple #[.slice A na c, .agg #[.int .i64 pa, .int .i64 qa], .int .i64 ea]) ∧ kWord.R 31 w' W.heap.size (fun _ => True) (.slice A na c) (la.map wordV) ∧ Below W.heap.size W w') := ⟨fun W h => words_named W a (tabs_below HT.out h) hfa hna rfl⟩
  have HFB : Aside0 (∀ W, Below w.heap.size w W → Calls Tryd.prog 9 #[.string b] W fun e w' => ∃ A c, e = .returned (.tuple #[.slice A nb c, .agg #[.int .i64 pb, .int .i64 qb], .int .i64 eb]) ∧ kWord.R 31 w' W.heap.size (fun _ => True) (.slice A nb c) (lb.map wordV) ∧ Below W.heap.size W w') := ⟨fun W h => words_named W b (tabs_below HT.out h) hfb hnb rfl⟩
  have HFC : Aside0 (∀ W, Below w.heap.size w W → Calls Tryd.prog 9 #[.string (a ++ ⟨#[10]⟩ ++ b)] W fun e w' => ∃ A c, e = .returned (.tuple #[.slice A nc c, .agg #[.int .i64 pc, .int .i64 qc], .int .i64 ec]) ∧ kWord.R 31 w' W.heap.size (fun _ => True) (.slice A nc c) (lc.map wordV) ∧ Below W.heap.size W w') := ⟨fun W h => words_named W _ (tabs_below HT.out h) hfc hnc rfl⟩
  have HN := Aside0.mk (And.intro hna (And.intro hnb hnc))
  have HCNT : Aside0 (na ≤ 4001 ∧ nb ≤ 4001) := ⟨by
    have h1 : la.length ≤ a.size + 1 := hca
    have h2 : lb.length ≤ b.size + 1 := hcb
    omega⟩
  have HKA := Aside0.mk ka
  have HKB := Aside0.mk kb
  have HKC := Aside0.mk kc
  clear hca hcb hbig hla hlb hlc ka kb kc hfa hfb hfc hna hnb hnc
  have HCASE : Aside0 ((ea = 11 ∧ ec = 11) ∨ (ea = 0 ∧ eb = 11 ∧ ec = 11) ∨ (ea = 0 ∧ eb = 0 ∧ ec = 0 ∧ 0 < na ∧ lc.map kt = (la.map kt).dropLast ++ lb.map kt)) := ⟨by
    rcases HKA.out with ⟨s1, e1, -⟩ | ⟨wa, s1, e1, m1⟩
    · left
      rcases HKC.out with ⟨-, e3, -⟩ | ⟨wc, s3, -, -⟩
      · exact ⟨e1, e3⟩
      · rw [s1] at s3; cases s3
    · rcases HKB.out with ⟨s2, e2, -⟩ | ⟨wb, s2, e2, m2⟩
      · right; left
        rcases HKC.out with ⟨-, e3, -⟩ | ⟨wc, s3, -, -⟩
        · exact ⟨e1, e2, e3⟩
        · rw [s1, s2] at s3; cases s3
      · right; right
        rcases HKC.out with ⟨s3, -, -⟩ | ⟨wc, s3, e3, m3⟩
        · rw [s1, s2] at s3; cases s3
        · rw [s1, s2] at s3
          have s3 := Option.some.inj s3
          refine ⟨e1, e2, e3, ?_, ?_⟩
          · rw [HN.out.1]
            have := congrArg List.length m1
            rw [List.length_map, List.length_append] at this
            simp at this
            omega
          · rw [m1, m2, m3, ← s3]⟩
  clear HKA HKB HKC
  go_enter Tryd.func5, Tryd.ntmps5
  go_wp2_with fail
  refine (HFA.out _ HB.out).mono ?_
  rintro e W1 ⟨A1, c1, rfl, hr1, hb1⟩
  have HC1 := (Kd.R_reads' hr1)
  have HB1 := Aside0.mk (below_alloc hb1 (.cells #[.int .i64 pa, .int .i64 qa] 25))
  have hr1' := Kd.C_below HC1.2.2 (below_alloc (Below.refl _ _) (.cells #[.int .i64 pa, .int .i64 qa] 25))
  have HCC1 := Aside0.mk (And.intro HC1.1 (And.intro HC1.2.1 hr1'))
  clear hr1 hb1 HC1 hr1'
  go_wp2_with fail
  refine (HFB.out _ HB1.out).mono ?_
  rintro e W2 ⟨A2, c2, rfl, hr2, hb2⟩
  have HC2 := (Kd.R_reads' hr2)
  have HB2 := Aside0.mk (below_alloc (below_step HB1.out hb2) (.cells #[.int .i64 pb, .int .i64 qb] 25))
  have hr2' := Kd.C_below HC2.2.2 (below_alloc (Below.refl _ _) (.cells #[.int .i64 pb, .int .i64 qb] 25))
  have hr1' := Kd.C_below (Kd.C_below HCC1.out.2.2 hb2) (below_alloc (Below.refl _ _) (.cells #[.int .i64 pb, .int .i64 qb] 25))
  have HCC2 := Aside0.mk (And.intro HC2.1 (And.intro hr1' hr2'))
  clear hr2 hb2 HC2 hr1' hr2' HB1
  go_wp2_with fail
  refine (HFC.out _ HB2.out).mono ?_
  rintro e W3 ⟨A3, c3, rfl, hr3, hb3⟩
  have HC3 := (Kd.R_reads' hr3)
  have HB3 := Aside0.mk (below_alloc (below_step HB2.out hb3) (.cells #[.int .i64 pc, .int .i64 qc] 25))
  have hr3' := Kd.C_below HC3.2.2 (below_alloc (Below.refl _ _) (.cells #[.int .i64 pc, .int .i64 qc] 25))
  have hr1' := Kd.C_below (Kd.C_below HCC2.out.2.1 hb3) (below_alloc (Below.refl _ _) (.cells #[.int .i64 pc, .int .i64 qc] 25))
  have hr2' := Kd.C_below (Kd.C_below HCC2.out.2.2 hb3) (below_alloc (Below.refl _ _) (.cells #[.int .i64 pc, .int .i64 qc] 25))
  have HCC3 := Aside0.mk (And.intro HC3.1 (And.intro hr1' (And.intro hr2' hr3')))
  clear hr3 hb3 HC3 hr1' hr2' hr3' HB2
  rcases HCASE.out with ⟨rfl, rfl⟩ | ⟨rfl, rfl, rfl⟩ | ⟨rfl, rfl, rfl, hn0, hkt⟩
  · go_wp2_with (go_at_call 8; (with_reducible refine (lives_calls _ (tabs_below HT.out HB3.out)).mono ?_); rintro e W' ⟨rfl, hb'⟩; have HBL := Aside0.mk (below_step HB3.out hb'); clear hb')
    go_ret
    exact ⟨rfl, HBL.out⟩
  · go_wp2_with (go_at_call 8; (with_reducible refine (lives_calls _ (tabs_below HT.out HB3.out)).mono ?_); rintro e W' ⟨rfl, hb'⟩; have HBL := Aside0.mk (below_step HB3.out hb'); clear hb')
    go_ret
    exact ⟨rfl, HBL.out⟩
  · have hcap : na ≤ c1 := HCC1.out.2.1
    obtain ⟨k, rfl⟩ : ∃ k, na = k + 1 := ⟨na - 1, by omega⟩
    have hz : (((k + 1 : Nat) : Int) == 0) = false := beq_eq_false_iff_ne.2 (by omega)
    have hnb := HCNT.out.2
    have hka := HCNT.out.1
    have hwk : wrap64 (k : Int) = (k : Int) := by unfold wrap64; omega
    have hkc : ((k : Int) ≤ (c1 : Int)) = True := by simp; omega
    have HLEN : Aside0 (((la.map wordV).take k).length = k ∧ ((la.map wordV).take k ++ lb.map wordV).length = k + nb ∧ k + nb = nc) := ⟨by
      have e1 : ((la.map wordV).take k).length = k := by rw [List.length_take, List.length_map, ← HN.out.1]; omega
      refine ⟨e1, by rw [List.length_append, e1, List.length_map, HN.out.2.1], ?_⟩
      have := congrArg List.length hkt
      rw [List.length_map, List.length_append, List.length_dropLast, List.length_map, List.length_map, ← HN.out.1, ← HN.out.2.1, ← HN.out.2.2] at this
      omega⟩
    have HSM : Aside0 (∀ i (h1 : i < ((la.map wordV).take k ++ lb.map wordV).length) (h2 : i < (lc.map wordV).length), ((la.map wordV).take k ++ lb.map wordV)[i].f0 = (lc.map wordV)[i].f0 ∧ ((la.map wordV).take k ++ lb.map wordV)[i].f1 = (lc.map wordV)[i].f1) := ⟨by
      rw [← List.map_take, ← List.map_append]
      refine kt_wordV _ _ ?_
      rw [hkt, List.map_append, List.map_take, List.dropLast_eq_take, List.length_map, ← HN.out.1]
      rfl⟩
    have HCT := Aside0.mk (C_take HCC3.out.2.1 (m := k) (by rw [List.length_map, ← HN.out.1]; omega))
    have HCB : Aside0 (kWord.C (W3.alloc (.cells #[.int .i64 pc, .int .i64 qc] 25)) A2 nb (lb.map wordV)) := ⟨by have := HCC3.out.2.2.1; rwa [List.length_map, ← HN.out.2.1] at this⟩
    have HCL : Aside0 (kWord.C (W3.alloc (.cells #[.int .i64 pc, .int .i64 qc] 25)) A3 nc (lc.map wordV)) := ⟨by have := HCC3.out.2.2.2; rwa [List.length_map, ← HN.out.2.2] at this⟩
    have HLC : Aside0 (nc = (lc.map wordV).length) := ⟨by rw [List.length_map]; exact HN.out.2.2⟩
    clear hkt hn0
    go_wp2_with (first | (at_builtin; refine wpList_append_R rfl kWord (W3.alloc (.cells #[.int .i64 pc, .int .i64 qc] 25)).heap.size (.const (.slice none 0 0)) (.tmp 64) 23 23 31 31 (.agg #[.int .u8 0, .string ⟨#[]⟩, .int .i64 0, .int .i64 0]) 40 rfl (by kernel_rfl) (by kernel_rfl) infoW rfl (by decide) (by decide) (.slice none 0 0) [] ((la.map wordV).take k) A1 k c1 (fun _ => True) (fun _ => False) rfl rfl (Kd.R_nil _ _ _ _ _) HCT.out (fun x cs h => wordM h) (fun _ h => h.elim) (fun _ _ => trivial) (Nat.le_refl _) (by rw [List.length_nil]; omega) ?_; intro v1 w1 HO1 hg1 hat; obtain ⟨A5, c5, rfl⟩ := Kd.R_slice HO1; rw [List.nil_append, HLEN.out.1] at HO1 ⊢; have HBW1 := Aside0.mk ((Below.refl (W3.alloc (.cells #[.int .i64 pc, .int .i64 qc] 25)).heap.size (W3.alloc (.cells #[.int .i64 pc, .int .i64 qc] 25))).grown hg1 (Nat.le_refl _) (fun k hk => by cases hk)); have HO2 := Aside0.mk HO1; clear HO1 hg1 hat) | (at_builtin; refine wpList_append_R rfl kWord (W3.alloc (.cells #[.int .i64 pc, .int .i64 qc] 25)).heap.size (.tmp 65) (.tmp 66) 23 23 31 31 (.agg #[.int .u8 0, .string ⟨#[]⟩, .int .i64 0, .int .i64 0]) 40 rfl (by kernel_rfl) (by kernel_rfl) infoW rfl (by decide) (by decide) (.slice A5 k c5) ((la.map wordV).take k) (lb.map wordV) A2 nb c2 (fun _ => True) (fun _ => False) rfl rfl HO2.out (Kd.C_below HCB.out HBW1.out) (fun x cs h => wordM h) (fun _ h => h.elim) (fun _ _ => trivial) HBW1.out.size (by rw [HLEN.out.1]; omega) ?_; intro v2 w2 HO3 hg2 hat; obtain ⟨A6, c6, rfl⟩ := Kd.R_slice HO3; rw [HLEN.out.2.1] at HO3 ⊢; have HBW2 := Aside0.mk (HBW1.out.grown hg2 HBW1.out.size (fun k hk => (Kd.R_bound HO2.out).1 k hk |>.2.1)); have hcx := (Kd.R_reads' HO3).2.2; rw [HLEN.out.2.1] at hcx; have HCX := Aside0.mk hcx; clear HO3 hg2 hat hcx) | (go_at_call 10; (with_reducible refine (same20_calls _ A6 A3 c6 c3 (k + nb) nc _ _ HLEN.out.2.1.symm HLC.out HLEN.out.2.2 HCX.out (Kd.C_below HCL.out HBW2.out) HSM.out).mono ?_); rintro e W5 ⟨rfl, hb'⟩; have HB5 := Aside0.mk (HB3.out.trans ((HBW2.out.trans (hb'.mono HBW2.out.size)).mono HB3.out.size)); clear hb') | (go_at_call 8; (with_reducible refine (lives_calls _ (tabs_below HT.out HB5.out)).mono ?_); rintro e W' ⟨rfl, hb'⟩; have HBL := Aside0.mk (below_step HB5.out hb'); clear hb'))
    go_ret
    exact ⟨rfl, HBL.out⟩
end L20
end Go.Proofs.YtjndjmggilcngaaDoor
