/- The statements of layer 8: whole, fun, alive. -/
import Derived.Test.YtoohandacpalpaaDoorSpJ
import Derived.Test.YtoohandacpalpaaDoorL07A
namespace Go.Proofs.YtoohandacpalpaaDoor
open Go.RowKit Go.Shelf Go.Proofs.YtoohandacpalpaaDoorW.PrintWords Go.Proofs.YtoohandacpalpaaDoorW.PrintLast Go.Proofs.YtoohandacpalpaaDoorW.PrintMore
set_option linter.unusedVariables false
set_option linter.unusedSimpArgs false
namespace L08
open L07
theorem whole_calls (w : World) : Calls Tryd.prog 29 #[] w fun e w' => e = .returned (.agg #[.int .u8 1, .int .i64 0, .string ⟨#[105, 110, 116]⟩, .int .i64 0, .bool false, .int .u64 0, .bool false, .int .u64 0, .bool false, .int .u64 0]) ∧ Below w.heap.size w w' := by
  go_enter Tryd.func29, Tryd.ntmps29
  go_wp2
  first
    | (go_ret; exact ⟨rfl, by repeat (first | exact Below.refl _ _ | apply below_alloc)⟩)
    | exact bodyPost_ret (v := .agg #[.int .u8 1, .int .i64 0, .string ⟨#[105, 110, 116]⟩, .int .i64 0, .bool false, .int .u64 0, .bool false, .int .u64 0, .bool false, .int .u64 0]) (by simp [results, Tryd.results29, go_sem]) rfl ⟨rfl, below_alloc (Below.refl _ _) _⟩
theorem fun_calls (w : World) : Calls Tryd.prog 30 #[] w fun e w' => e = .returned (.agg #[.int .u8 5, .int .i64 0, .string ⟨#[]⟩, .int .i64 2, .bool false, .int .u64 0, .bool false, .int .u64 0, .bool false, .int .u64 0]) ∧ Below w.heap.size w w' := by
  go_enter Tryd.func30, Tryd.ntmps30
  go_wp2
  first
    | (go_ret; exact ⟨rfl, by repeat (first | exact Below.refl _ _ | apply below_alloc)⟩)
    | exact bodyPost_ret (v := .agg #[.int .u8 5, .int .i64 0, .string ⟨#[]⟩, .int .i64 2, .bool false, .int .u64 0, .bool false, .int .u64 0, .bool false, .int .u64 0]) (by simp [results, Tryd.results30, go_sem]) rfl ⟨rfl, below_alloc (Below.refl _ _) _⟩
def refN : Node := ⟨4, 0, ⟨#[]⟩, 1, zT, zT, zT⟩
def refC : List Value := [.int .u8 4, .int .i64 0, .string ⟨#[]⟩, .int .i64 1, .bool false, .int .u64 0, .bool false, .int .u64 0, .bool false, .int .u64 0]
theorem refK (w : World) : kNode.K w refN refC := k36_mk w refN
theorem ref_reps (w : World) : Reps (kNode.K w) kNode.sz [refN, wholeN] (refC ++ (wholeC ++ [])) := reps_cons (refK w) rfl (one_reps w)
theorem ref_C (w : World) : kNode.C (w.alloc (.cells (refC ++ (wholeC ++ [])).toArray 36)) (some ⟨w.heap.size, 0, none⟩) 2 [refN, wholeN] := C_block (blk_new w _) (ref_reps _) (by decide)
theorem s1 : (labB [funN, wholeN, wholeN]).map (·.f2) = [0, 1, 1, 0] := by decide +kernel
theorem s2 : (effB [funN, wholeN, wholeN]).map (·.f2) = [0] := by decide +kernel
theorem s3 : (labB [refN, wholeN]).map (·.f2) = [0, 2] := by decide +kernel
theorem s4 : effB [refN, wholeN] = [] := by
  have : (effB [refN, wholeN]).map (·.f2) = [] := by decide +kernel
  simpa using this
theorem lit1_C (w : World) : (Kd.int .u8).C (w.alloc (.cells #[.int .u8 0, .int .u8 1, .int .u8 1, .int .u8 0] 48)) (some ⟨w.heap.size, 0, none⟩) 4 [0, 1, 1, 0] := C_ints (xs := [0, 1, 1, 0]) (blk_new w _) (by decide)
theorem lit2_C (w : World) : (Kd.int .u8).C (w.alloc (.cells #[.int .u8 0] 48)) (some ⟨w.heap.size, 0, none⟩) 1 [0] := C_ints (xs := [0]) (blk_new w _) (by decide)
theorem lit3_C (w : World) : (Kd.int .u8).C (w.alloc (.cells #[.int .u8 0, .int .u8 2] 48)) (some ⟨w.heap.size, 0, none⟩) 2 [0, 2] := C_ints (xs := [0, 2]) (blk_new w _) (by decide)
theorem labP_full {body : List Node} (hz : checkB body = 0) : (labP body body.length).length = (labB body).length := by rw [← labP_all hz, List.length_map]
theorem effP_full {body : List Node} (hz : checkB body = 0) : (effP body body.length).length = (effB body).length := by rw [← effP_all hz, List.length_map]
/-- A spot at a place, out of a row that is read. -/
theorem spotAt {w : World} {A : Option Addr} {n : Nat} {l : List Spot} (h : kSpot.C w A n l) {j : Nat} {i p s : Int} {t : Term} (hj : l[j]? = some ⟨i, p, s, t⟩) : ∃ ad, A = some ad ∧ w.cell? (ad.add (j * 5)) = some (.int .i64 i) ∧ w.cell? ⟨(ad.add (j * 5)).block, (ad.add (j * 5)).off + 1, none⟩ = some (.int .u8 p) ∧ w.cell? ⟨(ad.add (j * 5)).block, (ad.add (j * 5)).off + 2, none⟩ = some (.int .u8 s) ∧
    w.cell? ⟨(ad.add (j * 5)).block, (ad.add (j * 5)).off + 3, none⟩ = some (.bool t.f0) ∧ w.cell? ⟨(ad.add (j * 5)).block, (ad.add (j * 5)).off + 4, none⟩ = some (.int .u64 t.f1) := by
  obtain rfl := h.1
  obtain ⟨hl, he⟩ := List.getElem?_eq_some_iff.1 hj
  have := C_spotN h j hl
  rw [he] at this
  exact this
set_option maxRecDepth 100000 in
set_option maxHeartbeats 4000000 in
theorem alive_calls (w : World) : Calls Tryd.prog 28 #[] w fun e w' => e = .returned (.bool true) ∧ Below w.heap.size w w' := by
  go_enter Tryd.func28, Tryd.ntmps28
  go_wp2_with fail
  refine (fun_calls _).mono ?_
  rintro e w1 ⟨rfl, hb1⟩
  go_wp2_with fail
  refine (whole_calls _).mono ?_
  rintro e w2 ⟨rfl, hb2⟩
  go_wp2_with fail
  refine (whole_calls _).mono ?_
  rintro e w3 ⟨rfl, hb3⟩
  go_wp2_with fail
  refine (of_calls (w3.alloc (.cells (funC ++ (wholeC ++ (wholeC ++ []))).toArray 36)) _ 3 [funN, wholeN, wholeN] (three_C w3)).mono ?_
  rintro e w4 ⟨v1, v2, rfl, r1, r2, hb4⟩
  obtain ⟨A1, c1, rfl⟩ := Kd.R_slice r1
  obtain ⟨A2, c2, rfl⟩ := Kd.R_slice r2
  obtain ⟨l, hl⟩ : ∃ l, l = labB [funN, wholeN, wholeN] := ⟨_, rfl⟩
  obtain ⟨x, hx⟩ : ∃ x, x = effB [funN, wholeN, wholeN] := ⟨_, rfl⟩
  have hls := s1
  have hxs := s2
  rw [← hl] at r1 r2 hls ⊢
  rw [← hx] at r1 r2 hxs ⊢
  have HLS := Aside0.mk hls
  have HXS := Aside0.mk hxs
  have hl4 : l.length = 4 := by have := congrArg List.length hls; simpa using this
  have hx1 : x.length = 1 := by have := congrArg List.length hxs; simpa using this
  have R1 := Aside0.mk (Kd.R_reads' r1).2.2
  have R2 := Aside0.mk (Kd.R_reads' r2).2.2
  have HB4 := Aside0.mk (below_step (below_alloc (below_step (below_step hb1 hb2) hb3) (.cells (funC ++ (wholeC ++ (wholeC ++ []))).toArray 36)) hb4)
  clear hls hxs hl hx r1 r2 hb1 hb2 hb3 hb4
  rw [hl4] at R1 ⊢
  rw [hx1] at R2 ⊢
  have HL4 := Aside0.mk hl4
  have HX1 := Aside0.mk hx1
  clear hl4 hx1
  go_wp2_with fail
  refine (whole_calls _).mono ?_
  rintro e w5 ⟨rfl, hb5⟩
  go_wp2_with fail
  refine (of_calls (w5.alloc (.cells (refC ++ (wholeC ++ [])).toArray 36)) _ 2 [refN, wholeN] (ref_C w5)).mono ?_
  rintro e w6 ⟨v3, v4, rfl, r3, r4, hb6⟩
  obtain ⟨A3, c3, rfl⟩ := Kd.R_slice r3
  obtain ⟨A4, c4, rfl⟩ := Kd.R_slice r4
  obtain ⟨m, hm⟩ : ∃ m, m = labB [refN, wholeN] := ⟨_, rfl⟩
  have hms := s3
  rw [← hm] at r3 r4 hms ⊢
  rw [s4] at r3 r4 ⊢
  have HMS := Aside0.mk hms
  have hm2 : m.length = 2 := by have := congrArg List.length hms; simpa using this
  have R3 := Aside0.mk (Kd.R_reads' r3).2.2
  have hb46 := below_step (below_alloc hb5 (.cells (refC ++ (wholeC ++ [])).toArray 36)) hb6
  have HB6 := Aside0.mk (below_step HB4.out hb46)
  have R1' := Aside0.mk (Kd.C_below R1.out hb46)
  have R2' := Aside0.mk (Kd.C_below R2.out hb46)
  clear hms hm r3 r4 hb5 hb6 hb46 R1 R2 HB4
  rw [hm2] at R3 ⊢
  have HM2 := Aside0.mk hm2
  clear hm2
  have HB := Aside0.mk (Below.refl w6.heap.size w6)
  go_wp2_with fail
  have S1 := sidesOf_calls w6 A1 c1 l (by rw [HL4.out]; decide) (by rw [HL4.out]; exact R1'.out)
  rw [HL4.out, HLS.out] at S1
  refine S1.mono ?_
  clear S1
  rintro e w7 ⟨A5, c5, rfl, r5, hb7⟩
  go_wp2_with fail
  refine (sameSides_calls _ A5 (some ⟨w7.heap.size, 0, none⟩) c5 4 [0, 1, 1, 0] (Kd.C_below (Kd.R_reads' r5).2.2 (below_alloc (Below.refl _ _) _)) (lit1_C w7)).mono ?_
  rintro e w8 ⟨rfl, hb8⟩
  have HB8 := Aside0.mk (below_step (below_alloc hb7 (.cells #[.int .u8 0, .int .u8 1, .int .u8 1, .int .u8 0] 48)) hb8)
  clear r5 hb7 hb8
  go_wp2_with fail
  have S1 := sidesOf_calls w8 A2 c2 x (by rw [HX1.out]; decide) (by rw [HX1.out]; exact Kd.C_below R2'.out HB8.out)
  rw [HX1.out, HXS.out] at S1
  refine S1.mono ?_
  clear S1
  rintro e w9 ⟨A6, c6, rfl, r6, hb9⟩
  go_wp2_with fail
  refine (sameSides_calls _ A6 (some ⟨w9.heap.size, 0, none⟩) c6 1 [0] (Kd.C_below (Kd.R_reads' r6).2.2 (below_alloc (Below.refl _ _) _)) (lit2_C w9)).mono ?_
  rintro e w10 ⟨rfl, hb10⟩
  have HB10 := Aside0.mk (below_step HB8.out (below_step (below_alloc hb9 (.cells #[.int .u8 0] 48)) hb10))
  clear r6 hb9 hb10
  go_wp2_with fail
  have S1 := sidesOf_calls w10 A3 c3 m (by rw [HM2.out]; decide) (by rw [HM2.out]; exact Kd.C_below R3.out HB10.out)
  rw [HM2.out, HMS.out] at S1
  refine S1.mono ?_
  clear S1
  rintro e w11 ⟨A7, c7, rfl, r7, hb11⟩
  go_wp2_with fail
  refine (sameSides_calls _ A7 (some ⟨w11.heap.size, 0, none⟩) c7 2 [0, 2] (Kd.C_below (Kd.R_reads' r7).2.2 (below_alloc (Below.refl _ _) _)) (lit3_C w11)).mono ?_
  rintro e w12 ⟨rfl, hb12⟩
  have HB12 := Aside0.mk (below_step HB10.out (below_step (below_alloc hb11 (.cells #[.int .u8 0, .int .u8 2] 48)) hb12))
  clear r7 hb11 hb12
  go_wp2
  go_ret
  exact ⟨rfl, below_step HB6.out HB12.out⟩
end L08
end Go.Proofs.YtoohandacpalpaaDoor
