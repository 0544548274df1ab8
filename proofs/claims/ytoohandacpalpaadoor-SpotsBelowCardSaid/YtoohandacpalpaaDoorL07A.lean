import Derived.Test.YtoohandacpalpaaDoorTyE
namespace Go.Proofs.YtoohandacpalpaaDoor
open Go.RowKit Go.Shelf Go.Proofs.YtoohandacpalpaaDoorW.PrintWords Go.Proofs.YtoohandacpalpaaDoorW.PrintLast Go.Proofs.YtoohandacpalpaaDoorW.PrintMore
set_option linter.unusedVariables false
set_option linter.unusedSimpArgs false
namespace L07
def zT : Term := ⟨false, 0⟩
def wholeN : Node := ⟨1, 0, ⟨#[105, 110, 116]⟩, 0, zT, zT, zT⟩
def funN : Node := ⟨5, 0, ⟨#[]⟩, 2, zT, zT, zT⟩
def wholeC : List Value := [.int .u8 1, .int .i64 0, .string ⟨#[105, 110, 116]⟩, .int .i64 0, .bool false, .int .u64 0, .bool false, .int .u64 0, .bool false, .int .u64 0]
def funC : List Value := [.int .u8 5, .int .i64 0, .string ⟨#[]⟩, .int .i64 2, .bool false, .int .u64 0, .bool false, .int .u64 0, .bool false, .int .u64 0]
theorem wholeK (w : World) : kNode.K w wholeN wholeC := k36_mk w wholeN
theorem funK (w : World) : kNode.K w funN funC := k36_mk w funN
theorem whole_calls (w : World) : Calls Tryd.prog 24 #[] w fun e w' => e = .returned (.agg #[.int .u8 1, .int .i64 0, .string ⟨#[105, 110, 116]⟩, .int .i64 0, .bool false, .int .u64 0, .bool false, .int .u64 0, .bool false, .int .u64 0]) ∧ Below w.heap.size w w' := by
  go_enter Tryd.func24, Tryd.ntmps24
  go_wp2
  exact bodyPost_ret (v := .agg #[.int .u8 1, .int .i64 0, .string ⟨#[105, 110, 116]⟩, .int .i64 0, .bool false, .int .u64 0, .bool false, .int .u64 0, .bool false, .int .u64 0]) (by simp [results, Tryd.results24, go_sem]) rfl ⟨rfl, below_alloc (Below.refl _ _) _⟩
theorem fun_calls (w : World) : Calls Tryd.prog 25 #[] w fun e w' => e = .returned (.agg #[.int .u8 5, .int .i64 0, .string ⟨#[]⟩, .int .i64 2, .bool false, .int .u64 0, .bool false, .int .u64 0, .bool false, .int .u64 0]) ∧ Below w.heap.size w w' := by
  go_enter Tryd.func25, Tryd.ntmps25
  go_wp2
  exact bodyPost_ret (v := .agg #[.int .u8 5, .int .i64 0, .string ⟨#[]⟩, .int .i64 2, .bool false, .int .u64 0, .bool false, .int .u64 0, .bool false, .int .u64 0]) (by simp [results, Tryd.results25, go_sem]) rfl ⟨rfl, below_alloc (Below.refl _ _) _⟩
theorem one_reps (w : World) : Reps (kNode.K w) kNode.sz [wholeN] (wholeC ++ []) := reps_cons (wholeK w) rfl (Reps.none _ _)
theorem two_reps (w : World) : Reps (kNode.K w) kNode.sz [wholeN, wholeN] (wholeC ++ (wholeC ++ [])) := reps_cons (wholeK w) rfl (one_reps w)
theorem three_reps (w : World) : Reps (kNode.K w) kNode.sz [funN, wholeN, wholeN] (funC ++ (wholeC ++ (wholeC ++ []))) := reps_cons (funK w) rfl (two_reps w)
theorem one_C (w : World) : kNode.C (w.alloc (.cells (wholeC ++ []).toArray 36)) (some ⟨w.heap.size, 0, none⟩) 1 [wholeN] := C_block (blk_new w _) (one_reps _) (by decide)
theorem two_C (w : World) : kNode.C (w.alloc (.cells (wholeC ++ (wholeC ++ [])).toArray 36)) (some ⟨w.heap.size, 0, none⟩) 2 [wholeN, wholeN] := C_block (blk_new w _) (two_reps _) (by decide)
theorem three_C (w : World) : kNode.C (w.alloc (.cells (funC ++ (wholeC ++ (wholeC ++ []))).toArray 36)) (some ⟨w.heap.size, 0, none⟩) 3 [funN, wholeN, wholeN] := C_block (blk_new w _) (three_reps _) (by decide)
theorem c_one : checkB [wholeN] = 0 := by decide +kernel
theorem c_fun : checkB [funN, wholeN, wholeN] = 0 := by decide +kernel
theorem c_short : checkB [funN, wholeN] = 4 := by decide +kernel
theorem c_two : checkB [wholeN, wholeN] = 4 := by decide +kernel
theorem d_fun : deepB [funN, wholeN, wholeN] = 2 := by decide +kernel
theorem e_fun : endB [funN, wholeN, wholeN] 1 = 2 := by decide +kernel
theorem s_fun : sameL [funN, wholeN, wholeN] [funN, wholeN, wholeN] = true := by decide +kernel
theorem s_one : sameL [wholeN] [funN, wholeN, wholeN] = false := by decide +kernel
set_option maxRecDepth 100000 in
set_option maxHeartbeats 4000000 in
theorem alive_calls (w : World) : Calls Tryd.prog 23 #[] w fun e w' => e = .returned (.bool true) ∧ Below w.heap.size w w' := by
  go_enter Tryd.func23, Tryd.ntmps23
  go_wp2_with fail
  refine (whole_calls _).mono ?_
  rintro e w1 ⟨rfl, hb1⟩
  go_wp2_with fail
  refine (fun_calls _).mono ?_
  rintro e w2 ⟨rfl, hb2⟩
  go_wp2_with fail
  refine (whole_calls _).mono ?_
  rintro e w3 ⟨rfl, hb3⟩
  go_wp2_with fail
  refine (whole_calls _).mono ?_
  rintro e w4 ⟨rfl, hb4⟩
  go_wp2_with fail
  change Calls _ _ _ (w4.alloc (.cells (funC ++ (wholeC ++ (wholeC ++ []))).toArray 36)) _
  have q1 := Kd.C_below (Kd.C_below (Kd.C_below (Kd.C_below (one_C w1) hb2) hb3) hb4) (below_alloc (Below.refl _ _) (.cells (funC ++ (wholeC ++ (wholeC ++ []))).toArray 36))
  have q2 := three_C w4
  have q3 := below_alloc (below_step (below_step (below_step (below_alloc hb1 (.cells (wholeC ++ []).toArray 36)) hb2) hb3) hb4) (.cells (funC ++ (wholeC ++ (wholeC ++ []))).toArray 36)
  obtain ⟨W, hW⟩ : ∃ W, W = w4.alloc (.cells (funC ++ (wholeC ++ (wholeC ++ []))).toArray 36) := ⟨_, rfl⟩
  rw [← hW] at q1 q2 q3 ⊢
  obtain ⟨b1, h1⟩ : ∃ b, b = w1.heap.size := ⟨_, rfl⟩
  obtain ⟨b2, h2⟩ : ∃ b, b = w4.heap.size := ⟨_, rfl⟩
  rw [← h1] at q1 ⊢
  rw [← h2] at q2 ⊢
  clear hW h1 h2 hb1 hb2 hb3 hb4
  have Q1 := Aside0.mk q1
  have Q2 := Aside0.mk q2
  have HB0 := Aside0.mk q3
  have HB := Aside0.mk (Below.refl W.heap.size W)
  clear q1 q2 q3
  refine (check_calls _ _ _ [wholeN] Q1.out).mono ?_
  rw [c_one]
  rintro e W1 ⟨rfl, hb⟩
  have HB1 := Aside0.mk hb
  clear hb
  go_wp2_with fail
  refine (check_calls _ _ _ [funN, wholeN, wholeN] (Kd.C_below Q2.out HB1.out)).mono ?_
  rw [c_fun]
  rintro e W2 ⟨rfl, hb⟩
  have HB2 := Aside0.mk (below_step HB1.out hb)
  clear hb HB1
  go_wp2_with fail
  refine (check_calls _ _ _ [funN, wholeN] (Kd.C_below (show kNode.C W (some ⟨b2, 0, none⟩) 2 [funN, wholeN] from C_take (m := 2) Q2.out (by decide)) HB2.out)).mono ?_
  rw [c_short]
  rintro e W3 ⟨rfl, hb⟩
  have HB3 := Aside0.mk (below_step HB2.out hb)
  clear hb HB2
  go_wp2_with fail
  refine (whole_calls _).mono ?_
  rintro e W4 ⟨rfl, hb4⟩
  have HB4 := Aside0.mk (below_step HB3.out hb4)
  clear hb4 HB3
  go_wp2_with fail
  refine (whole_calls _).mono ?_
  rintro e W5 ⟨rfl, hb5⟩
  have HB5 := Aside0.mk (below_step HB4.out hb5)
  clear hb5 HB4
  go_wp2_with fail
  refine (check_calls _ _ _ [wholeN, wholeN] (two_C _)).mono ?_
  rw [c_two]
  rintro e W6 ⟨rfl, hb⟩
  have HB6 := Aside0.mk (below_step (below_alloc HB5.out _) hb)
  clear hb HB5
  go_wp2_with fail
  refine (check_calls _ none _ [] (Kd.C_nil _ _)).mono ?_
  rw [show checkB [] = 1 from rfl]
  rintro e W7 ⟨rfl, hb⟩
  have HB7 := Aside0.mk (below_step HB6.out hb)
  clear hb HB6
  go_wp2_with fail
  refine (deep_calls _ _ _ [funN, wholeN, wholeN] (Kd.C_below Q2.out HB7.out)).mono ?_
  rw [d_fun]
  rintro e W8 ⟨rfl, hb⟩
  have HB8 := Aside0.mk (below_step HB7.out hb)
  clear hb HB7
  go_wp2_with fail
  refine (end_calls _ _ _ [funN, wholeN, wholeN] 1 (Kd.C_below Q2.out HB8.out)).mono ?_
  rw [e_fun]
  rintro e W9 ⟨rfl, hb⟩
  have HB9 := Aside0.mk (below_step HB8.out hb)
  clear hb HB8
  go_wp2_with fail
  refine (same_calls _ _ _ _ _ [funN, wholeN, wholeN] [funN, wholeN, wholeN] (Kd.C_below Q2.out HB9.out) (Kd.C_below Q2.out HB9.out)).mono ?_
  rw [s_fun]
  rintro e W10 ⟨rfl, hb⟩
  have HB10 := Aside0.mk (below_step HB9.out hb)
  clear hb HB9
  go_wp2_with fail
  refine (same_calls _ _ _ _ _ [wholeN] [funN, wholeN, wholeN] (Kd.C_below Q1.out HB10.out) (Kd.C_below Q2.out HB10.out)).mono ?_
  rw [s_one]
  rintro e W11 ⟨rfl, hb⟩
  have HB11 := Aside0.mk (below_step HB10.out hb)
  clear hb HB10
  go_wp2
  go_ret
  exact ⟨rfl, below_step HB0.out HB11.out⟩
end L07
end Go.Proofs.YtoohandacpalpaaDoor
