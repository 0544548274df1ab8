/- The law TypesCut: a walk through its code at every input. -/
import Derived.Test.YtoohandacpalpaaDoorL07B
import Derived.Test.YtoohandacpalpaaDoorTyP
import Derived.Test.YtoohandacpalpaaDoorEd
namespace Go.Proofs.YtoohandacpalpaaDoor
open Go.RowKit Go.Shelf Go.Proofs.YtoohandacpalpaaDoorW.PrintWords Go.Proofs.YtoohandacpalpaaDoorW.PrintLast Go.Proofs.YtoohandacpalpaaDoorW.PrintMore
set_option linter.unusedVariables false
set_option linter.unusedSimpArgs false
namespace L07
theorem infoN : (Tryd.prog.info? 36).map (fun i => (i.zero, i.size, i.bytes)) = some (some (.agg #[.int .u8 0, .int .i64 0, .string ⟨#[]⟩, .int .i64 0, .bool false, .int .u64 0, .bool false, .int .u64 0, .bool false, .int .u64 0]), 10, 88) := by kernel_rfl
theorem node3 {e base g n cap : Nat} {W : World} {ok : Nat → Prop} {xs : List Node} (h : kNode.R e W base ok (.slice (some ⟨g, 0, none⟩) n cap) xs) (k : Nat) (hk : k < xs.length) : W.cell? ⟨g, k * 10 + 3, none⟩ = some (.int .i64 xs[k].f3) := by
  obtain ⟨ad, e2, _, _, _, q3, _⟩ := C_nodeN (Kd.R_reads' h).2.2 k hk
  cases e2
  have e : (⟨g, 0, none⟩ : Addr).add (k * 10) = ⟨g, k * 10, none⟩ := by
    unfold Addr.add
    split <;> simp_all
  rw [e] at q3
  exact q3
set_option maxRecDepth 100000 in
set_option maxHeartbeats 400000 in
theorem cut_no (w : World) (A : Option Addr) (c : Nat) (body : List Node) (at_ : Int) (hr : Kd.C kNode w A body.length body) (h : checkB body ≠ 0 ∨ 127 < body.length) :
    Calls Tryd.prog 6 #[.slice A body.length c, .int .u8 at_] w fun e w' => e = .returned (.bool true) ∧ Below w.heap.size w w' := by
  have HR := Aside0.mk hr
  have HB := Aside0.mk (Below.refl w.heap.size w)
  obtain ⟨q, hq⟩ : ∃ q, q = checkB body := ⟨_, rfl⟩
  have HQ := Aside0.mk hq
  rw [← hq] at h
  by_cases h1 : 127 < body.length
  all_goals
    try have e0 : (q != 0) = true := bne_iff_ne.mpr (h.resolve_right h1)
    clear hr h hq
    go_enter Tryd.func6, Tryd.ntmps6
    go_wp2_with (first
      | (go_at_call 14; (with_reducible refine (check_calls _ A c body (Kd.C_below HR.out HB.out)).mono ?_); rw [← HQ.out]; rintro e W' ⟨rfl, hb'⟩; have HB' := Aside0.mk (below_step HB.out hb'); clear HB hb'; have HB := HB'; clear HB')
      | (go_at_call 23; (with_reducible refine (alive_calls _).mono ?_); rintro e W' ⟨rfl, hb'⟩; have HB' := Aside0.mk (below_step HB.out hb'); clear HB hb'; have HB := HB'; clear HB'))
    all_goals
      go_ret
      exact ⟨rfl, HB.out⟩
set_option maxRecDepth 100000 in
set_option maxHeartbeats 1000000 in
theorem cut_yes (w : World) (A : Option Addr) (c : Nat) (body : List Node) (at_ : Int) (h0 : 0 ≤ at_) (h255 : at_ ≤ 255) (hr : Kd.C kNode w A body.length body) (hc : body.length ≤ c) (h : checkB body = 0) (h7 : body.length ≤ 127) :
    Calls Tryd.prog 6 #[.slice A body.length c, .int .u8 at_] w fun e w' => e = .returned (.bool true) ∧ Below w.heap.size w w' := by
  have hpos : 0 < body.length := (checkB_L h).1
  obtain ⟨k, hk⟩ : ∃ k : Nat, at_ % (body.length : Int) = k := ⟨(at_ % (body.length : Int)).toNat, by have := Int.emod_nonneg at_ (show (body.length : Int) ≠ 0 by omega); omega⟩
  have hkl : k < body.length := by have := Int.emod_lt_of_pos at_ (show (0 : Int) < body.length by omega); omega
  obtain ⟨ad, rfl⟩ : ∃ ad, A = some ad := by
    obtain ⟨ad, e, _⟩ := C_nodeN hr 0 hpos
    exact ⟨ad, e⟩
  obtain ⟨n, hn⟩ : ∃ n, n = body.length := ⟨_, rfl⟩
  have HN := Aside0.mk hn
  obtain ⟨x, hx⟩ : ∃ x, x = body[k].f3 := ⟨_, rfl⟩
  have HX := Aside0.mk hx
  have hx8 : 0 ≤ x ∧ x ≤ 8 := by rw [hx]; exact check_f3 h _ (List.getElem_mem _)
  obtain ⟨hx0, hx8⟩ := hx8
  clear hx
  have HC := Aside0.mk h
  have HR := Aside0.mk hr
  have HB := Aside0.mk (Below.refl w.heap.size w)
  rw [← hn] at hpos hkl hk h7 hc ⊢
  have CK : Aside0 (∀ W, Below w.heap.size w W → Calls Tryd.prog 14 #[.slice (some ad) n c] W fun e w' => e = .returned (.int .i64 0) ∧ Below W.heap.size W w') := ⟨fun W hb => by rw [← h, hn]; exact check_calls W _ c body (Kd.C_below hr hb)⟩
  have hle : n - 1 ≤ body.length := by omega
  obtain ⟨q, hq⟩ : ∃ q, q = checkB (body.take (n - 1)) := ⟨_, rfl⟩
  have CI : Aside0 (∀ W, Below w.heap.size w W → Calls Tryd.prog 14 #[.slice (some ad) (n - 1) c] W fun e w' => e = .returned (.int .i64 q) ∧ Below W.heap.size W w') := ⟨fun W hb => by
    have e : (body.take (n - 1)).length = n - 1 := by rw [List.length_take]; omega
    rw [hq]
    have := check_calls W (some ad) c (body.take (n - 1)) (by rw [e]; exact C_take (Kd.C_below hr hb) hle)
    rwa [e] at this⟩
  rw [hn, check_init h, ← hn] at hq
  have HQ := Aside0.mk hq
  have z1 : decide (127 < (n : Int)) = false := decide_eq_false (by omega)
  have z2 : ((n : Int) == 0) = false := beq_eq_false_iff_ne.mpr (by omega)
  clear hr h hn hq
  go_enter Tryd.func6, Tryd.ntmps6
  go_wp2_with (first
      | (go_at_call 14; (with_reducible refine (CK.out _ HB.out).mono ?_); rintro e W' ⟨rfl, hb'⟩; have HB' := Aside0.mk (below_step HB.out hb'); clear HB hb'; have HB := HB'; clear HB')
      | (at_builtin; refine wpList_append_R rfl kNode w.heap.size _ (.tmp 23) 22 22 36 36 (.agg #[.int .u8 0, .int .i64 0, .string ⟨#[]⟩, .int .i64 0, .bool false, .int .u64 0, .bool false, .int .u64 0, .bool false, .int .u64 0]) 88 rfl (by kernel_rfl) (by kernel_rfl) infoN rfl (by decide) (by decide) (.slice none 0 0) [] body (some ad) n c (fun _ => True) (fun _ => True) rfl rfl (Kd.R_nil _ _ _ _ _) (by rw [HN.out]; exact Kd.C_below HR.out HB.out) (fun x cs h => nodeM h) (fun _ _ => ⟨trivial, by simp [Value.ownBlock]⟩) (fun _ _ => trivial) HB.out.size (by simp; omega) ?_; intro v1 w1 HO1 hg hat))
  obtain ⟨A1, c1, rfl⟩ := Kd.R_slice HO1
  rw [List.nil_append] at HO1 ⊢
  have HO := Aside0.mk HO1
  have HB1 := Aside0.mk (HB.out.grown hg HB.out.size (fun k hk => by simp [Value.ownBlock] at hk))
  clear hg hat HO1 HB
  have HB := HB1
  clear HB1
  refine (whole_calls _).mono ?_
  rintro e w2 ⟨rfl, hb2⟩
  have HO1 := Aside0.mk (Kd.R_below HO.out hb2)
  have HB' := Aside0.mk (below_step HB.out hb2)
  clear HO HB hb2
  have HB := HB'
  clear HB'
  go_wp2_with (first
    | (at_builtin; refine wpList_append_R rfl kNode w.heap.size (.tmp 24) (.tmp 26) 22 22 36 36 (.agg #[.int .u8 0, .int .i64 0, .string ⟨#[]⟩, .int .i64 0, .bool false, .int .u64 0, .bool false, .int .u64 0, .bool false, .int .u64 0]) 88 rfl (by kernel_rfl) (by kernel_rfl) infoN rfl (by decide) (by decide) (.slice A1 body.length c1) body [wholeN] (some ⟨w2.heap.size, 0, none⟩) 1 1 (fun _ => True) (fun _ => False) rfl rfl (Kd.R_below HO1.out (below_alloc (Below.refl _ _) _)) (one_C w2) (fun x cs h => nodeM h) (fun _ h => h.elim) (fun _ _ => trivial) (below_alloc HB.out _).size (by have := HN.out; omega) ?_; intro v2 w3 HO2 hg2 hat2; obtain ⟨A2, c2, rfl⟩ := Kd.R_slice HO2; have HM := Aside0.mk (Kd.R_reads' HO2).2.2; have HB' := Aside0.mk ((below_alloc HB.out _).grown hg2 (below_alloc HB.out _).size (fun k hk => (Kd.R_bound HO1.out).1 k hk |>.2.1)); clear HB hg2 hat2 HO2 HO1; have HB := HB'; clear HB')
    | (at_builtin; refine wpList_append_R rfl kNode w3.heap.size _ (.tmp 33) 22 22 36 36 (.agg #[.int .u8 0, .int .i64 0, .string ⟨#[]⟩, .int .i64 0, .bool false, .int .u64 0, .bool false, .int .u64 0, .bool false, .int .u64 0]) 88 rfl (by kernel_rfl) (by kernel_rfl) infoN rfl (by decide) (by decide) (.slice none 0 0) [] body (some ad) n c (fun _ => True) (fun _ => False) rfl rfl (Kd.R_nil _ _ _ _ _) (by rw [HN.out]; exact Kd.C_below HR.out HB.out) (fun x cs h => nodeM h) (fun _ h => h.elim) (fun _ _ => trivial) (Nat.le_refl _) (by simp; omega) ?_; intro v3 w4 HO3 hg3 hat3; have HO3' := HO3; rw [List.nil_append] at HO3'; obtain ⟨g, c3, rfl, hgb, hgl, cells, hgc⟩ := Kd.R_form HO3' (by have := HN.out; omega); have HB3 := Aside0.mk ((Below.refl w3.heap.size w3).grown hg3 (Nat.le_refl _) (fun k hk => by simp [Value.ownBlock] at hk)); have HO := Aside0.mk HO3'; clear HO3 HO3' hg3 hat3; rw [← HN.out]; have hfz := blk_frozen hgc (k * 10 + 3); have hcell := node3 HO.out k (by rw [← HN.out]; exact hkl); rw [← HX.out] at hcell; have HG := Aside0.mk hgc; clear hgc))
  have hkb : k < body.length := by rw [← HN.out]; exact hkl
  have HO5 : kNode.R 36 (w4.setCell ⟨g, k * 10 + 3, none⟩ (.int .i64 (x + 1))) w3.heap.size (fun _ => True) (.slice (some ⟨g, 0, none⟩) body.length c3) (body.set k { body[k] with f3 := x + 1 }) :=
    R_edit node_flat HO.out k 3 hkb (by decide) _ _ (by simp [nodeC])
  have hB5 : Below w3.heap.size w3 (w4.setCell ⟨g, k * 10 + 3, none⟩ (.int .i64 (x + 1))) := HB3.out.setCell hgb _
  obtain ⟨W5, hW5⟩ : ∃ W5, W5 = w4.setCell ⟨g, k * 10 + 3, none⟩ (.int .i64 (x + 1)) := ⟨_, rfl⟩
  rw [← hW5] at HO5 hB5 ⊢
  have hcm := check_more HC.out (by rw [← HN.out]; exact h7) wholeN
  have CM : Aside0 (∀ W, Below W5.heap.size W5 W → Calls Tryd.prog 14 #[.slice A2 (n + 1) c2] W fun e w' => e = .returned (.int .i64 4) ∧ Below W.heap.size W w') := ⟨fun W hb => by
    have := check_calls W A2 c2 (body ++ [wholeN]) (Kd.C_below (Kd.C_below HM.out hB5) hb)
    rwa [hcm, show (body ++ [wholeN]).length = n + 1 by rw [HN.out]; simp] at this⟩
  obtain ⟨q2, hq2⟩ : ∃ q, q = checkB (body.set k { body[k] with f3 := x + 1 }) := ⟨_, rfl⟩
  have hne : (q2 != 0) = true := bne_iff_ne.mpr (by rw [hq2]; exact check_kid HC.out k hkb _ (by simp [HX.out]))
  have CO : Aside0 (∀ W, Below W5.heap.size W5 W → Calls Tryd.prog 14 #[.slice (some ⟨g, 0, none⟩) n c3] W fun e w' => e = .returned (.int .i64 q2) ∧ Below W.heap.size W w') := ⟨fun W hb => by
    obtain ⟨_, _, h3⟩ := Kd.R_reads' HO5
    have := check_calls W (some ⟨g, 0, none⟩) c3 _ (Kd.C_below h3 hb)
    rwa [← hq2, show (body.set k { body[k] with f3 := x + 1 }).length = n by rw [HN.out]; simp] at this⟩
  have HB0 := Aside0.mk (below_step HB.out hB5)
  have HBW := Aside0.mk (Below.refl W5.heap.size W5)
  clear HB HO5 hB5 hW5 hcm hq2 HM HO HG HB3 hfz hcell hgl hgb
  have HB := HBW
  clear HBW
  by_cases h1 : n = 1
  all_goals
    have hq : q = _ := HQ.out
    first | rw [if_pos h1] at hq | rw [if_neg h1] at hq
    subst hq
    have z3 := h1
    first | replace z3 : ((n : Int) == 1) = true := beq_iff_eq.mpr (by omega) | replace z3 : ((n : Int) == 1) = false := beq_eq_false_iff_ne.mpr (by omega)
    clear h1 HQ
    refine (CI.out _ (below_step HB0.out HB.out)).mono ?_
    rintro e W' ⟨rfl, hb'⟩; have HB' := Aside0.mk (below_step HB.out hb'); clear HB hb'; have HB := HB'; clear HB'
    go_wp2_with (first
      | (go_at_call 14; (with_reducible refine (CM.out _ HB.out).mono ?_); rintro e W' ⟨rfl, hb'⟩; have HB' := Aside0.mk (below_step HB.out hb'); clear HB hb'; have HB := HB'; clear HB')
      | (go_at_call 14; (with_reducible refine (CO.out _ HB.out).mono ?_); rintro e W' ⟨rfl, hb'⟩; have HB' := Aside0.mk (below_step HB.out hb'); clear HB hb'; have HB := HB'; clear HB')
      | (go_at_call 23; (with_reducible refine (alive_calls _).mono ?_); rintro e W' ⟨rfl, hb'⟩; have HB' := Aside0.mk (below_step HB.out hb'); clear HB hb'; have HB := HB'; clear HB'))
    all_goals
      go_ret
      exact ⟨rfl, below_step HB0.out HB.out⟩

/-- TypesCut: true at every input. -/
theorem cut_walk (w : World) (A : Option Addr) (c : Nat) (body : List Node) (hr : Kd.C kNode w A body.length body) (hc : body.length ≤ c) (hw : ∀ n ∈ body, Node.wf n) (at_ : Int) (ha : (Lit.int .u8 at_).wf = true) :
    Calls Tryd.prog 6 #[.slice A body.length c, .int .u8 at_] w fun e w' => e = .returned (.bool true) ∧ Below w.heap.size w w' := by
  by_cases h : checkB body = 0
  · by_cases h7 : body.length ≤ 127
    · have := wf_u8 ha
      exact cut_yes w A c body at_ this.1 this.2 hr hc h h7
    · exact cut_no w A c body at_ hr (.inr (by omega))
  · exact cut_no w A c body at_ hr (.inl h)
end L07
end Go.Proofs.YtoohandacpalpaaDoor
