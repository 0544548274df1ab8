/- SpotsOf, walked whole: it answers true for every body. -/
import Derived.Test.YtbdecnagdnancaaGreatDoorR8
import Derived.Test.YtbdecnagdnancaaGreatDoorSpJ
import Derived.Test.YtbdecnagdnancaaGreatDoorBkApNS
import Derived.Test.YtbdecnagdnancaaGreatDoorMO

namespace Go.Proofs.YtbdecnagdnancaaGreatDoor
open Go.RowKit Go.Shelf Go.Proofs.YtbdecnagdnancaaGreatDoorW.PrintWords Go.Proofs.YtbdecnagdnancaaGreatDoorW.PrintLast Go.Proofs.YtbdecnagdnancaaGreatDoorW.PrintMore
set_option linter.unusedVariables false
set_option linter.unusedSimpArgs false
namespace L08
theorem labB_256 (a : List Node) : (labB a).length ≤ 256 := by
  unfold labB
  split
  · rename_i h
    have := labL_len 0 a (sidesB a)
    have := (checkB_L h).2.1
    omega
  · simp
theorem effB_256 (a : List Node) : (effB a).length ≤ 256 := by
  unfold effB
  split
  · rename_i h
    have := effL_len 0 a (sidesB a)
    have := (checkB_L h).2.1
    omega
  · simp
theorem twin_take {w : World} {base n c : Nat} {A : Option Addr} {xs : List Node} {ok : Nat → Prop} (hn : n = xs.length) (h : kNode.R 122 w base ok (.slice A (xs ++ [spareN]).length c) (xs ++ [spareN])) : kNode.R 122 w base ok (.slice A n c) xs := by
  have := Kd.R_take h (m := n) (by rw [List.length_append]; omega)
  rwa [List.take_left' hn.symm] at this
theorem own_apart {α : Type} {d : Kd α} {e base n1 c1 n2 c2 : Nat} {A1 A2 : Option Addr} {w : World} {xs : List α} (h : d.R e w base (fun k => some k ≠ (Value.slice A2 n2 c2).ownBlock) (.slice A1 n1 c1) xs) : ∀ a b, A1 = some a → A2 = some b → a.block ≠ b.block := fun a b ha hb he => by
  subst ha hb
  have := h.1 a.block (by simp [Value.ownBlock])
  exact this (by simp [Value.ownBlock, he])
set_option maxRecDepth 200000 in
set_option maxHeartbeats 16000000 in
theorem spotsOf_walk (w : World) (A : Option Addr) (c n : Nat) (body : List Node) (hn : n = body.length) (hr : kNode.C w A n body) :
    Calls Tryz.prog 5 #[.slice A n c] w fun e w' => e = .returned (.bool true) ∧ Below w.heap.size w w' := by
  have hmax : n ≤ 9223372036854775807 := hr.2.1
  rcases Nat.lt_or_ge 300 n with hbig | hl
  · have hd : decide ((300 : Int) < n) = true := decide_eq_true (by omega)
    clear hn hr
    go_enter Tryz.func5, Tryz.ntmps5
    go_wp2
    go_ret
    exact ⟨rfl, Below.refl _ _⟩
  have hd : decide ((300 : Int) < n) = false := decide_eq_false (by omega)
  have HN := Aside0.mk hn
  have HR := Aside0.mk hr
  have HT := Aside0.mk (twin_calls w A c body (by omega) (by rw [← hn]; exact hr))
  rw [← hn] at HT
  clear hn hr
  go_enter Tryz.func5, Tryz.ntmps5
  go_wp2_with fail
  refine HT.out.mono ?_
  rintro e w1 ⟨A1, c1, rfl, hb1, hc1, r1⟩
  have HB1 := Aside0.mk hb1
  have HR1 := Aside0.mk (twin_take HN.out r1)
  have HR1s := Aside0.mk r1
  clear hb1 r1 HT
  have HO := Aside0.mk (of_calls w1 A1 c1 body (by rw [← HN.out]; have := (Kd.R_reads' HR1.out).2.2; rwa [← HN.out] at this))
  rw [← HN.out] at HO
  go_wp2_with fail
  refine HO.out.mono ?_
  rintro e w2 ⟨v1, v2, rfl, s1, s2, hb2⟩
  obtain ⟨A2, c2, rfl⟩ := Kd.R_slice s1
  obtain ⟨A3, c3, rfl⟩ := Kd.R_slice s2
  have HS1 := Aside0.mk s1
  have HS2 := Aside0.mk s2
  have HB2 := Aside0.mk (below_step HB1.out hb2)
  have HB12 := Aside0.mk hb2
  clear s1 s2 hb2 HO
  have HF := Aside0.mk (Ref08.of_calls w2 A n c body HN.out hl (Kd.C_below HR.out HB2.out))
  obtain ⟨la, hla⟩ : ∃ l, l = labB body := ⟨_, rfl⟩
  obtain ⟨xa, hxa⟩ : ∃ l, l = effB body := ⟨_, rfl⟩
  have hl1 : la.length ≤ 256 := by rw [hla]; exact labB_256 body
  have hl2 : xa.length ≤ 256 := by rw [hxa]; exact effB_256 body
  rw [← hla, ← hxa] at HS1 HS2 HF ⊢
  clear hla hxa
  obtain ⟨p, hp⟩ : ∃ p, p = la.length := ⟨_, rfl⟩
  obtain ⟨q, hq⟩ : ∃ q, q = xa.length := ⟨_, rfl⟩
  rw [← hp] at HS1 HS2 HF hl1 ⊢
  rw [← hq] at HS1 HS2 HF hl2 ⊢
  have HP := Aside0.mk (And.intro hp hq)
  clear hp hq
  go_wp2_with fail
  refine HF.out.mono ?_
  rintro e w3 ⟨A4, c4, A5, c5, rfl, s3, s4, hb3⟩
  have HB3 := Aside0.mk (below_step HB2.out hb3)
  have HB23 := Aside0.mk hb3
  have HS3 := Aside0.mk s3
  have HS4 := Aside0.mk s4
  clear s3 s4 hb3 HF
  have C1 := Aside0.mk (sameSpots_calls w3 A2 A4 c2 c4 la (by have := (Kd.R_reads' (Kd.R_below HS1.out HB23.out)).2.2; exact this) (Kd.R_reads' HS3.out).2.2)
  rw [← HP.out.1] at C1
  go_wp2_with fail
  refine C1.out.mono ?_
  rintro e w4 ⟨rfl, hb4⟩
  have HB34 := Aside0.mk hb4
  clear hb4 C1
  have C1 := Aside0.mk (sameSpots_calls w4 A3 A5 c3 c5 xa (by have := (Kd.R_reads' (Kd.R_below (Kd.R_below HS2.out HB23.out) HB34.out)).2.2; exact this) (Kd.R_reads' (Kd.R_below HS4.out HB34.out)).2.2)
  rw [← HP.out.2] at C1
  go_wp2_with fail
  refine C1.out.mono ?_
  rintro e w5 ⟨rfl, hb5⟩
  have HB45 := Aside0.mk hb5
  clear hb5 C1
  have HB15 := Aside0.mk (below_step (below_step (below_step HB12.out HB23.out) HB34.out) HB45.out)
  have C1 := Aside0.mk (left_calls w5 A1 A c1 c body (by rw [← HN.out]; exact hl) (by rw [← HN.out]; exact hc1) (Kd.R_reads' (Kd.R_below HR1s.out HB15.out)).2.2 (by rw [← HN.out]; exact Kd.C_below HR.out (below_step HB1.out HB15.out)))
  rw [← HN.out] at C1
  go_wp2_with fail
  refine C1.out.mono ?_
  rintro e w6 ⟨rfl, hb6⟩
  have HB16 := Aside0.mk (below_step HB15.out hb6)
  have HB26 := Aside0.mk (below_step (below_step (below_step HB23.out HB34.out) HB45.out) hb6)
  have HB6 := Aside0.mk (below_step HB1.out HB16.out)
  clear hb6 C1
  have HAP := Aside0.mk (own_apart HS1.out)
  have HL1 := Aside0.mk (Kd.R_mono (Kd.R_below HR1.out HB16.out) (fun _ _ => trivial))
  have HL2 := Aside0.mk (Kd.R_lower (Kd.R_mono (Kd.R_below HS1.out HB26.out) (ok' := fun _ => True) (fun _ _ => trivial)) HB1.out.size)
  have HL3 := Aside0.mk (Kd.R_lower (Kd.R_mono (Kd.R_below HS2.out HB26.out) (ok' := fun _ => True) (fun _ _ => trivial)) HB1.out.size)
  have hbs := HB6.out.size
  clear HR1 HR1s HS1 HS2 HS3 HS4 HB1 HB2 HB12 HB3 HB23 HB34 HB45 HB15 HB16 HB26
  go_upto_region 9 with fail
  have HBOX : Aside0 ((w6.alloc (.cells #[.int .i64 0, .slice none 0 0, .slice none 0 0, .slice none 0 0, .slice none 0 0, .slice none 0 0, .slice none 0 0, .slice none 0 0, .slice none 0 0, .slice none 0 0, .slice none 0 0, .slice none 0 0, .slice none 0 0, .slice none 0 0, .slice none 0 0, .slice none 0 0] 45)).heap[w6.heap.size]? = some (.cells #[.int .i64 ((0 : Nat) : Int), .slice none 0 0, .slice none 0 0, .slice none 0 0, .slice none 0 0, .slice none 0 0, .slice none 0 0, .slice none 0 0, .slice none 0 0, .slice none 0 0, .slice none 0 0, .slice none 0 0, .slice none 0 0, .slice none 0 0, .slice none 0 0, .slice none 0 0] 45 (0, 0))) := ⟨blk_new w6 _⟩
  have BR0 := Aside0.mk (Kd.R_below HL1.out (below_alloc (Below.refl w6.heap.size w6) (.cells #[.int .i64 0, .slice none 0 0, .slice none 0 0, .slice none 0 0, .slice none 0 0, .slice none 0 0, .slice none 0 0, .slice none 0 0, .slice none 0 0, .slice none 0 0, .slice none 0 0, .slice none 0 0, .slice none 0 0, .slice none 0 0, .slice none 0 0, .slice none 0 0] 45)))
  have BR1 := Aside0.mk (Kd.R_below HL2.out (below_alloc (Below.refl w6.heap.size w6) (.cells #[.int .i64 0, .slice none 0 0, .slice none 0 0, .slice none 0 0, .slice none 0 0, .slice none 0 0, .slice none 0 0, .slice none 0 0, .slice none 0 0, .slice none 0 0, .slice none 0 0, .slice none 0 0, .slice none 0 0, .slice none 0 0, .slice none 0 0, .slice none 0 0] 45)))
  have BR2 := Aside0.mk (Kd.R_below HL3.out (below_alloc (Below.refl w6.heap.size w6) (.cells #[.int .i64 0, .slice none 0 0, .slice none 0 0, .slice none 0 0, .slice none 0 0, .slice none 0 0, .slice none 0 0, .slice none 0 0, .slice none 0 0, .slice none 0 0, .slice none 0 0, .slice none 0 0, .slice none 0 0, .slice none 0 0, .slice none 0 0, .slice none 0 0] 45)))
  have BB := Aside0.mk (below_alloc HB6.out (.cells #[.int .i64 0, .slice none 0 0, .slice none 0 0, .slice none 0 0, .slice none 0 0, .slice none 0 0, .slice none 0 0, .slice none 0 0, .slice none 0 0, .slice none 0 0, .slice none 0 0, .slice none 0 0, .slice none 0 0, .slice none 0 0, .slice none 0 0, .slice none 0 0] 45))
  obtain ⟨bx, hbx⟩ : ∃ b, b = w6.heap.size := ⟨_, rfl⟩
  have hbx0 : w.heap.size ≤ bx := by rw [hbx]; exact hbs
  rw [← hbx] at HBOX ⊢
  clear hbx
  generalize World.alloc w6 (.cells #[.int .i64 0, .slice none 0 0, .slice none 0 0, .slice none 0 0, .slice none 0 0, .slice none 0 0, .slice none 0 0, .slice none 0 0, .slice none 0 0, .slice none 0 0, .slice none 0 0, .slice none 0 0, .slice none 0 0, .slice none 0 0, .slice none 0 0, .slice none 0 0] 45) = wk at *
  go_wp2_with fail
  refine (Bk.Nodes_calls wk w.heap.size bx 0 0 0 none A1 n c1 ([] : List Bk.Hd) #[.int .i64 ((0 : Nat) : Int), .slice none 0 0, .slice none 0 0, .slice none 0 0, .slice none 0 0, .slice none 0 0, .slice none 0 0, .slice none 0 0, .slice none 0 0, .slice none 0 0, .slice none 0 0, .slice none 0 0, .slice none 0 0, .slice none 0 0, .slice none 0 0, .slice none 0 0] (by first | rfl | simp) HBOX.out rfl rfl (Kd.R_nil _ _ _ _ _) hbx0 (by decide) (by decide)).mono ?_
  rintro e wk0 ⟨rfl, hA0, hc0, hg, hh, hk⟩
  have HBOX2 : Aside0 (wk0.heap[bx]? = some (.cells #[.int .i64 ((1 : Nat) : Int), .slice none 0 0, .slice none 0 0, .slice none 0 0, .slice none 0 0, .slice none 0 0, .slice none 0 0, .slice none 0 0, .slice hA0 (0 + 1) hc0, .slice none 0 0, .slice none 0 0, .slice none 0 0, .slice none 0 0, .slice none 0 0, .slice none 0 0, .slice none 0 0] 45 (0, 0))) := ⟨hg⟩
  clear HBOX; have HBOX := HBOX2; clear HBOX2
  have BRt := Aside0.mk (Bk.R_keep2 BR0.out rfl (by decide) (by decide) hk); clear BR0; have BR0 := BRt; clear BRt
  have BRt := Aside0.mk (Bk.R_keep2 BR1.out rfl (by decide) (by decide) hk); clear BR1; have BR1 := BRt; clear BRt
  have BRt := Aside0.mk (Bk.R_keep2 BR2.out rfl (by decide) (by decide) hk); clear BR2; have BR2 := BRt; clear BRt
  have BHNode := Aside0.mk hh
  have BB2 := Aside0.mk (BB.out.trans hk.below); clear BB; have BB := BB2; clear BB2
  clear hg hh hk
  go_wp2_with fail
  refine (Bk.Spots_calls wk0 w.heap.size bx 0 0 1 none A2 p c2 ([] : List Bk.Hd) #[.int .i64 ((1 : Nat) : Int), .slice none 0 0, .slice none 0 0, .slice none 0 0, .slice none 0 0, .slice none 0 0, .slice none 0 0, .slice none 0 0, .slice hA0 (0 + 1) hc0, .slice none 0 0, .slice none 0 0, .slice none 0 0, .slice none 0 0, .slice none 0 0, .slice none 0 0, .slice none 0 0] (by first | rfl | simp) HBOX.out rfl rfl (Kd.R_nil _ _ _ _ _) hbx0 (by decide) (by decide)).mono ?_
  rintro e wk1 ⟨rfl, hA1, hc1, hg, hh, hk⟩
  have HBOX2 : Aside0 (wk1.heap[bx]? = some (.cells #[.int .i64 ((2 : Nat) : Int), .slice none 0 0, .slice none 0 0, .slice none 0 0, .slice none 0 0, .slice none 0 0, .slice none 0 0, .slice none 0 0, .slice hA0 (0 + 1) hc0, .slice none 0 0, .slice none 0 0, .slice hA1 (0 + 1) hc1, .slice none 0 0, .slice none 0 0, .slice none 0 0, .slice none 0 0] 45 (0, 0))) := ⟨hg⟩
  clear HBOX; have HBOX := HBOX2; clear HBOX2
  have BRt := Aside0.mk (Bk.R_keep2 BR0.out rfl (by decide) (by decide) hk); clear BR0; have BR0 := BRt; clear BRt
  have BRt := Aside0.mk (Bk.R_keep2 BR1.out rfl (by decide) (by decide) hk); clear BR1; have BR1 := BRt; clear BRt
  have BRt := Aside0.mk (Bk.R_keep2 BR2.out rfl (by decide) (by decide) hk); clear BR2; have BR2 := BRt; clear BRt
  have BH2 := Aside0.mk (Bk.R_keep2 BHNode.out rfl (by decide) (by decide) hk); clear BHNode; have BHNode := BH2; clear BH2
  have BHSpot := Aside0.mk hh
  have BB2 := Aside0.mk (BB.out.trans hk.below); clear BB; have BB := BB2; clear BB2
  clear hg hh hk
  go_wp2_with fail
  refine (Bk.Spots_calls wk1 w.heap.size bx (0 + 1) hc1 2 hA1 A3 q c3 (([] : List Bk.Hd) ++ [⟨A2, p, c2, none, 0, 0, 1 + 1⟩]) #[.int .i64 ((2 : Nat) : Int), .slice none 0 0, .slice none 0 0, .slice none 0 0, .slice none 0 0, .slice none 0 0, .slice none 0 0, .slice none 0 0, .slice hA0 (0 + 1) hc0, .slice none 0 0, .slice none 0 0, .slice hA1 (0 + 1) hc1, .slice none 0 0, .slice none 0 0, .slice none 0 0, .slice none 0 0] (by first | rfl | simp) HBOX.out rfl rfl BHSpot.out hbx0 (by decide) (by decide)).mono ?_
  rintro e wk2 ⟨rfl, hA2, hc2, hg, hh, hk⟩
  have HBOX2 : Aside0 (wk2.heap[bx]? = some (.cells #[.int .i64 ((3 : Nat) : Int), .slice none 0 0, .slice none 0 0, .slice none 0 0, .slice none 0 0, .slice none 0 0, .slice none 0 0, .slice none 0 0, .slice hA0 (0 + 1) hc0, .slice none 0 0, .slice none 0 0, .slice hA2 ((0 + 1) + 1) hc2, .slice none 0 0, .slice none 0 0, .slice none 0 0, .slice none 0 0] 45 (0, 0))) := ⟨hg⟩
  clear HBOX; have HBOX := HBOX2; clear HBOX2
  have BRt := Aside0.mk (Bk.R_keep2 BR0.out rfl (by decide) (by decide) hk); clear BR0; have BR0 := BRt; clear BRt
  have BRt := Aside0.mk (Bk.R_keep2 BR1.out rfl (by decide) (by decide) hk); clear BR1; have BR1 := BRt; clear BRt
  have BRt := Aside0.mk (Bk.R_keep2 BR2.out rfl (by decide) (by decide) hk); clear BR2; have BR2 := BRt; clear BRt
  have BH2 := Aside0.mk (Bk.R_keep2 BHNode.out rfl (by decide) (by decide) hk); clear BHNode; have BHNode := BH2; clear BH2
  clear BHSpot
  have BHSpot := Aside0.mk hh
  have BB2 := Aside0.mk (BB.out.trans hk.below); clear BB; have BB := BB2; clear BB2
  clear hg hh hk
  go_wp2_with fail
  refine (Bk.apartNS wk2 w.heap.size bx #[.int .i64 ((3 : Nat) : Int), .slice none 0 0, .slice none 0 0, .slice none 0 0, .slice none 0 0, .slice none 0 0, .slice none 0 0, .slice none 0 0, .slice hA0 (0 + 1) hc0, .slice none 0 0, .slice none 0 0, .slice hA2 ((0 + 1) + 1) hc2, .slice none 0 0, .slice none 0 0, .slice none 0 0, .slice none 0 0] HBOX.out BB.out.size rfl rfl rfl rfl rfl rfl rfl rfl rfl rfl rfl rfl rfl (0 + 1) hc0 hA0 (([] : List Bk.Hd) ++ [⟨A1, n, c1, none, 0, 0, 0 + 1⟩]) _ rfl ⟨BHNode.out, (Bk.Lists.add Bk.Lists.nil BR0.out)⟩ (by first | rfl | simp) (by intro x hx; simp only [List.nil_append, List.mem_append, List.mem_singleton, List.cons_append, List.mem_cons, List.not_mem_nil, or_false] at hx; rcases hx with rfl; all_goals exact ⟨by dsimp only; omega, by dsimp only; omega⟩) (Bk.Apart.add Bk.Apart.nil ⟨A1, n, c1, none, 0, 0, 0 + 1⟩ (fun y hy => by simp at hy)) (by decide) ((0 + 1) + 1) hc2 hA2 ((([] : List Bk.Hd) ++ [⟨A2, p, c2, none, 0, 0, 1 + 1⟩]) ++ [⟨A3, q, c3, none, 0, 0, 2 + 1⟩]) _ rfl ⟨BHSpot.out, (Bk.Lists.add (Bk.Lists.add Bk.Lists.nil BR1.out) BR2.out)⟩ (by first | rfl | simp) (by intro x hx; simp only [List.nil_append, List.mem_append, List.mem_singleton, List.cons_append, List.mem_cons, List.not_mem_nil, or_false] at hx; rcases hx with rfl | rfl; all_goals exact ⟨by dsimp only; omega, by dsimp only; omega⟩) (Bk.Apart.add (Bk.Apart.add Bk.Apart.nil ⟨A2, p, c2, none, 0, 0, 1 + 1⟩ (fun y hy => by simp at hy)) ⟨A3, q, c3, none, 0, 0, 2 + 1⟩ (fun y hy a b ha hb => by simp only [List.nil_append, List.mem_append, List.mem_singleton, List.cons_append, List.mem_cons, List.not_mem_nil, or_false] at hy; rcases hy with rfl; exact HAP.out a b ha hb)) (by decide)).mono ?_
  rintro e wz ⟨rfl, hbz⟩
  have BZ := Aside0.mk (BB.out.trans hbz)
  clear hbz
  go_wp2
  go_ret
  exact ⟨rfl, BZ.out⟩
theorem spotsOf_law (w : World) (A : Option Addr) (c : Nat) (body : List Node) (hr : Kd.C kNode w A body.length body) (hc : body.length ≤ c) (hw : ∀ n ∈ body, Node.wf n) :
    Calls Tryz.prog 5 #[.slice A body.length c] w fun e w' => e = .returned (.bool true) ∧ Below w.heap.size w w' := spotsOf_walk w A c body.length body rfl hr
end L08
end Go.Proofs.YtbdecnagdnancaaGreatDoor
