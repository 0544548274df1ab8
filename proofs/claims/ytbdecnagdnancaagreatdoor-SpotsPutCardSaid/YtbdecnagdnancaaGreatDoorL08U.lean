/- SpotsPut, walked whole: it answers true for every body and all terms. -/
import Derived.Test.YtbdecnagdnancaaGreatDoorR8P
import Derived.Test.YtbdecnagdnancaaGreatDoorTwTerm
import Derived.Test.YtbdecnagdnancaaGreatDoorBkApNT
import Derived.Test.YtbdecnagdnancaaGreatDoorMO

namespace Go.Proofs.YtbdecnagdnancaaGreatDoor
open Go.RowKit Go.Shelf Go.Proofs.YtbdecnagdnancaaGreatDoorW.PrintWords Go.Proofs.YtbdecnagdnancaaGreatDoorW.PrintLast Go.Proofs.YtbdecnagdnancaaGreatDoorW.PrintMore
set_option linter.unusedVariables false
set_option linter.unusedSimpArgs false
namespace L08
theorem twin_take' {w : World} {base n c : Nat} {A : Option Addr} {xs : List Node} {ok : Nat → Prop} (hn : n = xs.length) (h : kNode.R 122 w base ok (.slice A (xs ++ [spareN]).length c) (xs ++ [spareN])) : kNode.R 122 w base ok (.slice A n c) xs := by
  have := Kd.R_take h (m := n) (by rw [List.length_append]; omega)
  rwa [List.take_left' hn.symm] at this
theorem put_len (body : List Node) (ls es : List Term) : (putA body ls es).1.length ≤ body.length := by
  unfold putA
  split
  · simp
  · split
    · simp
    · exact Nat.le_of_eq (baseL_len (putB_base body ls es)).symm
set_option maxRecDepth 200000 in
set_option maxHeartbeats 16000000 in
theorem spotsPut_walk (w : World) (A B1 B2 : Option Addr) (c d1 d2 n m1 m2 : Nat) (body : List Node) (ls es : List Term) (hn : n = body.length) (hm1 : m1 = ls.length) (hm2 : m2 = es.length) (hr : kNode.C w A n body) (hl1 : kTerm.C w B1 m1 ls) (hl2 : kTerm.C w B2 m2 es) :
    Calls Tryz.prog 6 #[.slice A n c, .slice B1 m1 d1, .slice B2 m2 d2] w fun e w' => e = .returned (.bool true) ∧ Below w.heap.size w w' := by
  have hmax : n ≤ 9223372036854775807 := hr.2.1
  have hmax1 : m1 ≤ 9223372036854775807 := hl1.2.1
  have hmax2 : m2 ≤ 9223372036854775807 := hl2.2.1
  rcases Nat.lt_or_ge 300 n with hbig | hl
  · have hd : decide ((300 : Int) < n) = true := decide_eq_true (by omega)
    clear hn hr hm1 hm2 hl1 hl2
    go_enter Tryz.func6, Tryz.ntmps6
    go_wp2
    go_ret
    exact ⟨rfl, Below.refl _ _⟩
  have hd : decide ((300 : Int) < n) = false := decide_eq_false (by omega)
  rcases Nat.lt_or_ge 600 m1 with hbig | hL1
  · have hd1 : decide ((600 : Int) < m1) = true := decide_eq_true (by omega)
    clear hn hr hm1 hm2 hl1 hl2
    go_enter Tryz.func6, Tryz.ntmps6
    go_wp2
    go_ret
    exact ⟨rfl, Below.refl _ _⟩
  have hd1 : decide ((600 : Int) < m1) = false := decide_eq_false (by omega)
  rcases Nat.lt_or_ge 600 m2 with hbig | hL2
  · have hd2 : decide ((600 : Int) < m2) = true := decide_eq_true (by omega)
    clear hn hr hm1 hm2 hl1 hl2
    go_enter Tryz.func6, Tryz.ntmps6
    go_wp2
    go_ret
    exact ⟨rfl, Below.refl _ _⟩
  have hd2 : decide ((600 : Int) < m2) = false := decide_eq_false (by omega)
  have HN := Aside0.mk (And.intro hn (And.intro hm1 hm2))
  have HR := Aside0.mk (And.intro hr (And.intro hl1 hl2))
  have HT := Aside0.mk (twin_calls w A c body (by omega) (by rw [← hn]; exact hr))
  rw [← hn] at HT
  clear hn hr hm1 hm2 hl1 hl2
  go_enter Tryz.func6, Tryz.ntmps6
  go_wp2_with fail
  refine HT.out.mono ?_
  rintro e w1 ⟨A1, c1, rfl, hb1, hc1, r1⟩
  have HB1 := Aside0.mk hb1
  have HR1 := Aside0.mk (twin_take' HN.out.1 r1)
  have HR1s := Aside0.mk r1
  clear hb1 r1 HT
  have C1 := Aside0.mk (Tw.twinTerm_calls w1 B1 d1 ls (by rw [← HN.out.2.1]; omega) (by rw [← HN.out.2.1]; exact Kd.C_below HR.out.2.1 HB1.out))
  rw [← HN.out.2.1] at C1
  go_wp2_with fail
  refine C1.out.mono ?_
  rintro e w2 ⟨A2, c2, rfl, hb2, hc2, r2⟩
  have HB12 := Aside0.mk hb2
  have HR2 := Aside0.mk (Tw.takeTerm HN.out.2.1 r2)
  have HR2s := Aside0.mk r2
  have HB2 := Aside0.mk (below_step HB1.out hb2)
  clear hb2 r2 C1
  have C1 := Aside0.mk (Tw.twinTerm_calls w2 B2 d2 es (by rw [← HN.out.2.2]; omega) (by rw [← HN.out.2.2]; exact Kd.C_below HR.out.2.2 HB2.out))
  rw [← HN.out.2.2] at C1
  go_wp2_with fail
  refine C1.out.mono ?_
  rintro e w3 ⟨A3, c3, rfl, hb3, hc3, r3⟩
  have HB23 := Aside0.mk hb3
  have HR3 := Aside0.mk (Tw.takeTerm HN.out.2.2 r3)
  have HR3s := Aside0.mk r3
  have HB3 := Aside0.mk (below_step HB2.out hb3)
  have HB13 := Aside0.mk (below_step HB12.out hb3)
  clear hb3 r3 C1
  obtain ⟨res, hres⟩ : ∃ r, r = putA body ls es := ⟨_, rfl⟩
  have hpl : res.1.length ≤ n := by rw [hres, HN.out.1]; exact put_len _ _ _
  have CW : ∀ {α : Type} {d : Kd α} {e W base ok A n c} {xs : List α}, d.R e W base ok (.slice A n c) xs → d.C W A n xs := fun h => by obtain ⟨rfl, _, hc⟩ := Kd.R_reads' h; exact hc
  have SP := Aside0.mk (sput_calls w3 A1 A2 A3 n c1 m1 m2 c2 c3 body ls es HN.out.1 HN.out.2.1 HN.out.2.2 (CW (Kd.R_below HR1.out HB13.out)) (CW (Kd.R_below HR2.out HB23.out)) (CW HR3.out))
  rw [← hres] at SP
  have HRES := Aside0.mk hres
  clear hres CW
  obtain ⟨rn, z⟩ := res
  obtain ⟨p, hp⟩ : ∃ p, p = rn.length := ⟨_, rfl⟩
  simp only at hpl SP
  rw [← hp] at SP hpl
  have HP := Aside0.mk hp
  clear hp
  go_wp2_with fail
  refine SP.out.mono ?_
  rintro e w4 ⟨⟨A4, c4, rfl, r4⟩, hb4⟩
  have HR4 := Aside0.mk r4
  have HB34 := Aside0.mk hb4
  have HB4 := Aside0.mk (below_step HB3.out hb4)
  clear r4 hb4 SP
  have RP := Aside0.mk (Ref08.put_calls w4 A B1 B2 n c m1 m2 d1 d2 body ls es HN.out.1 hl HN.out.2.1 HN.out.2.2 (Kd.C_below HR.out.1 HB4.out) (Kd.C_below HR.out.2.1 HB4.out) (Kd.C_below HR.out.2.2 HB4.out))
  rw [← HRES.out] at RP
  simp only at RP
  rw [← HP.out] at RP
  go_wp2_with fail
  refine RP.out.mono ?_
  rintro e w5 ⟨⟨A5, c5, rfl, r5⟩, hb5⟩
  have HR5 := Aside0.mk r5
  have HB45 := Aside0.mk hb5
  clear r5 hb5 RP
  have zz : (z != z) = false := bne_self_eq_false _
  have C1 := Aside0.mk (sameNodes_calls w5 A4 A5 c4 c5 rn (by rw [← HP.out]; exact Kd.C_below HR4.out.reads.2 HB45.out) (by rw [← HP.out]; exact HR5.out))
  rw [← HP.out] at C1
  go_wp2_with fail
  refine C1.out.mono ?_
  rintro e w6 ⟨rfl, hb6⟩
  have HB46 := Aside0.mk (below_step HB45.out hb6)
  have HB36 := Aside0.mk (below_step HB34.out HB46.out)
  have HB16 := Aside0.mk (below_step HB13.out HB36.out)
  have HB26 := Aside0.mk (below_step HB23.out HB36.out)
  clear hb6 C1 HR5
  have C1 := Aside0.mk (left_calls w6 A1 A c1 c body (by rw [← HN.out.1]; exact hl) (by rw [← HN.out.1]; exact hc1) (Kd.R_reads' (Kd.R_below HR1s.out HB16.out)).2.2 (by rw [← HN.out.1]; exact Kd.C_below HR.out.1 (below_step HB1.out HB16.out)))
  rw [← HN.out.1] at C1
  go_wp2_with fail
  refine C1.out.mono ?_
  rintro e w7 ⟨rfl, hb7⟩
  have HB67 := Aside0.mk hb7
  clear hb7 C1
  have C1 := Aside0.mk (Tw.leftTerm_calls w7 A2 B1 c2 d1 ls (by rw [← HN.out.2.1]; omega) (by rw [← HN.out.2.1]; exact hc2) (Kd.R_reads' (Kd.R_below HR2s.out (below_step HB26.out HB67.out))).2.2 (by rw [← HN.out.2.1]; exact Kd.C_below HR.out.2.1 (below_step (below_step HB1.out HB16.out) HB67.out)))
  rw [← HN.out.2.1] at C1
  go_wp2_with fail
  refine C1.out.mono ?_
  rintro e w8 ⟨rfl, hb8⟩
  have HB68 := Aside0.mk (below_step HB67.out hb8)
  clear hb8 C1
  have C1 := Aside0.mk (Tw.leftTerm_calls w8 A3 B2 c3 d2 es (by rw [← HN.out.2.2]; omega) (by rw [← HN.out.2.2]; exact hc3) (Kd.R_reads' (Kd.R_below HR3s.out (below_step HB36.out HB68.out))).2.2 (by rw [← HN.out.2.2]; exact Kd.C_below HR.out.2.2 (below_step (below_step HB1.out HB16.out) HB68.out)))
  rw [← HN.out.2.2] at C1
  go_wp2_with fail
  refine C1.out.mono ?_
  rintro e w9 ⟨rfl, hb9⟩
  have HB69 := Aside0.mk (below_step HB68.out hb9)
  clear hb9 C1
  have HB9 := Aside0.mk (below_step (below_step HB1.out HB16.out) HB69.out)
  have HL1 := Aside0.mk (Bk.RC.of (Kd.R_mono (Kd.R_below HR1.out (below_step HB16.out HB69.out)) (ok' := fun _ => True) (fun _ _ => trivial)))
  have HL2 := Aside0.mk (Bk.RC.lower (Bk.RC.of (Kd.R_mono (Kd.R_below HR2.out (below_step HB26.out HB69.out)) (ok' := fun _ => True) (fun _ _ => trivial))) HB1.out.size)
  have HL3 := Aside0.mk (Bk.RC.lower (Bk.RC.of (Kd.R_mono (Kd.R_below HR3.out (below_step HB36.out HB69.out)) (ok' := fun _ => True) (fun _ _ => trivial))) HB2.out.size)
  have HL4 := Aside0.mk (Bk.RC.lower (Bk.RC.below HR4.out (below_step HB46.out HB69.out)) HB3.out.size)
  have HAP1 : Aside0 (∀ a b, A1 = some a → A4 = some b → a.block ≠ b.block) := ⟨fun a b ha hb he => by
    have h1 := ((Bk.RC.of (Kd.R_mono HR1.out (ok' := fun _ => True) (fun _ _ => trivial))).typed a ha).2.1
    have h2 := (HR4.out.typed b hb).1
    have := HB13.out.size
    omega⟩
  have HAP2 : Aside0 (∀ a b, A2 = some a → A3 = some b → a.block ≠ b.block) := ⟨fun a b ha hb he => by
    have h1 := ((Bk.RC.of (Kd.R_mono HR2.out (ok' := fun _ => True) (fun _ _ => trivial))).typed a ha).2.1
    have h2 := ((Bk.RC.of (Kd.R_mono HR3.out (ok' := fun _ => True) (fun _ _ => trivial))).typed b hb).1
    omega⟩
  have hbs := HB9.out.size
  clear HR1 HR1s HR2 HR2s HR3 HR3s HR4 HB1 HB12 HB2 HB23 HB3 HB13 HB34 HB4 HB45 HB46 HB36 HB16 HB26 HB67 HB68 HB69
  go_upto_region 11 with fail
  have HBOX : Aside0 ((w9.alloc (.cells #[.int .i64 0, .slice none 0 0, .slice none 0 0, .slice none 0 0, .slice none 0 0, .slice none 0 0, .slice none 0 0, .slice none 0 0, .slice none 0 0, .slice none 0 0, .slice none 0 0, .slice none 0 0, .slice none 0 0, .slice none 0 0, .slice none 0 0, .slice none 0 0] 45)).heap[w9.heap.size]? = some (.cells #[.int .i64 ((0 : Nat) : Int), .slice none 0 0, .slice none 0 0, .slice none 0 0, .slice none 0 0, .slice none 0 0, .slice none 0 0, .slice none 0 0, .slice none 0 0, .slice none 0 0, .slice none 0 0, .slice none 0 0, .slice none 0 0, .slice none 0 0, .slice none 0 0, .slice none 0 0] 45 (0, 0))) := ⟨blk_new w9 _⟩
  have BR0 := Aside0.mk (Bk.RC.below HL1.out (below_alloc (Below.refl w9.heap.size w9) (.cells #[.int .i64 0, .slice none 0 0, .slice none 0 0, .slice none 0 0, .slice none 0 0, .slice none 0 0, .slice none 0 0, .slice none 0 0, .slice none 0 0, .slice none 0 0, .slice none 0 0, .slice none 0 0, .slice none 0 0, .slice none 0 0, .slice none 0 0, .slice none 0 0] 45)))
  have BR1 := Aside0.mk (Bk.RC.below HL2.out (below_alloc (Below.refl w9.heap.size w9) (.cells #[.int .i64 0, .slice none 0 0, .slice none 0 0, .slice none 0 0, .slice none 0 0, .slice none 0 0, .slice none 0 0, .slice none 0 0, .slice none 0 0, .slice none 0 0, .slice none 0 0, .slice none 0 0, .slice none 0 0, .slice none 0 0, .slice none 0 0, .slice none 0 0] 45)))
  have BR2 := Aside0.mk (Bk.RC.below HL3.out (below_alloc (Below.refl w9.heap.size w9) (.cells #[.int .i64 0, .slice none 0 0, .slice none 0 0, .slice none 0 0, .slice none 0 0, .slice none 0 0, .slice none 0 0, .slice none 0 0, .slice none 0 0, .slice none 0 0, .slice none 0 0, .slice none 0 0, .slice none 0 0, .slice none 0 0, .slice none 0 0, .slice none 0 0] 45)))
  have BR3 := Aside0.mk (Bk.RC.below HL4.out (below_alloc (Below.refl w9.heap.size w9) (.cells #[.int .i64 0, .slice none 0 0, .slice none 0 0, .slice none 0 0, .slice none 0 0, .slice none 0 0, .slice none 0 0, .slice none 0 0, .slice none 0 0, .slice none 0 0, .slice none 0 0, .slice none 0 0, .slice none 0 0, .slice none 0 0, .slice none 0 0, .slice none 0 0] 45)))
  have BB := Aside0.mk (below_alloc HB9.out (.cells #[.int .i64 0, .slice none 0 0, .slice none 0 0, .slice none 0 0, .slice none 0 0, .slice none 0 0, .slice none 0 0, .slice none 0 0, .slice none 0 0, .slice none 0 0, .slice none 0 0, .slice none 0 0, .slice none 0 0, .slice none 0 0, .slice none 0 0, .slice none 0 0] 45))
  obtain ⟨bx, hbx⟩ : ∃ b, b = w9.heap.size := ⟨_, rfl⟩
  have hbx0 : w.heap.size ≤ bx := by rw [hbx]; exact hbs
  rw [← hbx] at HBOX ⊢
  clear hbx
  generalize World.alloc w9 (.cells #[.int .i64 0, .slice none 0 0, .slice none 0 0, .slice none 0 0, .slice none 0 0, .slice none 0 0, .slice none 0 0, .slice none 0 0, .slice none 0 0, .slice none 0 0, .slice none 0 0, .slice none 0 0, .slice none 0 0, .slice none 0 0, .slice none 0 0, .slice none 0 0] 45) = wk at *
  go_wp2_with fail
  refine (Bk.Nodes_calls wk w.heap.size bx 0 0 0 none A1 n c1 ([] : List Bk.Hd) #[.int .i64 ((0 : Nat) : Int), .slice none 0 0, .slice none 0 0, .slice none 0 0, .slice none 0 0, .slice none 0 0, .slice none 0 0, .slice none 0 0, .slice none 0 0, .slice none 0 0, .slice none 0 0, .slice none 0 0, .slice none 0 0, .slice none 0 0, .slice none 0 0, .slice none 0 0] (by first | rfl | simp) HBOX.out rfl rfl (Kd.R_nil _ _ _ _ _) hbx0 (by decide) (by decide)).mono ?_
  rintro e wk0 ⟨rfl, hA0, hc0, hg, hh, hk⟩
  have HBOX2 : Aside0 (wk0.heap[bx]? = some (.cells #[.int .i64 ((1 : Nat) : Int), .slice none 0 0, .slice none 0 0, .slice none 0 0, .slice none 0 0, .slice none 0 0, .slice none 0 0, .slice none 0 0, .slice hA0 (0 + 1) hc0, .slice none 0 0, .slice none 0 0, .slice none 0 0, .slice none 0 0, .slice none 0 0, .slice none 0 0, .slice none 0 0] 45 (0, 0))) := ⟨hg⟩
  clear HBOX; have HBOX := HBOX2; clear HBOX2
  have BRt := Aside0.mk (Bk.RC.keep2 BR0.out rfl (by decide) (by decide) hk); clear BR0; have BR0 := BRt; clear BRt
  have BRt := Aside0.mk (Bk.RC.keep2 BR1.out rfl (by decide) (by decide) hk); clear BR1; have BR1 := BRt; clear BRt
  have BRt := Aside0.mk (Bk.RC.keep2 BR2.out rfl (by decide) (by decide) hk); clear BR2; have BR2 := BRt; clear BRt
  have BRt := Aside0.mk (Bk.RC.keep2 BR3.out rfl (by decide) (by decide) hk); clear BR3; have BR3 := BRt; clear BRt
  have BHNode := Aside0.mk hh
  have BB2 := Aside0.mk (BB.out.trans hk.below); clear BB; have BB := BB2; clear BB2
  clear hg hh hk
  go_wp2_with fail
  refine (Bk.Terms_calls wk0 w.heap.size bx 0 0 1 none A2 m1 c2 ([] : List Bk.Hd) #[.int .i64 ((1 : Nat) : Int), .slice none 0 0, .slice none 0 0, .slice none 0 0, .slice none 0 0, .slice none 0 0, .slice none 0 0, .slice none 0 0, .slice hA0 (0 + 1) hc0, .slice none 0 0, .slice none 0 0, .slice none 0 0, .slice none 0 0, .slice none 0 0, .slice none 0 0, .slice none 0 0] (by first | rfl | simp) HBOX.out rfl rfl (Kd.R_nil _ _ _ _ _) hbx0 (by decide) (by decide)).mono ?_
  rintro e wk1 ⟨rfl, hA1, hc1, hg, hh, hk⟩
  have HBOX2 : Aside0 (wk1.heap[bx]? = some (.cells #[.int .i64 ((2 : Nat) : Int), .slice none 0 0, .slice none 0 0, .slice none 0 0, .slice none 0 0, .slice none 0 0, .slice none 0 0, .slice none 0 0, .slice hA0 (0 + 1) hc0, .slice none 0 0, .slice hA1 (0 + 1) hc1, .slice none 0 0, .slice none 0 0, .slice none 0 0, .slice none 0 0, .slice none 0 0] 45 (0, 0))) := ⟨hg⟩
  clear HBOX; have HBOX := HBOX2; clear HBOX2
  have BRt := Aside0.mk (Bk.RC.keep2 BR0.out rfl (by decide) (by decide) hk); clear BR0; have BR0 := BRt; clear BRt
  have BRt := Aside0.mk (Bk.RC.keep2 BR1.out rfl (by decide) (by decide) hk); clear BR1; have BR1 := BRt; clear BRt
  have BRt := Aside0.mk (Bk.RC.keep2 BR2.out rfl (by decide) (by decide) hk); clear BR2; have BR2 := BRt; clear BRt
  have BRt := Aside0.mk (Bk.RC.keep2 BR3.out rfl (by decide) (by decide) hk); clear BR3; have BR3 := BRt; clear BRt
  have BH2 := Aside0.mk (Bk.R_keep2 BHNode.out rfl (by decide) (by decide) hk); clear BHNode; have BHNode := BH2; clear BH2
  have BHTerm := Aside0.mk hh
  have BB2 := Aside0.mk (BB.out.trans hk.below); clear BB; have BB := BB2; clear BB2
  clear hg hh hk
  go_wp2_with fail
  refine (Bk.Terms_calls wk1 w.heap.size bx (0 + 1) hc1 2 hA1 A3 m2 c3 (([] : List Bk.Hd) ++ [⟨A2, m1, c2, none, 0, 0, 1 + 1⟩]) #[.int .i64 ((2 : Nat) : Int), .slice none 0 0, .slice none 0 0, .slice none 0 0, .slice none 0 0, .slice none 0 0, .slice none 0 0, .slice none 0 0, .slice hA0 (0 + 1) hc0, .slice none 0 0, .slice hA1 (0 + 1) hc1, .slice none 0 0, .slice none 0 0, .slice none 0 0, .slice none 0 0, .slice none 0 0] (by first | rfl | simp) HBOX.out rfl rfl BHTerm.out hbx0 (by decide) (by decide)).mono ?_
  rintro e wk2 ⟨rfl, hA2, hc2, hg, hh, hk⟩
  have HBOX2 : Aside0 (wk2.heap[bx]? = some (.cells #[.int .i64 ((3 : Nat) : Int), .slice none 0 0, .slice none 0 0, .slice none 0 0, .slice none 0 0, .slice none 0 0, .slice none 0 0, .slice none 0 0, .slice hA0 (0 + 1) hc0, .slice none 0 0, .slice hA2 ((0 + 1) + 1) hc2, .slice none 0 0, .slice none 0 0, .slice none 0 0, .slice none 0 0, .slice none 0 0] 45 (0, 0))) := ⟨hg⟩
  clear HBOX; have HBOX := HBOX2; clear HBOX2
  have BRt := Aside0.mk (Bk.RC.keep2 BR0.out rfl (by decide) (by decide) hk); clear BR0; have BR0 := BRt; clear BRt
  have BRt := Aside0.mk (Bk.RC.keep2 BR1.out rfl (by decide) (by decide) hk); clear BR1; have BR1 := BRt; clear BRt
  have BRt := Aside0.mk (Bk.RC.keep2 BR2.out rfl (by decide) (by decide) hk); clear BR2; have BR2 := BRt; clear BRt
  have BRt := Aside0.mk (Bk.RC.keep2 BR3.out rfl (by decide) (by decide) hk); clear BR3; have BR3 := BRt; clear BRt
  have BH2 := Aside0.mk (Bk.R_keep2 BHNode.out rfl (by decide) (by decide) hk); clear BHNode; have BHNode := BH2; clear BH2
  clear BHTerm
  have BHTerm := Aside0.mk hh
  have BB2 := Aside0.mk (BB.out.trans hk.below); clear BB; have BB := BB2; clear BB2
  clear hg hh hk
  go_wp2_with fail
  refine (Bk.Nodes_calls wk2 w.heap.size bx (0 + 1) hc0 3 hA0 A4 p c4 (([] : List Bk.Hd) ++ [⟨A1, n, c1, none, 0, 0, 0 + 1⟩]) #[.int .i64 ((3 : Nat) : Int), .slice none 0 0, .slice none 0 0, .slice none 0 0, .slice none 0 0, .slice none 0 0, .slice none 0 0, .slice none 0 0, .slice hA0 (0 + 1) hc0, .slice none 0 0, .slice hA2 ((0 + 1) + 1) hc2, .slice none 0 0, .slice none 0 0, .slice none 0 0, .slice none 0 0, .slice none 0 0] (by first | rfl | simp) HBOX.out rfl rfl BHNode.out hbx0 (by decide) (by decide)).mono ?_
  rintro e wk3 ⟨rfl, hA3, hc3, hg, hh, hk⟩
  have HBOX2 : Aside0 (wk3.heap[bx]? = some (.cells #[.int .i64 ((4 : Nat) : Int), .slice none 0 0, .slice none 0 0, .slice none 0 0, .slice none 0 0, .slice none 0 0, .slice none 0 0, .slice none 0 0, .slice hA3 ((0 + 1) + 1) hc3, .slice none 0 0, .slice hA2 ((0 + 1) + 1) hc2, .slice none 0 0, .slice none 0 0, .slice none 0 0, .slice none 0 0, .slice none 0 0] 45 (0, 0))) := ⟨hg⟩
  clear HBOX; have HBOX := HBOX2; clear HBOX2
  have BRt := Aside0.mk (Bk.RC.keep2 BR0.out rfl (by decide) (by decide) hk); clear BR0; have BR0 := BRt; clear BRt
  have BRt := Aside0.mk (Bk.RC.keep2 BR1.out rfl (by decide) (by decide) hk); clear BR1; have BR1 := BRt; clear BRt
  have BRt := Aside0.mk (Bk.RC.keep2 BR2.out rfl (by decide) (by decide) hk); clear BR2; have BR2 := BRt; clear BRt
  have BRt := Aside0.mk (Bk.RC.keep2 BR3.out rfl (by decide) (by decide) hk); clear BR3; have BR3 := BRt; clear BRt
  have BH2 := Aside0.mk (Bk.R_keep2 BHTerm.out rfl (by decide) (by decide) hk); clear BHTerm; have BHTerm := BH2; clear BH2
  clear BHNode
  have BHNode := Aside0.mk hh
  have BB2 := Aside0.mk (BB.out.trans hk.below); clear BB; have BB := BB2; clear BB2
  clear hg hh hk
  go_wp2_with fail
  refine (Bk.apartNT wk3 w.heap.size bx #[.int .i64 ((4 : Nat) : Int), .slice none 0 0, .slice none 0 0, .slice none 0 0, .slice none 0 0, .slice none 0 0, .slice none 0 0, .slice none 0 0, .slice hA3 ((0 + 1) + 1) hc3, .slice none 0 0, .slice hA2 ((0 + 1) + 1) hc2, .slice none 0 0, .slice none 0 0, .slice none 0 0, .slice none 0 0, .slice none 0 0] HBOX.out BB.out.size rfl rfl rfl rfl rfl rfl rfl rfl rfl rfl rfl rfl rfl ((0 + 1) + 1) hc3 hA3 ((([] : List Bk.Hd) ++ [⟨A1, n, c1, none, 0, 0, 0 + 1⟩]) ++ [⟨A4, p, c4, none, 0, 0, 3 + 1⟩]) _ rfl ⟨BHNode.out, (Bk.Lists.add (Bk.Lists.add Bk.Lists.nil BR0.out) BR3.out)⟩ (by first | rfl | simp) (by intro x hx; simp only [List.nil_append, List.mem_append, List.mem_singleton, List.cons_append, List.mem_cons, List.not_mem_nil, or_false] at hx; rcases hx with rfl | rfl; all_goals exact ⟨by dsimp only; omega, by dsimp only; omega⟩) (Bk.Apart.add (Bk.Apart.add Bk.Apart.nil ⟨A1, n, c1, none, 0, 0, 0 + 1⟩ (fun y hy => by simp at hy)) ⟨A4, p, c4, none, 0, 0, 3 + 1⟩ (fun y hy a b ha hb => by simp only [List.nil_append, List.mem_append, List.mem_singleton, List.cons_append, List.mem_cons, List.not_mem_nil, or_false] at hy; rcases hy with rfl; exact HAP1.out a b ha hb)) (by decide) ((0 + 1) + 1) hc2 hA2 ((([] : List Bk.Hd) ++ [⟨A2, m1, c2, none, 0, 0, 1 + 1⟩]) ++ [⟨A3, m2, c3, none, 0, 0, 2 + 1⟩]) _ rfl ⟨BHTerm.out, (Bk.Lists.add (Bk.Lists.add Bk.Lists.nil BR1.out) BR2.out)⟩ (by first | rfl | simp) (by intro x hx; simp only [List.nil_append, List.mem_append, List.mem_singleton, List.cons_append, List.mem_cons, List.not_mem_nil, or_false] at hx; rcases hx with rfl | rfl; all_goals exact ⟨by dsimp only; omega, by dsimp only; omega⟩) (Bk.Apart.add (Bk.Apart.add Bk.Apart.nil ⟨A2, m1, c2, none, 0, 0, 1 + 1⟩ (fun y hy => by simp at hy)) ⟨A3, m2, c3, none, 0, 0, 2 + 1⟩ (fun y hy a b ha hb => by simp only [List.nil_append, List.mem_append, List.mem_singleton, List.cons_append, List.mem_cons, List.not_mem_nil, or_false] at hy; rcases hy with rfl; exact HAP2.out a b ha hb)) (by decide)).mono ?_
  rintro e wz ⟨rfl, hbz⟩
  have BZ := Aside0.mk (BB.out.trans hbz)
  clear hbz
  go_wp2
  go_ret
  exact ⟨rfl, BZ.out⟩
theorem spotsPut_law (w : World) (A : Option Addr) (c : Nat) (body : List Node) (hr : Kd.C kNode w A body.length body) (hc : body.length ≤ c) (hw : ∀ n ∈ body, Node.wf n) (B1 : Option Addr) (d1 : Nat) (ls : List Term) (hr1 : Kd.C kTerm w B1 ls.length ls) (hc1 : ls.length ≤ d1) (hw1 : ∀ n ∈ ls, Term.wf n) (B2 : Option Addr) (d2 : Nat) (es : List Term) (hr2 : Kd.C kTerm w B2 es.length es) (hc2 : es.length ≤ d2) (hw2 : ∀ n ∈ es, Term.wf n) :
    Calls Tryz.prog 6 #[.slice A body.length c, .slice B1 ls.length d1, .slice B2 es.length d2] w fun e w' => e = .returned (.bool true) ∧ Below w.heap.size w w' := spotsPut_walk w A B1 B2 c d1 d2 _ _ _ body ls es rfl rfl rfl hr hr1 hr2
end L08
end Go.Proofs.YtbdecnagdnancaaGreatDoor
