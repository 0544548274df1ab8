/- The law SpotsMany: a walk through its code at every input. -/
import Derived.Test.YtoohandacpalpaaDoorL08A
namespace Go.Proofs.YtoohandacpalpaaDoor
open Go.RowKit Go.Shelf Go.Proofs.YtoohandacpalpaaDoorW.PrintWords Go.Proofs.YtoohandacpalpaaDoorW.PrintLast Go.Proofs.YtoohandacpalpaaDoorW.PrintMore
set_option linter.unusedVariables false
set_option linter.unusedSimpArgs false
namespace L08
open L07
theorem labL_all (body : List Node) (k : Nat) (hk : k < body.length) (hs : (sidesB body).length = body.length) : labL 0 body (sidesB body) = labL 0 (body.take k) ((sidesB body).take k) ++ (labN k body[k] ((sidesB body)[k]'(by omega)) ++ labL (k + 1) (body.drop (k + 1)) ((sidesB body).drop (k + 1))) := by
  have gen : ∀ (l : List Node) (ss : List Int) (i j : Nat) (h : j < l.length) (h2 : j < ss.length), ss.length = l.length → labL i l ss = labL i (l.take j) (ss.take j) ++ (labN (i + j) l[j] ss[j] ++ labL (i + j + 1) (l.drop (j + 1)) (ss.drop (j + 1))) := by
    intro l
    induction l with
    | nil => intro ss i j h; simp at h
    | cons n t ih =>
      intro ss i j h h2 he
      cases ss with
      | nil => simp at h2
      | cons s ss =>
        cases j with
        | zero => simp [labL]
        | succ j =>
          have := ih ss (i + 1) j (by simpa using h) (by simpa using h2) (by simpa using he)
          rw [labL, this]
          simp only [List.take_succ_cons, List.drop_succ_cons, labL, List.append_assoc, List.getElem_cons_succ]
          rw [show i + 1 + j = i + (j + 1) by omega]
  have := gen body (sidesB body) 0 k hk (by omega) hs
  simpa using this
theorem effL_all (body : List Node) (k : Nat) (hk : k < body.length) (hs : (sidesB body).length = body.length) : effL 0 body (sidesB body) = effL 0 (body.take k) ((sidesB body).take k) ++ (effN k body[k] ((sidesB body)[k]'(by omega)) ++ effL (k + 1) (body.drop (k + 1)) ((sidesB body).drop (k + 1))) := by
  have gen : ∀ (l : List Node) (ss : List Int) (i j : Nat) (h : j < l.length) (h2 : j < ss.length), ss.length = l.length → effL i l ss = effL i (l.take j) (ss.take j) ++ (effN (i + j) l[j] ss[j] ++ effL (i + j + 1) (l.drop (j + 1)) (ss.drop (j + 1))) := by
    intro l
    induction l with
    | nil => intro ss i j h; simp at h
    | cons n t ih =>
      intro ss i j h h2 he
      cases ss with
      | nil => simp at h2
      | cons s ss =>
        cases j with
        | zero => simp [effL]
        | succ j =>
          have := ih ss (i + 1) j (by simpa using h) (by simpa using h2) (by simpa using he)
          rw [effL, this]
          simp only [List.take_succ_cons, List.drop_succ_cons, effL, List.append_assoc, List.getElem_cons_succ]
          rw [show i + 1 + j = i + (j + 1) by omega]
  have := gen body (sidesB body) 0 k hk (by omega) hs
  simpa using this
/-- What the spots are at a node. -/
theorem many_step {body : List Node} (hz : checkB body = 0) (k : Nat) (hk : k < body.length) : ∃ s : Int, 0 ≤ s ∧ s ≤ 2 ∧ (labB body)[(labP body k).length]? = some ⟨k, 0, s, body[k].f4⟩ ∧
    (body[k].f0 = 5 → (labB body)[(labP body k).length + 1]? = some ⟨k, 1, turnI s, body[k].f5⟩ ∧ (effB body)[(effP body k).length]? = some ⟨k, 2, s, body[k].f6⟩ ∧ (labP body (k + 1)).length = (labP body k).length + 2 ∧ (effP body (k + 1)).length = (effP body k).length + 1) ∧
    (body[k].f0 ≠ 5 → (labP body (k + 1)).length = (labP body k).length + 1 ∧ (effP body (k + 1)).length = (effP body k).length) := by
  have hs : (sidesB body).length = body.length := sidesB_len hz 0
  have hks : k < (sidesB body).length := by omega
  have hm := sides_mem body [0] (by simp) _ (List.getElem_mem (l := sidesL body [0]) (n := k) hks)
  have e1 : labB body = labL 0 body (sidesB body) := by unfold labB; rw [if_pos hz]
  have e2 : effB body = effL 0 body (sidesB body) := by unfold effB; rw [if_pos hz]
  have n1 := labP_next body k hk hks
  have n2 := effP_next body k hk hks
  refine ⟨(sidesB body)[k], hm.1, hm.2, ?_, fun h5 => ⟨?_, ?_, ?_, ?_⟩, fun h5 => ⟨?_, ?_⟩⟩
  · rw [e1, labL_all body k hk hs, labP, List.length_map, List.getElem?_append_right (Nat.le_refl _), Nat.sub_self]
    simp [labN]
  · rw [e1, labL_all body k hk hs, labP, List.length_map, List.getElem?_append_right (Nat.le_succ _), show ∀ n : Nat, n + 1 - n = 1 by intro n; omega]
    simp [labN, h5]
  · rw [e2, effL_all body k hk hs, effP, List.length_map, List.getElem?_append_right (Nat.le_refl _), Nat.sub_self]
    simp [effN, h5]
  · rw [n1, labN, if_pos h5]; simp
  · rw [n2, effN, if_pos h5]; simp
  · rw [n1, labN, if_neg h5]; simp
  · rw [n2, effN, if_neg h5]; simp
set_option maxRecDepth 100000 in
set_option maxHeartbeats 4000000 in
theorem many_yes (w : World) (ad : Addr) (c N : Nat) (body : List Node) (hN : N = body.length) (hr : kNode.C w (some ad) body.length body) (hz : checkB body = 0) :
    Calls Tryd.prog 9 #[.slice (some ad) N c] w fun e w' => e = .returned (.bool true) ∧ Below w.heap.size w w' := by
  have hl128 := (checkB_L hz).2.1
  have CK := Aside0.mk (check_calls w (some ad) c body hr)
  rw [hz, ← hN] at CK
  have OF : Aside0 (∀ W, Below w.heap.size w W → Calls Tryd.prog 27 #[.slice (some ad) N c] W fun e w' => ∃ v1 v2, e = .returned (.tuple #[v1, v2]) ∧ kSpot.R 50 w' W.heap.size (fun k => some k ≠ v2.ownBlock) v1 (labB body) ∧ kSpot.R 50 w' W.heap.size (fun k => some k ≠ v1.ownBlock) v2 (effB body) ∧ Below W.heap.size W w') := ⟨fun W hb => by rw [hN]; exact of_calls W (some ad) c body (Kd.C_below hr hb)⟩
  have hb1 := labP_len body body.length
  have hb2 := effP_len body body.length
  rw [labP_full hz] at hb1
  rw [effP_full hz] at hb2
  have F1 := labP_full hz
  have F2 := effP_full hz
  rw [← hN] at hl128 hb1 hb2 F1 F2
  have HF1 := Aside0.mk F1
  have HF2 := Aside0.mk F2
  have HZ := Aside0.mk hz
  have HR := Aside0.mk hr
  have HN := Aside0.mk hN
  have z1 : decide (300 < (N : Int)) = false := decide_eq_false (by omega)
  clear hr hz hN F1 F2
  go_enter Tryd.func9, Tryd.ntmps9
  go_wp2_with (go_at_call 14; (with_reducible refine (CK.out).mono ?_); rintro e W' ⟨rfl, hb'⟩; have HB1 := Aside0.mk hb'; clear hb')
  refine (OF.out _ HB1.out).mono ?_
  rintro e w2 ⟨v1, v2, rfl, r1, r2, hb2'⟩
  obtain ⟨A1, c1, rfl⟩ := Kd.R_slice r1
  obtain ⟨A2, c2, rfl⟩ := Kd.R_slice r2
  obtain ⟨l, hl⟩ : ∃ l, l = labB body := ⟨_, rfl⟩
  obtain ⟨x, hx⟩ : ∃ x, x = effB body := ⟨_, rfl⟩
  rw [← hl] at r1 r2 HF1 hb1 ⊢
  rw [← hx] at r1 r2 HF2 hb2 ⊢
  obtain ⟨L, hL⟩ : ∃ L, L = l.length := ⟨_, rfl⟩
  obtain ⟨X, hX⟩ : ∃ X, X = x.length := ⟨_, rfl⟩
  rw [← hL] at r1 r2 HF1 hb1 ⊢
  rw [← hX] at r1 r2 HF2 hb2 ⊢
  have R1 := Aside0.mk (Kd.R_reads' r1).2.2
  have R2 := Aside0.mk (Kd.R_reads' r2).2.2
  rw [← hL] at R1
  rw [← hX] at R2
  have HL := Aside0.mk hl
  have HX := Aside0.mk hx
  have HLL := Aside0.mk hL
  have HXL := Aside0.mk hX
  have HB2 := Aside0.mk (below_step HB1.out hb2')
  clear hl hx hL hX r1 r2 hb2' HB1
  go_wp2
  go_loopg [7, 8, 9] (N + 1) (fun g p q i W => ∃ k a e : Nat, p = .int .i64 (a : Int) ∧ q = .int .i64 (e : Int) ∧ i = .int .i64 (k : Int) ∧ k ≤ N ∧ N + 1 - k ≤ g ∧ a ≤ L ∧ e ≤ X ∧ Aside0 (a = (labP body k).length ∧ e = (effP body k).length) ∧ Aside0 (Below w2.heap.size w2 W))
  case atStart => exact ⟨0, 0, 0, rfl, rfl, rfl, by omega, by omega, by omega, by omega, ⟨by simp [labP, effP, labL, effL]⟩, ⟨Below.refl _ _⟩⟩
  case round =>
    obtain ⟨k, a, e, rfl, rfl, rfl, hk, hkg, ha, he, HA, HB⟩ := hrel
    rcases Nat.lt_or_ge k N with hlt | hge
    · have hd : decide (k < N) = true := decide_eq_true hlt
      have hkb : k < body.length := by rw [← HN.out]; exact hlt
      obtain ⟨s, hs0, hs2, m1, m5, m6⟩ := many_step HZ.out k hkb
      obtain ⟨ha0, he0⟩ := HA.out
      rw [← HL.out, ← ha0] at m1 m5
      rw [← ha0, ← he0] at m6
      rw [← HX.out, ← he0] at m5
      obtain ⟨ad', e', n0, n1, n2, n3, n4, n5, n6, n7, n8, n9⟩ := C_nodeN (Kd.C_below HR.out (below_step HB2.out HB.out)) k hkb
      cases e'
      obtain ⟨nd, hnd⟩ : ∃ nd, nd = body[k] := ⟨_, rfl⟩
      rw [← hnd] at m1 m5 m6 n0 n1 n2 n3 n4 n5 n6 n7 n8 n9
      obtain ⟨ld, rfl, c0, c1', c2', c3, c4⟩ := spotAt (Kd.C_below R1.out HB.out) m1
      have haL : a < L := by rw [HLL.out]; exact (List.getElem?_eq_some_iff.1 m1).1
      have g1 : decide (L ≤ a) = false := decide_eq_false (by omega)
      by_cases k5 : nd.f0 = 5
      · obtain ⟨hl1, hx1, hla, hxe⟩ := m5 k5
        obtain ⟨ld', e', d0, d1, d2, d3, d4⟩ := spotAt (Kd.C_below R1.out HB.out) hl1
        cases e'
        obtain ⟨xd, rfl, y0, y1, y2, y3, y4⟩ := spotAt (Kd.C_below R2.out HB.out) hx1
        have haL1 : a + 1 < L := by rw [HLL.out]; exact (List.getElem?_eq_some_iff.1 hl1).1
        have heX : e < X := by rw [HXL.out]; exact (List.getElem?_eq_some_iff.1 hx1).1
        have g2 : decide ((L : Int) ≤ (a : Int) + 1) = false := decide_eq_false (by omega)
        have g3 : decide (X ≤ e) = false := decide_eq_false (by omega)
        have M5 := Aside0.mk (And.intro hla hxe)
        have w1 : IntKind.i64.wrap ((a : Int) + 1 - 1) = (a : Int) := by rw [IntWalk.i64_in _ (by omega)]; omega
        have w2' : IntKind.i64.wrap ((a : Int) + 1 + 1 - 2) = (a : Int) := by rw [IntWalk.i64_in _ (by omega)]; omega
        rw [k5] at n0
        clear m1 m5 m6 hnd ha0 he0 k5 hl1 hx1 hla hxe
        obtain rfl | rfl | rfl : s = 0 ∨ s = 1 ∨ s = 2 := by omega
        all_goals
          first | rw [show turnI 0 = 1 from rfl] at d2 | rw [show turnI 1 = 0 from rfl] at d2 | rw [show turnI 2 = 2 from rfl] at d2
          go_wp2
          go_quiet (fail)
          go_wp2
          go_quiet (fail)
          go_wp2
          go_quiet (fail)
          go_wp2
          go_roundg (gk - 1)
          case measure => omega
          case rel => exact ⟨k + 1, a + 2, e + 1, by go_num, by go_num, by go_num, by omega, by omega, by omega, by omega, ⟨M5.out.1.symm, M5.out.2.symm⟩, ⟨pw_below_drewN HB.out _⟩⟩
      · have e5 : (nd.f0 != 5) = true := bne_iff_ne.mpr k5
        have M6 := Aside0.mk (m6 k5)
        clear m1 m5 m6 hnd ha0 he0 k5
        go_wp2
        go_quiet (fail)
        go_wp2
        go_roundg (gk - 1)
        case measure => omega
        case rel => exact ⟨k + 1, a + 1, e, by go_num, rfl, by go_num, by omega, by omega, by omega, by omega, ⟨M6.out.1.symm, M6.out.2.symm⟩, ⟨pw_below_drewN HB.out _⟩⟩
    · have hd : decide (k < N) = false := decide_eq_false (by omega)
      obtain rfl : N = k := by omega
      obtain ⟨rfl, rfl⟩ : a = L ∧ e = X := ⟨by rw [HA.out.1, HF1.out], by rw [HA.out.2, HF2.out]⟩
      go_wp2_with (go_at_call 28; (with_reducible refine (alive_calls _).mono ?_); rintro e W' ⟨rfl, hb'⟩; have HB3 := Aside0.mk hb'; clear hb')
      go_ret
      exact ⟨rfl, below_step HB2.out (below_step HB.out HB3.out)⟩
end L08
end Go.Proofs.YtoohandacpalpaaDoor
namespace Go.Proofs.YtoohandacpalpaaDoor
open Go.RowKit Go.Shelf Go.Proofs.YtoohandacpalpaaDoorW.PrintWords Go.Proofs.YtoohandacpalpaaDoorW.PrintLast Go.Proofs.YtoohandacpalpaaDoorW.PrintMore
set_option linter.unusedVariables false
set_option linter.unusedSimpArgs false
namespace L08
open L07
theorem nil_C (w : World) : kNode.C w none 0 [] := ⟨rfl, by decide, fun h => absurd h (by decide)⟩
theorem lab_nil : labB [] = [] := by decide +kernel
theorem eff_nil : effB [] = [] := by decide +kernel
set_option maxRecDepth 100000 in
set_option maxHeartbeats 4000000 in
theorem many_no (w : World) (A : Option Addr) (c : Nat) (body : List Node) (hr : kNode.C w A body.length body) (h : checkB body ≠ 0 ∨ 300 < body.length) :
    Calls Tryd.prog 9 #[.slice A body.length c] w fun e w' => e = .returned (.bool true) ∧ Below w.heap.size w w' := by
  have CK := Aside0.mk (check_calls w A c body hr)
  obtain ⟨q, hq⟩ : ∃ q, q = checkB body := ⟨_, rfl⟩
  rw [← hq] at CK h
  obtain ⟨N, hN⟩ : ∃ N, N = body.length := ⟨_, rfl⟩
  rw [← hN] at CK h ⊢
  clear hq hr hN
  have HB := Aside0.mk (Below.refl w.heap.size w)
  have fin : ∀ W, Below w.heap.size w W → Calls Tryd.prog 27 #[.slice none 0 0] W fun e w' => ∃ A1 c1 A2 c2, e = .returned (.tuple #[.slice A1 0 c1, .slice A2 0 c2]) ∧ Below W.heap.size W w' := fun W hb => by
    refine (of_calls W none 0 [] (nil_C W)).mono ?_
    rintro e w' ⟨v1, v2, rfl, r1, r2, hb'⟩
    rw [lab_nil] at r1
    rw [eff_nil] at r2
    obtain ⟨A1, c1, rfl⟩ := Kd.R_slice r1
    obtain ⟨A2, c2, rfl⟩ := Kd.R_slice r2
    exact ⟨A1, c1, A2, c2, rfl, hb'⟩
  have FIN := Aside0.mk fin
  clear fin
  by_cases h1 : 300 < N
  all_goals
    try have z1 : decide (300 < (N : Int)) = true := decide_eq_true (by omega)
    try have z1 : decide (300 < (N : Int)) = false := decide_eq_false (by omega)
    try have e0 : (q != 0) = true := bne_iff_ne.mpr (h.resolve_right h1)
    clear h h1
    go_enter Tryd.func9, Tryd.ntmps9
    go_wp2_with (first
      | (go_at_call 14; (with_reducible refine (CK.out).mono ?_); rintro e W' ⟨rfl, hb'⟩; have HB' := Aside0.mk (below_step HB.out hb'); clear HB hb'; have HB := HB'; clear HB')
      | (go_at_call 27; (with_reducible refine (FIN.out _ HB.out).mono ?_); rintro e W' ⟨A1, c1, A2, c2, rfl, hb'⟩; have HB' := Aside0.mk (below_step HB.out hb'); clear HB hb'; have HB := HB'; clear HB')
      | (go_at_call 28; (with_reducible refine (alive_calls _).mono ?_); rintro e W' ⟨rfl, hb'⟩; have HB' := Aside0.mk (below_step HB.out hb'); clear HB hb'; have HB := HB'; clear HB'))
    go_ret
    exact ⟨rfl, HB.out⟩
/-- SpotsMany: true at every input. -/
theorem many_walk (w : World) (A : Option Addr) (c : Nat) (body : List Node) (hr : Kd.C kNode w A body.length body) (hc : body.length ≤ c) (hw : ∀ n ∈ body, Node.wf n) :
    Calls Tryd.prog 9 #[.slice A body.length c] w fun e w' => e = .returned (.bool true) ∧ Below w.heap.size w w' := by
  by_cases h : checkB body = 0
  · obtain ⟨ad, rfl, -⟩ := C_nodeN hr 0 (checkB_L h).1
    exact many_yes w ad c _ body rfl hr h
  · exact many_no w A c body hr (.inl h)
end L08
end Go.Proofs.YtoohandacpalpaaDoor
