/- Terms put into a body: what the document's Put answers, and spots.Put as one contract. -/
import Derived.Test.YtbdecnagdnancaaGreatDoorR8
import Derived.Test.YtbdecnagdnancaaGreatDoorSpJ
import Derived.Test.YtbdecnagdnancaaGreatDoorBkC

namespace Go.Proofs.YtbdecnagdnancaaGreatDoor
open Go.RowKit Go.Shelf Go.Proofs.YtbdecnagdnancaaGreatDoorW.PrintWords Go.Proofs.YtbdecnagdnancaaGreatDoorW.PrintLast Go.Proofs.YtbdecnagdnancaaGreatDoorW.PrintMore
set_option linter.unusedVariables false
set_option linter.unusedSimpArgs false
/-- What Put answers. -/
def putA (body : List Node) (ls es : List Term) : List Node × Int :=
  if checkB body ≠ 0 then ([], 4) else if ls.length ≠ (labB body).length ∨ es.length ≠ (effB body).length then ([], 1) else (putB body ls es, 0)
theorem lab_part : ∀ (i : Nat) (l : List Node) (ss : List Int), ∀ x ∈ labL i l ss, x.f1 = 0 ∨ x.f1 = 1
  | i, [], ss, x, h => by cases ss <;> simp [labL] at h
  | i, n :: t, [], x, h => by simp [labL] at h
  | i, n :: t, s :: ss, x, h => by
    rw [labL] at h
    rcases List.mem_append.1 h with h | h
    · unfold labN at h
      split at h
      · simp at h
        rcases h with rfl | rfl
        · exact .inl rfl
        · exact .inr rfl
      · simp at h
        subst h
        exact .inl rfl
    · exact lab_part (i + 1) t ss x h
theorem eff_part : ∀ (i : Nat) (l : List Node) (ss : List Int), ∀ x ∈ effL i l ss, x.f1 = 2
  | i, [], ss, x, h => by cases ss <;> simp [effL] at h
  | i, n :: t, [], x, h => by simp [effL] at h
  | i, n :: t, s :: ss, x, h => by
    rw [effL] at h
    rcases List.mem_append.1 h with h | h
    · unfold effN at h
      split at h
      · simp at h
        subst h
        rfl
      · simp at h
    · exact eff_part (i + 1) t ss x h
theorem labB_spot {body : List Node} (hz : checkB body = 0) : ∀ x ∈ labB body, (x.f1 = 0 ∨ x.f1 = 1) ∧ ∃ j : Nat, x.f0 = j ∧ j < body.length := by
  intro x hx
  rw [labB, if_pos hz] at hx
  obtain ⟨j, h1, _, h2⟩ := labL_mem 0 body _ x hx
  exact ⟨lab_part 0 body _ x hx, j, h1, by omega⟩
theorem effB_spot {body : List Node} (hz : checkB body = 0) : ∀ x ∈ effB body, x.f1 = 2 ∧ ∃ j : Nat, x.f0 = j ∧ j < body.length := by
  intro x hx
  rw [effB, if_pos hz] at hx
  obtain ⟨j, h1, _, h2⟩ := effL_mem 0 body _ x hx
  exact ⟨eff_part 0 body _ x hx, j, h1, by omega⟩
theorem labP_B {body : List Node} (hz : checkB body = 0) : labP body body.length = (labB body).map partOf := by
  have hs : (sidesB body).length = body.length := sidesB_len hz 0
  rw [labB, if_pos hz, labP, List.take_of_length_le (Nat.le_refl _), List.take_of_length_le (by rw [hs]; exact Nat.le_refl _)]
theorem effP_B {body : List Node} (hz : checkB body = 0) : effP body body.length = (effB body).map partOf := by
  have hs : (sidesB body).length = body.length := sidesB_len hz 0
  rw [effB, if_pos hz, effP, List.take_of_length_le (Nat.le_refl _), List.take_of_length_le (by rw [hs]; exact Nat.le_refl _)]
theorem putB_spots {body : List Node} (hz : checkB body = 0) (ls es : List Term) (hl : ls.length = (labB body).length) (he : es.length = (effB body).length) : putRow (putRow body ((labB body).map partOf) ls) ((effB body).map partOf) es = putB body ls es := by
  rw [← labP_B hz, ← effP_B hz]
  exact putB_rows hz ls es (by rw [labP_B hz, List.length_map]; exact hl) (by rw [effP_B hz, List.length_map]; exact he)
namespace Ref08
set_option maxRecDepth 200000 in
set_option maxHeartbeats 16000000 in
theorem put_calls (w : World) (A B1 B2 : Option Addr) (n c m1 m2 d1' d2' : Nat) (body : List Node) (ls es : List Term) (hn : n = body.length) (hl : n ≤ 300) (hm1 : m1 = ls.length) (hm2 : m2 = es.length) (hr : kNode.C w A n body) (hl1 : kTerm.C w B1 m1 ls) (hl2 : kTerm.C w B2 m2 es) :
    Calls Tryz.prog 27 #[.slice A n c, .slice B1 m1 d1', .slice B2 m2 d2'] w fun e w' => (∃ A' c', e = .returned (.tuple #[.slice A' (putA body ls es).1.length c', .int .i64 (putA body ls es).2]) ∧ kNode.C w' A' (putA body ls es).1.length (putA body ls es).1) ∧ Below w.heap.size w w' := by
  have CK : Aside0 (Calls Tryz.prog 101 #[.slice A n c] w fun e w' => e = .returned (.int .i64 (checkB body)) ∧ Below w.heap.size w w') := ⟨by rw [hn] at hr ⊢; exact Ref07.check_calls w A c body (by omega) hr⟩
  have OF : Aside0 (∀ W, Below w.heap.size w W → Calls Tryz.prog 21 #[.slice A n c] W fun e w' => ∃ A1 c1 A2 c2, e = .returned (.tuple #[.slice A1 (labB body).length c1, .slice A2 (effB body).length c2]) ∧ kSpot.R 130 w' W.heap.size (fun _ => True) (.slice A1 (labB body).length c1) (labB body) ∧ kSpot.R 130 w' W.heap.size (fun _ => True) (.slice A2 (effB body).length c2) (effB body) ∧ Below W.heap.size W w') := ⟨fun W hW => of_calls W A n c body hn hl (Kd.C_below hr hW)⟩
  obtain ⟨q, hq⟩ : ∃ q, q = checkB body := ⟨_, rfl⟩
  rw [← hq] at CK
  by_cases hz : q = 0
  case neg =>
    have z1 : (q != 0) = true := bne_iff_ne.mpr hz
    have HE : Aside0 (putA body ls es = ([], 4)) := ⟨by rw [putA, if_pos (by rw [← hq]; exact hz)]⟩
    clear hq hz hr hl1 hl2 hn hm1 hm2 OF
    go_enter Tryz.func27, Tryz.ntmps27
    go_wp2_with (go_at_call 101; (with_reducible refine CK.out.mono ?_); rintro e W1 ⟨rfl, hb1⟩; have HB := Aside0.mk hb1; clear hb1)
    go_ret2
    rw [HE.out]
    exact ⟨⟨none, 0, rfl, Kd.C_nil _ _⟩, HB.out⟩
  have z1 : (q != 0) = false := by rw [hz]; rfl
  have hz' : checkB body = 0 := hq.symm.trans hz
  have HZ := Aside0.mk hz'
  have HD : Aside0 (putA body ls es = if ls.length ≠ (labB body).length ∨ es.length ≠ (effB body).length then ([], 1) else (putB body ls es, 0)) := ⟨by rw [putA, if_neg (by rw [hz']; simp)]⟩
  obtain ⟨L, hL⟩ : ∃ L, L = labB body := ⟨_, rfl⟩
  obtain ⟨X, hX⟩ : ∃ X, X = effB body := ⟨_, rfl⟩
  have HLX := Aside0.mk (And.intro hL hX)
  rw [← hL, ← hX] at OF
  obtain ⟨p1, hp1⟩ : ∃ p, p = L.length := ⟨_, rfl⟩
  obtain ⟨p2, hp2⟩ : ∃ p, p = X.length := ⟨_, rfl⟩
  rw [← hp1, ← hp2] at OF
  have HP := Aside0.mk (And.intro hp1 hp2)
  have HM := Aside0.mk (And.intro hm1 hm2)
  have hp1m : p1 ≤ 256 := by
    rw [hp1, hL, labB, if_pos hz']
    have := labL_len 0 body (sidesB body)
    have := (checkB_L hz').2.1
    omega
  have hp2m : p2 ≤ 256 := by
    rw [hp2, hX, effB, if_pos hz']
    have := effL_len 0 body (sidesB body)
    have := (checkB_L hz').2.1
    omega
  by_cases hsz : m1 = p1 ∧ m2 = p2
  case neg =>
    have HE : Aside0 (putA body ls es = ([], 1)) := ⟨by
      rw [HD.out, if_pos]
      rw [← hL, ← hX, ← hp1, ← hp2, ← hm1, ← hm2]
      by_cases h : m1 = p1
      · exact .inr (fun h2 => hsz ⟨h, h2⟩)
      · exact .inl h⟩
    clear hq hz hz' hr hl1 hl2 hn hm1 hm2 hL hX hp1 hp2 HD
    by_cases h1 : m1 = p1
    · have y1 : ((m1 : Int) != (p1 : Int)) = false := bne_eq_false_iff_eq.mpr (by omega)
      have y2 : ((m2 : Int) != (p2 : Int)) = true := bne_iff_ne.mpr (by intro h; exact hsz ⟨h1, by omega⟩)
      clear h1 hsz
      go_enter Tryz.func27, Tryz.ntmps27
      go_wp2_with (first
        | (go_at_call 101; (with_reducible refine CK.out.mono ?_); rintro e W1 ⟨rfl, hb1⟩; have HB := Aside0.mk hb1; clear hb1)
        | (go_at_call 21; (with_reducible refine (OF.out _ HB.out).mono ?_); rintro e W2 ⟨A1, c1, A2, c2, rfl, r1, r2, hb2⟩; have HB2 := Aside0.mk (below_step HB.out hb2); clear r1 r2 hb2))
      go_ret2
      rw [HE.out]
      exact ⟨⟨none, 0, rfl, Kd.C_nil _ _⟩, HB2.out⟩
    · have y1 : ((m1 : Int) != (p1 : Int)) = true := bne_iff_ne.mpr (by omega)
      clear h1 hsz
      go_enter Tryz.func27, Tryz.ntmps27
      go_wp2_with (first
        | (go_at_call 101; (with_reducible refine CK.out.mono ?_); rintro e W1 ⟨rfl, hb1⟩; have HB := Aside0.mk hb1; clear hb1)
        | (go_at_call 21; (with_reducible refine (OF.out _ HB.out).mono ?_); rintro e W2 ⟨A1, c1, A2, c2, rfl, r1, r2, hb2⟩; have HB2 := Aside0.mk (below_step HB.out hb2); clear r1 r2 hb2))
      go_ret2
      rw [HE.out]
      exact ⟨⟨none, 0, rfl, Kd.C_nil _ _⟩, HB2.out⟩
  obtain ⟨e1, e2⟩ := hsz
  subst e1 e2
  have HE : Aside0 (putA body ls es = (putB body ls es, 0)) := ⟨by
    rw [HD.out, if_neg]
    rw [← hL, ← hX, ← hp1, ← hp2, ← hm1, ← hm2]
    simp⟩
  have HPB : Aside0 (putRow (putRow body (L.map partOf) ls) (X.map partOf) es = putB body ls es) := ⟨by
    rw [hL, hX]
    exact putB_spots hz' ls es (by rw [← hL, ← hp1, ← hm1]) (by rw [← hX, ← hp2, ← hm2])⟩
  have HSP : Aside0 ((∀ x ∈ L, (x.f1 = 0 ∨ x.f1 = 1) ∧ ∃ j : Nat, x.f0 = j ∧ j < n) ∧ ∀ x ∈ X, x.f1 = 2 ∧ ∃ j : Nat, x.f0 = j ∧ j < n) := ⟨by rw [hL, hX, hn]; exact ⟨labB_spot hz', effB_spot hz'⟩⟩
  have hpos : 0 < n := by rw [hn]; exact (checkB_L hz').1
  obtain ⟨ad, rfl, -⟩ := C_nodeN (by rw [hn] at hr; exact hr) 0 (by rw [← hn]; exact hpos)
  have HR := Aside0.mk hr
  have HT := Aside0.mk (And.intro hl1 hl2)
  have HN := Aside0.mk hn
  have y1 : ((m1 : Int) != (m1 : Int)) = false := bne_self_eq_false _
  have y2 : ((m2 : Int) != (m2 : Int)) = false := bne_self_eq_false _
  have n1 : (([] : List Node) ++ body).length = n := hn.symm
  have N1 := Aside0.mk n1
  clear hq hz hz' hr hl1 hl2 hn hm1 hm2 hL hX hp1 hp2 HD n1
  go_enter Tryz.func27, Tryz.ntmps27
  go_wp2_with (first
    | (go_at_call 101; (with_reducible refine CK.out.mono ?_); rintro e W1 ⟨rfl, hb1⟩; have HB := Aside0.mk hb1; clear hb1)
    | (go_at_call 21; (with_reducible refine (OF.out _ HB.out).mono ?_); rintro e W2 ⟨A1, c1, A2, c2, rfl, r1, r2, hb2⟩; have HB2 := Aside0.mk (below_step HB.out hb2); have R1 := Aside0.mk r1; have R2 := Aside0.mk r2; clear r1 r2 hb2)
    | (at_builtin; refine wpList_append_R rfl kNode W2.heap.size (.const (.slice none 0 0)) (.tmp 33) 49 49 122 122 (.agg #[.int .u8 0, .int .i64 0, .string ⟨#[]⟩, .int .i64 0, .bool false, .int .u64 0, .bool false, .int .u64 0, .bool false, .int .u64 0]) 88 rfl (by kernel_rfl) (by kernel_rfl) L07.infoN rfl (by decide) (by decide) (.slice none 0 0) [] body (some ad) n c (fun _ => True) (fun _ => False) rfl rfl (Kd.R_nil _ _ _ _ _) (Kd.C_below HR.out HB2.out) (fun x cs h => nodeM h) (fun _ h => h.elim) (fun _ _ => trivial) (Nat.le_refl _) (by simp; omega) ?_; intro v1 w1 HO1 hg1 hat; rw [List.nil_append] at HO1; obtain ⟨A3, c3, rfl⟩ := Kd.R_slice HO1; rw [← HN.out] at HO1 ⊢; have HB3 := Aside0.mk ((Below.refl W2.heap.size W2).grown hg1 (Nat.le_refl _) (fun k hk => by cases hk)); have HO := Aside0.mk HO1; clear HO1 hg1 hat))
  obtain ⟨g, hg⟩ := R_pos HO.out hpos
  cases hg
  go_loopg [11] (m1 + 1) (fun gk i W => ∃ k : Nat, i = .int .i64 (k : Int) ∧ k ≤ m1 ∧ m1 + 1 - k ≤ gk ∧ Aside0 (kNode.R 122 W W2.heap.size (fun _ => True) (.slice (some ⟨g, 0, none⟩) n c3) (putRow body ((L.map partOf).take k) (ls.take k))) ∧ Aside0 (Below W2.heap.size W2 W))
  case atStart => exact ⟨0, rfl, Nat.zero_le _, by omega, ⟨by simpa [putRow] using HO.out⟩, HB3⟩
  case round =>
    clear HO HB3
    obtain ⟨k, rfl, hk, hkg, HO, HB3⟩ := hrel
    rcases Nat.lt_or_ge k m1 with hlt | hge
    · have hd : decide (k < m1) = true := decide_eq_true hlt
      have hkl : k < L.length := by rw [← HP.out.1]; exact hlt
      have hkt : k < ls.length := by rw [← HM.out.1]; exact hlt
      obtain ⟨sd, se, s0, s1, s2, s3, s4⟩ := C_spotN (Kd.C_below (Kd.R_reads' R1.out).2.2 HB3.out) k hkl
      obtain ⟨x, hx⟩ : ∃ x, x = L[k] := ⟨_, rfl⟩
      obtain ⟨hpart, j, hj, hjb⟩ := HSP.out.1 L[k] (List.getElem_mem _)
      rw [← hx] at s0 s1 hpart hj
      obtain ⟨x0, x1, x2, x3⟩ := x
      simp only at s0 s1 hpart hj
      subst hj
      have HXK := Aside0.mk hx
      have hol : (putRow body ((L.map partOf).take k) (ls.take k)).length = n := by rw [putRow_len, HN.out]
      obtain ⟨⟨u0, o0⟩, ⟨u1, o1⟩, of, hBg, cells, hgc⟩ := node_cells HO.out j (by rw [hol]; exact hjb) x1
      obtain ⟨td, te, t0, t1⟩ := C_termN (Kd.C_below (by rw [← HM.out.1]; exact HT.out.1) (below_step HB2.out HB3.out)) k hkt
      obtain ⟨t, ht⟩ : ∃ t, t = ls[k] := ⟨_, rfl⟩
      rw [← ht] at t0 t1
      have HTT := Aside0.mk ht
      have HBG := Aside0.mk hBg
      have hjn : (j : Int) < (n : Int) := by omega
      clear hx ht s2 s3 s4 hBg hgc
      cases se
      cases te
      have hnext : Aside0 (∀ W, kNode.R 122 W W2.heap.size (fun _ => True) (.slice (some ⟨g, 0, none⟩) n c3) (putRow body ((L.map partOf).take k) (ls.take k)) → kNode.R 122 ((W.setCell ⟨g, j * 10 + partOff x1, none⟩ (.bool t.f0)).setCell ⟨g, j * 10 + partOff x1 + 1, none⟩ (.int .u64 t.f1)) W2.heap.size (fun _ => True) (.slice (some ⟨g, 0, none⟩) n c3) (putRow body ((L.map partOf).take (k + 1)) (ls.take (k + 1)))) := ⟨fun W h => by
        rw [putRow_next _ _ _ k (by rw [List.length_map]; exact hkl) hkt, List.getElem_map, ← HXK.out, ← HTT.out]
        show kNode.R _ _ _ _ _ (putOne _ ((j : Int), x1, x2) t)
        rw [putOne_set _ j x1 x2 t (by rw [hol]; exact hjb)]
        exact node_term h j (by rw [hol]; exact hjb) x1 t⟩
      clear hol
      rcases hpart with rfl | rfl
      · have o0' : wr.cell? ⟨g, j * 10 + 4, none⟩ = some (.bool u0) := o0
        have o1' : wr.cell? ⟨g, j * 10 + 4 + 1, none⟩ = some (.int .u64 u1) := o1
        clear o0 o1
        go_wp2
        go_region_with (fail)
        all_goals (
          go_wp2
          go_roundg (gk - 1)
          case measure => omega
          case rel => exact ⟨k + 1, by go_num, by omega, by omega, ⟨hnext.out _ HO.out⟩, ⟨by repeat (first | exact HB3.out | exact HBG.out | refine Below.drew ?_ | refine below_set ?_ _ ?_)⟩⟩)
      · have o0' : wr.cell? ⟨g, j * 10 + 6, none⟩ = some (.bool u0) := o0
        have o1' : wr.cell? ⟨g, j * 10 + 6 + 1, none⟩ = some (.int .u64 u1) := o1
        clear o0 o1
        go_wp2
        go_region_with (fail)
        all_goals (
          go_wp2
          go_roundg (gk - 1)
          case measure => omega
          case rel => exact ⟨k + 1, by go_num, by omega, by omega, ⟨hnext.out _ HO.out⟩, ⟨by repeat (first | exact HB3.out | exact HBG.out | refine Below.drew ?_ | refine below_set ?_ _ ?_)⟩⟩)
    · have hd : decide (k < m1) = false := decide_eq_false (by omega)
      obtain rfl : m1 = k := by omega
      have HO1 := HO.out
      rw [List.take_of_length_le (by rw [List.length_map, ← HP.out.1]; exact Nat.le_refl _), List.take_of_length_le (by rw [← HM.out.1]; exact Nat.le_refl _)] at HO1
      clear HO
      have HO := Aside0.mk HO1
      clear HO1 hd hge hkg hk
      go_wp2
      go_loopg [12] (m2 + 1) (fun gk i W => ∃ k : Nat, i = .int .i64 (k : Int) ∧ k ≤ m2 ∧ m2 + 1 - k ≤ gk ∧ Aside0 (kNode.R 122 W W2.heap.size (fun _ => True) (.slice (some ⟨g, 0, none⟩) n c3) (putRow (putRow body (L.map partOf) ls) ((X.map partOf).take k) (es.take k))) ∧ Aside0 (Below W2.heap.size W2 W))
      case atStart => exact ⟨0, rfl, Nat.zero_le _, by omega, ⟨by simpa [putRow] using HO.out⟩, HB3⟩
      case round =>
        clear HO HB3
        obtain ⟨k, rfl, hk, hkg, HO, HB3⟩ := hrel
        rcases Nat.lt_or_ge k m2 with hlt | hge
        · have hd : decide (k < m2) = true := decide_eq_true hlt
          have hkl : k < X.length := by rw [← HP.out.2]; exact hlt
          have hkt : k < es.length := by rw [← HM.out.2]; exact hlt
          obtain ⟨sd, se, s0, s1, s2, s3, s4⟩ := C_spotN (Kd.C_below (Kd.R_reads' R2.out).2.2 HB3.out) k hkl
          obtain ⟨x, hx⟩ : ∃ x, x = X[k] := ⟨_, rfl⟩
          obtain ⟨hpart, j, hj, hjb⟩ := HSP.out.2 X[k] (List.getElem_mem _)
          rw [← hx] at s0 s1 hpart hj
          obtain ⟨x0, x1, x2, x3⟩ := x
          simp only at s0 s1 hpart hj
          subst hj
          subst hpart
          have HXK := Aside0.mk hx
          have hol : (putRow (putRow body (L.map partOf) ls) ((X.map partOf).take k) (es.take k)).length = n := by rw [putRow_len, putRow_len, HN.out]
          obtain ⟨⟨u0, o0⟩, ⟨u1, o1⟩, of, hBg, cells, hgc⟩ := node_cells HO.out j (by rw [hol]; exact hjb) 2
          obtain ⟨td, te, t0, t1⟩ := C_termN (Kd.C_below (by rw [← HM.out.2]; exact HT.out.2) (below_step HB2.out HB3.out)) k hkt
          obtain ⟨t, ht⟩ : ∃ t, t = es[k] := ⟨_, rfl⟩
          rw [← ht] at t0 t1
          have HTT := Aside0.mk ht
          have HBG := Aside0.mk hBg
          have hjn : (j : Int) < (n : Int) := by omega
          clear hx ht s1 s2 s3 s4 hBg hgc
          cases se
          cases te
          have hnext : Aside0 (∀ W, kNode.R 122 W W2.heap.size (fun _ => True) (.slice (some ⟨g, 0, none⟩) n c3) (putRow (putRow body (L.map partOf) ls) ((X.map partOf).take k) (es.take k)) → kNode.R 122 ((W.setCell ⟨g, j * 10 + partOff 2, none⟩ (.bool t.f0)).setCell ⟨g, j * 10 + partOff 2 + 1, none⟩ (.int .u64 t.f1)) W2.heap.size (fun _ => True) (.slice (some ⟨g, 0, none⟩) n c3) (putRow (putRow body (L.map partOf) ls) ((X.map partOf).take (k + 1)) (es.take (k + 1)))) := ⟨fun W h => by
            rw [putRow_next _ _ _ k (by rw [List.length_map]; exact hkl) hkt, List.getElem_map, ← HXK.out, ← HTT.out]
            show kNode.R _ _ _ _ _ (putOne _ ((j : Int), 2, x2) t)
            rw [putOne_set _ j 2 x2 t (by rw [hol]; exact hjb)]
            exact node_term h j (by rw [hol]; exact hjb) 2 t⟩
          clear hol
          have o0' : wr.cell? ⟨g, j * 10 + 8, none⟩ = some (.bool u0) := o0
          have o1' : wr.cell? ⟨g, j * 10 + 8 + 1, none⟩ = some (.int .u64 u1) := o1
          clear o0 o1
          go_wp2
          go_region_with (fail)
          all_goals (
            go_wp2
            go_roundg (gk - 1)
            case measure => omega
            case rel => exact ⟨k + 1, by go_num, by omega, by omega, ⟨hnext.out _ HO.out⟩, ⟨by repeat (first | exact HB3.out | exact HBG.out | refine Below.drew ?_ | refine below_set ?_ _ ?_)⟩⟩)
        · have hd : decide (k < m2) = false := decide_eq_false (by omega)
          obtain rfl : m2 = k := by omega
          have HO1 := HO.out
          rw [List.take_of_length_le (by rw [List.length_map, ← HP.out.2]; exact Nat.le_refl _), List.take_of_length_le (by rw [← HM.out.2]; exact Nat.le_refl _), HPB.out] at HO1
          have hlen : n = (putB body ls es).length := R_len HO1
          have HC := Aside0.mk (Kd.R_reads' HO1).2.2
          have HLN := Aside0.mk hlen
          clear HO1 hlen
          go_wp2
          go_ret2
          rw [HE.out]
          exact ⟨⟨some ⟨g, 0, none⟩, c3, by rw [← HLN.out]; rfl, HC.out⟩, below_step HB2.out HB3.out⟩
end Ref08
/-- spots.Put as one contract. -/
theorem sput_calls (w : World) (A B1 B2 : Option Addr) (n c m1 m2 d1' d2' : Nat) (body : List Node) (ls es : List Term) (hn : n = body.length) (hm1 : m1 = ls.length) (hm2 : m2 = es.length) (hr : kNode.C w A n body) (hl1 : kTerm.C w B1 m1 ls) (hl2 : kTerm.C w B2 m2 es) :
    Calls Tryz.prog 26 #[.slice A n c, .slice B1 m1 d1', .slice B2 m2 d2'] w fun e w' => (∃ A' c', e = .returned (.tuple #[.slice A' (putA body ls es).1.length c', .int .i64 (putA body ls es).2]) ∧ Bk.RC kNode 122 w' w.heap.size A' (putA body ls es).1.length c' (putA body ls es).1) ∧ Below w.heap.size w w' := by
  subst hn
  by_cases hz : checkB body = 0
  case neg =>
    have e1 : putA body ls es = ([], 4) := by rw [putA, if_pos hz]
    rw [e1]
    exact (put_bad w A c body hr B1 B2 m1 d1' m2 d2' hz).mono fun e w' ⟨h1, h2⟩ => ⟨⟨none, 0, h1, .of (Kd.R_nil _ _ _ _ _)⟩, h2⟩
  obtain ⟨ad, rfl, -⟩ := C_nodeN hr 0 (checkB_L hz).1
  have l1 : (labP body body.length).length = (labB body).length := by rw [labP_B hz, List.length_map]
  have l2 : (effP body body.length).length = (effB body).length := by rw [effP_B hz, List.length_map]
  by_cases hs : ls.length ≠ (labB body).length ∨ es.length ≠ (effB body).length
  · have e1 : putA body ls es = ([], 1) := by rw [putA, if_neg (by simpa using hz), if_pos hs]
    rw [e1]
    exact (put_arg w ad c body.length body rfl hr B1 B2 m1 d1' m2 d2' _ _ hz rfl rfl (by rw [l1, l2, hm1, hm2]; omega)).mono fun e w' ⟨h1, h2⟩ => ⟨⟨none, 0, h1, .of (Kd.R_nil _ _ _ _ _)⟩, h2⟩
  · have e1 : putA body ls es = (putB body ls es, 0) := by rw [putA, if_neg (by simpa using hz), if_neg hs]
    rw [e1]
    have hh : m1 = (labP body body.length).length ∧ m2 = (effP body body.length).length := by rw [l1, l2, hm1, hm2]; omega
    refine (put_ok w ad c body.length body rfl hr B1 B2 d1' d2' m1 m2 ls es (by rw [← hm1]; exact hl1) (by rw [← hm2]; exact hl2) hz hh.1 hh.2 hm1 hm2).mono ?_
    rintro e w' ⟨g, c1, rfl, hR, hb⟩
    have hlen : body.length = (putB body ls es).length := R_len hR
    refine ⟨⟨some ⟨g, 0, none⟩, body.length, ?_, c1, ?_, ?_⟩, hb⟩
    · rw [← hlen]
    · have := (Kd.R_reads' hR).2.1
      omega
    · rw [← hlen]
      exact hR
end Go.Proofs.YtbdecnagdnancaaGreatDoor
