/- The law GroundsMove: a walk through its code at every input. -/
import Derived.Test.YtkndpgbpdidlgaaDoorL09B
import Derived.Test.YtkndpgbpdidlgaaDoorGrV
import Derived.Test.YtkndpgbpdidlgaaDoorTm
namespace Go.Proofs.YtkndpgbpdidlgaaDoor
open Go.RowKit Go.Proofs.YtkndpgbpdidlgaaDoorW.PrintWords Go.Proofs.YtkndpgbpdidlgaaDoorW.PrintLast Go.Proofs.YtkndpgbpdidlgaaDoorW.PrintMore
set_option linter.unusedVariables false
set_option linter.unusedSimpArgs false
namespace L09
theorem putLab_wf : ∀ (l : List Node) (ts : List Term), (∀ n ∈ l, Node.wf n) → (∀ t ∈ ts, Term.wf t) → ∀ n ∈ putLab l ts, Node.wf n
  | [], ts, _, _, n, hn => by cases ts <;> cases hn
  | m :: l, [], h, _, n, hn => h n hn
  | m :: l, [a], h, ht, n, hn => by
    by_cases h5 : m.f0 = 5
    · rw [putLab.eq_def] at hn
      simp only [h5, if_pos] at hn
      exact h n hn
    · rw [putLab_other h5] at hn
      rcases List.mem_cons.1 hn with rfl | hn
      · obtain ⟨h1, h2, h3, h4, h6, h7, h8⟩ := h m List.mem_cons_self
        exact ⟨h1, h2, h3, h4, ht a List.mem_cons_self, h7, h8⟩
      · exact putLab_wf l [] (fun n hn => h n (List.mem_cons_of_mem _ hn)) (fun _ h => by cases h) n hn
  | m :: l, a :: b :: ts, h, ht, n, hn => by
    obtain ⟨h1, h2, h3, h4, h6, h7, h8⟩ := h m List.mem_cons_self
    by_cases h5 : m.f0 = 5
    · rw [putLab_fun h5] at hn
      rcases List.mem_cons.1 hn with rfl | hn
      · exact ⟨h1, h2, h3, h4, ht a List.mem_cons_self, ht b (List.mem_cons_of_mem _ List.mem_cons_self), h8⟩
      · exact putLab_wf l ts (fun n hn => h n (List.mem_cons_of_mem _ hn)) (fun t h => ht t (List.mem_cons_of_mem _ (List.mem_cons_of_mem _ h))) n hn
    · rw [putLab_other h5] at hn
      rcases List.mem_cons.1 hn with rfl | hn
      · exact ⟨h1, h2, h3, h4, ht a List.mem_cons_self, h7, h8⟩
      · exact putLab_wf l (b :: ts) (fun n hn => h n (List.mem_cons_of_mem _ hn)) (fun t h => ht t (List.mem_cons_of_mem _ h)) n hn
theorem putEff_wf : ∀ (l : List Node) (ts : List Term), (∀ n ∈ l, Node.wf n) → (∀ t ∈ ts, Term.wf t) → ∀ n ∈ putEff l ts, Node.wf n
  | [], ts, _, _, n, hn => by cases ts <;> cases hn
  | m :: l, [], h, ht, n, hn => by
    by_cases h5 : m.f0 = 5
    · rw [putEff.eq_def] at hn
      simp only [h5, if_pos] at hn
      exact h n hn
    · rw [putEff_other h5] at hn
      rcases List.mem_cons.1 hn with rfl | hn
      · exact h n List.mem_cons_self
      · exact putEff_wf l [] (fun n hn => h n (List.mem_cons_of_mem _ hn)) ht n hn
  | m :: l, a :: ts, h, ht, n, hn => by
    obtain ⟨h1, h2, h3, h4, h6, h7, h8⟩ := h m List.mem_cons_self
    by_cases h5 : m.f0 = 5
    · rw [putEff_fun h5] at hn
      rcases List.mem_cons.1 hn with rfl | hn
      · exact ⟨h1, h2, h3, h4, h6, h7, ht a List.mem_cons_self⟩
      · exact putEff_wf l ts (fun n hn => h n (List.mem_cons_of_mem _ hn)) (fun t h => ht t (List.mem_cons_of_mem _ h)) n hn
    · rw [putEff_other h5] at hn
      rcases List.mem_cons.1 hn with rfl | hn
      · exact ⟨h1, h2, h3, h4, h6, h7, h8⟩
      · exact putEff_wf l (a :: ts) (fun n hn => h n (List.mem_cons_of_mem _ hn)) ht n hn
theorem lab_wfT {a : List Node} (hw : ∀ n ∈ a, Node.wf n) : ∀ t ∈ (labB a).map (·.f3), Term.wf t := fun t ht => by
  obtain ⟨x, hx, rfl⟩ := List.mem_map.1 ht
  unfold labB at hx
  split at hx
  · obtain ⟨⟨n, hn, e⟩, _⟩ := labL_all _ _ _ x hx
    have h2 := hw n hn
    rcases e with e | e <;> rw [e]
    · exact h2.2.2.2.2.1
    · exact h2.2.2.2.2.2.1
  · cases hx
theorem eff_wfT {a : List Node} (hw : ∀ n ∈ a, Node.wf n) : ∀ t ∈ (effB a).map (·.f3), Term.wf t := fun t ht => by
  obtain ⟨x, hx, rfl⟩ := List.mem_map.1 ht
  unfold effB at hx
  split at hx
  · obtain ⟨⟨n, hn, e⟩, _⟩ := effL_all _ _ _ x hx
    rw [e]
    exact (hw n hn).2.2.2.2.2.2
  · cases hx
theorem moveB_wf {a : List Node} (hw : ∀ n ∈ a, Node.wf n) (k : Nat) (v : Int) (hv : (Lit.int .u64 v).wf = true) : ∀ n ∈ moveB a k v, Node.wf n := by
  refine putEff_wf _ _ (putLab_wf _ _ hw fun t ht => ?_) (eff_wfT hw)
  rcases List.mem_or_eq_of_mem_set ht with h | h
  · exact lab_wfT hw t h
  · rw [h]
    exact hv
set_option maxRecDepth 100000 in
set_option maxHeartbeats 16000000 in
theorem move_walk (w : World) (ht : TabAt 0 Lib.deBruijn64tab w) (y2 : BodyY × Int × Int) (h2 : y2.1.ok w ∧ (Lit.int .u16 y2.2.1).wf = true ∧ (Lit.int .u64 y2.2.2).wf = true) (y : SortsY) (hy : y.ok w) :
    Calls Tryd.prog 10 #[.agg #[y2.1.v, .int .u16 y2.2.1, .int .u64 y2.2.2], y.v] w fun e w' => e = .returned (.bool true) ∧ Below w.heap.size w w' := by
  obtain ⟨D, f, rows, m⟩ := y
  obtain ⟨⟨A, d, a⟩, at_, v⟩ := y2
  obtain ⟨⟨-, hr, hwa⟩, hat, hwv⟩ := h2
  obtain ⟨-, hs, hU, -⟩ := hy
  simp only at hr hwa hs hU hat hwv
  simp only [SortsY.v, BodyY.v]
  have hv0 := u64_wf hwv
  have hat0 : 0 ≤ at_ ∧ at_ ≤ 65535 := by simpa [Lit.wf, IntKind.min, IntKind.max, IntKind.bits, IntKind.signed] using hat
  obtain ⟨t, rfl⟩ := Int.eq_ofNat_of_zero_le hat0.1
  have ht16 : t ≤ 65535 := by omega
  have HT := Aside0.mk ht
  have HR := Aside0.mk hr
  have HWA := Aside0.mk hwa
  have HWV := Aside0.mk hwv
  have HV0 := Aside0.mk hv0
  have HZ := Aside0.mk hs
  have HU := Aside0.mk hU
  obtain ⟨n, hn⟩ : ∃ n, n = a.length := ⟨_, rfl⟩
  obtain ⟨q, hq⟩ : ∃ q, q = rows.length := ⟨_, rfl⟩
  have HN := Aside0.mk hn
  have HQ := Aside0.mk hq
  rw [← hn, ← hq]
  obtain ⟨O1, hO1⟩ : ∃ O : Obj, O = .cells #[.slice A n d, .int .u16 (t : Int), .int .u64 v] 76 := ⟨_, rfl⟩
  obtain ⟨O, hO⟩ : ∃ O : Obj, O = .cells #[.slice D q f, .int .i64 m] 25 := ⟨_, rfl⟩
  have HB := Aside0.mk (below_alloc (below_alloc (Below.refl w.heap.size w) O1) O)
  have g1 : ((w.alloc O1).alloc O).heap[w.heap.size]? = some O1 := blk_alloc (blk_new w _) _
  have g2 : ((w.alloc O1).alloc O).heap[w.heap.size + 1]? = some O := by have := blk_new (w.alloc O1) O; rwa [World.size_alloc] at this
  subst hO hO1
  have c0 := (blk_cell g1 0).trans (show _ = some (Value.slice A n d) from rfl)
  have c1 := (blk_cell g1 1).trans (show _ = some (Value.int .u16 (t : Int)) from rfl)
  have c2 := (blk_cell g1 2).trans (show _ = some (Value.int .u64 v) from rfl)
  have c3 := (blk_cell g2 0).trans (show _ = some (Value.slice D q f) from rfl)
  have c4 := (blk_cell g2 1).trans (show _ = some (Value.int .i64 m) from rfl)
  clear g1 g2 ht hr hwa hs hU hn hq hat hwv hv0 hat0
  by_cases hb : 64 < q ∨ 200 < n ∨ 200 < 0
  · have HE : Aside0 (decide (64 < q ∨ 200 < n ∨ 200 < 0) = true) := ⟨decide_eq_true hb⟩
    clear hb
    go_enter Tryd.func10, Tryd.ntmps10
    go_wp2_with (first | (go_at_call 11; (with_reducible refine (great_calls _ _ _ _ _ _ _ _ _ _ _).mono ?_); rintro e W' ⟨rfl, hb'⟩; replace c0 := pw_cell_below hb' c0; replace c1 := pw_cell_below hb' c1; replace c2 := pw_cell_below hb' c2; replace c3 := pw_cell_below hb' c3; replace c4 := pw_cell_below hb' c4; have HB' := Aside0.mk (below_step HB.out hb'); clear HB hb'; have HB := HB'; clear HB'; rw [HE.out]) | (go_at_call 12; (with_reducible refine (alive_calls _ ⟨tab_below HB.out HT.out⟩).mono ?_); rintro e W' ⟨rfl, hb'⟩; replace c0 := pw_cell_below hb' c0; replace c1 := pw_cell_below hb' c1; replace c2 := pw_cell_below hb' c2; replace c3 := pw_cell_below hb' c3; replace c4 := pw_cell_below hb' c4; have HB' := Aside0.mk (below_step HB.out hb'); clear HB hb'; have HB := HB'; clear HB'))
    go_ret
    exact ⟨rfl, HB.out⟩
  have HE : Aside0 (decide (64 < q ∨ 200 < n ∨ 200 < 0) = false) := ⟨decide_eq_false hb⟩
  clear hb
  go_enter Tryd.func10, Tryd.ntmps10
  go_wp2_with (go_at_call 11; (with_reducible refine (great_calls _ _ _ _ _ _ _ _ _ _ _).mono ?_); rintro e W' ⟨rfl, hb'⟩; replace c0 := pw_cell_below hb' c0; replace c1 := pw_cell_below hb' c1; replace c2 := pw_cell_below hb' c2; replace c3 := pw_cell_below hb' c3; replace c4 := pw_cell_below hb' c4; have HB' := Aside0.mk (below_step HB.out hb'); clear HB hb'; have HB := HB'; clear HB'; rw [HE.out])
  refine (of_calls _ D f q rows m HQ.out (Kd.C_below (by rw [HQ.out]; exact HZ.out) HB.out) HU.out ⟨tab_below HB.out HT.out⟩).mono ?_
  rintro e W2 ⟨hb', v1, v2, rfl, hl, hx⟩
  replace c0 := pw_cell_below hb' c0; replace c1 := pw_cell_below hb' c1; replace c2 := pw_cell_below hb' c2
  have HB' := Aside0.mk (below_step HB.out hb'); clear HB hb'; have HB := HB'; clear HB'
  clear c3 c4
  have hra := Kd.C_below HR.out HB.out
  rw [← HN.out] at hra
  obtain ⟨o, ho⟩ : ∃ o, o = latO rows := ⟨_, rfl⟩
  obtain ⟨p, hp⟩ : ∃ p, p = effO m := ⟨_, rfl⟩
  rw [← ho] at hl
  rw [← hp] at hx
  have HSL : Aside0 (SortOk (hasLat o) (leLat o)) := ⟨by rw [ho]; exact latO_ok rows HU.out⟩
  have HSX : Aside0 (SortOk (hasEff p) (leEff p)) := ⟨eff_ok p⟩
  clear ho hp
  obtain ⟨r1, h1⟩ : ∃ r, groundB (hasLat o) (hasEff p) (leLat o) (leEff p) a a = r := ⟨_, rfl⟩
  have HLX := Aside0.mk (And.intro hl hx)
  have H1 := Aside0.mk h1
  go_wp2_with fail
  refine (ground_named _ A A d d n n a a v1 v2 o p r1 h1 HN.out HN.out hra hra HWA.out HWA.out hl hx).mono ?_
  rintro e W3 ⟨rfl, hb'⟩
  clear h1 hl hx
  replace hra := Kd.C_below hra hb'
  have HLX' := Aside0.mk (And.intro (HLX.out.1.kept hb') (HLX.out.2.kept hb'))
  clear HLX
  replace c0 := pw_cell_below hb' c0; replace c1 := pw_cell_below hb' c1; replace c2 := pw_cell_below hb' c2
  have HB' := Aside0.mk (below_step HB.out hb'); clear HB hb'; have HB := HB'; clear HB'
  obtain ⟨i1, e1⟩ := r1
  have hra' := hra
  rw [HN.out] at hra'
  go_wp2_with fail
  have OF := Go.Proofs.YtkndpgbpdidlgaaDoor.of_calls W3 A d a hra'
  rw [← HN.out] at OF
  refine OF.mono ?_
  clear OF
  rintro e W4 ⟨u1, u2, rfl, s1, s2, hb'⟩
  obtain ⟨A1, d1, rfl⟩ := Kd.R_slice s1
  obtain ⟨A2, d2, rfl⟩ := Kd.R_slice s2
  obtain ⟨la, hla⟩ : ∃ l, l = labB a := ⟨_, rfl⟩
  obtain ⟨xa, hxa⟩ : ∃ l, l = effB a := ⟨_, rfl⟩
  have HLA := Aside0.mk hla
  have HXA := Aside0.mk hxa
  have q1 : la.length ≤ 256 := by rw [hla]; exact labB_max a
  have q2 : xa.length ≤ 256 := by rw [hxa]; exact effB_max a
  replace s1 := (Kd.R_reads' s1).2.2
  replace s2 := (Kd.R_reads' s2).2.2
  rw [← hla] at s1 ⊢
  rw [← hxa] at s2 ⊢
  obtain ⟨L, hL⟩ : ∃ L, L = la.length := ⟨_, rfl⟩
  obtain ⟨X, hX⟩ : ∃ X, X = xa.length := ⟨_, rfl⟩
  rw [← hL] at s1 q1 ⊢
  rw [← hX] at s2 q2 ⊢
  have HL := Aside0.mk hL
  have HX := Aside0.mk hX
  have HLX := Aside0.mk (And.intro (HLX'.out.1.kept hb') (HLX'.out.2.kept hb'))
  replace hra := Kd.C_below hra hb'
  have HRA := Aside0.mk hra
  have HS := Aside0.mk (And.intro s1 s2)
  replace c0 := pw_cell_below hb' c0; replace c1 := pw_cell_below hb' c1; replace c2 := pw_cell_below hb' c2
  have HB' := Aside0.mk (below_step HB.out hb'); clear HB hb'; have HB := HB'; clear HB'
  clear hra hra' s1 s2 hla hxa hL hX HLX' 
  by_cases q3 : e1 = 0
  rotate_left
  · have z1 : (e1 != 0) = true := bne_iff_ne.mpr q3
    clear q3
    go_wp2_with (go_at_call 12; (with_reducible refine (alive_calls _ ⟨tab_below HB.out HT.out⟩).mono ?_); rintro e W' ⟨rfl, hb'⟩; replace c0 := pw_cell_below hb' c0; replace c1 := pw_cell_below hb' c1; replace c2 := pw_cell_below hb' c2; have HB' := Aside0.mk (below_step HB.out hb'); clear HB hb'; have HB := HB'; clear HB')
    go_ret
    exact ⟨rfl, HB.out⟩
  subst q3
  by_cases q3 : L = 0
  · subst q3
    go_wp2_with (go_at_call 12; (with_reducible refine (alive_calls _ ⟨tab_below HB.out HT.out⟩).mono ?_); rintro e W' ⟨rfl, hb'⟩; replace c0 := pw_cell_below hb' c0; replace c1 := pw_cell_below hb' c1; replace c2 := pw_cell_below hb' c2; have HB' := Aside0.mk (below_step HB.out hb'); clear HB hb'; have HB := HB'; clear HB')
    go_ret
    exact ⟨rfl, HB.out⟩
  have z0 : ((L : Int) == 0) = false := beq_eq_false_iff_ne.mpr (by omega)
  obtain ⟨h, hh⟩ : ∃ h, hasLat o v = h := ⟨_, rfl⟩
  have HHH := Aside0.mk hh
  have HS1 : Aside0 (∀ W, Below W4.heap.size W4 W → Calls Tryd.prog 27 #[v1, .int .u64 v] W fun e w' => e = .returned (.bool h) ∧ Below W.heap.size W w') := ⟨fun W hb => by rw [← hh]; exact hasLb_calls W v1 o v HV0.out.1 (HLX.out.1.kept hb)⟩
  have HB4 := HB
  clear HB hh
  have HB := Aside0.mk (Below.refl W4.heap.size W4)
  cases h with
  | false =>
    go_wp2_with (first | (go_at_call 27; (with_reducible refine (HS1.out _ HB.out).mono ?_); rintro e W' ⟨rfl, hb'⟩; replace c0 := pw_cell_below hb' c0; replace c1 := pw_cell_below hb' c1; replace c2 := pw_cell_below hb' c2; have HB' := Aside0.mk (below_step HB.out hb'); clear HB hb'; have HB := HB'; clear HB') | (go_at_call 12; (with_reducible refine (alive_calls _ ⟨tab_below (below_step HB4.out HB.out) HT.out⟩).mono ?_); rintro e W' ⟨rfl, hb'⟩; replace c0 := pw_cell_below hb' c0; replace c1 := pw_cell_below hb' c1; replace c2 := pw_cell_below hb' c2; have HB' := Aside0.mk (below_step HB.out hb'); clear HB hb'; have HB := HB'; clear HB'))
    go_ret
    exact ⟨rfl, below_step HB4.out HB.out⟩
  | true =>
  obtain ⟨kk, hkk⟩ : ∃ k, k = t % L := ⟨_, rfl⟩
  have hkl : kk < L := by rw [hkk]; exact Nat.mod_lt _ (by omega)
  have hrem : (t : Int) % (L : Int) = (kk : Int) := by rw [hkk]; exact (Int.natCast_emod t L).symm
  clear hkk
  obtain ⟨ad1, rfl, -⟩ := C_spotN (by rw [← HL.out]; exact HS.out.1) kk (by rw [← HL.out]; exact hkl)
  have hpos : 0 < n := by
    have h := HL.out
    rw [HLA.out] at h
    unfold labB at h
    split at h
    · rename_i h0
      have := (checkB_L h0).1
      rw [HN.out]
      exact this
    · simp at h; omega
  obtain ⟨ad, rfl, -⟩ := C_nodeN (by rw [← HN.out]; exact HRA.out) 0 (by rw [← HN.out]; exact hpos)
  go_wp2_with fail
  refine (HS1.out _ HB.out).mono ?_
  rintro e W5 ⟨rfl, hb'⟩
  replace c0 := pw_cell_below hb' c0; replace c1 := pw_cell_below hb' c1; replace c2 := pw_cell_below hb' c2
  have HB' := Aside0.mk (below_step HB.out hb'); clear HB hb'; have HB := HB'; clear HB'
  obtain ⟨ad1', e', b0, b1, b2, b3, b4⟩ := C_spotN (by rw [← HL.out]; exact Kd.C_below HS.out.1 HB.out) kk (by rw [← HL.out]; exact hkl)
  cases e'
  obtain ⟨x, hx⟩ : ∃ x, x = la[kk]'(by rw [← HL.out]; exact hkl) := ⟨_, rfl⟩
  rw [← hx] at b0 b1 b2 b3 b4
  have HX0 := Aside0.mk hx
  have c3 := b2
  have HC5 : Aside0 (w.heap.size < W5.heap.size) := ⟨World.block_lt_of_cell? _ _ c0⟩
  have HC6 : Aside0 ((ad1.add (kk * 5)).block < W5.heap.size) := ⟨World.block_lt_of_cell? _ ⟨(ad1.add (kk * 5)).block, (ad1.add (kk * 5)).off + 2, none⟩ b2⟩
  have HB5 := HB
  clear hx HB b0 b1 b2 b3
  have HB := Aside0.mk (Below.refl W5.heap.size W5)
  go_wp2
  rw [hrem]
  clear hrem
  go_loopg [13, 15] (L + 1) (fun g a i W => ∃ (k : Nat) (A7 : Option Addr) (c7 : Nat), i = .int .i64 (k : Int) ∧ a = .slice A7 k c7 ∧ k ≤ L ∧ L + 1 - k ≤ g ∧ Aside0 (kTerm.R 63 W W5.heap.size (fun _ => True) (.slice A7 k c7) ((la.take k).map (·.f3))) ∧ Aside0 (Below W5.heap.size W5 W))
  case atStart => exact ⟨0, none, 0, rfl, rfl, by omega, by omega, ⟨Kd.R_nil _ _ _ _ _⟩, HB⟩
  case round =>
    clear HB
    obtain ⟨k, A7, c7, rfl, rfl, hk, hkg, HO, HB⟩ := hrel
    rcases Nat.lt_or_ge k L with hlt | hge
    · have hd : decide (k < L) = true := decide_eq_true hlt
      have hkx : k < la.length := by rw [← HL.out]; exact hlt
      obtain ⟨ad2, e2, -, -, -, c3', c4'⟩ := C_spotN (by rw [← HL.out]; exact Kd.C_below (Kd.C_below HS.out.1 HB5.out) HB.out) k hkx
      cases e2
      obtain ⟨m, hm⟩ : ∃ m, m = la[k].f3 := ⟨_, rfl⟩
      rw [← hm] at c3' c4'
      have HM : Aside0 ((la.take k).map (·.f3) ++ [m] = (la.take (k + 1)).map (·.f3)) := ⟨by rw [hm, List.take_succ_eq_append_getElem hkx, List.map_append]; rfl⟩
      have hlk1 : ((la.take (k + 1)).map (·.f3)).length = k + 1 := by rw [List.length_map, List.length_take]; omega
      have hlk : ((la.take k).map (·.f3)).length = k := by rw [List.length_map, List.length_take]; omega
      clear hm c0 c1 c2 c3 b4
      go_wp2_with (at_builtin; refine wpList_append_R rfl kTerm W5.heap.size (.tmp 84) (.tmp 90) 77 77 63 63 (.agg #[.bool false, .int .u64 0]) 16 rfl (by kernel_rfl) (by kernel_rfl) Tm.info rfl (by decide) (by decide) (.slice A7 k c7) ((la.take k).map (·.f3)) [m] (some ⟨wr.heap.size, 0, none⟩) 1 1 (fun _ => True) (fun _ => False) rfl rfl (Kd.R_below HO.out (below_alloc (Below.refl _ _) _)) (Tm.one_C wr m) (fun x cs h => Tm.lift h) (fun _ h => h.elim) (fun _ _ => trivial) (below_alloc HB.out _).size (by rw [hlk]; omega) ?_; intro v1 w1 HO1 hg1 hat; rw [HM.out] at HO1; obtain ⟨A2', c2', rfl⟩ := Kd.R_slice HO1; rw [hlk1] at HO1 ⊢; have HB1 := Aside0.mk ((below_alloc HB.out _).grown hg1 (below_alloc HB.out _).size (fun k hk => (Kd.R_bound HO.out).1 k hk |>.2.1)); have HO2 := Aside0.mk HO1; clear HO1 hg1 hat HO HB)
      go_roundg (gk - 1)
      case measure => omega
      case rel => exact ⟨k + 1, A2', c2', by go_num, rfl, by omega, by omega, HO2, HB1⟩
    · have hd : decide (k < L) = false := decide_eq_false (by omega)
      obtain rfl : k = L := by omega
      generalize wr = w7 at *
      have HO7 : Aside0 (kTerm.R 63 w7 W5.heap.size (fun _ => True) (.slice A7 k c7) (la.map (·.f3))) := ⟨by have := HO.out; rwa [List.take_of_length_le (by rw [← HL.out]; exact Nat.le_refl _)] at this⟩
      have HB7 := HB
      clear HO HB hd hge hkg hk
      have HB := Aside0.mk (Below.refl w7.heap.size w7)
      go_wp2
      go_loopg [14, 16] (X + 1) (fun g a i W => ∃ (j : Nat) (A9 : Option Addr) (c9 : Nat), i = .int .i64 (j : Int) ∧ a = .slice A9 j c9 ∧ j ≤ X ∧ X + 1 - j ≤ g ∧ Aside0 (kTerm.R 63 W w7.heap.size (fun _ => True) (.slice A9 j c9) ((xa.take j).map (·.f3))) ∧ Aside0 (Below w7.heap.size w7 W))
      case atStart => exact ⟨0, none, 0, rfl, rfl, by omega, by omega, ⟨Kd.R_nil _ _ _ _ _⟩, HB⟩
      case round =>
        clear HB
        obtain ⟨j, A9, c9, rfl, rfl, hj, hjg, HO, HB⟩ := hrel
        rcases Nat.lt_or_ge j X with hlt | hge
        · have hd : decide (j < X) = true := decide_eq_true hlt
          have hjx : j < xa.length := by rw [← HX.out]; exact hlt
          obtain ⟨ad2, e2, -, -, -, c3', c4'⟩ := C_spotN (by rw [← HX.out]; exact Kd.C_below (Kd.C_below (Kd.C_below HS.out.2 HB5.out) HB7.out) HB.out) j hjx
          subst e2
          obtain ⟨m, hm⟩ : ∃ m, m = xa[j].f3 := ⟨_, rfl⟩
          rw [← hm] at c3' c4'
          have HM : Aside0 ((xa.take j).map (·.f3) ++ [m] = (xa.take (j + 1)).map (·.f3)) := ⟨by rw [hm, List.take_succ_eq_append_getElem hjx, List.map_append]; rfl⟩
          have hlk1 : ((xa.take (j + 1)).map (·.f3)).length = j + 1 := by rw [List.length_map, List.length_take]; omega
          have hlk : ((xa.take j).map (·.f3)).length = j := by rw [List.length_map, List.length_take]; omega
          clear hm c0 c1 c2 c3 b4
          go_wp2_with (at_builtin; refine wpList_append_R rfl kTerm w7.heap.size (.tmp 98) (.tmp 104) 77 77 63 63 (.agg #[.bool false, .int .u64 0]) 16 rfl (by kernel_rfl) (by kernel_rfl) Tm.info rfl (by decide) (by decide) (.slice A9 j c9) ((xa.take j).map (·.f3)) [m] (some ⟨wr.heap.size, 0, none⟩) 1 1 (fun _ => True) (fun _ => False) rfl rfl (Kd.R_below HO.out (below_alloc (Below.refl _ _) _)) (Tm.one_C wr m) (fun x cs h => Tm.lift h) (fun _ h => h.elim) (fun _ _ => trivial) (below_alloc HB.out _).size (by rw [hlk]; omega) ?_; intro v1 w1 HO1 hg1 hat; rw [HM.out] at HO1; obtain ⟨A2', c2', rfl⟩ := Kd.R_slice HO1; rw [hlk1] at HO1 ⊢; have HB1 := Aside0.mk ((below_alloc HB.out _).grown hg1 (below_alloc HB.out _).size (fun k hk => (Kd.R_bound HO.out).1 k hk |>.2.1)); have HO2 := Aside0.mk HO1; clear HO1 hg1 hat HO HB)
          go_roundg (gk - 1)
          case measure => omega
          case rel => exact ⟨j + 1, A2', c2', by go_num, rfl, by omega, by omega, HO2, HB1⟩
        · have hd : decide (j < X) = false := decide_eq_false (by omega)
          obtain rfl : j = X := by omega
          generalize wr = w8 at *
          have HO8 : Aside0 (kTerm.R 63 w8 w7.heap.size (fun q => w7.heap.size ≤ q) (.slice A9 j c9) (xa.map (·.f3))) := ⟨by
            have := HO.out
            rw [List.take_of_length_le (by rw [← HX.out]; exact Nat.le_refl _)] at this
            exact Kd.R_mono (Kd.R_bound this) (fun q hq => hq.2.1)⟩
          obtain ⟨g, rfl⟩ := R_pos HO7.out (by omega)
          have hg7 : W5.heap.size ≤ g ∧ g < w7.heap.size := ⟨((Kd.R_bound HO7.out).1 g rfl).2.1, ((Kd.R_bound HO7.out).1 g rfl).2.2.1⟩
          have HA8 := Aside0.mk (Kd.R_below HO7.out HB.out)
          have lm : (la.map (·.f3)).length = k := by rw [List.length_map, ← HL.out]
          obtain ⟨p0, p1, pf⟩ := Tm.cells HA8.out kk (by rw [lm]; exact hkl)
          have HB58 := Aside0.mk (HB7.out.trans (HB.out.mono HB7.out.size))
          have K0 := Aside0.mk (And.intro c0 (And.intro c2 c3))
          replace c0 := pw_cell_below HB58.out c0
          replace c2 := pw_cell_below HB58.out c2
          replace c3 := pw_cell_below HB58.out c3
          have hw5 : w.heap.size < W5.heap.size := by
            exact HC5.out
          have hne : ¬ g = w.heap.size := by omega
          have hne' : ¬ w.heap.size = g := by omega
          have hbl : (ad1.add (kk * 5)).block < W5.heap.size := HC6.out
          have hne2 : ¬ g = (ad1.add (kk * 5)).block := by omega
          have hne3 : ¬ (ad1.add (kk * 5)).block = g := by omega
          clear HO HO7 hd hge hjg hj c1
          go_wp2_with fail
          have R9 := Tm.put HA8.out kk (by rw [lm]; exact hkl) ⟨false, v⟩
          have hO9 := Kd.R_far (Kd.R_far HO8.out (p := ⟨g, kk * 2, none⟩) (fun q hq e => by simp only at e; omega) (.bool false)) (p := ⟨g, kk * 2 + 1, none⟩) (fun q hq e => by simp only at e; omega) (.int .u64 v)
          have hb9 := below_set (o := kk * 2 + 1) (below_set (o := kk * 2) HB58.out (.bool false) hg7.1) (.int .u64 v) hg7.1
          obtain ⟨W9, hW9⟩ : ∃ W, W = (w8.setCell ⟨g, kk * 2, none⟩ (.bool false)).setCell ⟨g, kk * 2 + 1, none⟩ (.int .u64 v) := ⟨_, rfl⟩
          simp only at R9
          rw [← hW9] at R9 hO9 hb9 ⊢
          have l9 : ((la.map (·.f3)).set kk ⟨false, v⟩) = moveT a kk v := by rw [HLA.out]; rfl
          rw [l9] at R9
          have hl1 := (Kd.R_reads' R9).2.2
          have hl2 := (Kd.R_reads' hO9).2.2
          rw [HXA.out] at hl2
          have hz : checkB a = 0 := (ground_ok (a := a) (b := a) (hasL := hasLat o) (hasX := hasEff p) (leL := leLat o) (leX := leEff p) (by rw [H1.out])).1
          have hbw9 : Below w.heap.size w W9 := below_step HB4.out (below_step HB5.out hb9)
          have hn1 : k = (labP a n).length := by rw [HL.out, HLA.out, HN.out, ← labP_all hz, List.length_map]
          have hn2 : j = (effP a n).length := by rw [HX.out, HXA.out, HN.out, ← effP_all hz, List.length_map]
          have hm1 : k = (moveT a kk v).length := by rw [move_len, HL.out, HLA.out]
          have hm2 : j = ((effB a).map (·.f3)).length := by rw [List.length_map, HX.out, HXA.out]
          refine (put_ok W9 ad d n a HN.out (Kd.C_below HR.out hbw9) _ _ _ _ k j (moveT a kk v) ((effB a).map (·.f3)) hl1 hl2 hz hn1 hn2 hm1 hm2).mono ?_
          rintro e W10 ⟨g2, c10, rfl, r10, hb10⟩
          have hb510 := Below.trans hb9 (hb10.mono hb9.size)
          have c0 := pw_cell_below hb510 K0.out.1
          have c1 := pw_cell_below hb510 K0.out.2.1
          have c2 := pw_cell_below hb510 K0.out.2.2
          have HBW := Aside0.mk (below_step hbw9 hb10)
          have kb := (Kd.R_reads' r10).2.2
          obtain ⟨b, hbb⟩ : ∃ b, b = moveB a kk v := ⟨_, rfl⟩
          rw [show putB a (moveT a kk v) ((effB a).map (·.f3)) = b from hbb.symm] at kb
          have lb : n = b.length := by rw [HN.out, hbb]; exact baseL_len (putB_base _ _ _)
          rw [← lb] at kb
          have wb : ∀ n ∈ b, Node.wf n := by rw [hbb]; exact moveB_wf HWA.out kk v HWV.out
          have ka := Kd.C_below HR.out HBW.out
          rw [← HN.out] at ka
          have hkk : kk < (labB a).length := by rw [← HLA.out, ← HL.out]; exact hkl
          have PL := ground_move HSL.out HSX.out a HWA.out (by rw [H1.out]) kk hkk v HV0.out HHH.out
          have hx1 : (labB a)[kk] = x := by rw [HX0.out]; simp only [HLA.out]
          rw [hx1, ← hbb] at PL
          have hxm : x ∈ labB a := by rw [← hx1]; exact List.getElem_mem _
          have hxw := labB_W HWA.out x hxm
          have hxh : hasLat o x.f3.f1 = true := by
            have h := (ground_ok (a := a) (b := a) (hasL := hasLat o) (hasX := hasEff p) (leL := leLat o) (leX := leEff p) (by rw [H1.out])).2.2.1
            rw [okT, Bool.and_eq_true] at h
            have h2 := List.all_eq_true.1 h.1 x hxm
            rw [Bool.and_eq_true] at h2
            exact h2.2
          have hl10 := (HLX.out.1.kept HB5.out).kept hb510
          have hx10 := (HLX.out.2.kept HB5.out).kept hb510
          obtain ⟨u2, hu2⟩ : ∃ u, u = holdsS (leLat o) x.f2 x.f3.f1 v := ⟨_, rfl⟩
          obtain ⟨u3, hu3⟩ : ∃ u, u = holdsS (leLat o) x.f2 v x.f3.f1 := ⟨_, rfl⟩
          rw [← hu2, ← hu3] at PL
          have G2 := named_at (c := d) (d := n) PL.1.symm HN.out lb ka kb HWA.out wb hl10 hx10
          have G3 := named_at (c := n) (d := d) PL.2.symm lb HN.out kb ka wb HWA.out hl10 hx10
          obtain ⟨up, hup⟩ : ∃ u, u = leLat o x.f3.f1 v := ⟨_, rfl⟩
          obtain ⟨dn, hdn⟩ : ∃ u, u = leLat o v x.f3.f1 := ⟨_, rfl⟩
          have L1 : Aside0 (∀ W, Below W10.heap.size W10 W → Calls Tryd.prog 29 #[v1, .int .u64 x.f3.f1, .int .u64 v] W fun e w' => e = .returned (.bool up) ∧ Below W.heap.size W w') := ⟨fun W hb => by rw [hup]; exact leLb_calls W v1 o _ _ hxw.1.1 HV0.out.1 (hl10.kept hb)⟩
          have L2 : Aside0 (∀ W, Below W10.heap.size W10 W → Calls Tryd.prog 29 #[v1, .int .u64 v, .int .u64 x.f3.f1] W fun e w' => e = .returned (.bool dn) ∧ Below W.heap.size W w') := ⟨fun W hb => by rw [hdn]; exact leLb_calls W v1 o _ _ HV0.out.1 hxw.1.1 (hl10.kept hb)⟩
          have HB := Aside0.mk (Below.refl W10.heap.size W10)
          rcases (by have := hxw.2; omega : x.f2 = 0 ∨ x.f2 = 1 ∨ x.f2 = 2) with q | q | q
          · obtain rfl : u2 = up := by rw [hu2, hup, q]; rfl
            obtain rfl : u3 = dn := by rw [hu3, hdn, q]; rfl
            have z0 : (x.f2 == 0) = true := beq_iff_eq.mpr q
            clear q hu2 hu3 hup hdn PL hx1 hxm hxw hxh hl10 hx10 ka kb wb lb hbb r10 hb10 hb510 hl1 hl2 hz hbw9 hn1 hn2 hm1 hm2 R9 hO9 hb9 l9 hW9 p0 p1 pf hne hne' hne2 hne3 hbl b4 lm hkk
            go_wp2_with (first | (go_at_call 14; (with_reducible refine (G2.out _ HB.out).mono ?_); rintro e W' ⟨rfl, hb'⟩; replace c0 := pw_cell_below hb' c0; replace c1 := pw_cell_below hb' c1; replace c2 := pw_cell_below hb' c2; have HB' := Aside0.mk (below_step HB.out hb'); clear HB hb'; have HB := HB'; clear HB') | (go_at_call 14; (with_reducible refine (G3.out _ HB.out).mono ?_); rintro e W' ⟨rfl, hb'⟩; replace c0 := pw_cell_below hb' c0; replace c1 := pw_cell_below hb' c1; replace c2 := pw_cell_below hb' c2; have HB' := Aside0.mk (below_step HB.out hb'); clear HB hb'; have HB := HB'; clear HB') | (go_at_call 29; (with_reducible refine (L1.out _ HB.out).mono ?_); rintro e W' ⟨rfl, hb'⟩; replace c0 := pw_cell_below hb' c0; replace c1 := pw_cell_below hb' c1; replace c2 := pw_cell_below hb' c2; have HB' := Aside0.mk (below_step HB.out hb'); clear HB hb'; have HB := HB'; clear HB') | (go_at_call 29; (with_reducible refine (L2.out _ HB.out).mono ?_); rintro e W' ⟨rfl, hb'⟩; replace c0 := pw_cell_below hb' c0; replace c1 := pw_cell_below hb' c1; replace c2 := pw_cell_below hb' c2; have HB' := Aside0.mk (below_step HB.out hb'); clear HB hb'; have HB := HB'; clear HB') | (go_at_call 12; (with_reducible refine (alive_calls _ ⟨tab_below (below_step HBW.out HB.out) HT.out⟩).mono ?_); rintro e W' ⟨rfl, hb'⟩; replace c0 := pw_cell_below hb' c0; replace c1 := pw_cell_below hb' c1; replace c2 := pw_cell_below hb' c2; have HB' := Aside0.mk (below_step HB.out hb'); clear HB hb'; have HB := HB'; clear HB'))
            go_ret
            exact ⟨rfl, below_step HBW.out HB.out⟩
          · obtain rfl : u2 = dn := by rw [hu2, hdn, q]; rfl
            obtain rfl : u3 = up := by rw [hu3, hup, q]; rfl
            have z0 : (x.f2 == 0) = false := beq_eq_false_iff_ne.mpr (by omega)
            have z1 : (x.f2 == 1) = true := beq_iff_eq.mpr q
            clear q hu2 hu3 hup hdn PL hx1 hxm hxw hxh hl10 hx10 ka kb wb lb hbb r10 hb10 hb510 hl1 hl2 hz hbw9 hn1 hn2 hm1 hm2 R9 hO9 hb9 l9 hW9 p0 p1 pf hne hne' hne2 hne3 hbl b4 lm hkk
            go_wp2_with (first | (go_at_call 14; (with_reducible refine (G2.out _ HB.out).mono ?_); rintro e W' ⟨rfl, hb'⟩; replace c0 := pw_cell_below hb' c0; replace c1 := pw_cell_below hb' c1; replace c2 := pw_cell_below hb' c2; have HB' := Aside0.mk (below_step HB.out hb'); clear HB hb'; have HB := HB'; clear HB') | (go_at_call 14; (with_reducible refine (G3.out _ HB.out).mono ?_); rintro e W' ⟨rfl, hb'⟩; replace c0 := pw_cell_below hb' c0; replace c1 := pw_cell_below hb' c1; replace c2 := pw_cell_below hb' c2; have HB' := Aside0.mk (below_step HB.out hb'); clear HB hb'; have HB := HB'; clear HB') | (go_at_call 29; (with_reducible refine (L1.out _ HB.out).mono ?_); rintro e W' ⟨rfl, hb'⟩; replace c0 := pw_cell_below hb' c0; replace c1 := pw_cell_below hb' c1; replace c2 := pw_cell_below hb' c2; have HB' := Aside0.mk (below_step HB.out hb'); clear HB hb'; have HB := HB'; clear HB') | (go_at_call 29; (with_reducible refine (L2.out _ HB.out).mono ?_); rintro e W' ⟨rfl, hb'⟩; replace c0 := pw_cell_below hb' c0; replace c1 := pw_cell_below hb' c1; replace c2 := pw_cell_below hb' c2; have HB' := Aside0.mk (below_step HB.out hb'); clear HB hb'; have HB := HB'; clear HB') | (go_at_call 12; (with_reducible refine (alive_calls _ ⟨tab_below (below_step HBW.out HB.out) HT.out⟩).mono ?_); rintro e W' ⟨rfl, hb'⟩; replace c0 := pw_cell_below hb' c0; replace c1 := pw_cell_below hb' c1; replace c2 := pw_cell_below hb' c2; have HB' := Aside0.mk (below_step HB.out hb'); clear HB hb'; have HB := HB'; clear HB'))
            go_ret
            exact ⟨rfl, below_step HBW.out HB.out⟩
          · obtain ⟨z, hzz⟩ : ∃ z, (x.f3.f1 == v) = z := ⟨_, rfl⟩
            obtain rfl : u2 = z := by rw [hu2, q, holds_both_eq HSL.out hxw.1 HV0.out hxh 2 (by decide) (by decide), hzz]
            obtain rfl : u3 = u2 := by
              rw [hu3, q, holds_both_eq HSL.out HV0.out hxw.1 HHH.out 2 (by decide) (by decide), ← hzz]
              exact Bool.beq_comm
            have z0 : (x.f2 == 0) = false := beq_eq_false_iff_ne.mpr (by omega)
            have z1 : (x.f2 == 1) = false := beq_eq_false_iff_ne.mpr (by omega)
            clear q hu2 hu3 hup hdn PL hx1 hxm hxw hxh hl10 hx10 ka kb wb lb hbb r10 hb10 hb510 hl1 hl2 hz hbw9 hn1 hn2 hm1 hm2 R9 hO9 hb9 l9 hW9 p0 p1 pf hne hne' hne2 hne3 hbl b4 lm hkk
            go_wp2_with (first | (go_at_call 14; (with_reducible refine (G2.out _ HB.out).mono ?_); rintro e W' ⟨rfl, hb'⟩; replace c0 := pw_cell_below hb' c0; replace c1 := pw_cell_below hb' c1; replace c2 := pw_cell_below hb' c2; have HB' := Aside0.mk (below_step HB.out hb'); clear HB hb'; have HB := HB'; clear HB') | (go_at_call 14; (with_reducible refine (G3.out _ HB.out).mono ?_); rintro e W' ⟨rfl, hb'⟩; replace c0 := pw_cell_below hb' c0; replace c1 := pw_cell_below hb' c1; replace c2 := pw_cell_below hb' c2; have HB' := Aside0.mk (below_step HB.out hb'); clear HB hb'; have HB := HB'; clear HB') | (go_at_call 29; (with_reducible refine (L1.out _ HB.out).mono ?_); rintro e W' ⟨rfl, hb'⟩; replace c0 := pw_cell_below hb' c0; replace c1 := pw_cell_below hb' c1; replace c2 := pw_cell_below hb' c2; have HB' := Aside0.mk (below_step HB.out hb'); clear HB hb'; have HB := HB'; clear HB') | (go_at_call 29; (with_reducible refine (L2.out _ HB.out).mono ?_); rintro e W' ⟨rfl, hb'⟩; replace c0 := pw_cell_below hb' c0; replace c1 := pw_cell_below hb' c1; replace c2 := pw_cell_below hb' c2; have HB' := Aside0.mk (below_step HB.out hb'); clear HB hb'; have HB := HB'; clear HB') | (go_at_call 12; (with_reducible refine (alive_calls _ ⟨tab_below (below_step HBW.out HB.out) HT.out⟩).mono ?_); rintro e W' ⟨rfl, hb'⟩; replace c0 := pw_cell_below hb' c0; replace c1 := pw_cell_below hb' c1; replace c2 := pw_cell_below hb' c2; have HB' := Aside0.mk (below_step HB.out hb'); clear HB hb'; have HB := HB'; clear HB'))
            go_ret
            exact ⟨rfl, below_step HBW.out HB.out⟩
end L09
end Go.Proofs.YtkndpgbpdidlgaaDoor
