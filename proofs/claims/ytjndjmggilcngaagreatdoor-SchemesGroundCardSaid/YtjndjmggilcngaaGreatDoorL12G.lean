/- The law SchemesGround: a walk through its code at every input. -/
import Derived.Test.YtjndjmggilcngaaGreatDoorL12D
import Derived.Test.YtjndjmggilcngaaGreatDoorSn
import Derived.Deep.Cut

namespace Go.Proofs.YtjndjmggilcngaaGreatDoor
open Go.RowKit Go.Proofs.YtjndjmggilcngaaGreatDoorW.PrintWords Go.Proofs.YtjndjmggilcngaaGreatDoorW.PrintLast Go.Proofs.YtjndjmggilcngaaGreatDoorW.PrintMore
set_option linter.unusedVariables false
set_option linter.unusedSimpArgs false
namespace L12
open L09
theorem sameN_comm (x y : Node) : sameN x y = sameN y x := by
  simp only [sameN]
  rw [Bool.eq_iff_iff]
  simp only [Bool.and_eq_true, beq_iff_eq]
  exact ⟨fun h => ⟨⟨⟨h.1.1.1.symm, h.1.1.2.symm⟩, h.1.2.symm⟩, h.2.symm⟩, fun h => ⟨⟨⟨h.1.1.1.symm, h.1.1.2.symm⟩, h.1.2.symm⟩, h.2.symm⟩⟩
theorem sameL_comm {a b : List Node} (h : sameL a b = true) : sameL b a = true := by
  obtain ⟨h1, h2⟩ := (sameL_iff a b).1 h
  exact (sameL_iff b a).2 ⟨h1.symm, fun i i1 i2 => by rw [sameN_comm]; exact h2 i i2 i1⟩
theorem ofV_plain (vs : List Int) (t : Term) : (ofV vs t).f0 = false := by
  unfold ofV
  split
  · rfl
  · rename_i h; simpa using h
theorem withT_plain (l : List Spot) (vs : List Int) : ∀ x ∈ withT l (l.map fun x => ofV vs x.f3), x.f3.f0 = false := by
  intro x hx
  have := withT_f3 l (l.map fun x => ofV vs x.f3) (by rw [List.length_map]) x hx
  obtain ⟨y, -, hy⟩ := List.mem_map.1 this
  rw [← hy]
  exact ofV_plain vs y.f3
theorem ofV_own {t : Term} (h : t.f0 = false) : ofV [] t = t := by
  unfold ofV
  rw [if_neg (by rw [h]; decide)]
theorem ground_again {lv ev : Int} {a g : List Node} {ls xs : List Int} (e : grounS lv ev a ls xs = (g, 0)) : (∀ x ∈ labB g ++ effB g, x.f3.f0 = false) ∧ sameL g a = true ∧ grounS 0 0 g [] [] = (g, 0) := by
  unfold grounS at e
  split at e
  · rename_i h; exact absurd (Prod.mk.inj e).2 h
  rename_i hz
  have hz : checkB a = 0 := by simpa using hz
  split at e
  · have := (Prod.mk.inj e).2; omega
  have hg := (Prod.mk.inj e).1.symm
  have hl : labB g = withT (labB a) ((labB a).map fun x => ofV ls x.f3) := by rw [hg]; exact putB_lab hz _ _ (by rw [List.length_map])
  have he : effB g = withT (effB a) ((effB a).map fun x => ofV xs x.f3) := by rw [hg]; exact putB_eff hz _ _ (by rw [List.length_map])
  have h1 : ∀ x ∈ labB g, x.f3.f0 = false := by rw [hl]; exact withT_plain _ _
  have h2 : ∀ x ∈ effB g, x.f3.f0 = false := by rw [he]; exact withT_plain _ _
  have hzg : checkB g = 0 := by rw [hg, putB_check]; exact hz
  refine ⟨fun x hx => (List.mem_append.1 hx).elim (h1 x) (h2 x), ?_, ?_⟩
  · rw [hg]
    exact sameL_comm (baseL_same (putB_base a _ _))
  · unfold grounS
    rw [if_neg (by simpa using hzg), if_neg]
    · have e1 : ((labB g).map fun x => ofV [] x.f3) = (labB g).map (·.f3) := List.map_congr_left fun x hx => ofV_own (h1 x hx)
      have e2 : ((effB g).map fun x => ofV [] x.f3) = (effB g).map (·.f3) := List.map_congr_left fun x hx => ofV_own (h2 x hx)
      rw [e1, e2, putB_own hzg]
    · rintro (h | h | h)
      · exact h rfl
      · exact h rfl
      · have : ((labB g).all (fun x => hasV 0 x.f3) && (effB g).all (fun x => hasV 0 x.f3)) = true := by
          rw [Bool.and_eq_true, List.all_eq_true, List.all_eq_true]
          exact ⟨fun x hx => by rw [hasV, h1 x hx]; rfl, fun x hx => by rw [hasV, h2 x hx]; rfl⟩
        rw [List.length_nil, this] at h
        cases h
theorem groun_wf {lv ev : Int} {a g : List Node} {ls xs : List Int} (e : grounS lv ev a ls xs = (g, 0)) (hw : ∀ n ∈ a, Node.wf n) (hl : ∀ r ∈ ls, (Lit.int .u64 r).wf = true) (hx : ∀ r ∈ xs, (Lit.int .u64 r).wf = true) : ∀ n ∈ g, Node.wf n := by
  unfold grounS at e
  split at e
  · rename_i h; exact absurd (Prod.mk.inj e).2 h
  split at e
  · have := (Prod.mk.inj e).2; omega
  rename_i hc
  have hc2 : ((labB a).all (fun x => hasV ls.length x.f3) && (effB a).all (fun x => hasV xs.length x.f3)) = true := by
    cases h : ((labB a).all (fun x => hasV ls.length x.f3) && (effB a).all (fun x => hasV xs.length x.f3)) with
    | true => rfl
    | false => exact absurd (.inr (.inr h)) hc
  rw [Bool.and_eq_true, List.all_eq_true, List.all_eq_true] at hc2
  rw [← (Prod.mk.inj e).1]
  refine putEff_wf _ _ (putLab_wf _ _ hw ?_) ?_
  · intro t ht
    obtain ⟨x, hx1, rfl⟩ := List.mem_map.1 ht
    exact of_wf rfl (hc2.1 x hx1) (lab_wfT hw x.f3 (List.mem_map_of_mem hx1)) hl
  · intro t ht
    obtain ⟨x, hx1, rfl⟩ := List.mem_map.1 ht
    exact of_wf rfl (hc2.2 x hx1) (eff_wfT hw x.f3 (List.mem_map_of_mem hx1)) hx
theorem spotM12 {W : World} {base : Nat} {ok : Nat → Prop} {x : Spot} {w : World} {cs : List Value} (h : kSpot.K w x cs) : kSpot.M W base ok x cs := by
  rw [k131_open h]
  exact k131_mkM W base ok x
set_option maxRecDepth 100000 in
set_option maxHeartbeats 4000000 in
theorem still_calls (w : World) (A : Option Addr) (c n : Nat) (g : List Node) (hn : n = g.length) (hr : kNode.C w A n g) (hv : ∀ x ∈ labB g ++ effB g, x.f3.f0 = false) : Calls Tryz.prog 35 #[.slice A n c] w fun e w' => e = .returned (.bool true) ∧ Below w.heap.size w w' := by
  have HV := Aside0.mk hv
  have hlab : (labB g).length ≤ 300 ∧ (effB g).length ≤ 300 := by
    unfold labB effB
    split
    · rename_i hz
      have h1 := labL_len 0 g (sidesB g)
      have h2 := effL_len 0 g (sidesB g)
      have h3 := (checkB_L hz)
      have h4 : g.length ≤ 128 := h3.2.1
      omega
    · simp
  have HOF := Aside0.mk (by have := hr; rw [hn] at this; exact of_calls w A c g this)
  rw [← hn] at HOF
  obtain ⟨n1, hn1⟩ : ∃ m, m = (labB g).length := ⟨_, rfl⟩
  obtain ⟨n2, hn2⟩ : ∃ m, m = (effB g).length := ⟨_, rfl⟩
  obtain ⟨m, hm⟩ : ∃ m, m = (labB g ++ effB g).length := ⟨_, rfl⟩
  have HL3 := Aside0.mk hm
  have HLN : Aside0 (((labB g).length + n2) * 32 ≤ 140737488355328) := ⟨by omega⟩
  have hmb : m ≤ 600 := by rw [hm, List.length_append]; omega
  have HN12 := Aside0.mk (And.intro hn1 hn2)
  clear hr hv hn1 hn2 hm hlab hn
  go_enter Tryz.func35, Tryz.ntmps35
  go_wp2_with fail
  refine HOF.out.mono ?_
  rintro e W1 ⟨v1, v2, rfl, h1, h2, hb1⟩
  obtain ⟨A1, c1, rfl⟩ := Kd.R_slice h1
  obtain ⟨A2, c2, rfl⟩ := Kd.R_slice h2
  have HO2' := (Kd.R_reads' h2).2.2
  rw [← HN12.out.1] at h1 ⊢
  rw [← HN12.out.2] at HO2' ⊢
  have HO1 := Aside0.mk (Kd.R_mono h1 (fun _ _ => trivial) : kSpot.R _ W1 w.heap.size (fun _ => True) _ _)
  have HO2 := Aside0.mk HO2'
  have HB1 := Aside0.mk hb1
  clear h1 h2 hb1 HOF HO2'
  go_wp2_with (at_builtin; refine wpList_append_R rfl kSpot w.heap.size (.tmp 11) (.tmp 12) 64 64 131 131 (.agg #[.int .i64 0, .int .u8 0, .int .u8 0, .bool false, .int .u64 0]) 32 rfl (by kernel_rfl) (by kernel_rfl) infoSp rfl (by decide) (by decide) (.slice A1 n1 c1) (labB g) (effB g) A2 n2 c2 (fun _ => True) (fun _ => False) rfl rfl HO1.out HO2.out (fun x cs h => spotM12 h) (fun _ h => h.elim) (fun _ _ => trivial) HB1.out.size HLN.out ?_; intro v3 w3 HO3 hg3 hat; obtain ⟨A3, c3, rfl⟩ := Kd.R_slice HO3; have HC3 := Aside0.mk (Kd.R_reads' HO3).2.2; have HB3 := Aside0.mk (HB1.out.grown hg3 HB1.out.size (fun k hk => (Kd.R_bound HO1.out).1 k hk |>.2.1)); rw [← HL3.out] at HC3 ⊢; clear HO3 hg3 hat)
  go_loopg [5] (m + 1) (fun gk b W => ∃ (k : Nat), b = .int .i64 (k : Int) ∧ k ≤ m ∧ m + 1 - k ≤ gk ∧ Aside0 (Below w3.heap.size w3 W))
  case atStart => exact ⟨0, rfl, by omega, by omega, ⟨Below.refl _ _⟩⟩
  case round =>
    obtain ⟨k, rfl, hk, hkg, HBW⟩ := hrel
    rcases Nat.lt_or_ge k m with hlt | hge
    · have hd : decide (k < m) = true := decide_eq_true hlt
      have hkl : k < (labB g ++ effB g).length := by rw [← HL3.out]; exact hlt
      obtain ⟨ad, rfl, -, -, -, x3, -⟩ := C_spotN (by have := Kd.C_below HC3.out HBW.out; rwa [HL3.out] at this) k hkl
      rw [HV.out _ (List.getElem_mem hkl)] at x3
      clear hkl
      go_wp2
      go_roundg (gk - 1)
      case measure => omega
      case rel => exact ⟨k + 1, by go_num, by omega, by omega, HBW⟩
    · have hd : decide (k < m) = false := decide_eq_false (by omega)
      go_wp2
      go_ret
      exact ⟨rfl, HB3.out.trans (HBW.out.mono HB3.out.size)⟩
theorem ground_bad {lv ev : Int} {a g : List Node} {ls xs : List Int} {er : Int} (e : grounS lv ev a ls xs = (g, er)) (h : er ≠ 0) : g = [] := by
  unfold grounS at e
  split at e
  · exact (Prod.mk.inj e).1.symm
  split at e
  · exact (Prod.mk.inj e).1.symm
  · exact absurd (Prod.mk.inj e).2.symm h
set_option maxRecDepth 100000 in
set_option maxHeartbeats 16000000 in
theorem ground12_walk (w : World) (ht : TabAt 5 Lib.deBruijn64tab w) (y : SchY) (hy : y.ok w) (vv : ValsY) (hvv : vv.ok w) :
    Calls Tryz.prog 7 #[y.v, vv.v] w fun e w' => e = .returned (.bool true) ∧ Below w.heap.size w w' := by
  obtain ⟨lv, ev, A, c, a, LA, lc, L, EA, ec, E⟩ := y
  obtain ⟨B1, f1, ls, B2, f2, xs⟩ := vv
  obtain ⟨hv1, hw1, hv2, hw2⟩ := hvv
  simp only at hv1 hw1 hv2 hw2
  simp only [SchY.v, ValsY.v]
  have HT := Aside0.mk ht
  have HY := Aside0.mk hy
  have HWV := Aside0.mk (And.intro hw1 hw2)
  obtain ⟨n, hn⟩ : ∃ n, n = a.length := ⟨_, rfl⟩
  obtain ⟨k, hk⟩ : ∃ n, n = L.length := ⟨_, rfl⟩
  obtain ⟨m, hm⟩ : ∃ n, n = E.length := ⟨_, rfl⟩
  obtain ⟨X, hX⟩ : ∃ n, n = ls.length := ⟨_, rfl⟩
  obtain ⟨Y, hY⟩ : ∃ n, n = xs.length := ⟨_, rfl⟩
  have HN := Aside0.mk (And.intro hn (And.intro hk (And.intro hm (And.intro hX hY))))
  rw [← hn, ← hk, ← hm, ← hX, ← hY]
  rw [← hX] at hv1
  rw [← hY] at hv2
  obtain ⟨O1, hO1⟩ : ∃ O : Obj, O = .cells #[.int .i64 lv, .int .i64 ev, .slice A n c, .slice LA k lc, .slice EA m ec] 80 := ⟨_, rfl⟩
  obtain ⟨O3, hO3⟩ : ∃ O : Obj, O = .cells #[.slice B1 X f1, .slice B2 Y f2] 82 := ⟨_, rfl⟩
  have HB := Aside0.mk (below_alloc (below_alloc (Below.refl w.heap.size w) O1) O3)
  have g1 : ((w.alloc O1).alloc O3).heap[w.heap.size]? = some O1 := blk_alloc (blk_new w _) _
  have g3 : ((w.alloc O1).alloc O3).heap[w.heap.size + 1]? = some O3 := by have := blk_new (w.alloc O1) O3; rwa [World.size_alloc] at this
  subst hO1 hO3
  have c0 := (blk_cell g1 0).trans (show _ = some (Value.int .i64 lv) from rfl)
  have c1 := (blk_cell g1 1).trans (show _ = some (Value.int .i64 ev) from rfl)
  have c2 := (blk_cell g1 2).trans (show _ = some (Value.slice A n c) from rfl)
  have c3 := (blk_cell g1 3).trans (show _ = some (Value.slice LA k lc) from rfl)
  have c4 := (blk_cell g1 4).trans (show _ = some (Value.slice EA m ec) from rfl)
  have c7 := (blk_cell g3 0).trans (show _ = some (Value.slice B1 X f1) from rfl)
  have c8 := (blk_cell g3 1).trans (show _ = some (Value.slice B2 Y f2) from rfl)
  have HV0 := Aside0.mk (And.intro hv1 hv2)
  have xm : X ≤ 9223372036854775807 := hv1.2.1
  have ym : Y ≤ 9223372036854775807 := hv2.2.1
  obtain ⟨⟨gb, er⟩, hgr⟩ : ∃ r, grounS lv ev a ls xs = r := ⟨_, rfl⟩
  obtain ⟨gn, hgn⟩ : ∃ g, g = gb.length := ⟨_, rfl⟩
  have HGR := Aside0.mk (And.intro hgr hgn)
  have GD : Aside0 (∀ W, Below w.heap.size w W → Calls Tryz.prog 34 #[.agg #[.int .i64 lv, .int .i64 ev, .slice A n c, .slice LA k lc, .slice EA m ec], .slice B1 X f1, .slice B2 Y f2] W fun e w' => ∃ A' c', e = .returned (.tuple #[.slice A' gn c', .int .i64 er]) ∧ kNode.C w' A' gn gb ∧ Below W.heap.size W w') := ⟨fun W hb => groun_named2 W lv ev A LA EA c lc ec n k m a L E HN.out.1 HN.out.2.1 HN.out.2.2.1 (HY.out.kept hb) B1 B2 X Y f1 f2 ls xs gb er gn HGR.out.1 HGR.out.2 HN.out.2.2.2.1 HN.out.2.2.2.2 (Kd.C_below HV0.out.1 hb) (Kd.C_below HV0.out.2 hb)⟩
  clear g1 g3 ht hy hn hk hm hX hY hv1 hv2 hw1 hw2 hgr hgn
  by_cases hb : 200 < n ∨ 300 < k ∨ 300 < m
  · have HE : Aside0 (decide (64 < 0 ∨ 200 < n ∨ 300 < k ∨ 300 < m) = true) := ⟨decide_eq_true (.inr hb)⟩
    clear hb
    go_enter Tryz.func7, Tryz.ntmps7
    go_wp2_with (first | (go_at_call 32; (with_reducible refine (great12_calls _ _ _ _ _ _ _ _ _ _ _ _ _ _ _ _).mono ?_); rintro e W' ⟨rfl, hb'⟩; replace c0 := pw_cell_below hb' c0; replace c1 := pw_cell_below hb' c1; replace c2 := pw_cell_below hb' c2; replace c3 := pw_cell_below hb' c3; replace c4 := pw_cell_below hb' c4; replace c7 := pw_cell_below hb' c7; replace c8 := pw_cell_below hb' c8; have HBN := Aside0.mk (below_step HB.out hb'); clear HB hb'; have HB := HBN; clear HBN; rw [HE.out]) | (go_at_call 33; (with_reducible refine (alive12_calls _ ⟨tab_below HB.out HT.out⟩).mono ?_); rintro e W' ⟨rfl, hb'⟩; replace c0 := pw_cell_below hb' c0; replace c1 := pw_cell_below hb' c1; replace c2 := pw_cell_below hb' c2; replace c3 := pw_cell_below hb' c3; replace c4 := pw_cell_below hb' c4; replace c7 := pw_cell_below hb' c7; replace c8 := pw_cell_below hb' c8; have HBN := Aside0.mk (below_step HB.out hb'); clear HB hb'; have HB := HBN; clear HBN))
    go_ret
    exact ⟨rfl, HB.out⟩
  have HE : Aside0 (decide (64 < 0 ∨ 200 < n ∨ 300 < k ∨ 300 < m) = false) := ⟨decide_eq_false (by omega)⟩
  clear hb
  by_cases hb : 100 < X
  · have z1 : decide (100 < (X : Int)) = true := decide_eq_true (by omega)
    clear hb
    go_enter Tryz.func7, Tryz.ntmps7
    go_wp2_with (first | (go_at_call 32; (with_reducible refine (great12_calls _ _ _ _ _ _ _ _ _ _ _ _ _ _ _ _).mono ?_); rintro e W' ⟨rfl, hb'⟩; replace c0 := pw_cell_below hb' c0; replace c1 := pw_cell_below hb' c1; replace c2 := pw_cell_below hb' c2; replace c3 := pw_cell_below hb' c3; replace c4 := pw_cell_below hb' c4; replace c7 := pw_cell_below hb' c7; replace c8 := pw_cell_below hb' c8; have HBN := Aside0.mk (below_step HB.out hb'); clear HB hb'; have HB := HBN; clear HBN; rw [HE.out]) | (go_at_call 33; (with_reducible refine (alive12_calls _ ⟨tab_below HB.out HT.out⟩).mono ?_); rintro e W' ⟨rfl, hb'⟩; replace c0 := pw_cell_below hb' c0; replace c1 := pw_cell_below hb' c1; replace c2 := pw_cell_below hb' c2; replace c3 := pw_cell_below hb' c3; replace c4 := pw_cell_below hb' c4; replace c7 := pw_cell_below hb' c7; replace c8 := pw_cell_below hb' c8; have HBN := Aside0.mk (below_step HB.out hb'); clear HB hb'; have HB := HBN; clear HBN))
    go_ret
    exact ⟨rfl, HB.out⟩
  have z1 : decide (100 < (X : Int)) = false := decide_eq_false (by omega)
  clear hb
  by_cases hb : 100 < Y
  · have z2 : decide (100 < (Y : Int)) = true := decide_eq_true (by omega)
    clear hb
    go_enter Tryz.func7, Tryz.ntmps7
    go_wp2_with (first | (go_at_call 32; (with_reducible refine (great12_calls _ _ _ _ _ _ _ _ _ _ _ _ _ _ _ _).mono ?_); rintro e W' ⟨rfl, hb'⟩; replace c0 := pw_cell_below hb' c0; replace c1 := pw_cell_below hb' c1; replace c2 := pw_cell_below hb' c2; replace c3 := pw_cell_below hb' c3; replace c4 := pw_cell_below hb' c4; replace c7 := pw_cell_below hb' c7; replace c8 := pw_cell_below hb' c8; have HBN := Aside0.mk (below_step HB.out hb'); clear HB hb'; have HB := HBN; clear HBN; rw [HE.out]) | (go_at_call 33; (with_reducible refine (alive12_calls _ ⟨tab_below HB.out HT.out⟩).mono ?_); rintro e W' ⟨rfl, hb'⟩; replace c0 := pw_cell_below hb' c0; replace c1 := pw_cell_below hb' c1; replace c2 := pw_cell_below hb' c2; replace c3 := pw_cell_below hb' c3; replace c4 := pw_cell_below hb' c4; replace c7 := pw_cell_below hb' c7; replace c8 := pw_cell_below hb' c8; have HBN := Aside0.mk (below_step HB.out hb'); clear HB hb'; have HB := HBN; clear HBN))
    go_ret
    exact ⟨rfl, HB.out⟩
  have z2 : decide (100 < (Y : Int)) = false := decide_eq_false (by omega)
  clear hb
  by_cases q1 : er = 0
  rotate_left
  · have z3 : (er != 0) = true := bne_iff_ne.mpr q1
    have hz : gb = [] := ground_bad HGR.out.1 q1
    obtain rfl : gn = 0 := by rw [HGR.out.2, hz]; rfl
    clear q1 hz
    go_enter Tryz.func7, Tryz.ntmps7
    go_wp2_with (first | (go_at_call 32; (with_reducible refine (great12_calls _ _ _ _ _ _ _ _ _ _ _ _ _ _ _ _).mono ?_); rintro e W' ⟨rfl, hb'⟩; replace c0 := pw_cell_below hb' c0; replace c1 := pw_cell_below hb' c1; replace c2 := pw_cell_below hb' c2; replace c3 := pw_cell_below hb' c3; replace c4 := pw_cell_below hb' c4; replace c7 := pw_cell_below hb' c7; replace c8 := pw_cell_below hb' c8; have HBN := Aside0.mk (below_step HB.out hb'); clear HB hb'; have HB := HBN; clear HBN; rw [HE.out]) | (go_at_call 33; (with_reducible refine (alive12_calls _ ⟨tab_below HB.out HT.out⟩).mono ?_); rintro e W' ⟨rfl, hb'⟩; replace c0 := pw_cell_below hb' c0; replace c1 := pw_cell_below hb' c1; replace c2 := pw_cell_below hb' c2; replace c3 := pw_cell_below hb' c3; replace c4 := pw_cell_below hb' c4; replace c7 := pw_cell_below hb' c7; replace c8 := pw_cell_below hb' c8; have HBN := Aside0.mk (below_step HB.out hb'); clear HB hb'; have HB := HBN; clear HBN) | (go_at_call 34; (with_reducible refine (GD.out _ HB.out).mono ?_); rintro e W' ⟨Ag, cg, rfl, kg, hb'⟩; replace c0 := pw_cell_below hb' c0; replace c1 := pw_cell_below hb' c1; replace c2 := pw_cell_below hb' c2; replace c3 := pw_cell_below hb' c3; replace c4 := pw_cell_below hb' c4; replace c7 := pw_cell_below hb' c7; replace c8 := pw_cell_below hb' c8; have HBN := Aside0.mk (below_step HB.out hb'); clear HB hb' kg; have HB := HBN; clear HBN))
    go_ret
    exact ⟨rfl, HB.out⟩
  subst q1
  have hga := ground_again HGR.out.1
  have hgw := groun_wf HGR.out.1 HY.out.wb HWV.out.1 HWV.out.2
  have HGA := Aside0.mk hga
  have HGW := Aside0.mk hgw
  clear hga hgw
  go_enter Tryz.func7, Tryz.ntmps7
  go_upto_region 4 with (first | (go_at_call 32; (with_reducible refine (great12_calls _ _ _ _ _ _ _ _ _ _ _ _ _ _ _ _).mono ?_); rintro e W' ⟨rfl, hb'⟩; replace c0 := pw_cell_below hb' c0; replace c1 := pw_cell_below hb' c1; replace c2 := pw_cell_below hb' c2; replace c3 := pw_cell_below hb' c3; replace c4 := pw_cell_below hb' c4; replace c7 := pw_cell_below hb' c7; replace c8 := pw_cell_below hb' c8; have HBN := Aside0.mk (below_step HB.out hb'); clear HB hb'; have HB := HBN; clear HBN; rw [HE.out]) | (go_at_call 33; (with_reducible refine (alive12_calls _ ⟨tab_below HB.out HT.out⟩).mono ?_); rintro e W' ⟨rfl, hb'⟩; replace c0 := pw_cell_below hb' c0; replace c1 := pw_cell_below hb' c1; replace c2 := pw_cell_below hb' c2; replace c3 := pw_cell_below hb' c3; replace c4 := pw_cell_below hb' c4; replace c7 := pw_cell_below hb' c7; replace c8 := pw_cell_below hb' c8; have HBN := Aside0.mk (below_step HB.out hb'); clear HB hb'; have HB := HBN; clear HBN) | (go_at_call 34; (with_reducible refine (GD.out _ HB.out).mono ?_); rintro e W' ⟨Ag, cg, rfl, kg, hb'⟩; replace c0 := pw_cell_below hb' c0; replace c1 := pw_cell_below hb' c1; replace c2 := pw_cell_below hb' c2; replace c3 := pw_cell_below hb' c3; replace c4 := pw_cell_below hb' c4; replace c7 := pw_cell_below hb' c7; replace c8 := pw_cell_below hb' c8; have HKG := Aside0.mk kg; have HBN := Aside0.mk (below_step HB.out hb'); clear HB hb' kg; have HB := HBN; clear HBN))
  have HBR := Aside0.mk (Below.refl W'.heap.size W')
  have GD2 : Aside0 (∀ W, Below W'.heap.size W' W → Calls Tryz.prog 34 #[.agg #[.int .i64 0, .int .i64 0, .slice Ag gn cg, .slice none 0 0, .slice none 0 0], .slice none 0 0, .slice none 0 0] W fun e w' => ∃ A' c', e = .returned (.tuple #[.slice A' gn c', .int .i64 0]) ∧ kNode.C w' A' gn gb ∧ Below W.heap.size W w') := ⟨fun W hb =>
    groun_named2 W 0 0 Ag none none cg 0 0 gn 0 0 gb [] [] HGR.out.2 rfl rfl ⟨by have := Kd.C_below HKG.out hb; rw [HGR.out.2] at this; exact this, HGW.out, Kd.C_nil _ _, (by simp), Kd.C_nil _ _, (by simp), (show (Lit.int .i64 0).wf = true by decide +kernel), (show (Lit.int .i64 0).wf = true by decide +kernel)⟩ none none 0 0 0 0 [] [] gb 0 gn HGA.out.2.2 HGR.out.2 rfl rfl (Kd.C_nil _ _) (Kd.C_nil _ _)⟩
  have HSM : Aside0 (∀ W, Below W'.heap.size W' W → Calls Tryz.prog 36 #[.slice Ag gn cg, .slice A n c] W fun e w' => e = .returned (.bool true) ∧ Below W.heap.size W w') := ⟨fun W hb => by
    have h1 := Kd.C_below HKG.out hb
    have h2 := Kd.C_below HY.out.rb (HB.out.trans (hb.mono HB.out.size))
    rw [HGR.out.2] at h1
    have := same_calls W Ag A cg c gb a h1 h2
    rw [← HGR.out.2, ← HN.out.1, HGA.out.2.1] at this
    exact this⟩
  have HSN : Aside0 (∀ W A2 d2, Below W'.heap.size W' W → kNode.C W A2 gn gb → Calls Tryz.prog 29 #[.slice Ag gn cg, .slice A2 gn d2] W fun e w' => e = .returned (.bool true) ∧ Below W.heap.size W w') := ⟨fun W A2 d2 hb h2 => by
    have h1 := Kd.C_below HKG.out hb
    rw [HGR.out.2] at h1 h2
    have := sameNodes_calls W Ag A2 cg d2 gb h1 h2
    rw [← HGR.out.2] at this
    exact this⟩
  go_upto_region 7 with (go_at_call 34; (with_reducible refine (GD2.out _ HBR.out).mono ?_); rintro e W2 ⟨A2, d2, rfl, kh, hb'⟩; replace c0 := pw_cell_below hb' c0; replace c1 := pw_cell_below hb' c1; replace c2 := pw_cell_below hb' c2; replace c3 := pw_cell_below hb' c3; replace c4 := pw_cell_below hb' c4; replace c7 := pw_cell_below hb' c7; replace c8 := pw_cell_below hb' c8; have HKH := Aside0.mk kh; clear kh; have HBN := Aside0.mk (below_step HBR.out hb'); clear HBR hb'; have HBR := HBN; clear HBN)
  go_wp2_with (first | (go_at_call 33; (with_reducible refine (alive12_calls _ ⟨tab_below (HB.out.trans (HBR.out.mono HB.out.size)) HT.out⟩).mono ?_); rintro e W2 ⟨rfl, hb'⟩; replace c0 := pw_cell_below hb' c0; replace c1 := pw_cell_below hb' c1; replace c2 := pw_cell_below hb' c2; replace c3 := pw_cell_below hb' c3; replace c4 := pw_cell_below hb' c4; replace c7 := pw_cell_below hb' c7; replace c8 := pw_cell_below hb' c8; have HKN := Aside0.mk (Kd.C_below HKH.out hb'); clear HKH; have HKH := HKN; clear HKN; have HBN := Aside0.mk (below_step HBR.out hb'); clear HBR hb'; have HBR := HBN; clear HBN) | (go_at_call 35; (with_reducible refine (still_calls _ Ag cg gn gb HGR.out.2 (Kd.C_below HKG.out HBR.out) HGA.out.1).mono ?_); rintro e W2 ⟨rfl, hb'⟩; replace c0 := pw_cell_below hb' c0; replace c1 := pw_cell_below hb' c1; replace c2 := pw_cell_below hb' c2; replace c3 := pw_cell_below hb' c3; replace c4 := pw_cell_below hb' c4; replace c7 := pw_cell_below hb' c7; replace c8 := pw_cell_below hb' c8; have HKN := Aside0.mk (Kd.C_below HKH.out hb'); clear HKH; have HKH := HKN; clear HKN; have HBN := Aside0.mk (below_step HBR.out hb'); clear HBR hb'; have HBR := HBN; clear HBN) | (go_at_call 36; (with_reducible refine (HSM.out _ HBR.out).mono ?_); rintro e W2 ⟨rfl, hb'⟩; replace c0 := pw_cell_below hb' c0; replace c1 := pw_cell_below hb' c1; replace c2 := pw_cell_below hb' c2; replace c3 := pw_cell_below hb' c3; replace c4 := pw_cell_below hb' c4; replace c7 := pw_cell_below hb' c7; replace c8 := pw_cell_below hb' c8; have HKN := Aside0.mk (Kd.C_below HKH.out hb'); clear HKH; have HKH := HKN; clear HKN; have HBN := Aside0.mk (below_step HBR.out hb'); clear HBR hb'; have HBR := HBN; clear HBN) | (go_at_call 29; (with_reducible refine (HSN.out _ A2 d2 HBR.out HKH.out).mono ?_); rintro e W2 ⟨rfl, hb'⟩; have HBN := Aside0.mk (below_step HBR.out hb'); clear HBR hb'; have HBR := HBN; clear HBN))
  go_ret
  exact ⟨rfl, HB.out.trans (HBR.out.mono HB.out.size)⟩
end L12
end Go.Proofs.YtjndjmggilcngaaGreatDoor
