/- schemes.Ground: a scheme's body where its variables have values, by walks through its code. -/
import Derived.Test.YtjndjmggilcngaaGreatDoorSc
import Derived.Test.YtjndjmggilcngaaGreatDoorTm

namespace Go.Proofs.YtjndjmggilcngaaGreatDoor
open Go.RowKit Go.Proofs.YtjndjmggilcngaaGreatDoorW.PrintWords Go.Proofs.YtjndjmggilcngaaGreatDoorW.PrintLast Go.Proofs.YtjndjmggilcngaaGreatDoorW.PrintMore
set_option linter.unusedVariables false
set_option linter.unusedSimpArgs false
/-- Has a term's variable a value? What it is then. -/
def hasV (m : Nat) (t : Term) : Bool := !t.f0 || decide (t.f1 < (m : Int))
def ofV (vs : List Int) (t : Term) : Term := if t.f0 then ⟨false, rd vs t.f1⟩ else t
theorem has_calls' (w : World) (B : Option Addr) (m d : Nat) (x : Spot) (hm : m ≤ 9223372036854775807) : Calls Tryz.prog 120 #[.slice B m d, spotV x] w fun e w' => e = .returned (.bool (hasV m x.f3)) ∧ Below w.heap.size w w' := by
  obtain ⟨x0, x1, x2, ⟨t, v⟩⟩ := x
  have hw : IntKind.u64.wrap (m : Int) = (m : Int) := wrap_u64 _ (by omega) (by omega)
  have HB := Aside0.mk (below_alloc (Below.refl w.heap.size w) (.cells #[.int .i64 x0, .int .u8 x1, .int .u8 x2, .bool t, .int .u64 v] 131))
  simp only [spotV]
  cases t with
  | false =>
    have HE : Aside0 (hasV m ⟨false, v⟩ = true) := ⟨rfl⟩
    go_enter Tryz.func120, Tryz.ntmps120
    go_wp2
    go_ret
    rw [HE.out]
    exact ⟨rfl, HB.out⟩
  | true =>
    have HE : Aside0 (hasV m ⟨true, v⟩ = decide (v < (m : Int))) := ⟨rfl⟩
    go_enter Tryz.func120, Tryz.ntmps120
    go_wp2
    go_ret
    rw [HE.out]
    exact ⟨rfl, HB.out⟩
set_option maxRecDepth 100000 in
set_option maxHeartbeats 4000000 in
theorem of_calls' (w : World) (B : Option Addr) (m d : Nat) (vs : List Int) (x : Spot) (hm : m = vs.length) (hr : (Kd.int .u64).C w B m vs) (hx : 0 ≤ x.f3.f1) (hh : hasV m x.f3 = true) : Calls Tryz.prog 122 #[.slice B m d, spotV x] w fun e w' => e = .returned (.agg #[.bool (ofV vs x.f3).f0, .int .u64 (ofV vs x.f3).f1]) ∧ Below w.heap.size w w' := by
  obtain ⟨x0, x1, x2, ⟨t, v⟩⟩ := x
  have hmax : m ≤ 9223372036854775807 := hr.2.1
  simp only at hx hh
  obtain ⟨O, hO⟩ : ∃ O : Obj, O = .cells #[.int .i64 x0, .int .u8 x1, .int .u8 x2, .bool t, .int .u64 v] 131 := ⟨_, rfl⟩
  have HB := Aside0.mk (below_alloc (below_alloc (Below.refl w.heap.size w) O) (.cells #[.bool false, .int .u64 0] 121))
  have HR := Aside0.mk hr
  simp only [spotV]
  cases t with
  | false =>
    have HE : Aside0 ((ofV vs ⟨false, v⟩).f0 = false ∧ (ofV vs ⟨false, v⟩).f1 = v) := ⟨rfl, rfl⟩
    clear hh hr
    subst hO
    go_enter Tryz.func122, Tryz.ntmps122
    go_wp2
    refine bodyPost_ret (v := .agg #[.bool false, .int .u64 v]) ?_ rfl ⟨by rw [HE.out.1, HE.out.2], below_alloc (below_alloc (Below.refl _ _) _) _⟩
    simp [results, Tryz.f122, go_sem]
  | true =>
    obtain ⟨k, rfl⟩ := Int.eq_ofNat_of_zero_le hx
    have hk : k < m := by
      have : decide ((k : Int) < (m : Int)) = true := hh
      have := of_decide_eq_true this
      omega
    obtain ⟨ad, rfl, c0⟩ := C_rd (Kd.C_below HR.out HB.out) k hk
    obtain ⟨u, hu⟩ : ∃ u, u = rd vs (k : Int) := ⟨_, rfl⟩
    rw [← hu] at c0
    have HE : Aside0 ((ofV vs ⟨true, (k : Int)⟩).f0 = false ∧ (ofV vs ⟨true, (k : Int)⟩).f1 = u) := ⟨rfl, hu.symm⟩
    clear hh hu hr
    subst hO
    go_enter Tryz.func122, Tryz.ntmps122
    go_wp2
    refine bodyPost_ret (v := .agg #[.bool false, .int .u64 u]) ?_ rfl ⟨by rw [HE.out.1, HE.out.2], below_alloc (below_alloc (Below.refl _ _) _) _⟩
    simp [results, Tryz.f122, go_sem]
theorem each_step {α β : Type} (f : α → β) (z : β) (l : List α) (n k : Nat) (hl : l.length = n) (hk : k < n) (y : β) (hy : y = f (l[k]'(by omega))) : ((l.take k).map f ++ List.replicate (n - k) z).set k y = (l.take (k + 1)).map f ++ List.replicate (n - (k + 1)) z := by
  have h1 : ((l.take k).map f).length = k := by rw [List.length_map, List.length_take]; omega
  rw [List.set_append_right _ _ (by omega), h1, Nat.sub_self, show n - k = (n - (k + 1)) + 1 by omega, List.replicate_succ, List.set_cons_zero, List.take_succ_eq_append_getElem (by omega), List.map_append, List.map_singleton, hy, List.append_assoc, List.singleton_append]
def termZ : Term := ⟨false, 0⟩
set_option maxRecDepth 100000 in
set_option maxHeartbeats 8000000 in
theorem each_calls (w : World) (A : Option Addr) (c n : Nat) (l : List Spot) (B : Option Addr) (m d : Nat) (vs : List Int) (hn : n = l.length) (h3 : n ≤ 300) (hr : kSpot.C w A n l) (hm : m = vs.length) (hv : (Kd.int .u64).C w B m vs) (hx : ∀ x ∈ l, 0 ≤ x.f3.f1 ∧ hasV m x.f3 = true) :
    Calls Tryz.prog 121 #[.slice A n c, .func (.func 122) #[.slice B m d] #[]] w fun e w' => ∃ A5 c5, e = .returned (.slice A5 n c5) ∧ kTerm.R 121 w' w.heap.size (fun _ => True) (.slice A5 n c5) (l.map fun x => ofV vs x.f3) ∧ Below w.heap.size w w' := by
  have HR := Aside0.mk hr
  have HN := Aside0.mk hn
  have HV := Aside0.mk hv
  have HM := Aside0.mk hm
  have HX := Aside0.mk hx
  clear hr hn hv hm hx
  go_enter Tryz.func121, Tryz.ntmps121
  go_wp2_with (at_make; refine Kd.R_make kTerm w.heap.size 121 rfl rfl 71 _ _ rfl (n : Int) rfl rfl rfl (.agg #[.bool false, .int .u64 0]) 16 Tm.info rfl (by decide) (by decide) termZ (ok := fun _ => True) (okp := fun _ => True) (k121_mkM _ _ _ termZ) (fun _ _ => trivial) trivial (by omega) (by simp; omega) (Below.refl _ _) (Nat.le_refl _) ?_; intro v1 w1 hR hb hg hat; obtain ⟨A5, c5, rfl⟩ := Kd.R_slice hR; rw [List.length_replicate, Int.toNat_natCast] at hR ⊢; have HO := Aside0.mk hR; have HB := Aside0.mk hb; clear hR hb hg hat)
  go_loopg [13] (n + 1) (fun g i W => ∃ k : Nat, i = .int .i64 (k : Int) ∧ k ≤ n ∧ n + 1 - k ≤ g ∧ Aside0 (kTerm.R 121 W w.heap.size (fun _ => True) (.slice A5 n c5) ((l.take k).map (fun x => ofV vs x.f3) ++ List.replicate (n - k) termZ)) ∧ Aside0 (Below w.heap.size w W))
  case atStart => exact ⟨0, rfl, Nat.zero_le _, by omega, ⟨by simpa using HO.out⟩, HB⟩
  case round =>
    clear HO HB
    obtain ⟨k, rfl, hk, hkg, HO, HB⟩ := hrel
    rcases Nat.lt_or_ge k n with hlt | hge
    · have hd : decide (k < n) = true := decide_eq_true hlt
      have hkl : k < l.length := by rw [← HN.out]; exact hlt
      obtain ⟨ad, rfl, c0, c1, c2, c3, c4⟩ := C_spotN (by rw [← HN.out]; exact Kd.C_below HR.out HB.out) k hkl
      obtain ⟨x, hx⟩ : ∃ x, x = l[k] := ⟨_, rfl⟩
      rw [← hx] at c0 c1 c2 c3 c4
      have hxx := HX.out x (by rw [hx]; exact List.getElem_mem _)
      have HX0 := Aside0.mk hx
      obtain ⟨t, ht⟩ : ∃ t, t = ofV vs x.f3 := ⟨_, rfl⟩
      have HT := Aside0.mk ht
      have OC : Aside0 (∀ W, Below w.heap.size w W → Calls Tryz.prog 122 #[.slice B m d, .agg #[.int .i64 x.f0, .int .u8 x.f1, .int .u8 x.f2, .bool x.f3.f0, .int .u64 x.f3.f1]] W fun e w' => e = .returned (.agg #[.bool t.f0, .int .u64 t.f1]) ∧ Below W.heap.size W w') := ⟨fun W hb => by rw [ht]; exact of_calls' W B m d vs x HM.out (Kd.C_below HV.out hb) hxx.1 hxx.2⟩
      obtain ⟨g5, rfl⟩ := R_pos HO.out (by omega)
      have hgw : w.heap.size ≤ g5 := ((Kd.R_bound HO.out).1 g5 rfl).2.1
      obtain ⟨O, hO⟩ : ∃ O : Obj, O = .cells #[.int .i64 x.f0, .int .u8 x.f1, .int .u8 x.f2, .bool x.f3.f0, .int .u64 x.f3.f1] 131 := ⟨_, rfl⟩
      have HBo := Aside0.mk (below_alloc HB.out O)
      have HOo := Aside0.mk (Kd.R_below HO.out (below_alloc (Below.refl _ _) O))
      have hol : ((l.take k).map (fun x => ofV vs x.f3) ++ List.replicate (n - k) termZ).length = n := by rw [List.length_append, List.length_map, List.length_take, List.length_replicate]; have := HN.out; omega
      subst hO
      clear hx ht hxx HB HO
      go_wp2_with (go_at_call 122; (with_reducible refine (OC.out _ HBo.out).mono ?_); rintro e W1 ⟨rfl, hb1⟩; have HB1 := Aside0.mk (below_step HBo.out hb1); have HO1 := Aside0.mk (Kd.R_below HOo.out hb1); obtain ⟨p0, p1, pf⟩ := Tm.cells HO1.out k (by rw [hol]; exact hlt); clear hb1)
      go_roundg (gk - 1)
      case measure => omega
      case rel =>
        have h2 := Tm.put HO1.out k (by rw [hol]; exact hlt) t
        rw [each_step (fun x => ofV vs x.f3) termZ l n k HN.out.symm hlt t (by rw [HT.out, HX0.out])] at h2
        exact ⟨k + 1, by go_num, by omega, by omega, ⟨h2⟩, ⟨below_set (below_set HB1.out _ hgw) _ hgw⟩⟩
    · have hd : decide (k < n) = false := decide_eq_false (by omega)
      obtain rfl : k = n := by omega
      go_wp2
      go_ret
      refine ⟨A5, c5, rfl, ?_, HB.out⟩
      have := HO.out
      rwa [List.take_of_length_le (by rw [← HN.out]; exact Nat.le_refl _), Nat.sub_self, List.replicate_zero, List.append_nil] at this
/-- What schemes.Ground answers: the body, and the error. -/
def grounS (lv ev : Int) (a : List Node) (ls xs : List Int) : List Node × Int :=
  if checkB a ≠ 0 then ([], checkB a)
  else if (ls.length : Int) ≠ lv ∨ (xs.length : Int) ≠ ev ∨ ((labB a).all (fun x => hasV ls.length x.f3) && (effB a).all (fun x => hasV xs.length x.f3)) = false then ([], 1)
  else (putB a ((labB a).map fun x => ofV ls x.f3) ((effB a).map fun x => ofV xs x.f3), 0)
set_option maxRecDepth 100000 in
set_option maxHeartbeats 8000000 in
theorem groun_calls (w : World) (y : SchY) (hy : y.ok w) (B1 B2 : Option Addr) (m1 m2 f1 f2 : Nat) (ls xs : List Int) (hm1 : m1 = ls.length) (hm2 : m2 = xs.length) (hl1 : (Kd.int .u64).C w B1 m1 ls) (hl2 : (Kd.int .u64).C w B2 m2 xs) :
    Calls Tryz.prog 34 #[y.v, .slice B1 m1 f1, .slice B2 m2 f2] w fun e w' => ∃ A' n' c', e = .returned (.tuple #[.slice A' n' c', .int .i64 (grounS y.lv y.ev y.body ls xs).2]) ∧ n' = (grounS y.lv y.ev y.body ls xs).1.length ∧ kNode.C w' A' n' (grounS y.lv y.ev y.body ls xs).1 ∧ Below w.heap.size w w' := by
  obtain ⟨lv, ev, A, c, a, LA, lc, L, EA, ec, E⟩ := y
  obtain ⟨hr, hwa, -, -, -, -, -, -⟩ := hy
  simp only at hr hwa
  simp only [SchY.v]
  obtain ⟨r, hr0⟩ : ∃ r, r = grounS lv ev a ls xs := ⟨_, rfl⟩
  rw [← hr0]
  obtain ⟨qa, hqa⟩ : ∃ q, q = checkB a := ⟨_, rfl⟩
  have HRE0 : Aside0 (r = if qa ≠ 0 then ([], qa) else if (m1 : Int) ≠ lv ∨ (m2 : Int) ≠ ev ∨ ((labB a).all (fun x => hasV m1 x.f3) && (effB a).all (fun x => hasV m2 x.f3)) = false then ([], 1)
    else (putB a ((labB a).map fun x => ofV ls x.f3) ((effB a).map fun x => ofV xs x.f3), 0)) := ⟨by rw [hr0, grounS, hqa, hm1, hm2]⟩
  obtain ⟨n, hn⟩ : ∃ n, n = a.length := ⟨_, rfl⟩
  have CK : Aside0 (∀ W, Below w.heap.size w W → Calls Tryz.prog 101 #[.slice A n c] W fun e w' => e = .returned (.int .i64 qa) ∧ Below W.heap.size W w') := ⟨fun W hb => by rw [hqa, hn]; exact check_calls W A c a (Kd.C_below hr hb)⟩
  have HR := Aside0.mk hr
  have HWA := Aside0.mk hwa
  have HN := Aside0.mk hn
  have HQ := Aside0.mk hqa
  have HM := Aside0.mk (And.intro hm1 hm2)
  have HL := Aside0.mk (And.intro hl1 hl2)
  have x1 : m1 ≤ 9223372036854775807 := hl1.2.1
  have x2 : m2 ≤ 9223372036854775807 := hl2.2.1
  rw [← hn]
  obtain ⟨k, hk⟩ : ∃ n, n = L.length := ⟨_, rfl⟩
  obtain ⟨m, hm⟩ : ∃ n, n = E.length := ⟨_, rfl⟩
  rw [← hk, ← hm]
  obtain ⟨O, hO⟩ : ∃ O : Obj, O = .cells #[.int .i64 lv, .int .i64 ev, .slice A n c, .slice LA k lc, .slice EA m ec] 80 := ⟨_, rfl⟩
  have HB := Aside0.mk (below_alloc (Below.refl w.heap.size w) O)
  have g := blk_new w O
  subst hO
  have c0 := (blk_cell g 0).trans (show _ = some (Value.int .i64 lv) from rfl)
  have c1 := (blk_cell g 1).trans (show _ = some (Value.int .i64 ev) from rfl)
  have c2 := (blk_cell g 2).trans (show _ = some (Value.slice A n c) from rfl)
  clear g hr0 hr hwa hqa hn hk hm hm1 hm2 hl1 hl2
  by_cases q1 : qa = 0
  rotate_left
  · have z1 : (qa != 0) = true := bne_iff_ne.mpr q1
    have HE : Aside0 (r = ([], qa)) := ⟨by rw [HRE0.out, if_pos q1]⟩
    clear HRE0 q1
    go_enter Tryz.func34, Tryz.ntmps34
    go_wp2_with (go_at_call 101; (with_reducible refine (CK.out _ HB.out).mono ?_); rintro e W' ⟨rfl, hb'⟩; replace c0 := pw_cell_below hb' c0; replace c1 := pw_cell_below hb' c1; replace c2 := pw_cell_below hb' c2; have HB' := Aside0.mk (below_step HB.out hb'); clear HB hb'; have HB := HB'; clear HB')
    go_ret2
    rw [HE.out]
    exact ⟨none, 0, 0, rfl, rfl, Kd.C_nil _ _, HB.out⟩
  subst q1
  go_enter Tryz.func34, Tryz.ntmps34
  go_wp2_with (go_at_call 101; (with_reducible refine (CK.out _ HB.out).mono ?_); rintro e W' ⟨rfl, hb'⟩; replace c0 := pw_cell_below hb' c0; replace c1 := pw_cell_below hb' c1; replace c2 := pw_cell_below hb' c2; have HB' := Aside0.mk (below_step HB.out hb'); clear HB hb'; have HB := HB'; clear HB')
  have OF := of_calls _ A c a (Kd.C_below HR.out HB.out)
  rw [← HN.out] at OF
  refine OF.mono ?_
  clear OF
  rintro e W1 ⟨u1, u2, rfl, s1, s2, hb'⟩
  obtain ⟨A1, d1, rfl⟩ := Kd.R_slice s1
  obtain ⟨A2, d2, rfl⟩ := Kd.R_slice s2
  obtain ⟨la, hla⟩ : ∃ l, l = labB a := ⟨_, rfl⟩
  obtain ⟨xa, hxa⟩ : ∃ l, l = effB a := ⟨_, rfl⟩
  have n1 : ∀ x ∈ la, 0 ≤ x.f3.f1 := by rw [hla]; exact labB_nonneg HWA.out
  have n2 : ∀ x ∈ xa, 0 ≤ x.f3.f1 := by rw [hxa]; exact effB_nonneg HWA.out
  have q1 : la.length ≤ 256 := by rw [hla]; exact labB_max a
  have q2 : xa.length ≤ 256 := by rw [hxa]; exact effB_max a
  replace s1 := (Kd.R_reads' s1).2.2
  replace s2 := (Kd.R_reads' s2).2.2
  rw [← hla] at s1 ⊢
  rw [← hxa] at s2 ⊢
  have HRE : Aside0 (r = if (m1 : Int) ≠ lv ∨ (m2 : Int) ≠ ev ∨ (la.all (fun x => hasV m1 x.f3) && xa.all (fun x => hasV m2 x.f3)) = false then ([], 1)
    else (putB a (la.map fun x => ofV ls x.f3) (xa.map fun x => ofV xs x.f3), 0)) := ⟨by rw [HRE0.out, if_neg (by simp), hla, hxa]⟩
  obtain ⟨K1, hK1⟩ : ∃ L, L = la.length := ⟨_, rfl⟩
  obtain ⟨K2, hK2⟩ : ∃ L, L = xa.length := ⟨_, rfl⟩
  rw [← hK1] at s1 q1 ⊢
  rw [← hK2] at s2 q2 ⊢
  have HK := Aside0.mk (And.intro hK1 hK2)
  have HLA := Aside0.mk (And.intro hla hxa)
  have HNN := Aside0.mk (And.intro n1 n2)
  have HS := Aside0.mk (And.intro s1 s2)
  replace c0 := pw_cell_below hb' c0; replace c1 := pw_cell_below hb' c1; replace c2 := pw_cell_below hb' c2
  have HB' := Aside0.mk (below_step HB.out hb'); clear HB hb'; have HB := HB'; clear HB'
  have HRW := Aside0.mk (Kd.C_below HR.out HB.out)
  have HLW := Aside0.mk (And.intro (Kd.C_below HL.out.1 HB.out) (Kd.C_below HL.out.2 HB.out))
  have HB1 := HB
  clear hla hxa n1 n2 s1 s2 hK1 hK2 HB CK HRE0
  have HB := Aside0.mk (Below.refl W1.heap.size W1)
  obtain ⟨t1, ht1⟩ : ∃ t, t = la.all (fun x => hasV m1 x.f3) := ⟨_, rfl⟩
  obtain ⟨t2, ht2⟩ : ∃ t, t = xa.all (fun x => hasV m2 x.f3) := ⟨_, rfl⟩
  have T1 : Aside0 (∀ W, Below W1.heap.size W1 W → Calls Tryz.prog 119 #[.slice A1 K1 d1, .func (.func 120) #[.slice B1 m1 f1] #[]] W fun e w' => e = .returned (.bool t1) ∧ Below W.heap.size W w') := ⟨fun W hb => by
    rw [ht1]
    exact everyH_calls W A1 d1 K1 la B1 m1 f1 _ HK.out.1 (by omega) (Kd.C_below HS.out.1 hb) fun W2 hb2 x hx => has_calls' W2 B1 m1 f1 x x1⟩
  have T2 : Aside0 (∀ W, Below W1.heap.size W1 W → Calls Tryz.prog 119 #[.slice A2 K2 d2, .func (.func 120) #[.slice B2 m2 f2] #[]] W fun e w' => e = .returned (.bool t2) ∧ Below W.heap.size W w') := ⟨fun W hb => by
    rw [ht2]
    exact everyH_calls W A2 d2 K2 xa B2 m2 f2 _ HK.out.2 (by omega) (Kd.C_below HS.out.2 hb) fun W2 hb2 x hx => has_calls' W2 B2 m2 f2 x x2⟩
  have HTT := Aside0.mk (And.intro ht1 ht2)
  clear ht1 ht2
  by_cases p1 : (m1 : Int) = lv
  rotate_left
  · have z1 : ((m1 : Int) != lv) = true := bne_iff_ne.mpr p1
    have HE : Aside0 (r = ([], 1)) := ⟨by rw [HRE.out, if_pos (.inl p1)]⟩
    clear HRE p1
    go_wp2_with (first | fail)
    go_ret2
    rw [HE.out]
    exact ⟨none, 0, 0, rfl, rfl, Kd.C_nil _ _, below_step HB1.out HB.out⟩
  subst p1
  by_cases p1 : (m2 : Int) = ev
  rotate_left
  · have z1 : ((m2 : Int) != ev) = true := bne_iff_ne.mpr p1
    have HE : Aside0 (r = ([], 1)) := ⟨by rw [HRE.out, if_pos (.inr (.inl p1))]⟩
    clear HRE p1
    go_wp2_with (first | fail)
    go_ret2
    rw [HE.out]
    exact ⟨none, 0, 0, rfl, rfl, Kd.C_nil _ _, below_step HB1.out HB.out⟩
  subst p1
  cases t1 with
  | false =>
    have HE : Aside0 (r = ([], 1)) := ⟨by rw [HRE.out, if_pos (.inr (.inr (by rw [← HTT.out.1]; rfl)))]⟩
    clear HRE
    go_wp2_with (first | (go_at_call 119; (with_reducible refine (T1.out _ HB.out).mono ?_); rintro e W' ⟨rfl, hb'⟩; replace c0 := pw_cell_below hb' c0; replace c1 := pw_cell_below hb' c1; replace c2 := pw_cell_below hb' c2; have HB' := Aside0.mk (below_step HB.out hb'); clear HB hb'; have HB := HB'; clear HB'))
    go_ret2
    rw [HE.out]
    exact ⟨none, 0, 0, rfl, rfl, Kd.C_nil _ _, below_step HB1.out HB.out⟩
  | true =>
  cases t2 with
  | false =>
    have HE : Aside0 (r = ([], 1)) := ⟨by rw [HRE.out, if_pos (.inr (.inr (by rw [← HTT.out.2, Bool.and_false])))]⟩
    clear HRE
    go_wp2_with (first | (go_at_call 119; (with_reducible refine (T1.out _ HB.out).mono ?_); rintro e W' ⟨rfl, hb'⟩; replace c0 := pw_cell_below hb' c0; replace c1 := pw_cell_below hb' c1; replace c2 := pw_cell_below hb' c2; have HB' := Aside0.mk (below_step HB.out hb'); clear HB hb'; have HB := HB'; clear HB') | (go_at_call 119; (with_reducible refine (T2.out _ HB.out).mono ?_); rintro e W' ⟨rfl, hb'⟩; replace c0 := pw_cell_below hb' c0; replace c1 := pw_cell_below hb' c1; replace c2 := pw_cell_below hb' c2; have HB' := Aside0.mk (below_step HB.out hb'); clear HB hb'; have HB := HB'; clear HB'))
    go_ret2
    rw [HE.out]
    exact ⟨none, 0, 0, rfl, rfl, Kd.C_nil _ _, below_step HB1.out HB.out⟩
  | true =>
  obtain ⟨T1s, hT1⟩ : ∃ l, l = la.map fun x => ofV ls x.f3 := ⟨_, rfl⟩
  obtain ⟨T2s, hT2⟩ : ∃ l, l = xa.map fun x => ofV xs x.f3 := ⟨_, rfl⟩
  have HE : Aside0 (r = (putB a T1s T2s, 0)) := ⟨by rw [HRE.out, if_neg (by rw [← HTT.out.1, ← HTT.out.2]; simp), hT1, hT2]⟩
  have hz : checkB a = 0 := HQ.out.symm
  have lt1 : K1 = T1s.length := by rw [hT1, List.length_map]; exact HK.out.1
  have lt2 : K2 = T2s.length := by rw [hT2, List.length_map]; exact HK.out.2
  have hpos : 0 < n := by rw [HN.out]; exact (checkB_L hz).1
  obtain ⟨ad, rfl, -⟩ := C_nodeN HRW.out 0 (by rw [← HN.out]; exact hpos)
  have E1 : Aside0 (∀ W, Below W1.heap.size W1 W → Calls Tryz.prog 121 #[.slice A1 K1 d1, .func (.func 122) #[.slice B1 m1 f1] #[]] W fun e w' => ∃ A5 c5, e = .returned (.slice A5 K1 c5) ∧ kTerm.C w' A5 K1 T1s ∧ Below W.heap.size W w') := ⟨fun W hb => by
    refine (each_calls W A1 d1 K1 la B1 m1 f1 ls HK.out.1 (by omega) (Kd.C_below HS.out.1 hb) HM.out.1 (Kd.C_below HLW.out.1 hb) (fun x hx => ⟨HNN.out.1 x hx, List.all_eq_true.1 HTT.out.1.symm x hx⟩)).mono ?_
    rintro e w' ⟨A5, c5, rfl, r5, hb'⟩
    have := (Kd.R_reads' r5).2.2
    rw [← hT1, ← lt1] at this
    exact ⟨A5, c5, rfl, this, hb'⟩⟩
  have E2 : Aside0 (∀ W, Below W1.heap.size W1 W → Calls Tryz.prog 121 #[.slice A2 K2 d2, .func (.func 122) #[.slice B2 m2 f2] #[]] W fun e w' => ∃ A5 c5, e = .returned (.slice A5 K2 c5) ∧ kTerm.C w' A5 K2 T2s ∧ Below W.heap.size W w') := ⟨fun W hb => by
    refine (each_calls W A2 d2 K2 xa B2 m2 f2 xs HK.out.2 (by omega) (Kd.C_below HS.out.2 hb) HM.out.2 (Kd.C_below HLW.out.2 hb) (fun x hx => ⟨HNN.out.2 x hx, List.all_eq_true.1 HTT.out.2.symm x hx⟩)).mono ?_
    rintro e w' ⟨A5, c5, rfl, r5, hb'⟩
    have := (Kd.R_reads' r5).2.2
    rw [← hT2, ← lt2] at this
    exact ⟨A5, c5, rfl, this, hb'⟩⟩
  have PU : Aside0 (∀ W A5 c5 A6 c6, Below W1.heap.size W1 W → kTerm.C W A5 K1 T1s → kTerm.C W A6 K2 T2s → Calls Tryz.prog 27 #[.slice (some ad) n c, .slice A5 K1 c5, .slice A6 K2 c6] W fun e w' => ∃ g, e = .returned (.tuple #[.slice (some ⟨g, 0, none⟩) n n, .int .i64 0]) ∧ kNode.C w' (some ⟨g, 0, none⟩) n (putB a T1s T2s) ∧ Below W.heap.size W w') := ⟨fun W A5 c5 A6 c6 hb k5 k6 => by
    refine (put_ok W ad c n a HN.out (Kd.C_below HRW.out hb) A5 A6 c5 c6 K1 K2 T1s T2s (by rw [← lt1]; exact k5) (by rw [← lt2]; exact k6) hz (by rw [HK.out.1, HLA.out.1, HN.out, ← labP_all hz, List.length_map]) (by rw [HK.out.2, HLA.out.2, HN.out, ← effP_all hz, List.length_map]) lt1 lt2).mono ?_
    rintro e w' ⟨g, c7, rfl, r7, hb'⟩
    have := (Kd.R_reads' r7).2.2
    rw [← baseL_len (putB_base a T1s T2s), ← HN.out] at this
    exact ⟨g, rfl, this, hb'⟩⟩
  have HLN : Aside0 (n = (putB a T1s T2s).length) := ⟨by rw [← baseL_len (putB_base a T1s T2s)]; exact HN.out⟩
  clear HRE hT1 hT2 hz lt1 lt2 hpos
  go_wp2_with (first | (go_at_call 119; (with_reducible refine (T1.out _ HB.out).mono ?_); rintro e W' ⟨rfl, hb'⟩; replace c0 := pw_cell_below hb' c0; replace c1 := pw_cell_below hb' c1; replace c2 := pw_cell_below hb' c2; have HB' := Aside0.mk (below_step HB.out hb'); clear HB hb'; have HB := HB'; clear HB') | (go_at_call 119; (with_reducible refine (T2.out _ HB.out).mono ?_); rintro e W' ⟨rfl, hb'⟩; replace c0 := pw_cell_below hb' c0; replace c1 := pw_cell_below hb' c1; replace c2 := pw_cell_below hb' c2; have HB' := Aside0.mk (below_step HB.out hb'); clear HB hb'; have HB := HB'; clear HB'))
  have HB' := Aside0.mk HB.out.drew
  clear HB
  have HB := HB'
  clear HB'
  go_region_with (first | (go_at_call 27; (with_reducible refine (PU.out _ _ _ _ _ HB.out k5 k6).mono ?_); rintro e W' ⟨g, rfl, k7, hb'⟩; have HB' := Aside0.mk (below_step HB.out hb'); clear HB hb'; have HB := HB'; clear HB'; clear k5 k6) | (go_at_call 121; (with_reducible refine (E1.out _ HB.out).mono ?_); rintro e W' ⟨A5, c5, rfl, k5, hb'⟩; (try replace k6 := Kd.C_below k6 hb'); replace c0 := pw_cell_below hb' c0; replace c1 := pw_cell_below hb' c1; replace c2 := pw_cell_below hb' c2; have HB' := Aside0.mk (below_step HB.out hb'); clear HB hb'; have HB := HB'; clear HB') | (go_at_call 121; (with_reducible refine (E2.out _ HB.out).mono ?_); rintro e W' ⟨A6, c6, rfl, k6, hb'⟩; (try replace k5 := Kd.C_below k5 hb'); replace c0 := pw_cell_below hb' c0; replace c1 := pw_cell_below hb' c1; replace c2 := pw_cell_below hb' c2; have HB' := Aside0.mk (below_step HB.out hb'); clear HB hb'; have HB := HB'; clear HB'))
  all_goals
    go_wp2
    go_ret2
    rw [HE.out]
    exact ⟨_, _, _, rfl, HLN.out, k7, below_step HB1.out HB.out⟩
end Go.Proofs.YtjndjmggilcngaaGreatDoor
