/- The law TypesParts: a walk through its code at every input. -/
import Derived.Test.YtoohandacpalpaaDoorL07A
import Derived.Test.YtoohandacpalpaaDoorOpN
namespace Go.Proofs.YtoohandacpalpaaDoor
open Go.RowKit Go.Shelf Go.Proofs.YtoohandacpalpaaDoorW.PrintWords Go.Proofs.YtoohandacpalpaaDoorW.PrintLast Go.Proofs.YtoohandacpalpaaDoorW.PrintMore
set_option linter.unusedVariables false
set_option linter.unusedSimpArgs false
namespace L07
theorem C_none (w : World) (A : Option Addr) : kNode.C w A ([] : List Node).length [] := ⟨rfl, by simp, fun h => by simp at h⟩
set_option maxRecDepth 100000 in
set_option maxHeartbeats 400000 in
theorem parts_no (w : World) (A : Option Addr) (c : Nat) (body : List Node) (at_ : Int) (hr : Kd.C kNode w A body.length body) (h : checkB body ≠ 0) :
    Calls Tryd.prog 4 #[.slice A body.length c, .int .u8 at_] w fun e w' => e = .returned (.bool true) ∧ Below w.heap.size w w' := by
  have HR := Aside0.mk hr
  have HB := Aside0.mk (Below.refl w.heap.size w)
  have HE := Aside0.mk (show endB body 0 = 0 by unfold endB; split; rfl; split; rfl; first | rw [if_neg h] | rfl)
  have HD := Aside0.mk (show deepB body = 0 by unfold deepB; rw [if_neg h])
  rcases Nat.eq_zero_or_pos body.length with hz | hz
  · obtain rfl := List.eq_nil_of_length_eq_zero hz
    have C1 : Aside0 (∀ W, Calls Tryd.prog 14 #[.slice A 0 c] W fun e w' => e = .returned (.int .i64 1) ∧ Below W.heap.size W w') := ⟨fun W => check_calls W A c [] (C_none W A)⟩
    have C2 : Aside0 (∀ W, Calls Tryd.prog 18 #[.slice A 0 c] W fun e w' => e = .returned (.int .i64 0) ∧ Below W.heap.size W w') := ⟨fun W => deep_calls W A c [] (C_none W A)⟩
    have C3 : Aside0 (∀ W, Calls Tryd.prog 16 #[.slice A 0 c, .int .i64 0] W fun e w' => e = .returned (.int .i64 0) ∧ Below W.heap.size W w') := ⟨fun W => end_calls W A c [] 0 (C_none W A)⟩
    clear hr h hz HE HD HR
    go_enter Tryd.func4, Tryd.ntmps4
    go_wp2_with (first
      | (go_at_call 14; refine (C1.out _).mono ?_; rintro e W' ⟨rfl, hb'⟩; have HB' := Aside0.mk (below_step HB.out hb'); clear HB hb'; have HB := HB'; clear HB')
      | (go_at_call 18; refine (C2.out _).mono ?_; rintro e W' ⟨rfl, hb'⟩; have HB' := Aside0.mk (below_step HB.out hb'); clear HB hb'; have HB := HB'; clear HB')
      | (go_at_call 16; refine (C3.out _).mono ?_; rintro e W' ⟨rfl, hb'⟩; have HB' := Aside0.mk (below_step HB.out hb'); clear HB hb'; have HB := HB'; clear HB')
      | (go_at_call 23; refine (alive_calls _).mono ?_; rintro e W' ⟨rfl, hb'⟩; have HB' := Aside0.mk (below_step HB.out hb'); clear HB hb'; have HB := HB'; clear HB'))
    all_goals
      go_ret
      exact ⟨rfl, HB.out⟩
  have z0 : ((body.length : Int) == 0) = false := beq_eq_false_iff_ne.mpr (by omega)
  obtain ⟨q, hq⟩ : ∃ q, q = checkB body := ⟨_, rfl⟩
  have HQ := Aside0.mk hq
  rw [← hq] at h
  have e0 : (q != 0) = true := bne_iff_ne.mpr h
  clear hr h hq
  go_enter Tryd.func4, Tryd.ntmps4
  go_wp2_with (first
    | (go_at_call 14; refine (check_calls _ A c body (Kd.C_below HR.out HB.out)).mono ?_; rw [← HQ.out]; rintro e W' ⟨rfl, hb'⟩; have HB' := Aside0.mk (below_step HB.out hb'); clear HB hb'; have HB := HB'; clear HB')
    | (go_at_call 18; refine (deep_calls _ A c body (Kd.C_below HR.out HB.out)).mono ?_; rw [HD.out]; rintro e W' ⟨rfl, hb'⟩; have HB' := Aside0.mk (below_step HB.out hb'); clear HB hb'; have HB := HB'; clear HB')
    | (go_at_call 16; refine (end_calls _ A c body 0 (Kd.C_below HR.out HB.out)).mono ?_; rw [HE.out]; rintro e W' ⟨rfl, hb'⟩; have HB' := Aside0.mk (below_step HB.out hb'); clear HB hb'; have HB := HB'; clear HB')
    | (go_at_call 23; refine (alive_calls _).mono ?_; rintro e W' ⟨rfl, hb'⟩; have HB' := Aside0.mk (below_step HB.out hb'); clear HB hb'; have HB := HB'; clear HB'))
  all_goals
    go_ret
    exact ⟨rfl, HB.out⟩

theorem piece_C {w : World} {ad : Addr} {body : List Node} (hr : kNode.C w (some ad) body.length body) (k m : Nat) (t : List Node) (hm : k + m ≤ body.length) (ht : (body.drop k).take m = t) : kNode.C w (some (ad.add (k * 10))) t.length t ∧ t.length = m := by
  have h := C_cut hr k m hm
  rw [ht] at h
  have e := h.1
  exact ⟨by rw [e]; exact h, e⟩
/-- Those below a node, from some on, that stand one behind the other up to its end. -/
def Left (body : List Node) (next en : Nat) (ks : Fo) : Prop := next + ks.flat.length = en ∧ body.drop next = ks.flat ++ body.drop en ∧ ks.ok 1

set_option maxRecDepth 100000 in
set_option maxHeartbeats 1000000 in
theorem parts_yes (w : World) (A : Option Addr) (c : Nat) (body : List Node) (at_ : Int) (h0 : 0 ≤ at_) (h255 : at_ ≤ 255) (hr : Kd.C kNode w A body.length body) (hc : body.length ≤ c) (h : checkB body = 0) :
    Calls Tryd.prog 4 #[.slice A body.length c, .int .u8 at_] w fun e w' => e = .returned (.bool true) ∧ Below w.heap.size w w' := by
  have hl := ((check_iff body).1 h).1
  have hpos : 0 < body.length := by
    rcases Nat.eq_zero_or_pos body.length with hz | hz
    · rw [List.eq_nil_of_length_eq_zero hz] at h; exact absurd h (by decide)
    · exact hz
  obtain ⟨ad, rfl⟩ : ∃ ad, A = some ad := by
    obtain ⟨ad, e, _⟩ := C_nodeN hr 0 hpos
    exact ⟨ad, e⟩
  obtain ⟨k, hk⟩ : ∃ k : Nat, at_ % (body.length : Int) = k := ⟨(at_ % (body.length : Int)).toNat, by have := Int.emod_nonneg at_ (show (body.length : Int) ≠ 0 by omega); omega⟩
  have hkl : k < body.length := by have := Int.emod_lt_of_pos at_ (show (0 : Int) < body.length by omega); omega
  obtain ⟨s, hs, hd, hle, hen, hdep, hdep2, hsp⟩ := tree_at body h k hkl
  obtain ⟨en, hend⟩ : ∃ en, en = k + s.flat.length := ⟨_, rfl⟩
  rw [← hend] at hle hen hd
  obtain ⟨dp, hdp⟩ : ∃ dp, dp = deepB body := ⟨_, rfl⟩
  rw [← hdp] at hdep hdep2
  obtain ⟨sh, hsh⟩ : ∃ sh, sh = s.height := ⟨_, rfl⟩
  rw [← hsh] at hdep hdep2
  obtain ⟨hpc, hpl⟩ := piece_C hr k s.flat.length s.flat (by omega) (by rw [hd, List.take_left])
  have hpl2 : en - k = s.flat.length := by omega
  obtain ⟨n, ks, hse⟩ : ∃ n ks, s = .cons n ks .nil := by
    rcases s with _ | ⟨n, ks, r⟩
    · exact absurd hs.1 (by simp [Fo.count])
    · have := Fo.flat_nil_of_count r (by have := hs.1; simp [Fo.count] at this; exact this)
      exact ⟨n, ks, by rw [this]⟩
  have hkids : body[k].f3 = ks.count := by
    have h1 := List.drop_eq_getElem_cons hkl
    rw [hd, hse] at h1
    simp only [Fo.flat, List.cons_append, List.cons.injEq] at h1
    have h2 := hs.2
    rw [hse] at h2
    rw [← h1.1]
    exact h2.2.1
  have HS16 : Aside0 (sh ≤ 16) := ⟨by have := Fo.ok_height s 1 hs.2; rw [← hsh] at this; omega⟩
  have CK : Aside0 (∀ W, Below w.heap.size w W → Calls Tryd.prog 14 #[.slice (some ad) body.length c] W fun e w' => e = .returned (.int .i64 0) ∧ Below W.heap.size W w') := ⟨fun W hb => by rw [← h]; exact check_calls W _ c body (Kd.C_below hr hb)⟩
  have CD : Aside0 (∀ W, Below w.heap.size w W → Calls Tryd.prog 18 #[.slice (some ad) body.length c] W fun e w' => e = .returned (.int .i64 dp) ∧ Below W.heap.size W w') := ⟨fun W hb => by rw [hdp]; exact deep_calls W _ c body (Kd.C_below hr hb)⟩
  have CE : Aside0 (∀ W, Below w.heap.size w W → Calls Tryd.prog 16 #[.slice (some ad) body.length c, .int .i64 (k : Int)] W fun e w' => e = .returned (.int .i64 (en : Int)) ∧ Below W.heap.size W w') := ⟨fun W hb => by rw [← hen]; exact end_calls W _ c body _ (Kd.C_below hr hb)⟩
  have CE0 : Aside0 (∀ W, Below w.heap.size w W → Calls Tryd.prog 16 #[.slice (some ad) body.length c, .int .i64 0] W fun e w' => e = .returned (.int .i64 (body.length : Int)) ∧ Below W.heap.size W w') := ⟨fun W hb => by rw [← end_root body h]; exact end_calls W _ c body _ (Kd.C_below hr hb)⟩
  have CPK : Aside0 (∀ W, Below w.heap.size w W → Calls Tryd.prog 14 #[.slice (some (ad.add (k * 10))) (en - k) (c - k)] W fun e w' => e = .returned (.int .i64 0) ∧ Below W.heap.size W w') := ⟨fun W hb => by rw [← check_tree s hs (by omega), hpl2]; exact check_calls W _ _ s.flat (Kd.C_below hpc hb)⟩
  have CPD : Aside0 (∀ W, Below w.heap.size w W → Calls Tryd.prog 18 #[.slice (some (ad.add (k * 10))) (en - k) (c - k)] W fun e w' => e = .returned (.int .i64 (sh : Int)) ∧ Below W.heap.size W w') := ⟨fun W hb => by rw [hsh, ← deep_tree s hs (by omega), hpl2]; exact deep_calls W _ _ s.flat (Kd.C_below hpc hb)⟩
  obtain ⟨kc, hkc⟩ : ∃ kc, kc = ks.count := ⟨_, rfl⟩
  rw [← hkc] at hkids
  have HKS : Aside0 (Left body (k + 1) en ks ∧ kc = ks.count ∧ kc ≤ 8 ∧ sh = ks.height + 1) := by
    have h2 := hs.2
    rw [hse] at h2
    have h3 : k + 1 + ks.flat.length = en := by rw [hend, hse]; simp [Fo.flat]; omega
    refine ⟨⟨h3, ?_, Fo.ok_le _ _ _ h2.2.2.2.2.1 (by omega)⟩, hkc, by have := h2.2.1; have := h2.2.2.1; omega, by rw [hsh, hse]; simp [Fo.height]⟩
    have h1 := List.drop_eq_getElem_cons hkl
    rw [hd, hse] at h1
    simp only [Fo.flat, List.cons_append, List.cons.injEq, List.append_nil] at h1
    exact h1.2.symm
  have HKI := Aside0.mk hkids
  have HC := Aside0.mk h
  have HR := Aside0.mk hr
  have HB := Aside0.mk (Below.refl w.heap.size w)
  have z0 : ((body.length : Int) == 0) = false := beq_eq_false_iff_ne.mpr (by omega)
  have z1 : decide (300 < (body.length : Int)) = false := decide_eq_false (by omega)
  have z2 : decide (en ≤ k) = false := decide_eq_false (by omega)
  have z3 : decide (body.length < en) = false := decide_eq_false (by omega)
  have z4 : decide (dp < (sh : Int)) = false := decide_eq_false (by omega)
  have hec : en ≤ c := by omega
  have hke : k ≤ en := by omega
  have hz6 : decide (0 < k) = true → decide (dp ≤ (sh : Int)) = false := fun hk0 => decide_eq_false (by have := hdep2 (of_decide_eq_true hk0); omega)
  clear hdep2 hd hpc hpl hpl2 hse hkids hen hend hdp hsh hs hkc
  cases hb : decide (0 < k)
  all_goals
    try have z6 := hz6 hb
    clear hr h hz6
    go_enter Tryd.func4, Tryd.ntmps4
    go_wp2_with (first | (go_at_call 14; (with_reducible refine (CPK.out _ HB.out).mono ?_); rintro e W' ⟨rfl, hb'⟩; have HB' := Aside0.mk (below_step HB.out hb'); clear HB hb'; have HB := HB'; clear HB') | (go_at_call 14; (with_reducible refine (CK.out _ HB.out).mono ?_); rintro e W' ⟨rfl, hb'⟩; have HB' := Aside0.mk (below_step HB.out hb'); clear HB hb'; have HB := HB'; clear HB') | (go_at_call 16; (with_reducible refine (CE0.out _ HB.out).mono ?_); rintro e W' ⟨rfl, hb'⟩; have HB' := Aside0.mk (below_step HB.out hb'); clear HB hb'; have HB := HB'; clear HB') | (go_at_call 16; (with_reducible refine (CE.out _ HB.out).mono ?_); rintro e W' ⟨rfl, hb'⟩; have HB' := Aside0.mk (below_step HB.out hb'); clear HB hb'; have HB := HB'; clear HB') | (go_at_call 18; (with_reducible refine (CPD.out _ HB.out).mono ?_); rintro e W' ⟨rfl, hb'⟩; have HB' := Aside0.mk (below_step HB.out hb'); clear HB hb'; have HB := HB'; clear HB') | (go_at_call 18; (with_reducible refine (CD.out _ HB.out).mono ?_); rintro e W' ⟨rfl, hb'⟩; have HB' := Aside0.mk (below_step HB.out hb'); clear HB hb'; have HB := HB'; clear HB'))
    go_loopg [8, 9, 10] 10 (fun g x y i W => ∃ (nx de j : Nat) (fo : Fo), x = .int .i64 nx ∧ y = .int .i64 de ∧ i = .int .i64 j ∧ Aside0 (Left body nx en fo ∧ j + fo.count = kc ∧ kc - j + 1 ≤ g ∧ max de fo.height + 1 = sh ∧ k < nx) ∧ Aside0 (Below w.heap.size w W))
    case atStart => exact ⟨k + 1, 0, 0, ks, by go_num, rfl, rfl, ⟨HKS.out.1, by have := HKS.out.2.1; omega, by have := HKS.out; omega, by have := HKS.out; omega, by omega⟩, HB⟩
    case round =>
      clear HB
      obtain ⟨nx, de, j, fo, rfl, rfl, rfl, HL, HB⟩ := hrel
      obtain ⟨ad2, e2, c0, c1, c2, c3, _⟩ := C_nodeN (Kd.C_below HR.out HB.out) k hkl
      cases e2
      rw [HKI.out] at c3
      clear c0 c1 c2
      have hjk : j ≤ kc := by have := HL.out; omega
      rcases fo with _ | ⟨n2, k2, r2⟩
      · have hj : decide (j < kc) = false := decide_eq_false (by have := HL.out.2.1; simp [Fo.count] at this; omega)
        have hnx : ((nx : Int) == (en : Int)) = true := beq_iff_eq.mpr (by have := HL.out.1.1; simp [Fo.flat] at this; omega)
        have hde : ((sh : Int) == (de : Int) + 1) = true := beq_iff_eq.mpr (by have := HL.out.2.2.2.1; simp [Fo.height] at this; omega)
        have hdes : de ≤ 1000 := by have := HL.out.2.2.2.1; have := HS16.out; omega
        go_wp2_with (first | (go_at_call 23; (with_reducible refine (alive_calls _).mono ?_); rintro e W' ⟨rfl, hb'⟩; have HB' := Aside0.mk (below_step HB.out hb'); clear HB hb'; have HB := HB'; clear HB') | (go_at_call 14; (with_reducible refine (CPK.out _ HB.out).mono ?_); rintro e W' ⟨rfl, hb'⟩; have HB' := Aside0.mk (below_step HB.out hb'); clear HB hb'; have HB := HB'; clear HB') | (go_at_call 14; (with_reducible refine (CK.out _ HB.out).mono ?_); rintro e W' ⟨rfl, hb'⟩; have HB' := Aside0.mk (below_step HB.out hb'); clear HB hb'; have HB := HB'; clear HB') | (go_at_call 16; (with_reducible refine (CE0.out _ HB.out).mono ?_); rintro e W' ⟨rfl, hb'⟩; have HB' := Aside0.mk (below_step HB.out hb'); clear HB hb'; have HB := HB'; clear HB') | (go_at_call 16; (with_reducible refine (CE.out _ HB.out).mono ?_); rintro e W' ⟨rfl, hb'⟩; have HB' := Aside0.mk (below_step HB.out hb'); clear HB hb'; have HB := HB'; clear HB') | (go_at_call 18; (with_reducible refine (CPD.out _ HB.out).mono ?_); rintro e W' ⟨rfl, hb'⟩; have HB' := Aside0.mk (below_step HB.out hb'); clear HB hb'; have HB := HB'; clear HB') | (go_at_call 18; (with_reducible refine (CD.out _ HB.out).mono ?_); rintro e W' ⟨rfl, hb'⟩; have HB' := Aside0.mk (below_step HB.out hb'); clear HB hb'; have HB := HB'; clear HB'))
        all_goals
          go_ret
          exact ⟨rfl, HB.out⟩
      · obtain ⟨⟨h1, h2, h3⟩, h4, h5, h6, h7⟩ := HL.out
        have ht : isTree (.cons n2 k2 .nil) := ⟨by simp [Fo.count], h3.1, h3.2.1, h3.2.2.1, h3.2.2.2.1, h3.2.2.2.2.1, trivial⟩
        obtain ⟨tt, hto⟩ : ∃ tt, tt = nx + 1 + k2.flat.length := ⟨_, rfl⟩
        have htl : (Fo.cons n2 k2 .nil).flat.length = 1 + k2.flat.length := by simp [Fo.flat]; omega
        simp only [Fo.flat, List.length_cons, List.length_append, Fo.count] at h1 h4
        have hdn : body.drop nx = (Fo.cons n2 k2 .nil).flat ++ (r2.flat ++ body.drop en) := by rw [h2]; simp [Fo.flat]
        have hee := end_at body HC.out nx (by omega) (.cons n2 k2 .nil) (r2.flat ++ body.drop en) ht hdn
        rw [htl, ← Nat.add_assoc, ← hto] at hee
        obtain ⟨hp2, hpl2⟩ := piece_C HR.out nx (1 + k2.flat.length) (Fo.cons n2 k2 .nil).flat (by omega) (by rw [hdn, ← htl, List.take_left])
        have hpl3 : tt - nx = (Fo.cons n2 k2 .nil).flat.length := by omega
        obtain ⟨dh, hdh⟩ : ∃ dh, dh = (Fo.cons n2 k2 .nil).height := ⟨_, rfl⟩
        have C5 : Aside0 (∀ W, Below w.heap.size w W → Calls Tryd.prog 16 #[.slice (some ad) body.length c, .int .i64 (nx : Int)] W fun e w' => e = .returned (.int .i64 (tt : Int)) ∧ Below W.heap.size W w') := ⟨fun W hb => by rw [← hee]; exact end_calls W _ c body _ (Kd.C_below HR.out hb)⟩
        have C6 : Aside0 (∀ W, Below w.heap.size w W → Calls Tryd.prog 18 #[.slice (some (ad.add (nx * 10))) (tt - nx) (c - nx)] W fun e w' => e = .returned (.int .i64 (dh : Int)) ∧ Below W.heap.size W w') := ⟨fun W hb => by rw [hdh, ← deep_tree _ ht (by omega), hpl3]; exact deep_calls W _ _ _ (Kd.C_below hp2 hb)⟩
        have hj : decide (j < kc) = true := decide_eq_true (by omega)
        have y1 : decide (en ≤ nx) = false := decide_eq_false (by omega)
        have y2 : decide (tt ≤ nx) = false := decide_eq_false (by omega)
        have y3 : decide (en < tt) = false := decide_eq_false (by omega)
        have hle2 : nx ≤ tt := by omega
        have htc : tt ≤ c := by omega
        have htb : tt ≤ en := by omega
        have HL2 : Aside0 (Left body tt en r2 ∧ (j + 1) + r2.count = kc ∧ kc - (j + 1) + 1 ≤ gk - 1 ∧ max (max de dh) r2.height + 1 = sh ∧ k < tt) := ⟨⟨by omega, by
            have e : tt = nx + (1 + k2.flat.length) := by omega
            rw [e, ← List.drop_drop, hdn, ← htl, List.drop_left], h3.2.2.2.2.2⟩, by omega, by omega, by simp only [Fo.height] at h6 hdh; omega, by omega⟩
        have hcn : ¬ c = nx := by omega
        have h16 : de ≤ 16 := by have := HS16.out; omega
        have h16' : dh ≤ 16 := by have := HS16.out; simp only [Fo.height] at h6 hdh; omega
        clear h1 h2 h3 h4 h5 h6 h7 ht hto htl hdn hee hp2 hpl2 hpl3 hdh HL
        have hj100 : j ≤ 100 := by have := HL2.out.2.1; have := HKS.out.2.2.1; omega
        have hg1 : gk - 1 < gk := by have := HL2.out.2.2.1; omega
        all_goals
          go_wp2_with (first | (go_at_call 16; (with_reducible refine (C5.out _ HB.out).mono ?_); rintro e W' ⟨rfl, hb'⟩; have HB' := Aside0.mk (below_step HB.out hb'); clear HB hb'; have HB := HB'; clear HB') | (go_at_call 18; (with_reducible refine (C6.out _ HB.out).mono ?_); rintro e W' ⟨rfl, hb'⟩; have HB' := Aside0.mk (below_step HB.out hb'); clear HB hb'; have HB := HB'; clear HB'))
          go_roundg (gk - 1)
          case measure => exact hg1
          case rel => exact ⟨tt, max de dh, j + 1, r2, rfl, by rw [show max (de : Int) dh = ((max de dh : Nat) : Int) by omega], by go_num, HL2, HB⟩

/-- TypesParts: true at every input. -/
theorem parts_walk (w : World) (A : Option Addr) (c : Nat) (body : List Node) (hr : Kd.C kNode w A body.length body) (hc : body.length ≤ c) (hw : ∀ n ∈ body, Node.wf n) (at_ : Int) (ha : (Lit.int .u8 at_).wf = true) :
    Calls Tryd.prog 4 #[.slice A body.length c, .int .u8 at_] w fun e w' => e = .returned (.bool true) ∧ Below w.heap.size w w' := by
  by_cases h : checkB body = 0
  · have := wf_u8 ha
    exact parts_yes w A c body at_ this.1 this.2 hr hc h
  · exact parts_no w A c body at_ hr h
end L07
end Go.Proofs.YtoohandacpalpaaDoor
