/- The law SpotsRefuse: a walk through its code at every input. -/
import Derived.Test.YtoohandacpalpaaDoorL08A
namespace Go.Proofs.YtoohandacpalpaaDoor
open Go.RowKit Go.Shelf Go.Proofs.YtoohandacpalpaaDoorW.PrintWords Go.Proofs.YtoohandacpalpaaDoorW.PrintLast Go.Proofs.YtoohandacpalpaaDoorW.PrintMore
set_option linter.unusedVariables false
set_option linter.unusedSimpArgs false
namespace L08
open L07
set_option maxRecDepth 100000 in
set_option maxHeartbeats 4000000 in
theorem refuse_big (w : World) (A B1 B2 : Option Addr) (N c m1 d1 m2 d2 : Nat) (h : 300 < N ∨ 600 < m1 ∨ 600 < m2) :
    Calls Tryd.prog 11 #[.slice A N c, .slice B1 m1 d1, .slice B2 m2 d2] w fun e w' => e = .returned (.bool true) ∧ Below w.heap.size w w' := by
  have HB := Aside0.mk (Below.refl w.heap.size w)
  by_cases h1 : 300 < N
  rotate_left
  by_cases h2 : 600 < m1
  all_goals
    try have z1 : decide (300 < (N : Int)) = true := decide_eq_true (by omega)
    try have z1 : decide (300 < (N : Int)) = false := decide_eq_false (by omega)
    try have z2 : decide (600 < (m1 : Int)) = true := decide_eq_true (by omega)
    try have z2 : decide (600 < (m1 : Int)) = false := decide_eq_false (by omega)
    try have z3 : decide (600 < (m2 : Int)) = true := decide_eq_true (by omega)
    clear h h1
    try clear h2
    go_enter Tryd.func11, Tryd.ntmps11
    go_wp2_with (go_at_call 28; (with_reducible refine (alive_calls _).mono ?_); rintro e W' ⟨rfl, hb'⟩; have HB' := Aside0.mk (below_step HB.out hb'); clear HB hb'; have HB := HB'; clear HB')
    go_ret
    exact ⟨rfl, HB.out⟩
/-- Of, Put and Check of the law's body, told beforehand. -/
theorem refuse_bad (w : World) (A B1 B2 : Option Addr) (N c m1 d1 m2 d2 : Nat) (body : List Node) (hN : N = body.length) (hr : kNode.C w A body.length body) (hz : checkB body ≠ 0) (h1 : N ≤ 300) (h2 : m1 ≤ 600) (h3 : m2 ≤ 600) :
    Calls Tryd.prog 11 #[.slice A N c, .slice B1 m1 d1, .slice B2 m2 d2] w fun e w' => e = .returned (.bool true) ∧ Below w.heap.size w w' := by
  have z1 : decide (300 < (N : Int)) = false := decide_eq_false (by omega)
  have z2 : decide (600 < (m1 : Int)) = false := decide_eq_false (by omega)
  have z3 : decide (600 < (m2 : Int)) = false := decide_eq_false (by omega)
  have OF : Aside0 (∀ W, Below w.heap.size w W → Calls Tryd.prog 27 #[.slice A N c] W fun e w' => ∃ v1 v2, e = .returned (.tuple #[v1, v2]) ∧ Below W.heap.size W w') := ⟨fun W hb => by
    rw [hN]
    refine (of_calls W A c body (Kd.C_below hr hb)).mono ?_
    rintro e w' ⟨v1, v2, he, _, _, hb'⟩
    exact ⟨v1, v2, he, hb'⟩⟩
  have PU : Aside0 (∀ W, Below w.heap.size w W → Calls Tryd.prog 31 #[.slice A N c, .slice B1 m1 d1, .slice B2 m2 d2] W fun e w' => e = .returned (.tuple #[.slice none 0 0, .int .i64 4]) ∧ Below W.heap.size W w') := ⟨fun W hb => by rw [hN]; exact put_bad W A c body (Kd.C_below hr hb) B1 B2 m1 d1 m2 d2 hz⟩
  obtain ⟨q, hq⟩ : ∃ q, q = checkB body := ⟨_, rfl⟩
  have CK : Aside0 (∀ W, Below w.heap.size w W → Calls Tryd.prog 14 #[.slice A N c] W fun e w' => e = .returned (.int .i64 q) ∧ Below W.heap.size W w') := ⟨fun W hb => by rw [hq, hN]; exact check_calls W A c body (Kd.C_below hr hb)⟩
  have e0 : (q != 0) = true := bne_iff_ne.mpr (by rw [hq]; exact hz)
  have HB := Aside0.mk (Below.refl w.heap.size w)
  clear hq hz hr hN
  go_enter Tryd.func11, Tryd.ntmps11
  go_wp2_with (first
    | (go_at_call 27; (with_reducible refine (OF.out _ HB.out).mono ?_); rintro e W' ⟨v1, v2, rfl, hb'⟩; have HB' := Aside0.mk (below_step HB.out hb'); clear HB hb'; have HB := HB'; clear HB')
    | (go_at_call 31; (with_reducible refine (PU.out _ HB.out).mono ?_); rintro e W' ⟨rfl, hb'⟩; have HB' := Aside0.mk (below_step HB.out hb'); clear HB hb'; have HB := HB'; clear HB') | (go_at_call 14; (with_reducible refine (CK.out _ HB.out).mono ?_); rintro e W' ⟨rfl, hb'⟩; have HB' := Aside0.mk (below_step HB.out hb'); clear HB hb'; have HB := HB'; clear HB') | (go_at_call 28; (with_reducible refine (alive_calls _).mono ?_); rintro e W' ⟨rfl, hb'⟩; have HB' := Aside0.mk (below_step HB.out hb'); clear HB hb'; have HB := HB'; clear HB'))
  go_ret
  exact ⟨rfl, HB.out⟩
set_option maxRecDepth 100000 in
set_option maxHeartbeats 4000000 in
theorem refuse_arg (w : World) (ad : Addr) (B1 B2 : Option Addr) (N c m1 d1 m2 d2 n1 n2 : Nat) (body : List Node) (hN : N = body.length) (hr : kNode.C w (some ad) body.length body) (hz : checkB body = 0) (hn1 : n1 = (labP body N).length) (hn2 : n2 = (effP body N).length) (hm : n1 ≠ m1 ∨ n2 ≠ m2) (h1 : N ≤ 300) (h2 : m1 ≤ 600) (h3 : m2 ≤ 600) :
    Calls Tryd.prog 11 #[.slice (some ad) N c, .slice B1 m1 d1, .slice B2 m2 d2] w fun e w' => e = .returned (.bool true) ∧ Below w.heap.size w w' := by
  have z1 : decide (300 < (N : Int)) = false := decide_eq_false (by omega)
  have z2 : decide (600 < (m1 : Int)) = false := decide_eq_false (by omega)
  have z3 : decide (600 < (m2 : Int)) = false := decide_eq_false (by omega)
  have OF : Aside0 (∀ W, Below w.heap.size w W → Calls Tryd.prog 27 #[.slice (some ad) N c] W fun e w' => ∃ A1 c1 A2 c2, e = .returned (.tuple #[.slice A1 n1 c1, .slice A2 n2 c2]) ∧ Below W.heap.size W w') := ⟨fun W hb => by
    rw [hN] at hn1 hn2 ⊢
    refine (of_calls W (some ad) c body (Kd.C_below hr hb)).mono ?_
    rintro e w' ⟨v1, v2, rfl, r1, r2, hb'⟩
    obtain ⟨A1, c1, rfl⟩ := Kd.R_slice r1
    obtain ⟨A2, c2, rfl⟩ := Kd.R_slice r2
    rw [hn1, hn2, labP_full hz, effP_full hz]
    exact ⟨A1, c1, A2, c2, rfl, hb'⟩⟩
  have PU : Aside0 (∀ W, Below w.heap.size w W → Calls Tryd.prog 31 #[.slice (some ad) N c, .slice B1 m1 d1, .slice B2 m2 d2] W fun e w' => e = .returned (.tuple #[.slice none 0 0, .int .i64 1]) ∧ Below W.heap.size W w') := ⟨fun W hb => put_arg W ad c N body hN (Kd.C_below hr hb) B1 B2 m1 d1 m2 d2 n1 n2 hz hn1 hn2 hm⟩
  have CK : Aside0 (∀ W, Below w.heap.size w W → Calls Tryd.prog 14 #[.slice (some ad) N c] W fun e w' => e = .returned (.int .i64 0) ∧ Below W.heap.size W w') := ⟨fun W hb => by rw [← hz, hN]; exact check_calls W (some ad) c body (Kd.C_below hr hb)⟩
  have HB := Aside0.mk (Below.refl w.heap.size w)
  clear hz hr hN hn1 hn2
  by_cases hx : m1 = n1
  all_goals
    try have y1 : ((m1 : Int) == (n1 : Int)) = true := beq_iff_eq.mpr (by omega)
    try have y1 : ((m1 : Int) == (n1 : Int)) = false := beq_eq_false_iff_ne.mpr (by omega)
    try have y2 : ((m2 : Int) == (n2 : Int)) = false := beq_eq_false_iff_ne.mpr (by have := hm.resolve_left (fun h => h hx.symm); omega)
    clear hx hm
    go_enter Tryd.func11, Tryd.ntmps11
    go_wp2_with (first
      | (go_at_call 27; (with_reducible refine (OF.out _ HB.out).mono ?_); rintro e W' ⟨A1, c1, A2, c2, rfl, hb'⟩; have HB' := Aside0.mk (below_step HB.out hb'); clear HB hb'; have HB := HB'; clear HB')
      | (go_at_call 31; (with_reducible refine (PU.out _ HB.out).mono ?_); rintro e W' ⟨rfl, hb'⟩; have HB' := Aside0.mk (below_step HB.out hb'); clear HB hb'; have HB := HB'; clear HB') | (go_at_call 14; (with_reducible refine (CK.out _ HB.out).mono ?_); rintro e W' ⟨rfl, hb'⟩; have HB' := Aside0.mk (below_step HB.out hb'); clear HB hb'; have HB := HB'; clear HB') | (go_at_call 28; (with_reducible refine (alive_calls _).mono ?_); rintro e W' ⟨rfl, hb'⟩; have HB' := Aside0.mk (below_step HB.out hb'); clear HB hb'; have HB := HB'; clear HB'))
    go_ret
    exact ⟨rfl, HB.out⟩
set_option maxRecDepth 100000 in
set_option maxHeartbeats 4000000 in
theorem refuse_ok (w : World) (ad : Addr) (B1 B2 : Option Addr) (N c d1 d2 n1 n2 : Nat) (body : List Node) (ls es : List Term) (hl1 : kTerm.C w B1 ls.length ls) (hl2 : kTerm.C w B2 es.length es) (hN : N = body.length) (hr : kNode.C w (some ad) body.length body) (hz : checkB body = 0) (hn1 : n1 = (labP body N).length) (hn2 : n2 = (effP body N).length) (hm1 : n1 = ls.length) (hm2 : n2 = es.length) (h1 : N ≤ 300) (h2 : n1 ≤ 600) (h3 : n2 ≤ 600) :
    Calls Tryd.prog 11 #[.slice (some ad) N c, .slice B1 n1 d1, .slice B2 n2 d2] w fun e w' => e = .returned (.bool true) ∧ Below w.heap.size w w' := by
  have z1 : decide (300 < (N : Int)) = false := decide_eq_false (by omega)
  have z2 : decide (600 < (n1 : Int)) = false := decide_eq_false (by omega)
  have z3 : decide (600 < (n2 : Int)) = false := decide_eq_false (by omega)
  have OF : Aside0 (∀ W, Below w.heap.size w W → Calls Tryd.prog 27 #[.slice (some ad) N c] W fun e w' => ∃ A1 c1 A2 c2, e = .returned (.tuple #[.slice A1 n1 c1, .slice A2 n2 c2]) ∧ Below W.heap.size W w') := ⟨fun W hb => by
    rw [hN] at hn1 hn2 ⊢
    refine (of_calls W (some ad) c body (Kd.C_below hr hb)).mono ?_
    rintro e w' ⟨v1, v2, rfl, r1, r2, hb'⟩
    obtain ⟨A1, c1, rfl⟩ := Kd.R_slice r1
    obtain ⟨A2, c2, rfl⟩ := Kd.R_slice r2
    rw [hn1, hn2, labP_full hz, effP_full hz]
    exact ⟨A1, c1, A2, c2, rfl, hb'⟩⟩
  have PU : Aside0 (∀ W, Below w.heap.size w W → Calls Tryd.prog 31 #[.slice (some ad) N c, .slice B1 n1 d1, .slice B2 n2 d2] W fun e w' => ∃ g c1, e = .returned (.tuple #[.slice (some ⟨g, 0, none⟩) N N, .int .i64 0]) ∧ kNode.R 36 w' W.heap.size (fun _ => True) (.slice (some ⟨g, 0, none⟩) N c1) (putB body ls es) ∧ Below W.heap.size W w') := ⟨fun W hb => put_ok W ad c N body hN (Kd.C_below hr hb) B1 B2 d1 d2 n1 n2 ls es (Kd.C_below hl1 hb) (Kd.C_below hl2 hb) hz hn1 hn2 hm1 hm2⟩
  have CK : Aside0 (∀ W, Below w.heap.size w W → Calls Tryd.prog 14 #[.slice (some ad) N c] W fun e w' => e = .returned (.int .i64 0) ∧ Below W.heap.size W w') := ⟨fun W hb => by rw [← hz, hN]; exact check_calls W (some ad) c body (Kd.C_below hr hb)⟩
  have hpl : (putB body ls es).length = N := by rw [hN]; exact (baseL_len (putB_base body ls es)).symm
  have hpz : checkB (putB body ls es) = 0 := by rw [putB_check]; exact hz
  have CP : Aside0 (∀ W g, kNode.C W (some ⟨g, 0, none⟩) N (putB body ls es) → Calls Tryd.prog 14 #[.slice (some ⟨g, 0, none⟩) N N] W fun e w' => e = .returned (.int .i64 0) ∧ Below W.heap.size W w') := ⟨fun W g h => by
    have := check_calls W (some ⟨g, 0, none⟩) N (putB body ls es) (by rw [hpl]; exact h)
    rwa [hpl, hpz] at this⟩
  have HB := Aside0.mk (Below.refl w.heap.size w)
  clear hz hr hN hn1 hn2 hm1 hm2 hl1 hl2 hpz
  have HPL := Aside0.mk hpl
  clear hpl
  go_enter Tryd.func11, Tryd.ntmps11
  go_wp2_with (first
      | (go_at_call 27; (with_reducible refine (OF.out _ HB.out).mono ?_); rintro e W' ⟨A1, c1, A2, c2, rfl, hb'⟩; have HB' := Aside0.mk (below_step HB.out hb'); clear HB hb'; have HB := HB'; clear HB')
      | (go_at_call 31; (with_reducible refine (PU.out _ HB.out).mono ?_); rintro e W' ⟨g, c3, rfl, r3, hb'⟩; have HB' := Aside0.mk (below_step HB.out hb'); have HO : Aside0 (kNode.C W' (some ⟨g, 0, none⟩) N (putB body ls es)) := ⟨(by have h := (Kd.R_reads' r3).2.2; rw [HPL.out] at h; exact h)⟩; clear HB hb' r3; have HB := HB'; clear HB')
      | (go_at_call 14; (with_reducible refine (CK.out _ HB.out).mono ?_); rintro e W' ⟨rfl, hb'⟩; have HB' := Aside0.mk (below_step HB.out hb'); have HO' := Aside0.mk (Kd.C_below HO.out hb'); clear HB HO hb'; have HB := HB'; have HO := HO'; clear HB' HO')
      | (go_at_call 14; (with_reducible refine (CP.out _ _ HO.out).mono ?_); rintro e W' ⟨rfl, hb'⟩; have HB' := Aside0.mk (below_step HB.out hb'); clear HB HO hb'; have HB := HB'; clear HB')
      | (go_at_call 28; (with_reducible refine (alive_calls _).mono ?_); rintro e W' ⟨rfl, hb'⟩; have HB' := Aside0.mk (below_step HB.out hb'); (try (have HO' := Aside0.mk (Kd.C_below HO.out hb'); clear HO; have HO := HO'; clear HO')); clear HB hb'; have HB := HB'; clear HB'))
  go_ret
  exact ⟨rfl, HB.out⟩
/-- SpotsRefuse: true at every input. -/
theorem refuse_walk (w : World) (A : Option Addr) (c : Nat) (body : List Node) (hr : Kd.C kNode w A body.length body) (hc : body.length ≤ c) (hw : ∀ n ∈ body, Node.wf n) (B1 : Option Addr) (d1 : Nat) (ls : List Term) (hl1 : Kd.C kTerm w B1 ls.length ls) (hd1 : ls.length ≤ d1) (hw1 : ∀ t ∈ ls, Term.wf t) (B2 : Option Addr) (d2 : Nat) (es : List Term) (hl2 : Kd.C kTerm w B2 es.length es) (hd2 : es.length ≤ d2) (hw2 : ∀ t ∈ es, Term.wf t) :
    Calls Tryd.prog 11 #[.slice A body.length c, .slice B1 ls.length d1, .slice B2 es.length d2] w fun e w' => e = .returned (.bool true) ∧ Below w.heap.size w w' := by
  by_cases h : 300 < body.length ∨ 600 < ls.length ∨ 600 < es.length
  · exact refuse_big w A B1 B2 _ c _ d1 _ d2 h
  · by_cases hz : checkB body = 0
    · obtain ⟨ad, rfl, -⟩ := C_nodeN hr 0 (checkB_L hz).1
      by_cases hm : (labP body body.length).length = ls.length ∧ (effP body body.length).length = es.length
      · have h1 := refuse_ok w ad B1 B2 _ c d1 d2 _ _ body ls es hl1 hl2 rfl hr hz rfl rfl hm.1 hm.2 (by omega) (by omega) (by omega)
        rwa [hm.1, hm.2] at h1
      · exact refuse_arg w ad B1 B2 _ c _ d1 _ d2 _ _ body rfl hr hz rfl rfl (by omega) (by omega) (by omega) (by omega)
    · exact refuse_bad w A B1 B2 _ c _ d1 _ d2 body rfl hr hz (by omega) (by omega) (by omega)
end L08
end Go.Proofs.YtoohandacpalpaaDoor
