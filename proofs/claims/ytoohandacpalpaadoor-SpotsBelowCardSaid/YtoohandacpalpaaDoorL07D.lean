/- The law TypesPut: a walk through its code at every input. -/
import Derived.Test.YtoohandacpalpaaDoorL07C
namespace Go.Proofs.YtoohandacpalpaaDoor
open Go.RowKit Go.Shelf Go.Proofs.YtoohandacpalpaaDoorW.PrintWords Go.Proofs.YtoohandacpalpaaDoorW.PrintLast Go.Proofs.YtoohandacpalpaaDoorW.PrintMore
set_option linter.unusedVariables false
set_option linter.unusedSimpArgs false
namespace L07
def refN : Node := ⟨4, 0, ⟨#[]⟩, 1, zT, zT, zT⟩
def tupN : Node := ⟨3, 0, ⟨#[]⟩, 2, zT, zT, zT⟩
/-- What is asked of a body below one more node. -/
def Puts (l : List Node) (h : Nat) : Prop := checkB l = (if 128 < l.length then 3 else if 16 < h + 1 then 3 else 0) ∧ (l.length ≤ 128 → h < 16 → deepB l = h + 1)
theorem puts_of (f : Fo) (h : Nat) (hf : f.fit) (hc : f.count = 1) (hh : f.height = h + 1) : Puts f.flat h := by
  refine ⟨?_, fun h1 h2 => ?_⟩
  · rw [check_fit f hf hc, hh]
  · rw [deep_fit f hf hc h1 (by omega), hh]; rfl
theorem may_ref : mayB refN = true := by decide +kernel
theorem may_tup : mayB tupN = true := by decide +kernel
theorem may_fun : mayB funN = true := by decide +kernel
theorem may_whole : mayB wholeN = true := by decide +kernel
theorem puts_ref (f : Fo) (hf : f.fit) (hc : f.count = 1) : Puts ([refN] ++ f.flat) f.height := by
  have := puts_of (.cons refN f .nil) f.height ⟨may_ref, by rw [hc]; rfl, by decide, hf, trivial⟩ (by simp [Fo.count]) (by simp [Fo.height])
  simpa [Fo.flat] using this
theorem puts_tup (f : Fo) (hf : f.fit) (hc : f.count = 1) (hp : 0 < f.height) : Puts ([tupN, wholeN] ++ f.flat) f.height := by
  have := puts_of (.cons tupN (.cons wholeN .nil f) .nil) f.height ⟨may_tup, by simp [Fo.count, hc]; rfl, by decide, ⟨may_whole, rfl, by decide, trivial, hf⟩, trivial⟩ (by simp [Fo.count]) (by simp [Fo.height]; omega)
  simpa [Fo.flat] using this
theorem puts_fun (f : Fo) (hf : f.fit) (hc : f.count = 1) (hp : 0 < f.height) : Puts ([funN, wholeN] ++ f.flat) f.height := by
  have := puts_of (.cons funN (.cons wholeN .nil f) .nil) f.height ⟨may_fun, by simp [Fo.count, hc]; rfl, by decide, ⟨may_whole, rfl, by decide, trivial, hf⟩, trivial⟩ (by simp [Fo.count]) (by simp [Fo.height]; omega)
  simpa [Fo.flat] using this
theorem puts_arg (f : Fo) (hf : f.fit) (hc : f.count = 1) (hp : 0 < f.height) : Puts ([funN] ++ f.flat ++ [wholeN]) f.height := by
  rcases f with _ | ⟨n, ks, r⟩
  · simp [Fo.count] at hc
  · obtain rfl := Fo.flat_nil_of_count r (by simpa [Fo.count] using hc)
    obtain ⟨h1, h2, h3, h4, _⟩ := hf
    have := puts_of (.cons funN (.cons n ks (.cons wholeN .nil .nil)) .nil) (Fo.cons n ks .nil).height ⟨may_fun, by simp [Fo.count]; rfl, by decide, ⟨h1, h2, h3, h4, may_whole, rfl, by decide, trivial, trivial⟩, trivial⟩ (by simp [Fo.count]) (by simp [Fo.height])
    simpa [Fo.flat] using this
def refC : List Value := [.int .u8 4, .int .i64 0, .string ⟨#[]⟩, .int .i64 1, .bool false, .int .u64 0, .bool false, .int .u64 0, .bool false, .int .u64 0]
def tupC : List Value := [.int .u8 3, .int .i64 0, .string ⟨#[]⟩, .int .i64 2, .bool false, .int .u64 0, .bool false, .int .u64 0, .bool false, .int .u64 0]
theorem node_reps {W : World} {base : Nat} {ok : Nat → Prop} : ∀ (l : List Node), Reps (kNode.M W base ok) kNode.sz l (l.flatMap nodeC)
  | [] => Reps.none _ _
  | n :: t => reps_cons (k36_mkM W base ok n) rfl (node_reps t)
/-- A literal of nodes, as it lies in memory. -/
theorem lit_R (W : World) (base : Nat) (hb : base ≤ W.heap.size) (l : List Node) (hl : l.length ≤ maxLen) : kNode.R 36 (W.alloc (.cells (l.flatMap nodeC).toArray 36)) base (fun _ => True) (.slice (some ⟨W.heap.size, 0, none⟩) l.length l.length) l :=
  R_block (blk_new W _) hb trivial (node_reps l) hl
set_option maxRecDepth 100000 in
set_option maxHeartbeats 400000 in
theorem put_no (w : World) (A : Option Addr) (c : Nat) (body : List Node) (at_ : Int) (hr : Kd.C kNode w A body.length body) (h : checkB body ≠ 0) :
    Calls Tryd.prog 7 #[.slice A body.length c, .int .u8 at_] w fun e w' => e = .returned (.bool true) ∧ Below w.heap.size w w' := by
  have HR := Aside0.mk hr
  have HB := Aside0.mk (Below.refl w.heap.size w)
  obtain ⟨q, hq⟩ : ∃ q, q = checkB body := ⟨_, rfl⟩
  have HQ := Aside0.mk hq
  rw [← hq] at h
  have e0 : (q != 0) = true := bne_iff_ne.mpr h
  clear hr h hq
  go_enter Tryd.func7, Tryd.ntmps7
  go_wp2_with (first
      | (go_at_call 14; (with_reducible refine (check_calls _ A c body (Kd.C_below HR.out HB.out)).mono ?_); rw [← HQ.out]; rintro e W' ⟨rfl, hb'⟩; have HB' := Aside0.mk (below_step HB.out hb'); clear HB hb'; have HB := HB'; clear HB')
      | (go_at_call 23; (with_reducible refine (alive_calls _).mono ?_); rintro e W' ⟨rfl, hb'⟩; have HB' := Aside0.mk (below_step HB.out hb'); clear HB hb'; have HB := HB'; clear HB'))
  all_goals
      go_ret
      exact ⟨rfl, HB.out⟩
theorem check_m (w : World) (A : Option Addr) (c : Nat) (l : List Node) (m : Nat) (q : Int) (hr : Kd.C kNode w A l.length l) (hm : m = l.length) (hq : checkB l = q) : Calls Tryd.prog 14 #[.slice A m c] w fun e w' => e = .returned (.int .i64 q) ∧ Below w.heap.size w w' := by
  rw [hm, ← hq]; exact check_calls w A c l hr
theorem deep_m (w : World) (A : Option Addr) (c : Nat) (l : List Node) (m : Nat) (q : Int) (hr : Kd.C kNode w A l.length l) (hm : m = l.length) (hq : deepB l = q) : Calls Tryd.prog 18 #[.slice A m c] w fun e w' => e = .returned (.int .i64 q) ∧ Below w.heap.size w w' := by
  rw [hm, ← hq]; exact deep_calls w A c l hr
set_option maxRecDepth 100000 in
set_option maxHeartbeats 2000000 in
theorem put_ref (w : World) (A : Option Addr) (c : Nat) (body : List Node) (at_ : Int) (h0 : 0 ≤ at_) (h255 : at_ ≤ 255) (hj : at_ % 4 = 0) (hr : Kd.C kNode w A body.length body) (hc : body.length ≤ c) (h : checkB body = 0) :
    Calls Tryd.prog 7 #[.slice A body.length c, .int .u8 at_] w fun e w' => e = .returned (.bool true) ∧ Below w.heap.size w w' := by
  obtain ⟨f, hf, hfc, hfb, hdp, hh0, hh16, h128⟩ := body_tree h
  have hpu := puts_ref f hf hfc
  rw [← hfb] at hpu
  obtain ⟨t, ht⟩ : ∃ t, t = f.height := ⟨_, rfl⟩
  obtain ⟨n, hn⟩ : ∃ n, n = body.length := ⟨_, rfl⟩
  obtain ⟨m, hm⟩ : ∃ m, m = ([refN] ++ body).length := ⟨_, rfl⟩
  rw [← ht] at hpu hdp hh0 hh16
  have HN := Aside0.mk hn
  have HM := Aside0.mk hm
  have HR := Aside0.mk hr
  have HB := Aside0.mk (Below.refl w.heap.size w)
  have hmn : m = n + 1 := by rw [hm, hn]; simp
  rw [← hn] at hc h128 ⊢
  obtain ⟨hp1, hp2⟩ := hpu
  rw [← hm] at hp1 hp2
  have CK : Aside0 (∀ W, Below w.heap.size w W → Calls Tryd.prog 14 #[.slice A n c] W fun e w' => e = .returned (.int .i64 0) ∧ Below W.heap.size W w') := ⟨fun W hb => by rw [← h, hn]; exact check_calls W _ c body (Kd.C_below hr hb)⟩
  have CD : Aside0 (∀ W, Below w.heap.size w W → Calls Tryd.prog 18 #[.slice A n c] W fun e w' => e = .returned (.int .i64 (t : Int)) ∧ Below W.heap.size W w') := ⟨fun W hb => by rw [← hdp, hn]; exact deep_calls W _ c body (Kd.C_below hr hb)⟩
  have z1 : decide (200 < (n : Int)) = false := decide_eq_false (by omega)
  have hm200 : m ≤ 200 := by omega
  clear hr h hn ht hdp hfc hf hfb hm hmn
  by_cases y1 : 128 < m
  rotate_left
  by_cases y2 : t < 16
  all_goals
    first
      | (have HQ : Aside0 (checkB ([refN] ++ body) = 3) := ⟨by rw [hp1, if_pos y1]⟩
         have HD : Aside0 (deepB ([refN] ++ body) = deepB ([refN] ++ body)) := ⟨rfl⟩
         have z3 : decide ((m : Int) ≤ 128) = false := decide_eq_false (by omega))
      | (have HQ : Aside0 (checkB ([refN] ++ body) = 0) := ⟨by rw [hp1, if_neg y1, if_neg (by omega)]⟩
         have HD : Aside0 (deepB ([refN] ++ body) = (t : Int) + 1) := ⟨hp2 (by omega) y2⟩
         have z3 : decide ((m : Int) ≤ 128) = true := decide_eq_true (by omega)
         have z4 : decide ((t : Int) < 16) = true := decide_eq_true (by omega))
      | (have HQ : Aside0 (checkB ([refN] ++ body) = 3) := ⟨by rw [hp1, if_neg y1, if_pos (by omega)]⟩
         have HD : Aside0 (deepB ([refN] ++ body) = deepB ([refN] ++ body)) := ⟨rfl⟩
         have z3 : decide ((m : Int) ≤ 128) = true := decide_eq_true (by omega)
         have z4 : decide ((t : Int) < 16) = false := decide_eq_false (by omega))
    clear hp1 hp2
    go_enter Tryd.func7, Tryd.ntmps7
    go_wp2_with (first
      | (go_at_call 14; (with_reducible refine (CK.out _ HB.out).mono ?_); rintro e W' ⟨rfl, hb'⟩; have HB' := Aside0.mk (below_step HB.out hb'); clear HB; have HB := HB'; clear HB'; (try (have HL' := Aside0.mk (Kd.C_below HL.out hb'); clear HL; have HL := HL'; clear HL')); (try (have HO' := Aside0.mk (Kd.R_below HO.out hb'); clear HO; have HO := HO'; clear HO')); clear hb')
      | (go_at_call 14; (with_reducible refine (check_m _ _ _ _ _ _ HL.out HM.out HQ.out).mono ?_); rintro e W' ⟨rfl, hb'⟩; have HB' := Aside0.mk (below_step HB.out hb'); clear HB; have HB := HB'; clear HB'; (try (have HL' := Aside0.mk (Kd.C_below HL.out hb'); clear HL; have HL := HL'; clear HL')); (try (have HO' := Aside0.mk (Kd.R_below HO.out hb'); clear HO; have HO := HO'; clear HO')); clear hb')
      | (go_at_call 18; (with_reducible refine (CD.out _ HB.out).mono ?_); rintro e W' ⟨rfl, hb'⟩; have HB' := Aside0.mk (below_step HB.out hb'); clear HB; have HB := HB'; clear HB'; (try (have HL' := Aside0.mk (Kd.C_below HL.out hb'); clear HL; have HL := HL'; clear HL')); (try (have HO' := Aside0.mk (Kd.R_below HO.out hb'); clear HO; have HO := HO'; clear HO')); clear hb')
      | (go_at_call 18; (with_reducible refine (deep_m _ _ _ _ _ _ HL.out HM.out HD.out).mono ?_); rintro e W' ⟨rfl, hb'⟩; have HB' := Aside0.mk (below_step HB.out hb'); clear HB; have HB := HB'; clear HB'; (try (have HL' := Aside0.mk (Kd.C_below HL.out hb'); clear HL; have HL := HL'; clear HL')); (try (have HO' := Aside0.mk (Kd.R_below HO.out hb'); clear HO; have HO := HO'; clear HO')); clear hb')
      | (go_at_call 23; (with_reducible refine (alive_calls _).mono ?_); rintro e W' ⟨rfl, hb'⟩; have HB' := Aside0.mk (below_step HB.out hb'); clear HB; have HB := HB'; clear HB'; (try (have HL' := Aside0.mk (Kd.C_below HL.out hb'); clear HL; have HL := HL'; clear HL')); (try (have HO' := Aside0.mk (Kd.R_below HO.out hb'); clear HO; have HO := HO'; clear HO')); clear hb')
      | (go_at_call 24; (with_reducible refine (whole_calls _).mono ?_); rintro e W' ⟨rfl, hb'⟩; have HB' := Aside0.mk (below_step HB.out hb'); clear HB; have HB := HB'; clear HB'; (try (have HL' := Aside0.mk (Kd.C_below HL.out hb'); clear HL; have HL := HL'; clear HL')); (try (have HO' := Aside0.mk (Kd.R_below HO.out hb'); clear HO; have HO := HO'; clear HO')); clear hb')
      | (go_at_call 25; (with_reducible refine (fun_calls _).mono ?_); rintro e W' ⟨rfl, hb'⟩; have HB' := Aside0.mk (below_step HB.out hb'); clear HB; have HB := HB'; clear HB'; (try (have HL' := Aside0.mk (Kd.C_below HL.out hb'); clear HL; have HL := HL'; clear HL')); (try (have HO' := Aside0.mk (Kd.R_below HO.out hb'); clear HO; have HO := HO'; clear HO')); clear hb')
      | (at_builtin; refine wpList_append_R rfl kNode w.heap.size _ (.tmp 23) 22 22 36 36 (.agg #[.int .u8 0, .int .i64 0, .string ⟨#[]⟩, .int .i64 0, .bool false, .int .u64 0, .bool false, .int .u64 0, .bool false, .int .u64 0]) 88 rfl (by kernel_rfl) (by kernel_rfl) infoN rfl (by decide) (by decide) (.slice (some ⟨_, 0, none⟩) 1 1) [refN] body A n c (fun _ => True) (fun _ => False) rfl rfl (lit_R _ w.heap.size HB.out.size [refN] (by decide)) (by rw [HN.out]; exact Kd.C_below HR.out (below_alloc HB.out _)) (fun x cs h => nodeM h) (fun _ h => h.elim) (fun _ _ => trivial) (below_alloc HB.out _).size (by simp; omega) ?_; intro v1 w1 HO1 hg hat; obtain ⟨A1, c1, rfl⟩ := Kd.R_slice HO1; have HL := Aside0.mk (Kd.R_reads' HO1).2.2; have HB' := Aside0.mk ((below_alloc HB.out _).grown hg (below_alloc HB.out _).size ((fun k hk => by simp only [Value.ownBlock, Option.some.injEq] at hk; have := HB.out.size; omega))); clear HB HO1 hg hat; have HB := HB'; clear HB'; rw [← HM.out]))
    all_goals
      go_ret
      exact ⟨rfl, HB.out⟩
set_option maxRecDepth 100000 in
set_option maxHeartbeats 2000000 in
theorem put_tup (w : World) (A : Option Addr) (c : Nat) (body : List Node) (at_ : Int) (h0 : 0 ≤ at_) (h255 : at_ ≤ 255) (hj : at_ % 4 = 1) (hr : Kd.C kNode w A body.length body) (hc : body.length ≤ c) (h : checkB body = 0) :
    Calls Tryd.prog 7 #[.slice A body.length c, .int .u8 at_] w fun e w' => e = .returned (.bool true) ∧ Below w.heap.size w w' := by
  obtain ⟨f, hf, hfc, hfb, hdp, hh0, hh16, h128⟩ := body_tree h
  have hpu := puts_tup f hf hfc hh0
  rw [← hfb] at hpu
  obtain ⟨t, ht⟩ : ∃ t, t = f.height := ⟨_, rfl⟩
  obtain ⟨n, hn⟩ : ∃ n, n = body.length := ⟨_, rfl⟩
  obtain ⟨m, hm⟩ : ∃ m, m = ([tupN, wholeN] ++ body).length := ⟨_, rfl⟩
  rw [← ht] at hpu hdp hh0 hh16
  have HN := Aside0.mk hn
  have HM := Aside0.mk hm
  have HR := Aside0.mk hr
  have HB := Aside0.mk (Below.refl w.heap.size w)
  have hmn : m = n + 2 := by rw [hm, hn]; simp
  rw [← hn] at hc h128 ⊢
  obtain ⟨hp1, hp2⟩ := hpu
  rw [← hm] at hp1 hp2
  have CK : Aside0 (∀ W, Below w.heap.size w W → Calls Tryd.prog 14 #[.slice A n c] W fun e w' => e = .returned (.int .i64 0) ∧ Below W.heap.size W w') := ⟨fun W hb => by rw [← h, hn]; exact check_calls W _ c body (Kd.C_below hr hb)⟩
  have CD : Aside0 (∀ W, Below w.heap.size w W → Calls Tryd.prog 18 #[.slice A n c] W fun e w' => e = .returned (.int .i64 (t : Int)) ∧ Below W.heap.size W w') := ⟨fun W hb => by rw [← hdp, hn]; exact deep_calls W _ c body (Kd.C_below hr hb)⟩
  have z1 : decide (200 < (n : Int)) = false := decide_eq_false (by omega)
  have hm200 : m ≤ 200 := by omega
  clear hr h hn ht hdp hfc hf hfb hm hmn
  by_cases y1 : 128 < m
  rotate_left
  by_cases y2 : t < 16
  all_goals
    first
      | (have HQ : Aside0 (checkB ([tupN, wholeN] ++ body) = 3) := ⟨by rw [hp1, if_pos y1]⟩
         have HD : Aside0 (deepB ([tupN, wholeN] ++ body) = deepB ([tupN, wholeN] ++ body)) := ⟨rfl⟩
         have z3 : decide ((m : Int) ≤ 128) = false := decide_eq_false (by omega))
      | (have HQ : Aside0 (checkB ([tupN, wholeN] ++ body) = 0) := ⟨by rw [hp1, if_neg y1, if_neg (by omega)]⟩
         have HD : Aside0 (deepB ([tupN, wholeN] ++ body) = (t : Int) + 1) := ⟨hp2 (by omega) y2⟩
         have z3 : decide ((m : Int) ≤ 128) = true := decide_eq_true (by omega)
         have z4 : decide ((t : Int) < 16) = true := decide_eq_true (by omega))
      | (have HQ : Aside0 (checkB ([tupN, wholeN] ++ body) = 3) := ⟨by rw [hp1, if_neg y1, if_pos (by omega)]⟩
         have HD : Aside0 (deepB ([tupN, wholeN] ++ body) = deepB ([tupN, wholeN] ++ body)) := ⟨rfl⟩
         have z3 : decide ((m : Int) ≤ 128) = true := decide_eq_true (by omega)
         have z4 : decide ((t : Int) < 16) = false := decide_eq_false (by omega))
    clear hp1 hp2
    go_enter Tryd.func7, Tryd.ntmps7
    go_wp2_with (first
      | (go_at_call 14; (with_reducible refine (CK.out _ HB.out).mono ?_); rintro e W' ⟨rfl, hb'⟩; have HB' := Aside0.mk (below_step HB.out hb'); clear HB; have HB := HB'; clear HB'; (try (have HL' := Aside0.mk (Kd.C_below HL.out hb'); clear HL; have HL := HL'; clear HL')); (try (have HO' := Aside0.mk (Kd.R_below HO.out hb'); clear HO; have HO := HO'; clear HO')); clear hb')
      | (go_at_call 14; (with_reducible refine (check_m _ _ _ _ _ _ HL.out HM.out HQ.out).mono ?_); rintro e W' ⟨rfl, hb'⟩; have HB' := Aside0.mk (below_step HB.out hb'); clear HB; have HB := HB'; clear HB'; (try (have HL' := Aside0.mk (Kd.C_below HL.out hb'); clear HL; have HL := HL'; clear HL')); (try (have HO' := Aside0.mk (Kd.R_below HO.out hb'); clear HO; have HO := HO'; clear HO')); clear hb')
      | (go_at_call 18; (with_reducible refine (CD.out _ HB.out).mono ?_); rintro e W' ⟨rfl, hb'⟩; have HB' := Aside0.mk (below_step HB.out hb'); clear HB; have HB := HB'; clear HB'; (try (have HL' := Aside0.mk (Kd.C_below HL.out hb'); clear HL; have HL := HL'; clear HL')); (try (have HO' := Aside0.mk (Kd.R_below HO.out hb'); clear HO; have HO := HO'; clear HO')); clear hb')
      | (go_at_call 18; (with_reducible refine (deep_m _ _ _ _ _ _ HL.out HM.out HD.out).mono ?_); rintro e W' ⟨rfl, hb'⟩; have HB' := Aside0.mk (below_step HB.out hb'); clear HB; have HB := HB'; clear HB'; (try (have HL' := Aside0.mk (Kd.C_below HL.out hb'); clear HL; have HL := HL'; clear HL')); (try (have HO' := Aside0.mk (Kd.R_below HO.out hb'); clear HO; have HO := HO'; clear HO')); clear hb')
      | (go_at_call 23; (with_reducible refine (alive_calls _).mono ?_); rintro e W' ⟨rfl, hb'⟩; have HB' := Aside0.mk (below_step HB.out hb'); clear HB; have HB := HB'; clear HB'; (try (have HL' := Aside0.mk (Kd.C_below HL.out hb'); clear HL; have HL := HL'; clear HL')); (try (have HO' := Aside0.mk (Kd.R_below HO.out hb'); clear HO; have HO := HO'; clear HO')); clear hb')
      | (go_at_call 24; (with_reducible refine (whole_calls _).mono ?_); rintro e W' ⟨rfl, hb'⟩; have HB' := Aside0.mk (below_step HB.out hb'); clear HB; have HB := HB'; clear HB'; (try (have HL' := Aside0.mk (Kd.C_below HL.out hb'); clear HL; have HL := HL'; clear HL')); (try (have HO' := Aside0.mk (Kd.R_below HO.out hb'); clear HO; have HO := HO'; clear HO')); clear hb')
      | (go_at_call 25; (with_reducible refine (fun_calls _).mono ?_); rintro e W' ⟨rfl, hb'⟩; have HB' := Aside0.mk (below_step HB.out hb'); clear HB; have HB := HB'; clear HB'; (try (have HL' := Aside0.mk (Kd.C_below HL.out hb'); clear HL; have HL := HL'; clear HL')); (try (have HO' := Aside0.mk (Kd.R_below HO.out hb'); clear HO; have HO := HO'; clear HO')); clear hb')
      | (at_builtin; refine wpList_append_R rfl kNode w.heap.size _ (.tmp 30) 22 22 36 36 (.agg #[.int .u8 0, .int .i64 0, .string ⟨#[]⟩, .int .i64 0, .bool false, .int .u64 0, .bool false, .int .u64 0, .bool false, .int .u64 0]) 88 rfl (by kernel_rfl) (by kernel_rfl) infoN rfl (by decide) (by decide) (.slice (some ⟨_, 0, none⟩) 2 2) [tupN, wholeN] body A n c (fun _ => True) (fun _ => False) rfl rfl (lit_R _ w.heap.size HB.out.size [tupN, wholeN] (by decide)) (by rw [HN.out]; exact Kd.C_below HR.out (below_alloc HB.out _)) (fun x cs h => nodeM h) (fun _ h => h.elim) (fun _ _ => trivial) (below_alloc HB.out _).size (by simp; omega) ?_; intro v1 w1 HO1 hg hat; obtain ⟨A1, c1, rfl⟩ := Kd.R_slice HO1; have HL := Aside0.mk (Kd.R_reads' HO1).2.2; have HB' := Aside0.mk ((below_alloc HB.out _).grown hg (below_alloc HB.out _).size ((fun k hk => by simp only [Value.ownBlock, Option.some.injEq] at hk; have := HB.out.size; omega))); clear HB HO1 hg hat; have HB := HB'; clear HB'; rw [← HM.out]))
    all_goals
      go_ret
      exact ⟨rfl, HB.out⟩
set_option maxRecDepth 100000 in
set_option maxHeartbeats 2000000 in
theorem put_fun (w : World) (A : Option Addr) (c : Nat) (body : List Node) (at_ : Int) (h0 : 0 ≤ at_) (h255 : at_ ≤ 255) (hj : at_ % 4 = 2) (hr : Kd.C kNode w A body.length body) (hc : body.length ≤ c) (h : checkB body = 0) :
    Calls Tryd.prog 7 #[.slice A body.length c, .int .u8 at_] w fun e w' => e = .returned (.bool true) ∧ Below w.heap.size w w' := by
  obtain ⟨f, hf, hfc, hfb, hdp, hh0, hh16, h128⟩ := body_tree h
  have hpu := puts_fun f hf hfc hh0
  rw [← hfb] at hpu
  obtain ⟨t, ht⟩ : ∃ t, t = f.height := ⟨_, rfl⟩
  obtain ⟨n, hn⟩ : ∃ n, n = body.length := ⟨_, rfl⟩
  obtain ⟨m, hm⟩ : ∃ m, m = ([funN, wholeN] ++ body).length := ⟨_, rfl⟩
  rw [← ht] at hpu hdp hh0 hh16
  have HN := Aside0.mk hn
  have HM := Aside0.mk hm
  have HR := Aside0.mk hr
  have HB := Aside0.mk (Below.refl w.heap.size w)
  have hmn : m = n + 2 := by rw [hm, hn]; simp
  rw [← hn] at hc h128 ⊢
  obtain ⟨hp1, hp2⟩ := hpu
  rw [← hm] at hp1 hp2
  have CK : Aside0 (∀ W, Below w.heap.size w W → Calls Tryd.prog 14 #[.slice A n c] W fun e w' => e = .returned (.int .i64 0) ∧ Below W.heap.size W w') := ⟨fun W hb => by rw [← h, hn]; exact check_calls W _ c body (Kd.C_below hr hb)⟩
  have CD : Aside0 (∀ W, Below w.heap.size w W → Calls Tryd.prog 18 #[.slice A n c] W fun e w' => e = .returned (.int .i64 (t : Int)) ∧ Below W.heap.size W w') := ⟨fun W hb => by rw [← hdp, hn]; exact deep_calls W _ c body (Kd.C_below hr hb)⟩
  have z1 : decide (200 < (n : Int)) = false := decide_eq_false (by omega)
  have hm200 : m ≤ 200 := by omega
  clear hr h hn ht hdp hfc hf hfb hm hmn
  by_cases y1 : 128 < m
  rotate_left
  by_cases y2 : t < 16
  all_goals
    first
      | (have HQ : Aside0 (checkB ([funN, wholeN] ++ body) = 3) := ⟨by rw [hp1, if_pos y1]⟩
         have HD : Aside0 (deepB ([funN, wholeN] ++ body) = deepB ([funN, wholeN] ++ body)) := ⟨rfl⟩
         have z3 : decide ((m : Int) ≤ 128) = false := decide_eq_false (by omega))
      | (have HQ : Aside0 (checkB ([funN, wholeN] ++ body) = 0) := ⟨by rw [hp1, if_neg y1, if_neg (by omega)]⟩
         have HD : Aside0 (deepB ([funN, wholeN] ++ body) = (t : Int) + 1) := ⟨hp2 (by omega) y2⟩
         have z3 : decide ((m : Int) ≤ 128) = true := decide_eq_true (by omega)
         have z4 : decide ((t : Int) < 16) = true := decide_eq_true (by omega))
      | (have HQ : Aside0 (checkB ([funN, wholeN] ++ body) = 3) := ⟨by rw [hp1, if_neg y1, if_pos (by omega)]⟩
         have HD : Aside0 (deepB ([funN, wholeN] ++ body) = deepB ([funN, wholeN] ++ body)) := ⟨rfl⟩
         have z3 : decide ((m : Int) ≤ 128) = true := decide_eq_true (by omega)
         have z4 : decide ((t : Int) < 16) = false := decide_eq_false (by omega))
    clear hp1 hp2
    go_enter Tryd.func7, Tryd.ntmps7
    go_wp2_with (first
      | (go_at_call 14; (with_reducible refine (CK.out _ HB.out).mono ?_); rintro e W' ⟨rfl, hb'⟩; have HB' := Aside0.mk (below_step HB.out hb'); clear HB; have HB := HB'; clear HB'; (try (have HL' := Aside0.mk (Kd.C_below HL.out hb'); clear HL; have HL := HL'; clear HL')); (try (have HO' := Aside0.mk (Kd.R_below HO.out hb'); clear HO; have HO := HO'; clear HO')); clear hb')
      | (go_at_call 14; (with_reducible refine (check_m _ _ _ _ _ _ HL.out HM.out HQ.out).mono ?_); rintro e W' ⟨rfl, hb'⟩; have HB' := Aside0.mk (below_step HB.out hb'); clear HB; have HB := HB'; clear HB'; (try (have HL' := Aside0.mk (Kd.C_below HL.out hb'); clear HL; have HL := HL'; clear HL')); (try (have HO' := Aside0.mk (Kd.R_below HO.out hb'); clear HO; have HO := HO'; clear HO')); clear hb')
      | (go_at_call 18; (with_reducible refine (CD.out _ HB.out).mono ?_); rintro e W' ⟨rfl, hb'⟩; have HB' := Aside0.mk (below_step HB.out hb'); clear HB; have HB := HB'; clear HB'; (try (have HL' := Aside0.mk (Kd.C_below HL.out hb'); clear HL; have HL := HL'; clear HL')); (try (have HO' := Aside0.mk (Kd.R_below HO.out hb'); clear HO; have HO := HO'; clear HO')); clear hb')
      | (go_at_call 18; (with_reducible refine (deep_m _ _ _ _ _ _ HL.out HM.out HD.out).mono ?_); rintro e W' ⟨rfl, hb'⟩; have HB' := Aside0.mk (below_step HB.out hb'); clear HB; have HB := HB'; clear HB'; (try (have HL' := Aside0.mk (Kd.C_below HL.out hb'); clear HL; have HL := HL'; clear HL')); (try (have HO' := Aside0.mk (Kd.R_below HO.out hb'); clear HO; have HO := HO'; clear HO')); clear hb')
      | (go_at_call 23; (with_reducible refine (alive_calls _).mono ?_); rintro e W' ⟨rfl, hb'⟩; have HB' := Aside0.mk (below_step HB.out hb'); clear HB; have HB := HB'; clear HB'; (try (have HL' := Aside0.mk (Kd.C_below HL.out hb'); clear HL; have HL := HL'; clear HL')); (try (have HO' := Aside0.mk (Kd.R_below HO.out hb'); clear HO; have HO := HO'; clear HO')); clear hb')
      | (go_at_call 24; (with_reducible refine (whole_calls _).mono ?_); rintro e W' ⟨rfl, hb'⟩; have HB' := Aside0.mk (below_step HB.out hb'); clear HB; have HB := HB'; clear HB'; (try (have HL' := Aside0.mk (Kd.C_below HL.out hb'); clear HL; have HL := HL'; clear HL')); (try (have HO' := Aside0.mk (Kd.R_below HO.out hb'); clear HO; have HO := HO'; clear HO')); clear hb')
      | (go_at_call 25; (with_reducible refine (fun_calls _).mono ?_); rintro e W' ⟨rfl, hb'⟩; have HB' := Aside0.mk (below_step HB.out hb'); clear HB; have HB := HB'; clear HB'; (try (have HL' := Aside0.mk (Kd.C_below HL.out hb'); clear HL; have HL := HL'; clear HL')); (try (have HO' := Aside0.mk (Kd.R_below HO.out hb'); clear HO; have HO := HO'; clear HO')); clear hb')
      | (at_builtin; refine wpList_append_R rfl kNode w.heap.size _ (.tmp 37) 22 22 36 36 (.agg #[.int .u8 0, .int .i64 0, .string ⟨#[]⟩, .int .i64 0, .bool false, .int .u64 0, .bool false, .int .u64 0, .bool false, .int .u64 0]) 88 rfl (by kernel_rfl) (by kernel_rfl) infoN rfl (by decide) (by decide) (.slice (some ⟨_, 0, none⟩) 2 2) [funN, wholeN] body A n c (fun _ => True) (fun _ => False) rfl rfl (lit_R _ w.heap.size HB.out.size [funN, wholeN] (by decide)) (by rw [HN.out]; exact Kd.C_below HR.out (below_alloc HB.out _)) (fun x cs h => nodeM h) (fun _ h => h.elim) (fun _ _ => trivial) (below_alloc HB.out _).size (by simp; omega) ?_; intro v1 w1 HO1 hg hat; obtain ⟨A1, c1, rfl⟩ := Kd.R_slice HO1; have HL := Aside0.mk (Kd.R_reads' HO1).2.2; have HB' := Aside0.mk ((below_alloc HB.out _).grown hg (below_alloc HB.out _).size ((fun k hk => by simp only [Value.ownBlock, Option.some.injEq] at hk; have := HB.out.size; omega))); clear HB HO1 hg hat; have HB := HB'; clear HB'; rw [← HM.out]))
    all_goals
      go_ret
      exact ⟨rfl, HB.out⟩
set_option maxRecDepth 100000 in
set_option maxHeartbeats 2000000 in
theorem put_arg (w : World) (A : Option Addr) (c : Nat) (body : List Node) (at_ : Int) (h0 : 0 ≤ at_) (h255 : at_ ≤ 255) (hj : at_ % 4 = 3) (hr : Kd.C kNode w A body.length body) (hc : body.length ≤ c) (h : checkB body = 0) :
    Calls Tryd.prog 7 #[.slice A body.length c, .int .u8 at_] w fun e w' => e = .returned (.bool true) ∧ Below w.heap.size w w' := by
  obtain ⟨f, hf, hfc, hfb, hdp, hh0, hh16, h128⟩ := body_tree h
  have hpu := puts_arg f hf hfc hh0
  rw [← hfb] at hpu
  obtain ⟨t, ht⟩ : ∃ t, t = f.height := ⟨_, rfl⟩
  obtain ⟨n, hn⟩ : ∃ n, n = body.length := ⟨_, rfl⟩
  obtain ⟨m, hm⟩ : ∃ m, m = ([funN] ++ body ++ [wholeN]).length := ⟨_, rfl⟩
  rw [← ht] at hpu hdp hh0 hh16
  have HN := Aside0.mk hn
  have HM := Aside0.mk hm
  have HR := Aside0.mk hr
  have HB := Aside0.mk (Below.refl w.heap.size w)
  have hmn : m = n + 2 := by rw [hm, hn]; simp
  rw [← hn] at hc h128 ⊢
  obtain ⟨hp1, hp2⟩ := hpu
  rw [← hm] at hp1 hp2
  have CK : Aside0 (∀ W, Below w.heap.size w W → Calls Tryd.prog 14 #[.slice A n c] W fun e w' => e = .returned (.int .i64 0) ∧ Below W.heap.size W w') := ⟨fun W hb => by rw [← h, hn]; exact check_calls W _ c body (Kd.C_below hr hb)⟩
  have CD : Aside0 (∀ W, Below w.heap.size w W → Calls Tryd.prog 18 #[.slice A n c] W fun e w' => e = .returned (.int .i64 (t : Int)) ∧ Below W.heap.size W w') := ⟨fun W hb => by rw [← hdp, hn]; exact deep_calls W _ c body (Kd.C_below hr hb)⟩
  have z1 : decide (200 < (n : Int)) = false := decide_eq_false (by omega)
  have hm200 : m ≤ 200 := by omega
  clear hr h hn ht hdp hfc hf hfb hm hmn
  by_cases y1 : 128 < m
  rotate_left
  by_cases y2 : t < 16
  all_goals
    first
      | (have HQ : Aside0 (checkB ([funN] ++ body ++ [wholeN]) = 3) := ⟨by rw [hp1, if_pos y1]⟩
         have HD : Aside0 (deepB ([funN] ++ body ++ [wholeN]) = deepB ([funN] ++ body ++ [wholeN])) := ⟨rfl⟩
         have z3 : decide ((m : Int) ≤ 128) = false := decide_eq_false (by omega))
      | (have HQ : Aside0 (checkB ([funN] ++ body ++ [wholeN]) = 0) := ⟨by rw [hp1, if_neg y1, if_neg (by omega)]⟩
         have HD : Aside0 (deepB ([funN] ++ body ++ [wholeN]) = (t : Int) + 1) := ⟨hp2 (by omega) y2⟩
         have z3 : decide ((m : Int) ≤ 128) = true := decide_eq_true (by omega)
         have z4 : decide ((t : Int) < 16) = true := decide_eq_true (by omega))
      | (have HQ : Aside0 (checkB ([funN] ++ body ++ [wholeN]) = 3) := ⟨by rw [hp1, if_neg y1, if_pos (by omega)]⟩
         have HD : Aside0 (deepB ([funN] ++ body ++ [wholeN]) = deepB ([funN] ++ body ++ [wholeN])) := ⟨rfl⟩
         have z3 : decide ((m : Int) ≤ 128) = true := decide_eq_true (by omega)
         have z4 : decide ((t : Int) < 16) = false := decide_eq_false (by omega))
    clear hp1 hp2
    go_enter Tryd.func7, Tryd.ntmps7
    go_wp2_with (first
      | (go_at_call 14; (with_reducible refine (CK.out _ HB.out).mono ?_); rintro e W' ⟨rfl, hb'⟩; have HB' := Aside0.mk (below_step HB.out hb'); clear HB; have HB := HB'; clear HB'; (try (have HL' := Aside0.mk (Kd.C_below HL.out hb'); clear HL; have HL := HL'; clear HL')); (try (have HO' := Aside0.mk (Kd.R_below HO.out hb'); clear HO; have HO := HO'; clear HO')); clear hb')
      | (go_at_call 14; (with_reducible refine (check_m _ _ _ _ _ _ HL.out HM.out HQ.out).mono ?_); rintro e W' ⟨rfl, hb'⟩; have HB' := Aside0.mk (below_step HB.out hb'); clear HB; have HB := HB'; clear HB'; (try (have HL' := Aside0.mk (Kd.C_below HL.out hb'); clear HL; have HL := HL'; clear HL')); (try (have HO' := Aside0.mk (Kd.R_below HO.out hb'); clear HO; have HO := HO'; clear HO')); clear hb')
      | (go_at_call 18; (with_reducible refine (CD.out _ HB.out).mono ?_); rintro e W' ⟨rfl, hb'⟩; have HB' := Aside0.mk (below_step HB.out hb'); clear HB; have HB := HB'; clear HB'; (try (have HL' := Aside0.mk (Kd.C_below HL.out hb'); clear HL; have HL := HL'; clear HL')); (try (have HO' := Aside0.mk (Kd.R_below HO.out hb'); clear HO; have HO := HO'; clear HO')); clear hb')
      | (go_at_call 18; (with_reducible refine (deep_m _ _ _ _ _ _ HL.out HM.out HD.out).mono ?_); rintro e W' ⟨rfl, hb'⟩; have HB' := Aside0.mk (below_step HB.out hb'); clear HB; have HB := HB'; clear HB'; (try (have HL' := Aside0.mk (Kd.C_below HL.out hb'); clear HL; have HL := HL'; clear HL')); (try (have HO' := Aside0.mk (Kd.R_below HO.out hb'); clear HO; have HO := HO'; clear HO')); clear hb')
      | (go_at_call 23; (with_reducible refine (alive_calls _).mono ?_); rintro e W' ⟨rfl, hb'⟩; have HB' := Aside0.mk (below_step HB.out hb'); clear HB; have HB := HB'; clear HB'; (try (have HL' := Aside0.mk (Kd.C_below HL.out hb'); clear HL; have HL := HL'; clear HL')); (try (have HO' := Aside0.mk (Kd.R_below HO.out hb'); clear HO; have HO := HO'; clear HO')); clear hb')
      | (go_at_call 24; (with_reducible refine (whole_calls _).mono ?_); rintro e W' ⟨rfl, hb'⟩; have HB' := Aside0.mk (below_step HB.out hb'); clear HB; have HB := HB'; clear HB'; (try (have HL' := Aside0.mk (Kd.C_below HL.out hb'); clear HL; have HL := HL'; clear HL')); (try (have HO' := Aside0.mk (Kd.R_below HO.out hb'); clear HO; have HO := HO'; clear HO')); clear hb')
      | (go_at_call 25; (with_reducible refine (fun_calls _).mono ?_); rintro e W' ⟨rfl, hb'⟩; have HB' := Aside0.mk (below_step HB.out hb'); clear HB; have HB := HB'; clear HB'; (try (have HL' := Aside0.mk (Kd.C_below HL.out hb'); clear HL; have HL := HL'; clear HL')); (try (have HO' := Aside0.mk (Kd.R_below HO.out hb'); clear HO; have HO := HO'; clear HO')); clear hb')
      | (at_builtin; refine wpList_append_R rfl kNode w.heap.size _ (.tmp 43) 22 22 36 36 (.agg #[.int .u8 0, .int .i64 0, .string ⟨#[]⟩, .int .i64 0, .bool false, .int .u64 0, .bool false, .int .u64 0, .bool false, .int .u64 0]) 88 rfl (by kernel_rfl) (by kernel_rfl) infoN rfl (by decide) (by decide) (.slice (some ⟨_, 0, none⟩) 1 1) [funN] body A n c (fun _ => True) (fun _ => False) rfl rfl (lit_R _ w.heap.size HB.out.size [funN] (by decide)) (by rw [HN.out]; exact Kd.C_below HR.out (below_alloc HB.out _)) (fun x cs h => nodeM h) (fun _ h => h.elim) (fun _ _ => trivial) (below_alloc HB.out _).size (by simp; omega) ?_; intro v1 w1 HO1 hg hat; obtain ⟨A1, c1, rfl⟩ := Kd.R_slice HO1; have HO := Aside0.mk HO1; have HB' := Aside0.mk ((below_alloc HB.out _).grown hg (below_alloc HB.out _).size ((fun k hk => by simp only [Value.ownBlock, Option.some.injEq] at hk; have := HB.out.size; omega))); clear HB HO1 hg hat; have HB := HB'; clear HB')
      | (at_builtin; refine wpList_append_R rfl kNode w.heap.size _ (.tmp 46) 22 22 36 36 (.agg #[.int .u8 0, .int .i64 0, .string ⟨#[]⟩, .int .i64 0, .bool false, .int .u64 0, .bool false, .int .u64 0, .bool false, .int .u64 0]) 88 rfl (by kernel_rfl) (by kernel_rfl) infoN rfl (by decide) (by decide) (.slice _ _ _) ([funN] ++ body) [wholeN] _ 1 1 (fun _ => True) (fun _ => False) rfl rfl (Kd.R_below HO.out (below_alloc (Below.refl _ _) _)) (one_C _) (fun x cs h => nodeM h) (fun _ h => h.elim) (fun _ _ => trivial) (below_alloc HB.out _).size (by have := HN.out; simp; omega) ?_; intro v2 w3 HO2 hg2 hat2; obtain ⟨A2, c2, rfl⟩ := Kd.R_slice HO2; have HL := Aside0.mk (Kd.R_reads' HO2).2.2; have HB' := Aside0.mk ((below_alloc HB.out _).grown hg2 (below_alloc HB.out _).size (fun k hk => (Kd.R_bound HO.out).1 k hk |>.2.1)); clear HB HO2 HO hg2 hat2; have HB := HB'; clear HB'; rw [← HM.out]))
    all_goals
      go_ret
      exact ⟨rfl, HB.out⟩
/-- TypesPut: true at every input. -/
theorem put_walk (w : World) (A : Option Addr) (c : Nat) (body : List Node) (hr : Kd.C kNode w A body.length body) (hc : body.length ≤ c) (hw : ∀ n ∈ body, Node.wf n) (at_ : Int) (ha : (Lit.int .u8 at_).wf = true) :
    Calls Tryd.prog 7 #[.slice A body.length c, .int .u8 at_] w fun e w' => e = .returned (.bool true) ∧ Below w.heap.size w w' := by
  by_cases h : checkB body = 0
  · have hb := wf_u8 ha
    rcases (by omega : at_ % 4 = 0 ∨ at_ % 4 = 1 ∨ at_ % 4 = 2 ∨ at_ % 4 = 3) with hj | hj | hj | hj
    · exact put_ref w A c body at_ hb.1 hb.2 hj hr hc h
    · exact put_tup w A c body at_ hb.1 hb.2 hj hr hc h
    · exact put_fun w A c body at_ hb.1 hb.2 hj hr hc h
    · exact put_arg w A c body at_ hb.1 hb.2 hj hr hc h
  · exact put_no w A c body at_ hr h
end L07
end Go.Proofs.YtoohandacpalpaaDoor
