/- The book of lists: growNode. -/
import Derived.Test.YtbdecnagdnancaaGreatDoorBkD

namespace Go.Proofs.YtbdecnagdnancaaGreatDoor
open Go.RowKit Go.Proofs.YtbdecnagdnancaaGreatDoorW.PrintWords Go.Proofs.YtbdecnagdnancaaGreatDoorW.PrintLast Go.Proofs.YtbdecnagdnancaaGreatDoorW.PrintMore
set_option linter.unusedVariables false
set_option linter.unusedSimpArgs false
namespace Bk
theorem Kept2.cell {e e2 base g o : Nat} {W : World} (hb : base ≤ g) {t : TypeId} (ht : t = e ∨ t = e2) {c : Array Value} (h1 : W.heap[g]? = some (.cells c t (0, 0))) (v : Value) : Kept2 e e2 base W (W.setCell ⟨g, o, none⟩ v) := by
  refine ⟨(Below.refl base W).setCell (p := ⟨g, o, none⟩) hb v, fun k ob ho hn hn2 => setCell_other v ho (fun he => ?_)⟩
  subst he
  rw [h1] at ho
  injection ho with ho
  rcases ht with rfl | rfl
  · exact hn c ho.symm
  · exact hn2 c ho.symm
theorem Same.put {hs hs2 : List Hd} (h : Same hs hs2) {i : Nat} {x x' : Hd} (hx : hs2[i]? = some x) (h1 : x'.A = x.A ∧ x'.n = x.n ∧ x'.c = x.c ∧ x'.k = x.k) : Same hs (hs2.set i x') := by
  refine ⟨by rw [List.length_set]; exact h.1, fun j z hz => ?_⟩
  by_cases hj : j = i
  · subst hj
    rw [List.getElem?_set_self (List.getElem?_eq_some_iff.1 hx).1] at hz
    injection hz with hz
    subst hz
    obtain ⟨y, hy, a1, a2, a3, a4⟩ := h.2 j x hx
    exact ⟨y, hy, h1.1.trans a1, h1.2.1.trans a2, h1.2.2.1.trans a3, h1.2.2.2.trans a4⟩
  · rw [List.getElem?_set_ne (fun e => hj e.symm)] at hz
    exact h.2 j z hz
theorem held_flat : Flat kHeld heldC := fun w base ok x c => Iff.rfl
theorem node_M {w : World} {base : Nat} {x : Node} {cs : List Value} (h : kNode.K w x cs) : kNode.M w base (fun _ => False) x cs := by
  rw [k122_open h]
  exact k122_mkM w base _ x
set_option maxRecDepth 100000 in
set_option maxHeartbeats 16000000 in
theorem growNode_calls (w : World) (base b0 b N c : Nat) (A : Option Addr) (hs : List Hd) (cs : Array Value) (hN : N = hs.length) (hbk : w.heap[b]? = some (.cells cs 45 (0, 0))) (hc8 : cs[8]? = some (.slice A N c))
    (hH : kHeld.R 207 w b0 (fun _ => True) (.slice A N c) hs) (hL : Lists kNode 122 base hs w (filled markN hs)) (hn : ∀ x ∈ hs, x.n ≤ 1000 ∧ x.k ≤ 1000) (ha : Apart hs) (hbs : base ≤ w.heap.size) (hN9 : N ≤ 1000) (hb0 : base ≤ b0) :
    Calls Tryz.prog 72 #[.pointer (some ⟨b, 0, none⟩)] w fun e w' => e = .returned (.tuple #[]) ∧ Kept2 122 207 base w w' ∧ ∃ hs2, Same hs hs2 ∧ kHeld.R 207 w' b0 (fun _ => True) (.slice A N c) hs2 ∧ Lists kNode 122 base hs w' (filled markN hs) ∧ Longs kNode 122 base w.heap.size markN hs2 N w' := by
  have hlt : ∀ (j : Nat) (y : Hd), hs[j]? = some y → ∀ a, y.A = some a → a.block < w.heap.size := fun j y hy a hya => ((hL j y hy).typed a hya).2.1
  have HLT := Aside0.mk hlt
  have HBK := Aside0.mk (And.intro hbk (And.intro ha hn))
  have HN := Aside0.mk hN
  have HL := Aside0.mk hL
  have HH := Aside0.mk hH
  have HC := Aside0.mk hc8
  clear hbk hH hN ha hn hL hc8 hlt
  go_enter Tryz.func72, Tryz.ntmps72
  go_wp2
  go_loopg [2] (N + 1) (fun gk v W => ∃ (i : Nat) (hs2 : List Hd), v = .int .i64 (i : Int) ∧ i ≤ N ∧ N + 1 - i ≤ gk ∧ Aside0 (Same hs hs2 ∧ kHeld.R 207 W b0 (fun _ => True) (.slice A N c) hs2 ∧ Lists kNode 122 base hs W (filled markN hs) ∧ Longs kNode 122 base w.heap.size markN hs2 i W) ∧ Aside0 (Kept2 122 207 base w W))
  case atStart => exact ⟨0, hs, rfl, Nat.zero_le _, by omega, ⟨⟨rfl, fun j x hx => ⟨x, hx, rfl, rfl, rfl, rfl⟩⟩, HH.out, HL.out, fun j x hj => by omega⟩, ⟨Kept2.refl _ _ _ _⟩⟩
  case round =>
    obtain ⟨i, hs2, rfl, hi, hkg, HS, HK⟩ := hrel
    have gx := HK.out.same b _ HBK.out.1 (fun cells he => by injection he with _ h2; exact absurd h2 (by decide)) (fun cells he => by injection he with _ h2; exact absurd h2 (by decide))
    have x8 := (blk_cell gx 8).trans HC.out
    clear gx
    rcases Nat.lt_or_ge i N with hlt | hge
    · have hd : decide (i < N) = true := decide_eq_true hlt
      have hil : i < hs2.length := by rw [HS.out.1.1, ← HN.out]; exact hlt
      obtain ⟨ad, rfl, y0, y1, y2⟩ := C_held (Kd.R_reads' HS.out.2.1).2.2 rfl i hil
      obtain ⟨x, hx⟩ : ∃ x, hs2[i] = x := ⟨_, rfl⟩
      rw [hx] at y0 y1 y2
      have hxi : hs2[i]? = some x := by rw [List.getElem?_eq_getElem hil, hx]
      obtain ⟨y, hy, hyA, hyn, hyc, hyk⟩ := HS.out.1.2 i x hxi
      have hb := HBK.out.2.2 _ (List.mem_of_getElem? hy)
      rw [← hyn, ← hyk] at hb
      obtain ⟨xA, xn, xc, xB, xm, xq, xk⟩ := x
      dsimp only at y0 y1 y2 hb
      have HX := Aside0.mk hxi
      have HG0 : Aside0 (G kNode 122 207 base b0 markN w hs hs2 (some ad) N c i ⟨xA, xn, xc, xB, xm, xq, xk⟩ wr.heap.size wr xA 0 xc) := ⟨by
        have h1 := HS.out.2.2.1 i y hy
        rw [filled, hy] at h1
        simp only [Option.map_some, Option.getD_some, ← hyA, ← hyn, ← hyc, ← hyk] at h1
        refine ⟨h1, .inl ⟨rfl, rfl⟩, HS.out.2.2.1, HS.out.2.2.2, fun j z hj hz b hb => ?_, HS.out.2.1, HK.out⟩
        exact ((HS.out.2.2.2 j z hj hz).2.1.typed b hb).2.1⟩
      clear hx hxi hy hyA hyn hyc hyk
      go_wp2
      have HBX : Aside0 ((wr.alloc (.cells #[.slice xA xn xc, .slice xB xm xq, .int .i64 (xk : Int)] 207)).heap[wr.heap.size]? = some (.cells #[.slice xA xn xc, .slice xB xm xq, .int .i64 (xk : Int)] 207 (0, 0))) := ⟨blk_new _ _⟩
      have HG1 := Aside0.mk (HG0.out.below hbs (below_alloc (Below.refl wr.heap.size wr) (.cells #[.slice xA xn xc, .slice xB xm xq, .int .i64 (xk : Int)] 207)))
      generalize World.alloc wr (.cells #[.slice xA xn xc, .slice xB xm xq, .int .i64 (xk : Int)] 207) = wb at *
      clear HG0 y0 y1 y2 x8
      have hS1 := HK.out.below.size
      generalize wr.heap.size = S1 at *
      have HS1 := Aside0.mk hS1
      clear hS1
      obtain ⟨g0, rfl⟩ : ∃ g0, gk = g0 + 1 := ⟨gk - 1, by omega⟩
      go_loopg [4, 5] 41 (fun gk b4 b5 W => ∃ (k q : Nat) (B : Option Addr), b5 = .int .i64 (k : Int) ∧ b4 = .slice B (xn + k) q ∧ k ≤ 40 ∧ 41 - k ≤ gk ∧ Aside0 (G kNode 122 207 base b0 markN w hs hs2 (some ad) N c i ⟨xA, xn, xc, xB, xm, xq, xk⟩ S1 W B k q) ∧ Aside0 (W.heap[S1]? = some (.cells #[.slice xA xn xc, .slice xB xm xq, .int .i64 (xk : Int)] 207 (0, 0))))
      case atStart => exact ⟨0, xc, xA, rfl, rfl, Nat.zero_le _, by omega, HG1, HBX⟩
      case round =>
        clear HG1 HBX
        obtain ⟨k, q, B, rfl, rfl, hk, hkg2, HG, HBX⟩ := hrel
        have z2 := (blk_cell HBX.out 2).trans (show _ = some (Value.int .i64 (xk : Int)) from rfl)
        rcases Nat.lt_or_ge k 40 with hlt2 | hge2
        · have hd2 : decide ((k : Int) < 40) = true := decide_eq_true (by omega)
          obtain ⟨Q, hQ, hrq⟩ := HG.out.row
          have HRQ := Aside0.mk hrq
          clear hrq
          go_wp2_with (first
            | (go_at_call 152; (with_reducible refine (markNode_calls _ xk hb.2).mono ?_); rintro e W4 ⟨rfl, hb4⟩; have HB4 := Aside0.mk hb4; have HB5 := Aside0.mk (below_alloc hb4 (.cells #[.int .u8 0, .int .i64 (-(xk : Int)), .string ⟨#[]⟩, .int .i64 0, .bool false, .int .u64 0, .bool false, .int .u64 0, .bool false, .int .u64 0] 122)); clear hb4)
            | (at_builtin; go_loud (refine wpList_append_RC rfl kNode base (.tmp 28) (.tmp 32) 49 49 122 122 (.agg #[.int .u8 0, .int .i64 0, .string ⟨#[]⟩, .int .i64 0, .bool false, .int .u64 0, .bool false, .int .u64 0, .bool false, .int .u64 0]) 88 rfl (by kernel_rfl) (by kernel_rfl) L07.infoN rfl (by decide) (by decide) B (xn + k) Q q (List.replicate (xn + k) (markN xk)) [markN xk] ⟨W4.heap.size, 0, none⟩ 1 1 (fun _ => True) (fun _ => False) (by rw [List.length_replicate]) hQ rfl rfl (Kd.R_below HRQ.out HB5.out) (node_C W4 (markN xk)) (fun x cs h => node_M h) (fun _ h => h.elim) (fun _ _ => trivial) (Nat.le_trans hbs (HG.out.below hbs HB5.out).kept.below.size) (by decide) (by omega) ?_; intro v1 w1 hg1 hat1; have hbx := blk_below HBX.out HB5.out; have HBX7 := Aside0.mk (blk_grown hbx hg1 (Kd.R_ne (Kd.R_below HRQ.out HB5.out) hbx (by decide))); obtain ⟨B', q', rfl, hG⟩ := (HG.out.below hbs HB5.out).step rfl (by decide) HBK.out.2.1 HS.out.1 HX.out hbs HS1.out (Nat.le_of_lt (blk_lt hbx)) HLT.out hQ hg1 hat1; have HG7 := Aside0.mk hG; clear hg1 hat1 hG hbx)))
          go_roundg (gk - 1)
          case measure => omega
          case rel => exact ⟨k + 1, q', B', by go_num, rfl, by omega, by omega, HG7, HBX7⟩
        · have hd2 : decide ((k : Int) < 40) = false := decide_eq_false (by omega)
          have HE : Aside0 (k = 40) := ⟨by omega⟩
          clear hge2 hkg2 hk z2
          have gx := HG.out.kept.same b _ HBK.out.1 (fun cells he => by injection he with _ h2; exact absurd h2 (by decide)) (fun cells he => by injection he with _ h2; exact absurd h2 (by decide))
          have x8 := (blk_cell gx 8).trans HC.out
          clear gx
          obtain ⟨g2, cap2, hv2, hbg2, hgl2, c2, hgc2⟩ := Kd.R_form HG.out.held (Nat.lt_of_le_of_lt (Nat.zero_le _) hil)
          injection hv2 with hv2 _ _
          injection hv2 with hv2
          subst hv2
          obtain ⟨u1, u2, u3'⟩ := R_has HG.out.held ⟨none, 0, 0, none, 0, 0, 0⟩ i hlt 1 (by decide)
          replace u2 : _ = _ := u2
          have o1 : wr.cell? ⟨g2, i * 3 + 1, none⟩ = some u1 := u2
          have o2 : wr.frozen? ⟨g2, i * 3 + 1, none⟩ = false := u3'
          have HGC := Aside0.mk (And.intro hbg2 hgc2)
          clear u2 u3' hgl2 hbg2 hgc2
          go_wp2
          go_roundg g0
          case measure => omega
          case rel =>
            have hxe : hs2[i] = ⟨xA, xn, xc, xB, xm, xq, xk⟩ := by
              have := HX.out
              rw [List.getElem?_eq_getElem hil] at this
              injection this
            have hheld := R_edit held_flat HG.out.held i 1 hil (by decide) ⟨xA, xn, xc, B, xn + k, q, xk⟩ (.slice B (xn + k) q) (by rw [hxe]; rfl)
            refine ⟨i + 1, hs2.set i ⟨xA, xn, xc, B, xn + k, q, xk⟩, by go_num, by omega, by omega, ⟨HS.out.1.put HX.out ⟨rfl, rfl, rfl, rfl⟩, hheld, fun j z hz => (HG.out.lists j z hz).set HGC.out.2 (fun t ht => ?_) _ _, fun j z hj hz => ?_⟩, ⟨HG.out.kept.trans (Kept2.cell (Nat.le_trans hb0 HGC.out.1) (.inr rfl) HGC.out.2 _)⟩⟩
            · have ht : t = 122 := List.mem_singleton.1 (show t ∈ [122] from ht)
              rw [ht]; decide
            · by_cases hji : j = i
              · subst hji
                rw [List.getElem?_set_self hil] at hz
                injection hz with hz
                subst hz
                refine ⟨by rw [HE.out], HG.out.row.set HGC.out.2 (fun t ht => ?_) _ _, fun b' hb' => ?_⟩
                · have ht : t = 122 := List.mem_singleton.1 (show t ∈ [122] from ht)
                  rw [ht]; decide
                · rcases HG.out.place with ⟨h1, _⟩ | ⟨b'', h1, h2⟩
                  · exact .inl ⟨b', by rw [← hb', h1], rfl⟩
                  · rw [h1] at hb'
                    injection hb' with hb'
                    subst hb'
                    exact .inr (Nat.le_trans HS1.out h2)
              · rw [List.getElem?_set_ne (fun e => hji e.symm)] at hz
                obtain ⟨l1, l2, l3⟩ := HG.out.longs j z (by omega) hz
                refine ⟨l1, l2.set HGC.out.2 (fun t ht => ?_) _ _, l3⟩
                have ht : t = 122 := List.mem_singleton.1 (show t ∈ [122] from ht)
                rw [ht]; decide
    · have hd : decide (i < N) = false := decide_eq_false (by omega)
      have HE : Aside0 (i = N) := ⟨by omega⟩
      clear hi hge hkg
      go_wp2
      go_end0
      exact ⟨rfl, HK.out, hs2, HS.out.1, HS.out.2.1, HS.out.2.2.1, by rw [← HE.out]; exact HS.out.2.2.2⟩
end Bk
end Go.Proofs.YtbdecnagdnancaaGreatDoor
