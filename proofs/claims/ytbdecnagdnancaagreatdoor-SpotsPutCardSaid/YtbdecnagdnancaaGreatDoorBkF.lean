/- The book of lists: lookNode. -/
import Derived.Test.YtbdecnagdnancaaGreatDoorBkE
import Derived.Test.YtbdecnagdnancaaGreatDoorQx

namespace Go.Proofs.YtbdecnagdnancaaGreatDoor
open Go.RowKit Go.Proofs.YtbdecnagdnancaaGreatDoorW.PrintWords Go.Proofs.YtbdecnagdnancaaGreatDoorW.PrintLast Go.Proofs.YtbdecnagdnancaaGreatDoorW.PrintMore
set_option linter.unusedVariables false
set_option linter.unusedSimpArgs false
namespace Bk
/-- Held lists that have grown, as they read. -/
def Reads {α : Type} (d : Kd α) (mark : Nat → α) (hs : List Hd) (w : World) : Prop := ∀ (j : Nat) (x : Hd), hs[j]? = some x → x.m = x.n + 40 ∧ x.n ≤ 1000 ∧ x.k ≤ 1000 ∧ d.C w x.A x.n (List.replicate x.n (mark x.k)) ∧ d.C w x.B x.m (List.replicate x.m (mark x.k))
theorem Reads.below {α : Type} {d : Kd α} {mark : Nat → α} {hs : List Hd} {w W : World} (h : Reads d mark hs w) (hb : Below w.heap.size w W) : Reads d mark hs W := fun j x hx => by
  obtain ⟨h1, h2, h3, h4, h5⟩ := h j x hx
  exact ⟨h1, h2, h3, Kd.C_below h4 hb, Kd.C_below h5 hb⟩
/-- Element j of a row of marks. -/
theorem C_markN {w : World} {A : Option Addr} {n k : Nat} (h : kNode.C w A n (List.replicate n (markN k))) (j : Nat) (hj : j < n) : ∃ ad, A = some ad ∧
    w.cell? (ad.add (j * 10)) = some (.int .u8 0) ∧ w.cell? ⟨(ad.add (j * 10)).block, (ad.add (j * 10)).off + 1, none⟩ = some (.int .i64 (-(k : Int))) ∧ w.cell? ⟨(ad.add (j * 10)).block, (ad.add (j * 10)).off + 2, none⟩ = some (.string ⟨#[]⟩) ∧ w.cell? ⟨(ad.add (j * 10)).block, (ad.add (j * 10)).off + 3, none⟩ = some (.int .i64 0) ∧ w.cell? ⟨(ad.add (j * 10)).block, (ad.add (j * 10)).off + 4, none⟩ = some (.bool false) ∧ w.cell? ⟨(ad.add (j * 10)).block, (ad.add (j * 10)).off + 5, none⟩ = some (.int .u64 0) ∧ w.cell? ⟨(ad.add (j * 10)).block, (ad.add (j * 10)).off + 6, none⟩ = some (.bool false) ∧ w.cell? ⟨(ad.add (j * 10)).block, (ad.add (j * 10)).off + 7, none⟩ = some (.int .u64 0) ∧ w.cell? ⟨(ad.add (j * 10)).block, (ad.add (j * 10)).off + 8, none⟩ = some (.bool false) ∧ w.cell? ⟨(ad.add (j * 10)).block, (ad.add (j * 10)).off + 9, none⟩ = some (.int .u64 0) := by
  obtain ⟨ad, e, x0, x1, x2, x3, x4, x5, x6, x7, x8, x9⟩ := C_nodeN (xs := List.replicate n (markN k)) (by rw [List.length_replicate]; exact h) j (by rw [List.length_replicate]; exact hj)
  rw [List.getElem_replicate] at x0 x1 x2 x3 x4 x5 x6 x7 x8 x9
  exact ⟨ad, e, x0, x1, x2, x3, x4, x5, x6, x7, x8, x9⟩
theorem isMark_calls (w : World) (k : Nat) (hk : k ≤ 1000) : Calls Tryz.prog 167 #[.agg #[.int .u8 0, .int .i64 (-(k : Int)), .string ⟨#[]⟩, .int .i64 0, .bool false, .int .u64 0, .bool false, .int .u64 0, .bool false, .int .u64 0], .int .i64 (k : Int)] w fun e w' => e = .returned (.bool true) ∧ Below w.heap.size w w' := by
  have := isNode_calls w 0 (-(k : Int)) 0 ⟨#[]⟩ false false false 0 0 0 k hk
  rwa [show (-(k : Int) == -(k : Int)) = true from beq_self_eq_true _] at this
set_option maxRecDepth 100000 in
set_option maxHeartbeats 16000000 in
theorem lookNode_calls (w : World) (b N c : Nat) (A : Option Addr) (hs : List Hd) (hN : N = hs.length) (hc8 : w.cell? ⟨b, 8, none⟩ = some (.slice A N c)) (hH : kHeld.C w A N hs) (hR : Reads kNode markN hs w) (hN9 : N ≤ 1000) :
    Calls Tryz.prog 87 #[.pointer (some ⟨b, 0, none⟩)] w fun e w' => e = .returned (.bool true) ∧ Below w.heap.size w w' := by
  have HN := Aside0.mk hN
  have HR := Aside0.mk hR
  have HH := Aside0.mk hH
  have HC := Aside0.mk hc8
  clear hN hR hH hc8
  go_enter Tryz.func87, Tryz.ntmps87
  go_wp2
  go_loopg [3] (N + 1) (fun gk v W => ∃ i : Nat, v = .int .i64 (i : Int) ∧ i ≤ N ∧ N + 1 - i ≤ gk ∧ Aside0 (Below w.heap.size w W))
  case atStart => exact ⟨0, rfl, Nat.zero_le _, by omega, ⟨Below.refl _ _⟩⟩
  case round =>
    obtain ⟨i, rfl, hi, hkg, HB⟩ := hrel
    have x8 := pw_cell_below HB.out HC.out
    rcases Nat.lt_or_ge i N with hlt | hge
    · have hd : decide (i < N) = true := decide_eq_true hlt
      have hil : i < hs.length := by rw [← HN.out]; exact hlt
      obtain ⟨ad, rfl, y0, y1, y2⟩ := C_held (Kd.C_below HH.out HB.out) HN.out i hil
      obtain ⟨x, hx⟩ : ∃ x, hs[i] = x := ⟨_, rfl⟩
      rw [hx] at y0 y1 y2
      have hxi : hs[i]? = some x := by rw [List.getElem?_eq_getElem hil, hx]
      obtain ⟨h1, h2, h3, h4, h5⟩ := HR.out.below HB.out i x hxi
      obtain ⟨xA, xn, xc, xB, xm, xq, xk⟩ := x
      dsimp only at y0 y1 y2 h1 h2 h3 h4 h5
      subst h1
      have H4 := Aside0.mk (And.intro h4 h5)
      clear h4 h5 hx hxi
      have e40 : (((xn + 40 : Nat) : Int) != (xn : Int) + 40) = false := by simp
      go_wp2
      have HBX : Aside0 ((wr.alloc (.cells #[.slice xA xn xc, .slice xB (xn + 40) xq, .int .i64 (xk : Int)] 207)).heap[wr.heap.size]? = some (.cells #[.slice xA xn xc, .slice xB (xn + 40) xq, .int .i64 (xk : Int)] 207 (0, 0))) := ⟨blk_new _ _⟩
      have HBW := Aside0.mk (HB.out.trans ((below_alloc (Below.refl wr.heap.size wr) (.cells #[.slice xA xn xc, .slice xB (xn + 40) xq, .int .i64 (xk : Int)] 207)).mono HB.out.size))
      have H5 := Aside0.mk (And.intro (Kd.C_below H4.out.1 (below_alloc (Below.refl wr.heap.size wr) (.cells #[.slice xA xn xc, .slice xB (xn + 40) xq, .int .i64 (xk : Int)] 207))) (Kd.C_below H4.out.2 (below_alloc (Below.refl wr.heap.size wr) (.cells #[.slice xA xn xc, .slice xB (xn + 40) xq, .int .i64 (xk : Int)] 207))))
      generalize World.alloc wr (.cells #[.slice xA xn xc, .slice xB (xn + 40) xq, .int .i64 (xk : Int)] 207) = wb at *
      clear y0 y1 y2 x8 H4
      generalize wr.heap.size = S1 at *
      obtain ⟨g0, rfl⟩ : ∃ g0, gk = g0 + 1 := ⟨gk - 1, by omega⟩
      go_loopg [5] (xn + 41) (fun gk v W => ∃ k : Nat, v = .int .i64 (k : Int) ∧ k ≤ xn + 40 ∧ xn + 41 - k ≤ gk ∧ Aside0 (Below wb.heap.size wb W))
      case atStart => exact ⟨0, rfl, Nat.zero_le _, by omega, ⟨Below.refl _ _⟩⟩
      case round =>
        obtain ⟨k, rfl, hk, hkg2, HB2⟩ := hrel
        have gx := blk_below HBX.out HB2.out
        have z0 := (blk_cell gx 0).trans (show _ = some (Value.slice xA xn xc) from rfl)
        have z1 := (blk_cell gx 1).trans (show _ = some (Value.slice xB (xn + 40) xq) from rfl)
        have z2 := (blk_cell gx 2).trans (show _ = some (Value.int .i64 (xk : Int)) from rfl)
        clear gx
        rcases Nat.lt_or_ge k (xn + 40) with hlt2 | hge2
        · have hd2 : decide (k < xn + 40) = true := decide_eq_true hlt2
          have hd2' : decide ((k : Int) < (xn : Int) + 40) = true := decide_eq_true (by omega)
          have hlt3 : (k : Int) < (xn : Int) + 40 := by omega
          obtain ⟨ad2, rfl, t0, t1, t2, t3, t4, t5, t6, t7, t8, t9⟩ := C_markN (Kd.C_below H5.out.2 HB2.out) k hlt2
          by_cases hkn : k < xn
          · have hd3 : decide (k < xn) = true := decide_eq_true hkn
            obtain ⟨ad3, rfl, s0, s1, s2, s3, s4, s5, s6, s7, s8, s9⟩ := C_markN (Kd.C_below H5.out.1 HB2.out) k hkn
            go_wp2
            have z0' := Ext.cell z0
            have z1' := Ext.cell z1
            have z2' := Ext.cell z2
            have t0' := Ext.cell t0
            have t1' := Ext.cell t1
            have t2' := Ext.cell t2
            have t3' := Ext.cell t3
            have t4' := Ext.cell t4
            have t5' := Ext.cell t5
            have t6' := Ext.cell t6
            have t7' := Ext.cell t7
            have t8' := Ext.cell t8
            have t9' := Ext.cell t9
            have s0' := Ext.cell s0
            have s1' := Ext.cell s1
            have s2' := Ext.cell s2
            have s3' := Ext.cell s3
            have s4' := Ext.cell s4
            have s5' := Ext.cell s5
            have s6' := Ext.cell s6
            have s7' := Ext.cell s7
            have s8' := Ext.cell s8
            have s9' := Ext.cell s9
            clear z0 z1 z2 t0 t1 t2 t3 t4 t5 t6 t7 t8 t9 s0 s1 s2 s3 s4 s5 s6 s7 s8 s9
            (refine region_ext (by kernel_rfl) (by kernel_rfl) ?_; (repeat (go_big_quiet_step ((go_at_call 167; exact ext_of (isMark_calls _ xk h3))))); with_reducible refine wpQuiet_end ?_; rintro e0)
            go_wp2
            go_roundg (gk - 1)
            case measure => omega
            case rel => exact ⟨k + 1, by go_num, by omega, by omega, ⟨below_step HB2.out e0.below⟩⟩
          · have hd3 : decide (k < xn) = false := decide_eq_false hkn
            go_wp2
            have z0' := Ext.cell z0
            have z1' := Ext.cell z1
            have z2' := Ext.cell z2
            have t0' := Ext.cell t0
            have t1' := Ext.cell t1
            have t2' := Ext.cell t2
            have t3' := Ext.cell t3
            have t4' := Ext.cell t4
            have t5' := Ext.cell t5
            have t6' := Ext.cell t6
            have t7' := Ext.cell t7
            have t8' := Ext.cell t8
            have t9' := Ext.cell t9
            clear z0 z1 z2 t0 t1 t2 t3 t4 t5 t6 t7 t8 t9
            (refine region_ext (by kernel_rfl) (by kernel_rfl) ?_; (repeat (go_big_quiet_step ((go_at_call 167; exact ext_of (isMark_calls _ xk h3))))); with_reducible refine wpQuiet_end ?_; rintro e0)
            go_wp2
            go_roundg (gk - 1)
            case measure => omega
            case rel => exact ⟨k + 1, by go_num, by omega, by omega, ⟨below_step HB2.out e0.below⟩⟩
        · have hd2 : decide (k < xn + 40) = false := decide_eq_false (by omega)
          have hd2' : decide ((k : Int) < (xn : Int) + 40) = false := decide_eq_false (by omega)
          go_wp2
          go_roundg g0
          case measure => omega
          case rel => exact ⟨i + 1, by go_num, by omega, by omega, ⟨HBW.out.trans (HB2.out.mono HBW.out.size)⟩⟩
    · have hd : decide (i < N) = false := decide_eq_false (by omega)
      go_wp2
      go_ret
      exact ⟨rfl, HB.out⟩
end Bk
end Go.Proofs.YtbdecnagdnancaaGreatDoor
