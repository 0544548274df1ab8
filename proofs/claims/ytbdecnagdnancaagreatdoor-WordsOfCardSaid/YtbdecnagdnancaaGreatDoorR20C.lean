/- The document's words: Of, by a walk through its code. -/
import Derived.Test.YtbdecnagdnancaaGreatDoorR20B
import Derived.Test.YtbdecnagdnancaaGreatDoorWx

namespace Go.Proofs.YtbdecnagdnancaaGreatDoor
open Go.RowKit Go.Proofs.YtbdecnagdnancaaGreatDoorW.PrintWords Go.Proofs.YtbdecnagdnancaaGreatDoorW.PrintLast Go.Proofs.YtbdecnagdnancaaGreatDoorW.PrintMore
set_option linter.unusedVariables false
set_option linter.unusedSimpArgs false
open Go.Shelf
namespace Wd
theorem scan0_nl (r : List B) (line col : Int) : scan (10 :: r) line col = scan r (line + 1) 1 := by rw [scan, if_pos rfl]
theorem scan0_bl {c : B} (r : List B) (line col : Int) (h1 : c ≠ 10) (h : c = 32 ∨ c = 9) : scan (c :: r) line col = scan r line (col + 1) := by rw [scan, if_neg h1, if_pos h]
theorem scan0_rem {c : B} (r : List B) (line col : Int) (h : c = 35) : scan (c :: r) line col = scan (r.dropWhile notNl) line (col + (r.takeWhile notNl).length + 1) := by
  subst h
  rw [scan, if_neg (by decide), if_neg (by decide), if_pos rfl]
theorem scan0_bad {c : B} (r : List B) (line col : Int) (h1 : c ≠ 10) (h2 : ¬(c = 32 ∨ c = 9)) (h3 : c ≠ 35) (h : (wordN (c :: r)).1 = 0) : scan (c :: r) line col = ([], line, col, false) := by rw [scan, if_neg h1, if_neg h2, if_neg h3, if_pos h]
theorem drop0_tw (p : B → Bool) : ∀ (l : List B), l.drop (l.takeWhile p).length = l.dropWhile p
  | [] => rfl
  | c :: r => by
    rw [List.takeWhile_cons, List.dropWhile_cons]
    split
    · rw [List.length_cons, List.drop_succ_cons, drop0_tw p r]
    · rfl
theorem setO_other {A : World} {b : Nat} {k : Nat} {o : Obj} {off : Nat} (v : Value) (hk : A.heap[k]? = some o) (hne : k ≠ b) : (A.setCell ⟨b, off, none⟩ v).heap[k]? = some o := by
  rw [← hk]
  simp only [World.setCell]
  rw [Array.getElem?_modify, if_neg (fun h => hne h.symm)]
def ofA (w : World) (l : List B) (e : Ending) (w' : World) : Prop := ∃ A c, e = .returned (.tuple #[.slice A (ofW l).1.length c, .agg #[.int .i64 (ofW l).2.1, .int .i64 (ofW l).2.2.1], .int .i64 (ofW l).2.2.2]) ∧ kWord.R 105 w' w.heap.size (fun _ => True) (.slice A (ofW l).1.length c) ((ofW l).1.map wordV) ∧ Below w.heap.size w w'
set_option maxRecDepth 200000 in
set_option maxHeartbeats 16000000 in
theorem of20_calls (w : World) (s : ByteArray) : Calls Tryz.prog 10 #[.string s] w (ofA w s.data.toList) := by
  obtain ⟨L, hL⟩ : ∃ l, l = s.data.toList := ⟨_, rfl⟩
  have hlen : L.length = s.size := by rw [hL]; exact Array.length_toList
  rw [← hL]
  have HAT : Aside0 (∀ k (h : k < s.size), L[k]? = some (s[k])) := ⟨fun k h => by rw [List.getElem?_eq_getElem (by rw [hlen]; exact h)]; congr 1; simp only [hL, Array.getElem_toList]; rfl⟩
  have HLEN := Aside0.mk hlen
  have HL := Aside0.mk hL
  clear hL hlen
  have HB := Aside0.mk (below_alloc (below_alloc (Below.refl w.heap.size w) (.cells #[.int .i64 0, .int .i64 0] 25)) (.cells #[.int .i64 1, .int .i64 1] 25))
  have g1 : ((w.alloc (.cells #[.int .i64 0, .int .i64 0] 25)).alloc (.cells #[.int .i64 1, .int .i64 1] 25)).heap[w.heap.size]? = some (.cells #[.int .i64 0, .int .i64 0] 25 (0, 0)) := blk_alloc (blk_new w _) _
  have g2 : ((w.alloc (.cells #[.int .i64 0, .int .i64 0] 25)).alloc (.cells #[.int .i64 1, .int .i64 1] 25)).heap[w.heap.size + 1]? = some (.cells #[.int .i64 1, .int .i64 1] 25 (0, 0)) := by have := blk_new (w.alloc (.cells #[.int .i64 0, .int .i64 0] 25)) (.cells #[.int .i64 1, .int .i64 1] 25); rwa [World.size_alloc] at this
  obtain ⟨W0, hW0⟩ : ∃ W, W = (w.alloc (.cells #[.int .i64 0, .int .i64 0] 25)).alloc (.cells #[.int .i64 1, .int .i64 1] 25) := ⟨_, rfl⟩
  obtain ⟨P3, hP3⟩ : ∃ p, p = w.heap.size := ⟨_, rfl⟩
  obtain ⟨P5, hP5⟩ : ∃ p, p = w.heap.size + 1 := ⟨_, rfl⟩
  have hne : P5 ≠ P3 := by omega
  rw [← hW0, ← hP3] at g1
  rw [← hW0, ← hP5] at g2
  rw [← hW0] at HB
  have HG0 := Aside0.mk (And.intro g1 g2)
  have HPP := Aside0.mk (And.intro (show w.heap.size ≤ P3 by omega) (show w.heap.size ≤ P5 by omega))
  have HW0 := Aside0.mk hW0
  have HPE := Aside0.mk (And.intro hP3 hP5)
  clear g1 g2
  by_cases hbig : 1048576 < s.size
  · have d1 : decide (1048576 < (s.size : Int)) = true := decide_eq_true (by omega)
    have HE : Aside0 (ofW L = ([], 1, 1, 3)) := ⟨by rw [ofW, if_pos (by rw [HLEN.out]; exact hbig)]⟩
    clear hbig
    go_enter Tryz.func10, Tryz.ntmps10
    go_upto_region 2 with fail
    rw [← hW0, ← hP5, ← hP3]
    clear hW0 hP3 hP5
    have c0 := blk_cell HG0.out.2 0
    have c1 := blk_cell HG0.out.2 1
    have q0 := blk_cell HG0.out.1 0
    have q1 := blk_cell HG0.out.1 1
    have f0 := blk_frozen HG0.out.1 0
    have f1 := blk_frozen HG0.out.1 1
    simp at c0 c1 q0 q1
    go_upto_region 3 with fail
    go_region_law (fail)
    all_goals (
      go_wp2
      have h1 : (((W0.setCell ⟨P3, 0, none⟩ (.int .i64 1)).setCell ⟨P3, 1, none⟩ (.int .i64 1)).drew).heap[P3]? = some (.cells #[.int .i64 1, .int .i64 1] 25 (0, 0)) := blk_drew (blk_put (blk_put HG0.out.1 0 _ rfl) 1 _ rfl)
      have e0 := blk_cell h1 0
      have e1 := blk_cell h1 1
      simp at e0 e1
      refine bodyPost_ret (v := .tuple #[.slice none 0 0, .agg #[.int .i64 1, .int .i64 1], .int .i64 3]) ?_ rfl ?_
      · simp [results, Tryz.f10, go_sem, e0, e1]
      · rw [ofA, HE.out]
        exact ⟨none, 0, rfl, Kd.R_nil _ _ _ _ _, ((HB.out.setCell HPP.out.1 _).setCell HPP.out.1 _).drew⟩)
  have d1 : decide (1048576 < (s.size : Int)) = false := decide_eq_false (by omega)
  have hsz : s.size ≤ 1048576 := by omega
  obtain ⟨res, hres⟩ : ∃ r, r = scan L 1 1 := ⟨_, rfl⟩
  have HE : Aside0 (ofW L = if res.2.2.2 then (res.1, res.2.1, res.2.2.1, 0) else ([], res.2.1, res.2.2.1, 11)) := ⟨by rw [ofW, if_neg (by rw [HLEN.out]; exact hbig), ← hres]⟩
  have HI0 : Aside0 (comb [] (scan L 1 1) = res) := ⟨by
    rw [← hres]
    unfold comb
    cases h : res.2.2.2 with
    | true => rw [if_pos rfl]; rfl
    | false =>
      rw [if_neg (by decide)]
      have := scan_K L 1 1
      rw [← hres] at this
      rcases this with ⟨-, -, e⟩ | ⟨e, -⟩
      · exact Prod.ext e.symm rfl
      · rw [h] at e; cases e⟩
  clear hbig hres
  go_enter Tryz.func10, Tryz.ntmps10
  go_upto_region 2 with fail
  rw [← hW0, ← hP5, ← hP3]
  clear hW0 hP3 hP5
  go_wp2
  go_loopg [6, 7] (s.size + 1) (fun g b6 b7 W => ∃ (k q : Nat) (A : Option Addr) (c : Nat) (acc : List Tok) (line col : Int), b7 = .int .i64 (k : Int) ∧ b6 = .slice A q c ∧ k ≤ s.size ∧ s.size + 1 - k ≤ g ∧ q + (s.size - k) ≤ 1048576 ∧ 0 ≤ line ∧ line + ((s.size - k : Nat) : Int) ≤ 4194304 ∧ 0 ≤ col ∧ col + ((s.size - k : Nat) : Int) ≤ 4194304 ∧ Aside0 (W.heap[P3]? = some (.cells #[.int .i64 0, .int .i64 0] 25 (0, 0)) ∧ W.heap[P5]? = some (.cells #[.int .i64 line, .int .i64 col] 25 (0, 0))) ∧ Aside0 (Below w.heap.size w W) ∧ Aside0 (comb acc (scan (L.drop k) line col) = res) ∧ Aside0 (kWord.R 105 W w.heap.size (fun _ => True) (.slice A q c) (acc.map wordV)) ∧ Aside0 (q = acc.length))
  case atStart => exact ⟨0, 0, none, 0, [], 1, 1, rfl, rfl, by omega, by omega, by omega, by omega, by omega, by omega, by omega, HG0, HB, ⟨by rw [List.drop_zero]; exact HI0.out⟩, ⟨Kd.R_nil _ _ _ _ _⟩, ⟨rfl⟩⟩
  case round =>
    clear HI0 HG0 HB HW0
    obtain ⟨k, q, A, c, acc, line, col, rfl, rfl, hk, hkg, hqb, hl0, hl1, hc0, hc1, HG, HB, HI, HO, HQ⟩ := hrel
    have z0 := blk_cell HG.out.2 0
    have z1 := blk_cell HG.out.2 1
    have y0 := blk_cell HG.out.1 0
    have y1 := blk_cell HG.out.1 1
    have f0 := blk_frozen HG.out.2 0
    have f1 := blk_frozen HG.out.2 1
    have g0 := blk_frozen HG.out.1 0
    have g1 := blk_frozen HG.out.1 1
    simp at z0 z1 y0 y1
    have HSTO : Aside0 (∀ (o : Nat) (v : Value), kWord.R 105 (wr.setCell ⟨P5, o, none⟩ v) w.heap.size (fun _ => True) (.slice A q c) (acc.map wordV) ∧ Below w.heap.size w (wr.setCell ⟨P5, o, none⟩ v)) := ⟨fun o v => ⟨Kd.R_set HO.out HG.out.2 (fun t ht => by have ht : t = 105 := List.mem_singleton.1 (show t ∈ [105] from ht); rw [ht]; decide) o v, HB.out.setCell HPP.out.2 v⟩⟩
    rcases Nat.lt_or_ge k s.size with hlt | hge
    · have hd : decide (k < s.size) = true := decide_eq_true hlt
      obtain ⟨m, hm⟩ : ∃ m : Nat, m = (s[k]).toNat := ⟨_, rfl⟩
      have q0 : ((s[k]).toNat : Int) = (m : Int) := by rw [hm]
      obtain ⟨x, hx⟩ : ∃ x, x = s[k] := ⟨_, rfl⟩
      have HDC : Aside0 (L.drop k = x :: L.drop (k + 1)) := ⟨by
        have h1 := HAT.out k hlt
        rw [hx, List.drop_eq_getElem_cons (by rw [HLEN.out]; exact hlt)]
        rw [List.getElem?_eq_getElem (by rw [HLEN.out]; exact hlt)] at h1
        injection h1 with h1
        rw [h1]⟩
      have HXM : Aside0 (∀ n : Nat, n < 256 → (x = n.toUInt8 ↔ m = n)) := ⟨fun n hn => by
        rw [hm, ← hx]
        constructor
        · intro h; rw [h]; exact UInt8.toNat_ofNat_of_lt hn
        · intro h; exact UInt8.toNat_inj.1 (by rw [h]; exact (UInt8.toNat_ofNat_of_lt hn).symm)⟩
      clear hm hx
      by_cases hb : m = 32 ∨ m = 9
      · have HN2 : Aside0 (comb acc (scan (L.drop (k + 1)) line (col + 1)) = res) := ⟨by
          have n1 : x ≠ 10 := fun h => by have := (HXM.out 10 (by decide)).1 h; omega
          have n2 : x = 32 ∨ x = 9 := hb.imp (fun h => (HXM.out 32 (by decide)).2 h) (fun h => (HXM.out 9 (by decide)).2 h)
          rw [← HI.out, HDC.out, scan0_bl _ _ _ n1 n2]⟩
        have e3 : ((m : Int) == 10) = false := beq_eq_false_iff_ne.2 (by omega)
        have hor : (((m : Int) == 32) = true ∧ True) ∨ (((m : Int) == 32) = false ∧ ((m : Int) == 9) = true) := by
          rcases hb with h | h
          · exact .inl ⟨beq_iff_eq.2 (by omega), trivial⟩
          · exact .inr ⟨beq_eq_false_iff_ne.2 (by omega), beq_iff_eq.2 (by omega)⟩
        clear hb
        rcases hor with ⟨e1, e2⟩ | ⟨e1, e2⟩
        all_goals (
          go_wp2
          go_roundg (gk - 1)
          case measure => omega
          case rel =>
            have hS := HSTO.out 1 (.int .i64 (col + 1))
            exact ⟨k + 1, q, A, c, acc, line, col + 1, by go_num, rfl, by omega, by omega, by omega, by omega, by omega, by omega, by omega, ⟨⟨setO_other _ HG.out.1 (fun h => hne h.symm), blk_put HG.out.2 1 _ rfl⟩⟩, ⟨hS.2⟩, HN2, ⟨hS.1⟩, HQ⟩)
      by_cases hb10 : m = 10
      · have HN2 : Aside0 (comb acc (scan (L.drop (k + 1)) (line + 1) 1) = res) := ⟨by
          have n1 : x = 10 := (HXM.out 10 (by decide)).2 hb10
          rw [← HI.out, HDC.out, n1, scan0_nl]⟩
        have e1 : ((m : Int) == 32) = false := beq_eq_false_iff_ne.2 (by omega)
        have e2 : ((m : Int) == 9) = false := beq_eq_false_iff_ne.2 (by omega)
        have e3 : ((m : Int) == 10) = true := beq_iff_eq.2 (by omega)
        clear hb hb10
        go_wp2
        go_roundg (gk - 1)
        case measure => omega
        case rel =>
          have hg1 : (wr.setCell ⟨P5, 1, none⟩ (.int .i64 (col + 1))).heap[P5]? = some (.cells #[.int .i64 line, .int .i64 (col + 1)] 25 (0, 0)) := blk_put HG.out.2 1 _ rfl
          have ht : ∀ t, t ∈ 105 :: kWord.E → t ≠ 25 := fun t ht => by have ht : t = 105 := List.mem_singleton.1 (show t ∈ [105] from ht); rw [ht]; decide
          have hS := HSTO.out 1 (.int .i64 (col + 1))
          have hg2 := blk_put hg1 0 (.int .i64 (line + 1)) rfl
          have hS2 := Kd.R_set hS.1 hg1 ht 0 (.int .i64 (line + 1))
          exact ⟨k + 1, q, A, c, acc, line + 1, 1, by go_num, rfl, by omega, by omega, by omega, by omega, by omega, by omega, by omega, ⟨⟨setO_other _ (setO_other _ (setO_other _ HG.out.1 (fun h => hne h.symm)) (fun h => hne h.symm)) (fun h => hne h.symm), blk_put hg2 1 _ rfl⟩⟩, ⟨(hS.2.setCell HPP.out.2 _).setCell HPP.out.2 _⟩, HN2, ⟨Kd.R_set hS2 hg2 ht 1 _⟩, HQ⟩
      have e1 : ((m : Int) == 32) = false := beq_eq_false_iff_ne.2 (by omega)
      have e2 : ((m : Int) == 9) = false := beq_eq_false_iff_ne.2 (by omega)
      have e3 : ((m : Int) == 10) = false := beq_eq_false_iff_ne.2 (by omega)
      have HN10 : Aside0 (x ≠ 10 ∧ ¬(x = 32 ∨ x = 9)) := ⟨fun h => hb10 ((HXM.out 10 (by decide)).1 h), fun h => hb (h.imp (fun h => (HXM.out 32 (by decide)).1 h) (fun h => (HXM.out 9 (by decide)).1 h))⟩
      clear hb hb10
      by_cases h35 : m = 35
      · have e4 : ((m : Int) == 35) = true := beq_iff_eq.2 (by omega)
        have e5 : ((m : Int) != 10) = true := bne_iff_ne.mpr (by omega)
        obtain ⟨T, hT⟩ : ∃ T, T = ((L.drop (k + 1)).takeWhile notNl).length := ⟨_, rfl⟩
        have HTW := Aside0.mk hT
        have hTk : k + 1 + T ≤ s.size := by
          have := tw_le notNl (L.drop (k + 1))
          rw [List.length_drop, HLEN.out, ← hT] at this
          omega
        have HN2 : Aside0 (comb acc (scan (L.drop (k + 1 + T)) line (col + 1 + T)) = res) := ⟨by
          have n1 : x = 35 := (HXM.out 35 (by decide)).2 h35
          rw [← HI.out, HDC.out, scan0_rem _ _ _ n1, ← List.drop_drop, ← hT]
          congr 2
          · rw [hT, drop0_tw]
          · omega⟩
        have HBYTE : Aside0 (∀ j, j ≤ T → ∀ (h : k + 1 + j < s.size), (((s[k + 1 + j]).toNat : Int) != 10) = decide (j < T)) := ⟨fun j hj h => by
          have h1 := HAT.out (k + 1 + j) h
          have h2 : (L.drop (k + 1))[j]? = some (s[k + 1 + j]) := by rw [List.getElem?_drop]; exact h1
          have hjl : j < (L.drop (k + 1)).length := (List.getElem?_eq_some_iff.1 h2).1
          have hnn : ((((s[k + 1 + j]).toNat : Int) != 10) = notNl (s[k + 1 + j])) := by
            rw [notNl, Bool.eq_iff_iff, bne_iff_ne, bne_iff_ne]
            exact ⟨fun a b => a (by rw [b]; rfl), fun a b => a (UInt8.toNat_inj.1 (by exact_mod_cast b))⟩
          rw [hnn]
          rcases Nat.lt_or_ge j T with hjT | hjT
          · rw [decide_eq_true hjT]
            have : (L.drop (k + 1)).takeWhile notNl = (L.drop (k + 1)).take T := by rw [hT, take_tw]
            have hm2 : s[k + 1 + j] ∈ (L.drop (k + 1)).takeWhile notNl := by
              rw [this, List.mem_iff_getElem?]
              exact ⟨j, by rw [List.getElem?_take, if_pos hjT]; exact h2⟩
            exact tw_all notNl _ _ hm2
          · obtain rfl : j = T := by omega
            rw [decide_eq_false (Nat.lt_irrefl _)]
            cases hv : notNl (s[k + 1 + j]) with
            | false => rfl
            | true =>
              exfalso
              have := List.takeWhile_append_dropWhile (p := notNl) (l := L.drop (k + 1))
              have hd2 : (L.drop (k + 1)).dropWhile notNl = s[k + 1 + j] :: ((L.drop (k + 1)).drop j).tail := by
                rw [← drop0_tw, ← hT, List.drop_eq_getElem_cons hjl]
                rw [List.getElem?_eq_getElem hjl] at h2
                injection h2 with h2
                rw [h2]; rfl
              have := List.head?_dropWhile_not notNl (L.drop (k + 1))
              rw [hd2] at this
              simp [hv] at this⟩
        clear h35 hT
        obtain ⟨g0', rfl⟩ : ∃ g0, gk = g0 + 1 := ⟨gk - 1, by omega⟩
        go_wp2
        go_loopg [7] (T + 3) (fun g b7 W => ∃ (j : Nat), b7 = .int .i64 ((k + j : Nat) : Int) ∧ j ≤ T + 1 ∧ T + 3 - j ≤ g + 1 ∧ Aside0 (W.heap[P3]? = some (.cells #[.int .i64 0, .int .i64 0] 25 (0, 0)) ∧ W.heap[P5]? = some (.cells #[.int .i64 line, .int .i64 (col + (j : Int))] 25 (0, 0))) ∧ Aside0 (Below w.heap.size w W) ∧ Aside0 (kWord.R 105 W w.heap.size (fun _ => True) (.slice A q c) (acc.map wordV)))
        case atStart => exact ⟨0, rfl, by omega, by omega, ⟨⟨HG.out.1, by rw [HG.out.2]; simp⟩⟩, HB, HO⟩
        case round =>
          clear HG HB HO z0 z1 y0 y1 f0 f1 g0 g1 HSTO
          obtain ⟨j, rfl, hj, hjg, HG, HB, HO⟩ := hrel
          have z0 := blk_cell HG.out.2 0
          have z1 := blk_cell HG.out.2 1
          have f0 := blk_frozen HG.out.2 0
          have f1 := blk_frozen HG.out.2 1
          simp at z0 z1
          obtain ⟨p, hp⟩ : ∃ p, p = k + j := ⟨_, rfl⟩
          have HP := Aside0.mk hp
          rw [← hp]
          rcases Nat.lt_or_ge j (T + 1) with hjl | hjge
          · have hps : p < s.size := by omega
            have hdp : decide (p < s.size) = true := decide_eq_true hps
            have eb : (((s[p]).toNat : Int) != 10) = true := by
              rcases Nat.eq_zero_or_pos j with h | h
              · subst h
                simp only [hp, Nat.add_zero, q0]
                exact e5
              · have := HBYTE.out (j - 1) (by omega) (by omega)
                rw [decide_eq_true (by omega)] at this
                simp only [hp, show k + j = k + 1 + (j - 1) by omega]
                exact this
            have hpk : p ≤ k + T := by omega
            clear hp
            go_wp2
            go_roundg (gk - 1)
            case measure => have := HP.out; omega
            case rel =>
              have hS := Kd.R_set HO.out HG.out.2 (fun t ht => by have ht : t = 105 := List.mem_singleton.1 (show t ∈ [105] from ht); rw [ht]; decide) 1 (.int .i64 (col + (j : Int) + 1))
              exact ⟨j + 1, by rw [HP.out]; go_num, by omega, by omega, ⟨⟨setO_other _ HG.out.1 (fun h => hne h.symm), blk_put HG.out.2 1 _ (by simp; omega)⟩⟩, ⟨HB.out.setCell HPP.out.2 _⟩, ⟨hS⟩⟩
          · obtain rfl : j = T + 1 := by omega
            have hend : (decide (p < s.size) = false ∧ True) ∨ ((decide (p < s.size) = true ∧ p < s.size) ∧ ∀ h : p < s.size, (((s[p]'h).toNat : Int) != 10) = false) := by
              rcases Nat.lt_or_ge p s.size with h | h
              · refine .inr ⟨⟨decide_eq_true h, h⟩, fun _ => ?_⟩
                have := HBYTE.out T (Nat.le_refl _) (by omega)
                rw [decide_eq_false (Nat.lt_irrefl _)] at this
                simp only [hp, show k + (T + 1) = k + 1 + T by omega]
                exact this
              · exact .inl ⟨decide_eq_false (by omega), trivial⟩
            have HK2 : Aside0 (p = k + 1 + T) := ⟨by omega⟩
            clear hp hjge hj hjg
            rcases hend with ⟨e6, -⟩ | ⟨⟨e6, hps⟩, e7⟩
            · go_wp2
              go_roundg g0'
              case measure => have := HK2.out; omega
              case rel =>
                refine ⟨p, q, A, c, acc, line, col + ((T + 1 : Nat) : Int), rfl, rfl, by have := HK2.out; omega, by have := HK2.out; omega, by have := HK2.out; omega, by omega, by have := HK2.out; omega, by omega, by have := HK2.out; omega, HG, HB, ⟨?_⟩, HO, HQ⟩
                rw [HK2.out, ← HN2.out]
                congr 2
                omega
            · have e8 := e7 hps
              clear e7
              go_wp2
              go_roundg g0'
              case measure => have := HK2.out; omega
              case rel =>
                refine ⟨p, q, A, c, acc, line, col + ((T + 1 : Nat) : Int), rfl, rfl, by have := HK2.out; omega, by have := HK2.out; omega, by have := HK2.out; omega, by omega, by have := HK2.out; omega, by omega, by have := HK2.out; omega, HG, HB, ⟨?_⟩, HO, HQ⟩
                rw [HK2.out, ← HN2.out]
                congr 2
                omega
      · have e4 : ((m : Int) == 35) = false := beq_eq_false_iff_ne.2 (by omega)
        have HN35 : Aside0 (x ≠ 35) := ⟨fun h => h35 ((HXM.out 35 (by decide)).1 h)⟩
        obtain ⟨n, hn⟩ : ∃ n, n = (wordN (L.drop k)).1 := ⟨_, rfl⟩
        obtain ⟨kd, hkd⟩ : ∃ n, n = (wordN (L.drop k)).2 := ⟨_, rfl⟩
        have HWD : Aside0 (∀ qq, (qq = k + 42 ∧ k + 42 ≤ s.size ∨ qq = s.size ∧ s.size ≤ k + 42) → Calls Tryz.prog 48 #[.string (s.extract k qq)] wr fun e w' => e = .returned (.tuple #[.int .i64 (n : Int), .int .u8 kd]) ∧ wr = w') := ⟨fun qq hqq => by
          have hx1 : (s.extract k qq).data.toList = (L.drop k).take 42 := by
            rw [ext_list, ← HL.out, List.drop_take]
            rcases hqq with ⟨h1, h2⟩ | ⟨h1, h2⟩
            · rw [show qq - k = 42 by omega]
            · rw [List.take_of_length_le (by rw [List.length_drop, HLEN.out]; omega), List.take_of_length_le (by rw [List.length_drop, HLEN.out]; omega)]
          have hsz2 : (s.extract k qq).size = qq - k := by rw [ByteArray.size_extract]; omega
          have := word20_calls wr (s.extract k qq) (by omega) (by omega)
          rw [hx1, wordN_take, ← hn, ← hkd] at this
          exact this⟩
        have HNK := Aside0.mk (And.intro hn hkd)
        clear h35 hn hkd
        rcases Nat.lt_or_ge (k + 42) s.size with h42 | h42
        · obtain ⟨mo, hmo⟩ : ∃ mo, mo = (k + 42) := ⟨_, rfl⟩
          have hmin : min ((s.size : Int)) ((k : Int) + 32 + 10) = (mo : Int) := by omega
          have hmk : k ≤ mo := by omega
          have hms : mo ≤ s.size := by omega
          have HC := Aside0.mk (HWD.out mo (.inl ⟨hmo, by omega⟩))
          clear hmo
          clear HWD
          rcases Nat.eq_zero_or_pos n with hn0 | hn0
          · subst hn0
            have HBAD : Aside0 (ofW L = ([], line, col, 11)) := ⟨by
              have := HI.out
              rw [HDC.out, scan0_bad _ _ _ HN10.out.1 HN10.out.2 HN35.out (by rw [← HDC.out, ← HNK.out.1])] at this
              rw [HE.out, ← this]
              rfl⟩
            go_upto_region 20 with (go_at_call 48; (with_reducible refine HC.out.mono ?_); rintro e W2 ⟨rfl, rfl⟩)
            go_region_law (fail)
            all_goals (
              go_wp2
              have h1 : (((wr.setCell ⟨P3, 0, none⟩ (.int .i64 line)).setCell ⟨P3, 1, none⟩ (.int .i64 col)).drew).heap[P3]? = some (.cells #[.int .i64 line, .int .i64 col] 25 (0, 0)) := blk_drew (blk_put (blk_put HG.out.1 0 _ rfl) 1 _ rfl)
              have e0 := blk_cell h1 0
              have e1 := blk_cell h1 1
              simp at e0 e1
              refine bodyPost_ret (v := .tuple #[.slice none 0 0, .agg #[.int .i64 line, .int .i64 col], .int .i64 11]) ?_ rfl ?_
              · simp [results, Tryz.f10, go_sem, e0, e1]
              · rw [ofA, HBAD.out]
                exact ⟨none, 0, rfl, Kd.R_nil _ _ _ _ _, ((HB.out.setCell HPP.out.1 _).setCell HPP.out.1 _).drew⟩)
          · have d2 : ((n : Int) == 0) = false := beq_eq_false_iff_ne.2 (by omega)
            have hkn : k + n ≤ s.size := by
              have := (word_is x (L.drop (k + 1)) (by rw [← HDC.out, ← HNK.out.1]; omega)).2
              rw [← HDC.out, ← HNK.out.1, List.length_drop, HLEN.out] at this
              omega
            obtain ⟨e0, he0⟩ : ∃ e0, e0 = k + n := ⟨_, rfl⟩
            have hwr : IntKind.i64.wrap ((k : Int) + (n : Int)) = (e0 : Int) := by rw [IntKind.wrap_i64]; omega
            have hke : k ≤ e0 := by omega
            have hes : e0 ≤ s.size := by omega
            obtain ⟨tok, htok⟩ : ∃ t : Tok, t = ⟨kd, (L.drop k).take n, line, col⟩ := ⟨_, rfl⟩
            obtain ⟨xw, hxw⟩ : ∃ t : Wrd, t = ⟨kd, s.extract k e0, ⟨line, col⟩⟩ := ⟨_, rfl⟩
            have HX : Aside0 (wordV tok = xw) := ⟨by
              rw [htok, hxw]
              have : s.extract k e0 = ⟨((L.drop k).take n).toArray⟩ := ByteArray.ext (Array.toList_inj.1 (by rw [ext_list, ← HL.out, List.drop_take, he0, Nat.add_sub_cancel_left]))
              rw [wordV, this]⟩
            have HWC : Aside0 (kWord.C (wr.alloc (.cells #[.int .u8 kd, .string (s.extract k e0), .int .i64 line, .int .i64 col] 105)).drew (some ⟨wr.heap.size, 0, none⟩) 1 [xw]) := ⟨by rw [hxw]; exact Kd.C_below (word_C wr _) (Below.refl _ _).drew⟩
            have HXL : Aside0 ((acc.map wordV ++ [xw]).length = q + 1) := ⟨by rw [List.length_append, List.length_map, ← HQ.out]; rfl⟩
            have HNX : Aside0 (comb (acc ++ [tok]) (scan (L.drop (k + n)) line (col + n)) = res) := ⟨by
              have h := comb_step acc x (L.drop (k + 1)) (l := L.drop k) line col n kd tok (fun c' r' hcr => by
                rw [HDC.out] at hcr
                injection hcr with h1 h2
                rw [← h1]
                exact ⟨HN10.out.1, fun e => HN10.out.2 (.inl e), fun e => HN10.out.2 (.inr e), HN35.out⟩) HDC.out HNK.out.1 HNK.out.2 hn0 htok
              rw [List.drop_drop, show k + 1 + (n - 1) = k + n by omega] at h
              rw [h, HI.out]⟩
            clear htok hxw he0
            go_upto_region 21 with (go_at_call 48; (with_reducible refine HC.out.mono ?_); rintro e W2 ⟨rfl, rfl⟩)
            go_region_law (refine step_append_Rq rfl kWord w.heap.size (.tmp 81) (.tmp 91) 23 23 105 105 (.agg #[.int .u8 0, .string ⟨#[]⟩, .int .i64 0, .int .i64 0]) 40 rfl (by kernel_rfl) (by kernel_rfl) infoW rfl (by decide) (by decide) (.slice A q c) (acc.map wordV) [xw] (some ⟨wr.heap.size, 0, none⟩) 1 1 (fun _ => True) (fun _ => False) rfl rfl (Kd.R_below HO.out (below_alloc (Below.refl _ _) _).drew) HWC.out (fun x cs h => wordM h) (fun _ h => h.elim) (fun _ _ => trivial) (below_alloc HB.out _).drew.size (by rw [List.length_map, ← HQ.out]; omega) ?_; intro v1 w1 HO1 hg1 hat; obtain ⟨A2, c2, rfl⟩ := Kd.R_slice HO1; rw [HXL.out] at HO1 ⊢; have HBA := Aside0.mk (below_alloc (Below.refl wr.heap.size wr) (.cells #[.int .u8 kd, .string (s.extract k e0), .int .i64 line, .int .i64 col] 105)).drew; have hx5 := blk_grown (blk_below HG.out.2 HBA.out) hg1 (Kd.R_ne (Kd.R_below HO.out HBA.out) (blk_below HG.out.2 HBA.out) (by decide)); have hx3 := blk_grown (blk_below HG.out.1 HBA.out) hg1 (Kd.R_ne (Kd.R_below HO.out HBA.out) (blk_below HG.out.1 HBA.out) (by decide)); have HG2 := Aside0.mk (And.intro hx3 hx5); have p0 := blk_cell hx5 0; have p1 := blk_cell hx5 1; have r0 := blk_cell hx3 0; have r1 := blk_cell hx3 1; have pf1 := blk_frozen hx5 1; have rf0 := blk_frozen hx3 0; have rf1 := blk_frozen hx3 1; simp at p0 p1 r0 r1; have HO2 := Aside0.mk HO1; have HB2 := Aside0.mk ((below_step HB.out HBA.out).grown hg1 (below_step HB.out HBA.out).size (fun j hj => own_base (Kd.R_own (Kd.R_below HO.out HBA.out)).choose_spec j hj)); clear HO1 hg1 hat hx3 hx5)
            all_goals (
              clear z0 z1 y0 y1 f0 f1 g0 g1 hwr hke hes
              go_wp2
              go_roundg (gk - 1)
              case measure => omega
              case rel =>
                have hS := Kd.R_set HO2.out HG2.out.2 (fun t ht => by have ht : t = 105 := List.mem_singleton.1 (show t ∈ [105] from ht); rw [ht]; decide) 1 (.int .i64 (col + n))
                refine ⟨k + n, q + 1, A2, c2, acc ++ [tok], line, col + n, by go_num, rfl, by omega, by omega, by omega, by omega, by omega, by omega, by omega, ⟨⟨setO_other _ HG2.out.1 (fun h => hne h.symm), blk_put HG2.out.2 1 _ rfl⟩⟩, ⟨HB2.out.setCell HPP.out.2 _⟩, HNX, ⟨?_⟩, ⟨by rw [List.length_append, ← HQ.out]; rfl⟩⟩
                rw [List.map_append, List.map_singleton, HX.out]
                exact hS)
        · obtain ⟨mo, hmo⟩ : ∃ mo, mo = s.size := ⟨_, rfl⟩
          have hmin : min ((s.size : Int)) ((k : Int) + 32 + 10) = (mo : Int) := by omega
          have hmk : k ≤ mo := by omega
          have hms : mo ≤ s.size := by omega
          have HC := Aside0.mk (HWD.out mo (.inr ⟨hmo, by omega⟩))
          clear hmo
          clear HWD
          rcases Nat.eq_zero_or_pos n with hn0 | hn0
          · subst hn0
            have HBAD : Aside0 (ofW L = ([], line, col, 11)) := ⟨by
              have := HI.out
              rw [HDC.out, scan0_bad _ _ _ HN10.out.1 HN10.out.2 HN35.out (by rw [← HDC.out, ← HNK.out.1])] at this
              rw [HE.out, ← this]
              rfl⟩
            go_upto_region 20 with (go_at_call 48; (with_reducible refine HC.out.mono ?_); rintro e W2 ⟨rfl, rfl⟩)
            go_region_law (fail)
            all_goals (
              go_wp2
              have h1 : (((wr.setCell ⟨P3, 0, none⟩ (.int .i64 line)).setCell ⟨P3, 1, none⟩ (.int .i64 col)).drew).heap[P3]? = some (.cells #[.int .i64 line, .int .i64 col] 25 (0, 0)) := blk_drew (blk_put (blk_put HG.out.1 0 _ rfl) 1 _ rfl)
              have e0 := blk_cell h1 0
              have e1 := blk_cell h1 1
              simp at e0 e1
              refine bodyPost_ret (v := .tuple #[.slice none 0 0, .agg #[.int .i64 line, .int .i64 col], .int .i64 11]) ?_ rfl ?_
              · simp [results, Tryz.f10, go_sem, e0, e1]
              · rw [ofA, HBAD.out]
                exact ⟨none, 0, rfl, Kd.R_nil _ _ _ _ _, ((HB.out.setCell HPP.out.1 _).setCell HPP.out.1 _).drew⟩)
          · have d2 : ((n : Int) == 0) = false := beq_eq_false_iff_ne.2 (by omega)
            have hkn : k + n ≤ s.size := by
              have := (word_is x (L.drop (k + 1)) (by rw [← HDC.out, ← HNK.out.1]; omega)).2
              rw [← HDC.out, ← HNK.out.1, List.length_drop, HLEN.out] at this
              omega
            obtain ⟨e0, he0⟩ : ∃ e0, e0 = k + n := ⟨_, rfl⟩
            have hwr : IntKind.i64.wrap ((k : Int) + (n : Int)) = (e0 : Int) := by rw [IntKind.wrap_i64]; omega
            have hke : k ≤ e0 := by omega
            have hes : e0 ≤ s.size := by omega
            obtain ⟨tok, htok⟩ : ∃ t : Tok, t = ⟨kd, (L.drop k).take n, line, col⟩ := ⟨_, rfl⟩
            obtain ⟨xw, hxw⟩ : ∃ t : Wrd, t = ⟨kd, s.extract k e0, ⟨line, col⟩⟩ := ⟨_, rfl⟩
            have HX : Aside0 (wordV tok = xw) := ⟨by
              rw [htok, hxw]
              have : s.extract k e0 = ⟨((L.drop k).take n).toArray⟩ := ByteArray.ext (Array.toList_inj.1 (by rw [ext_list, ← HL.out, List.drop_take, he0, Nat.add_sub_cancel_left]))
              rw [wordV, this]⟩
            have HWC : Aside0 (kWord.C (wr.alloc (.cells #[.int .u8 kd, .string (s.extract k e0), .int .i64 line, .int .i64 col] 105)).drew (some ⟨wr.heap.size, 0, none⟩) 1 [xw]) := ⟨by rw [hxw]; exact Kd.C_below (word_C wr _) (Below.refl _ _).drew⟩
            have HXL : Aside0 ((acc.map wordV ++ [xw]).length = q + 1) := ⟨by rw [List.length_append, List.length_map, ← HQ.out]; rfl⟩
            have HNX : Aside0 (comb (acc ++ [tok]) (scan (L.drop (k + n)) line (col + n)) = res) := ⟨by
              have h := comb_step acc x (L.drop (k + 1)) (l := L.drop k) line col n kd tok (fun c' r' hcr => by
                rw [HDC.out] at hcr
                injection hcr with h1 h2
                rw [← h1]
                exact ⟨HN10.out.1, fun e => HN10.out.2 (.inl e), fun e => HN10.out.2 (.inr e), HN35.out⟩) HDC.out HNK.out.1 HNK.out.2 hn0 htok
              rw [List.drop_drop, show k + 1 + (n - 1) = k + n by omega] at h
              rw [h, HI.out]⟩
            clear htok hxw he0
            go_upto_region 21 with (go_at_call 48; (with_reducible refine HC.out.mono ?_); rintro e W2 ⟨rfl, rfl⟩)
            go_region_law (refine step_append_Rq rfl kWord w.heap.size (.tmp 81) (.tmp 91) 23 23 105 105 (.agg #[.int .u8 0, .string ⟨#[]⟩, .int .i64 0, .int .i64 0]) 40 rfl (by kernel_rfl) (by kernel_rfl) infoW rfl (by decide) (by decide) (.slice A q c) (acc.map wordV) [xw] (some ⟨wr.heap.size, 0, none⟩) 1 1 (fun _ => True) (fun _ => False) rfl rfl (Kd.R_below HO.out (below_alloc (Below.refl _ _) _).drew) HWC.out (fun x cs h => wordM h) (fun _ h => h.elim) (fun _ _ => trivial) (below_alloc HB.out _).drew.size (by rw [List.length_map, ← HQ.out]; omega) ?_; intro v1 w1 HO1 hg1 hat; obtain ⟨A2, c2, rfl⟩ := Kd.R_slice HO1; rw [HXL.out] at HO1 ⊢; have HBA := Aside0.mk (below_alloc (Below.refl wr.heap.size wr) (.cells #[.int .u8 kd, .string (s.extract k e0), .int .i64 line, .int .i64 col] 105)).drew; have hx5 := blk_grown (blk_below HG.out.2 HBA.out) hg1 (Kd.R_ne (Kd.R_below HO.out HBA.out) (blk_below HG.out.2 HBA.out) (by decide)); have hx3 := blk_grown (blk_below HG.out.1 HBA.out) hg1 (Kd.R_ne (Kd.R_below HO.out HBA.out) (blk_below HG.out.1 HBA.out) (by decide)); have HG2 := Aside0.mk (And.intro hx3 hx5); have p0 := blk_cell hx5 0; have p1 := blk_cell hx5 1; have r0 := blk_cell hx3 0; have r1 := blk_cell hx3 1; have pf1 := blk_frozen hx5 1; have rf0 := blk_frozen hx3 0; have rf1 := blk_frozen hx3 1; simp at p0 p1 r0 r1; have HO2 := Aside0.mk HO1; have HB2 := Aside0.mk ((below_step HB.out HBA.out).grown hg1 (below_step HB.out HBA.out).size (fun j hj => own_base (Kd.R_own (Kd.R_below HO.out HBA.out)).choose_spec j hj)); clear HO1 hg1 hat hx3 hx5)
            all_goals (
              clear z0 z1 y0 y1 f0 f1 g0 g1 hwr hke hes
              go_wp2
              go_roundg (gk - 1)
              case measure => omega
              case rel =>
                have hS := Kd.R_set HO2.out HG2.out.2 (fun t ht => by have ht : t = 105 := List.mem_singleton.1 (show t ∈ [105] from ht); rw [ht]; decide) 1 (.int .i64 (col + n))
                refine ⟨k + n, q + 1, A2, c2, acc ++ [tok], line, col + n, by go_num, rfl, by omega, by omega, by omega, by omega, by omega, by omega, by omega, ⟨⟨setO_other _ HG2.out.1 (fun h => hne h.symm), blk_put HG2.out.2 1 _ rfl⟩⟩, ⟨HB2.out.setCell HPP.out.2 _⟩, HNX, ⟨?_⟩, ⟨by rw [List.length_append, ← HQ.out]; rfl⟩⟩
                rw [List.map_append, List.map_singleton, HX.out]
                exact hS)
    · have hd : decide (k < s.size) = false := decide_eq_false (by omega)
      have HEND : Aside0 (ofW L = (acc ++ [⟨3, [], line, col⟩], line, col, 0)) := ⟨by
        have := HI.out
        rw [List.drop_eq_nil_of_le (by rw [HLEN.out]; exact hge), comb_end] at this
        rw [HE.out, ← this]
        rfl⟩
      obtain ⟨xw, hxw⟩ : ∃ t : Wrd, t = ⟨3, ⟨#[]⟩, ⟨line, col⟩⟩ := ⟨_, rfl⟩
      have HX : Aside0 (wordV ⟨3, [], line, col⟩ = xw) := ⟨by rw [hxw]; rfl⟩
      have HWC : Aside0 (kWord.C (wr.alloc (.cells #[.int .u8 3, .string ⟨#[]⟩, .int .i64 line, .int .i64 col] 105)).drew (some ⟨wr.heap.size, 0, none⟩) 1 [xw]) := ⟨by rw [hxw]; exact Kd.C_below (word_C wr _) (Below.refl _ _).drew⟩
      have HXL : Aside0 ((acc.map wordV ++ [xw]).length = q + 1) := ⟨by rw [List.length_append, List.length_map, ← HQ.out]; rfl⟩
      have za0 : (wr.alloc (.cells #[.int .u8 3, .string ⟨#[]⟩, .int .i64 line, .int .i64 col] 105)).cell? ⟨P5, 0, none⟩ = some (.int .i64 line) := pw_cell_below (below_alloc (Below.refl wr.heap.size wr) _) z0
      have za1 : (wr.alloc (.cells #[.int .u8 3, .string ⟨#[]⟩, .int .i64 line, .int .i64 col] 105)).cell? ⟨P5, 1, none⟩ = some (.int .i64 col) := pw_cell_below (below_alloc (Below.refl wr.heap.size wr) _) z1
      clear hxw
      go_upto_region 24 with fail
      go_region_law (refine step_append_Rq rfl kWord w.heap.size (.tmp 101) (.tmp 104) 23 23 105 105 (.agg #[.int .u8 0, .string ⟨#[]⟩, .int .i64 0, .int .i64 0]) 40 rfl (by kernel_rfl) (by kernel_rfl) infoW rfl (by decide) (by decide) (.slice A q c) (acc.map wordV) [xw] (some ⟨wr.heap.size, 0, none⟩) 1 1 (fun _ => True) (fun _ => False) rfl rfl (Kd.R_below HO.out (below_alloc (Below.refl _ _) _).drew) HWC.out (fun x cs h => wordM h) (fun _ h => h.elim) (fun _ _ => trivial) (below_alloc HB.out _).drew.size (by rw [List.length_map, ← HQ.out]; omega) ?_; intro v1 w1 HO1 hg1 hat; obtain ⟨A2, c2, rfl⟩ := Kd.R_slice HO1; rw [HXL.out] at HO1 ⊢; have HBA := Aside0.mk (below_alloc (Below.refl wr.heap.size wr) (.cells #[.int .u8 3, .string ⟨#[]⟩, .int .i64 line, .int .i64 col] 105)).drew; have hx5 := blk_grown (blk_below HG.out.2 HBA.out) hg1 (Kd.R_ne (Kd.R_below HO.out HBA.out) (blk_below HG.out.2 HBA.out) (by decide)); have hx3 := blk_grown (blk_below HG.out.1 HBA.out) hg1 (Kd.R_ne (Kd.R_below HO.out HBA.out) (blk_below HG.out.1 HBA.out) (by decide)); have HG2 := Aside0.mk (And.intro hx3 hx5); have p0 := blk_cell hx5 0; have p1 := blk_cell hx5 1; have r0 := blk_cell hx3 0; have r1 := blk_cell hx3 1; have pf1 := blk_frozen hx5 1; have rf0 := blk_frozen hx3 0; have rf1 := blk_frozen hx3 1; simp at p0 p1 r0 r1; have HO2 := Aside0.mk HO1; have HB2 := Aside0.mk ((below_step HB.out HBA.out).grown hg1 (below_step HB.out HBA.out).size (fun j hj => own_base (Kd.R_own (Kd.R_below HO.out HBA.out)).choose_spec j hj)); clear HO1 hg1 hat hx3 hx5)
      all_goals (
        go_wp2
        have h1 : ((w1.setCell ⟨P3, 0, none⟩ (.int .i64 line)).setCell ⟨P3, 1, none⟩ (.int .i64 col)).heap[P3]? = some (.cells #[.int .i64 line, .int .i64 col] 25 (0, 0)) := blk_put (blk_put HG2.out.1 0 _ rfl) 1 _ rfl
        have e0 := blk_cell h1 0
        have e1 := blk_cell h1 1
        simp at e0 e1
        refine bodyPost_ret (v := .tuple #[.slice A2 (q + 1) c2, .agg #[.int .i64 line, .int .i64 col], .int .i64 0]) ?_ rfl ?_
        · simp [results, Tryz.f10, go_sem, e0, e1]
        · rw [ofA, HEND.out]
          have em : (acc ++ [(⟨3, [], line, col⟩ : Tok)]).length = q + 1 := by rw [List.length_append, ← HQ.out]; rfl
          rw [em]
          have ht : ∀ t, t ∈ 105 :: kWord.E → t ≠ 25 := fun t ht => by have ht : t = 105 := List.mem_singleton.1 (show t ∈ [105] from ht); rw [ht]; decide
          refine ⟨A2, c2, rfl, ?_, (HB2.out.setCell HPP.out.1 _).setCell HPP.out.1 _⟩
          rw [List.map_append, List.map_singleton, HX.out]
          exact Kd.R_set (Kd.R_set HO2.out HG2.out.1 ht 0 _) (blk_put HG2.out.1 0 _ rfl) ht 1 _)
end Wd
end Go.Proofs.YtbdecnagdnancaaGreatDoor
