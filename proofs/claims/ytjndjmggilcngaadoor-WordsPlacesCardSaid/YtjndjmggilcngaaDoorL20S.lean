/- same: two lists of words; what words.Of answers, in kinds and texts. -/
import Derived.Test.YtjndjmggilcngaaDoorL20B
import Derived.Deep.RegionWith

namespace Go.Proofs.YtjndjmggilcngaaDoor
open Go.RowKit Go.Proofs.YtjndjmggilcngaaDoorW.PrintWords Go.Proofs.YtjndjmggilcngaaDoorW.PrintLast Go.Proofs.YtjndjmggilcngaaDoorW.PrintMore
set_option linter.unusedVariables false
set_option linter.unusedSimpArgs false
namespace L20
open Wd
theorem ofW_K (l : List B) (h : l.length ≤ 1048576) : (scanK l = none ∧ (ofW l).2.2.2 = 11 ∧ (ofW l).1 = []) ∨ (∃ w', scanK l = some (w' ++ [(3, [])]) ∧ (ofW l).2.2.2 = 0 ∧ (ofW l).1.map kt = w' ++ [(3, [])]) := by
  rw [ofW, if_neg (by omega)]
  rcases scan_K l 1 1 with ⟨e1, e2, e3⟩ | ⟨e1, e2⟩
  · left
    rw [if_neg (by rw [e1]; decide)]
    exact ⟨e2, rfl, rfl⟩
  · right
    rw [if_pos e1]
    obtain ⟨w', hw, -⟩ := scanK_words l _ e2
    exact ⟨w', by rw [e2, hw], rfl, hw⟩
theorem scan_count (l : List B) (line col : Int) : (scan l line col).1.length ≤ l.length + 1 := by
  induction hn : l.length using Nat.strongRecOn generalizing l line col with
  | ind n ih =>
    subst hn
    cases l with
    | nil => rw [scan]; simp
    | cons c r =>
      have hd : (r.dropWhile notNl).length ≤ r.length := (List.dropWhile_sublist (l := r) notNl).length_le
      rw [scan]
      split
      · have := ih _ (by simp) r (line + 1) 1 rfl
        simp; omega
      split
      · have := ih _ (by simp) r line (col + 1) rfl
        simp; omega
      split
      · have := ih _ (by simp; omega) (r.dropWhile notNl) line (col + (r.takeWhile notNl).length + 1) rfl
        simp; omega
      split
      · simp
      · rename_i h4
        have := ih _ (by simp; omega) (r.drop ((wordN (c :: r)).1 - 1)) line (col + (wordN (c :: r)).1) rfl
        rw [List.length_drop] at this
        simp only
        split
        · simp; omega
        · simp
theorem ofW_count (l : List B) : (ofW l).1.length ≤ l.length + 1 := by
  have := scan_count l 1 1
  rw [ofW]
  split
  · simp
  split
  · exact this
  · simp
theorem kt_wordV (a b : List Wd.Tok) (h : a.map kt = b.map kt) : ∀ i (h1 : i < (a.map wordV).length) (h2 : i < (b.map wordV).length), (a.map wordV)[i].f0 = (b.map wordV)[i].f0 ∧ (a.map wordV)[i].f1 = (b.map wordV)[i].f1 := by
  intro i h1 h2
  rw [List.getElem_map, List.getElem_map]
  rw [List.length_map] at h1 h2
  have e : (a.map kt)[i]? = (b.map kt)[i]? := by rw [h]
  rw [List.getElem?_map, List.getElem?_map, List.getElem?_eq_getElem h1, List.getElem?_eq_getElem h2] at e
  have e := Option.some.inj e
  have e0 : a[i].kind = b[i].kind := congrArg Prod.fst e
  have e1 : a[i].text = b[i].text := congrArg Prod.snd e
  exact ⟨e0, by show (⟨a[i].text.toArray⟩ : ByteArray) = ⟨b[i].text.toArray⟩; rw [e1]⟩
set_option maxRecDepth 100000 in
set_option maxHeartbeats 4000000 in
theorem same20_calls (w : World) (A B : Option Addr) (c d n m : Nat) (xs ys : List Wrd) (hn : n = xs.length) (hm : m = ys.length) (hnm : n = m) (hx : kWord.C w A n xs) (hy : kWord.C w B m ys) (h : ∀ i (h1 : i < xs.length) (h2 : i < ys.length), xs[i].f0 = ys[i].f0 ∧ xs[i].f1 = ys[i].f1) :
    Calls Tryd.prog 10 #[.slice A n c, .slice B m d] w fun e w' => e = .returned (.bool true) ∧ Below w.heap.size w w' := by
  subst hnm
  have HX := Aside0.mk (And.intro hn hx)
  have HY := Aside0.mk (And.intro hm hy)
  have HH := Aside0.mk h
  have xm : n ≤ 9223372036854775807 := by rw [hn] at hx ⊢; exact hx.2.1
  have HB := Aside0.mk (Below.refl w.heap.size w)
  clear hn hm hx hy h
  go_enter Tryd.func10, Tryd.ntmps10
  go_wp2
  go_loopg [5] (n + 1) (fun g b W => ∃ (k : Nat), b = .int .i64 (k : Int) ∧ k ≤ n ∧ n + 1 - k ≤ g ∧ Aside0 (Below w.heap.size w W))
  case atStart => exact ⟨0, rfl, by omega, by omega, HB⟩
  case round =>
    clear HB
    obtain ⟨k, rfl, hk, hkg, HB⟩ := hrel
    rcases Nat.lt_or_ge k n with hlt | hge
    · have hd : decide (k < n) = true := decide_eq_true hlt
      have hk1 : k < xs.length := by rw [← HX.out.1]; exact hlt
      have hk2 : k < ys.length := by rw [← HY.out.1]; exact hlt
      obtain ⟨ad, rfl, x0, x1, -, -⟩ := C_wordN (by have := Kd.C_below HX.out.2 HB.out; rwa [HX.out.1] at this) k hk1
      obtain ⟨bd, rfl, y0, y1, -, -⟩ := C_wordN (by have := Kd.C_below HY.out.2 HB.out; rwa [HY.out.1] at this) k hk2
      obtain ⟨e0, e1⟩ := HH.out k hk1 hk2
      rw [← e0] at y0
      rw [← e1] at y1
      obtain ⟨kk, hkk⟩ : ∃ q, q = xs[k].f0 := ⟨_, rfl⟩
      obtain ⟨ss, hss⟩ : ∃ q, q = xs[k].f1 := ⟨_, rfl⟩
      rw [← hkk] at x0 y0
      rw [← hss] at x1 y1
      clear hkk hss e0 e1 hk1 hk2
      go_wp2
      go_quiet (fail)
      go_wp2
      go_roundg (gk - 1)
      case measure => omega
      case rel => exact ⟨k + 1, by go_num, by omega, by omega, ⟨pw_below_drewN HB.out _⟩⟩
    · have hd : decide (k < n) = false := decide_eq_false (by omega)
      go_wp2
      go_ret
      exact ⟨rfl, HB.out⟩
end L20
end Go.Proofs.YtjndjmggilcngaaDoor
