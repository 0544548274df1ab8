/- Arguments that are structs or arrays with slices in them: their shape, and what is read. -/
import Derived.Test.YtbdecnagdnancaaGreatDoorMO
import Derived.Test.YtbdecnagdnancaaGreatDoorMC
import Derived.Test.YtbdecnagdnancaaGreatDoorRows
import Derived.LaidMore
import Derived.OpenShut

namespace Go.Proofs.YtbdecnagdnancaaGreatDoor
open Go.RowKit Go.Proofs.YtbdecnagdnancaaGreatDoorW.PrintWords Go.Proofs.YtbdecnagdnancaaGreatDoorW.PrintLast Go.Proofs.YtbdecnagdnancaaGreatDoorW.PrintMore
set_option linter.unusedVariables false
set_option linter.unusedSimpArgs false
/-- Sorts, as they come in: rows of labels, and how many effects. -/
structure SortsY where
  A : Option Addr
  c : Nat
  rows : List Int
  n : Int
def SortsY.ok (w : World) (y : SortsY) : Prop := y.rows.length ≤ y.c ∧ (Kd.int .u64).C w y.A y.rows.length y.rows ∧ U64s y.rows ∧ (Lit.int .i64 y.n).wf = true
def SortsY.v (y : SortsY) : Value := .agg #[.slice y.A y.rows.length y.c, .int .i64 y.n]
section
variable {P : Program}
theorem K_pair {α β : Type} {a : Kd α} {b : Kd β} {w : World} {v : α × β} {cs : List Value} (h : (Kd.pair a b).K w v cs) : ∃ c1 c2, cs = c1 ++ c2 ∧ a.K w v.1 c1 ∧ b.K w v.2 c2 := by
  obtain ⟨c1, c2, h1, h2, h3⟩ := h
  exact ⟨c1, c2, h1, h2, h3⟩
theorem K_slice {α : Type} {e : Nat} {d : Kd α} {w : World} {xs : List α} {cs : List Value} (h : (Kd.slice e d).K w xs cs) : ∃ A c, cs = [.slice A xs.length c] ∧ xs.length ≤ c ∧ d.C w A xs.length xs := h
/-- Arrays of three. -/
theorem opens_three {α : Type} {t e : TypeId} {d : Kd α} {W : α → Prop} (ht : P.underlying t = some (.array 3 e)) (hc : P.cellsOf e = d.sz) (hc2 : P.cellsOf t = d.sz + (d.sz + d.sz)) (h : Opens P e d W) : Opens P t (Kd.pair d (Kd.pair d d)) (fun v => W v.1 ∧ W v.2.1 ∧ W v.2.2) := fun enc w fuel cs x hx hL => by
  obtain ⟨xs, m, _, hxe, hlen, hxl, hel⟩ := DataW.trod_array ht hx
  have hl : ∀ i (hi : i < xs.length), Light P e xs[i].1 := fun i hi k hk => hL k (by
    rw [hxe]
    unfold DataW.weights
    rw [ht]
    exact weightsAll_mem _ xs[i].1 (List.mem_map.2 ⟨xs[i], List.getElem_mem _, rfl⟩) hk)
  have h0 := hel 0 (by decide)
  have h1 := hel 1 (by decide)
  have h2 := hel 2 (by decide)
  rw [List.getElem?_eq_getElem (by omega)] at h0 h1 h2
  rw [hc] at h0 h1 h2
  obtain ⟨u, k1, w1⟩ := h enc w m _ _ h0 (hl 0 (by omega))
  obtain ⟨v, k2, w2⟩ := h enc w m _ _ h1 (hl 1 (by omega))
  obtain ⟨q, k3, w3⟩ := h enc w m _ _ h2 (hl 2 (by omega))
  refine ⟨(u, v, q), ⟨_, _, ?_, k1, _, _, rfl, k2, k3⟩, w1, w2, w3⟩
  rw [Nat.zero_mul, Nat.one_mul, List.drop_zero]
  rw [List.take_of_length_le (l := cs.drop (2 * d.sz)) (by rw [List.length_drop, hlen, hc2]; omega), show 2 * d.sz = d.sz + d.sz by omega, ← List.drop_drop, List.take_append_drop, List.take_append_drop]
end
theorem opens_nodes : Opens Tryz.prog 49 (Kd.slice 0 kNode) (fun xs => (∀ x ∈ xs, Node.wf x) ∧ xs.length * Tryz.prog.bytesOf 122 ≤ 140737488351232) := opens_slice 0 Tryz.underlying49 (by kernel_rfl) opens_node
theorem u64_wf {n : Int} (h : (Lit.int .u64 n).wf = true) : 0 ≤ n ∧ n < 2 ^ 64 := by have := wf_u64 h; omega
/-- The table of bits.TrailingZeros64, which the row lays. -/
theorem tab_of {W : World} (h : laidMetH Tryz.prog [("math/bits.deBruijn64tab", Rows.laid_math_bits_deBruijn64tab), ("unicode/utf8.acceptRanges", Rows.laid_unicode_utf8_acceptRanges), ("unicode/utf8.first", Rows.laid_unicode_utf8_first)] W) : TabAt 5 Lib.deBruijn64tab W := fun r hr => by
  have hr : r < 64 := hr
  rw [MakeChecks.laidMetH_plain _ _ _ (by kernel_rfl)] at h
  obtain ⟨ps, ⟨g, t, cs, fuel, p, q, hg, ht, hv, hd, _, _⟩, _, _⟩ := h
  obtain rfl := Option.some.inj ((show Tryz.prog.globalNamed "math/bits.deBruijn64tab" = some 5 by kernel_rfl).symm.trans hg)
  obtain rfl := Option.some.inj ((show (Tryz.prog.globals[5]?).map (·.type) = some 331 by kernel_rfl).symm.trans ht)
  obtain ⟨xs, m, _, ex, _, hl, hel⟩ := DataW.trod_array Tryz.underlying331 hd
  have c5 : Tryz.prog.cellsOf 5 = 1 := by kernel_rfl
  have hE := hel r hr
  rw [c5, Nat.mul_one, List.getElem?_eq_getElem (by omega)] at hE
  obtain ⟨z, e1, e2, _⟩ := DataW.trod_int Tryz.underlying5 hE
  have hlen : Lib.deBruijn64tab.length = 64 := by kernel_rfl
  have e0 : (Rows.laid_math_bits_deBruijn64tab : DataW Unit) = .agg (Lib.deBruijn64tab.map fun n : Nat => .lit (.int .u8 (n : Int))) := by kernel_rfl
  have e3 : (xs.map (·.1)) = Lib.deBruijn64tab.map fun n : Nat => .lit (.int .u8 (n : Int)) := (DataW.agg.inj (e0.symm.trans (Prod.mk.inj ex).1)).symm
  have e4 : (xs.map (·.1))[r]? = (Lib.deBruijn64tab.map fun n : Nat => (DataW.lit (.int .u8 (n : Int)) : DataW Unit))[r]? := by rw [e3]
  rw [List.getElem?_map, List.getElem?_map, List.getElem?_eq_getElem (by omega : r < xs.length), List.getElem?_eq_getElem (by omega : r < Lib.deBruijn64tab.length), e2] at e4
  have hz : z = ((Lib.deBruijn64tab.getD r 0 : Nat) : Int) := by
    simp only [Option.map_some, Option.some.injEq, DataW.lit.injEq, Lit.int.injEq, true_and] at e4
    rw [e4, List.getD, List.getElem?_eq_getElem (by omega : r < Lib.deBruijn64tab.length)]; rfl
  rw [World.var?_cell hg hv r, ← hz]
  have : cs.toList[r]? = some (.int .u8 z) := by
    have h0 : ((cs.toList.drop r).take 1)[0]? = some (.int .u8 z) := by rw [e1]; rfl
    simpa using h0
  simpa using this
end Go.Proofs.YtbdecnagdnancaaGreatDoor
