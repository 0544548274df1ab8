/- An interface as an argument: what reading it says. -/
import Derived.Test.YtdecijmncpbheaaGreatDoorTrG
import Derived.Test.YtdecijmncpbheaaGreatDoorMO

namespace Go.Proofs.YtdecijmncpbheaaGreatDoor
open Go.RowKit Go.Proofs.YtdecijmncpbheaaGreatDoorW.PrintWords Go.Proofs.YtdecijmncpbheaaGreatDoorW.PrintLast Go.Proofs.YtdecijmncpbheaaGreatDoorW.PrintMore
set_option linter.unusedVariables false
set_option linter.unusedSimpArgs false
open Go.Shelf
namespace Tr
/-- An interface, as it comes in. -/
structure FaceY where
  fv : FV
  F : FI
def FaceY.v (y : FaceY) : Value := y.fv.v
def FaceY.ok (w : World) (y : FaceY) : Prop := FaceIn w y.fv y.F
theorem K_pair {α β : Type} {a : Kd α} {b : Kd β} {w : World} {v : α × β} {cs : List Value} (h : (Kd.pair a b).K w v cs) : ∃ c1 c2, cs = c1 ++ c2 ∧ a.K w v.1 c1 ∧ b.K w v.2 c2 := by
  obtain ⟨c1, c2, h1, h2, h3⟩ := h
  exact ⟨c1, c2, h1, h2, h3⟩
theorem K_slice {α : Type} {e : Nat} {d : Kd α} {w : World} {xs : List α} {cs : List Value} (h : (Kd.slice e d).K w xs cs) : ∃ A c, cs = [.slice A xs.length c] ∧ xs.length ≤ c ∧ d.C w A xs.length xs := h
theorem K_string {w : World} {s : ByteArray} {cs : List Value} (h : Kd.string.K w s cs) : cs = [.string s] := h
theorem opens_strings : Opens Tryz.prog 72 (Kd.slice 0 Kd.string) (fun xs => (∀ x ∈ xs, x.size ≤ maxLen ∧ x.size ≤ 140737488351232) ∧ xs.length * Tryz.prog.bytesOf 9 ≤ 140737488351232) := opens_slice 0 Tryz.underlying72 (by kernel_rfl) (opens_string Tryz.underlying9)
theorem opens_bound : Opens Tryz.prog 104 kBound (fun b => Term.wf b.f0 ∧ Term.wf b.f1) :=
  Opens.imp (opens_iso (fun b : Bound => (b.f0, b.f1)) (fun p => ⟨p.1, p.2⟩) (fun _ => rfl)
    (opens_struct (l := [(100, 0), (100, 2)]) (by kernel_rfl) (by kernel_rfl) (from_cons (by kernel_rfl) rfl opens_term (from_last (by kernel_rfl) opens_term)))) fun x h => h
theorem opens_import : Opens Tryz.prog 205 kImport (fun _ => True) :=
  Opens.imp (opens_iso (fun b : Import => (b.f0, b.f1)) (fun p => ⟨p.1, p.2⟩) (fun _ => rfl)
    (opens_struct (l := [(9, 0), (203, 1)]) (by kernel_rfl) (by kernel_rfl) (from_cons (by kernel_rfl) rfl (opens_string Tryz.underlying9) (from_last (by kernel_rfl) (opens_int Tryz.underlying203))))) fun x h => trivial
theorem opens_scheme : Opens Tryz.prog 25 kScheme (fun _ => True) :=
  Opens.imp (opens_iso (fun x : Scheme => (x.f0, x.f1, x.f2, x.f3, x.f4)) (fun p => ⟨p.1, p.2.1, p.2.2.1, p.2.2.2.1, p.2.2.2.2⟩) (fun _ => rfl)
    (opens_struct (l := [(3, 0), (3, 1), (22, 2), (23, 3), (23, 4)]) (by kernel_rfl) (by kernel_rfl)
      (from_cons (by kernel_rfl) rfl (opens_int Tryz.underlying3) (from_cons (by kernel_rfl) rfl (opens_int Tryz.underlying3) (from_cons (by kernel_rfl) rfl (opens_slice 119 Tryz.underlying22 (by kernel_rfl) opens_node)
        (from_cons (by kernel_rfl) rfl (opens_slice 104 Tryz.underlying23 (by kernel_rfl) opens_bound) (from_last (by kernel_rfl) (opens_slice 104 Tryz.underlying23 (by kernel_rfl) opens_bound)))))))) fun x h => trivial
theorem opens_entry : Opens Tryz.prog 210 kEntry (fun _ => True) :=
  Opens.imp (opens_iso (fun b : Entry => (b.f0, b.f1)) (fun p => ⟨p.1, p.2⟩) (fun _ => rfl)
    (opens_struct (l := [(9, 0), (25, 1)]) (by kernel_rfl) (by kernel_rfl) (from_cons (by kernel_rfl) rfl (opens_string Tryz.underlying9) (from_last (by kernel_rfl) opens_scheme)))) fun x h => trivial
theorem bytes_import : Tryz.prog.bytesOf 205 = 24 := by kernel_rfl
theorem arg_face {H : Type} {enc : TypeId × Value → H} {w : World} {v : Value} {x : DataW H} {ps : List MemPlace} (hs : ∃ cs, v = .agg cs) (hx : DataW.Trod enc Tryz.prog w 0 (fun _ => true) true 76 v x ps) (hL : Light Tryz.prog 76 x) : ∃ y : FaceY, v = y.v ∧ y.ok w := by
  obtain ⟨cs, y, rfl, hK, hw⟩ := arg_agg (d := Kd.pair Kd.string (Kd.pair (Kd.slice 0 Kd.string) (Kd.pair (Kd.slice 0 (Kd.int .u64)) (Kd.pair (Kd.slice 0 Kd.string) (Kd.pair (Kd.slice 0 Kd.string) (Kd.pair (Kd.slice 0 kImport) (Kd.slice 0 kEntry)))))))
    (opens_struct (l := [(9, 0), (72, 1), (26, 2), (72, 3), (72, 4), (73, 5), (74, 6)]) (by kernel_rfl) (by kernel_rfl)
    (from_cons (by kernel_rfl) rfl (opens_string Tryz.underlying9) (from_cons (by kernel_rfl) rfl opens_strings (from_cons (by kernel_rfl) rfl (opens_slice 0 Tryz.underlying26 (by kernel_rfl) (opens_int Tryz.underlying91)) (from_cons (by kernel_rfl) rfl opens_strings (from_cons (by kernel_rfl) rfl opens_strings
      (from_cons (by kernel_rfl) rfl (opens_slice 0 Tryz.underlying73 (by kernel_rfl) opens_import) (from_last (by kernel_rfl) (opens_slice 0 Tryz.underlying74 (by kernel_rfl) opens_entry))))))))) hs hx hL
  obtain ⟨c1, c2, e, k1, k2⟩ := K_pair hK
  obtain rfl := K_string k1
  obtain ⟨c3, c4, rfl, k3, k4⟩ := K_pair k2
  obtain ⟨A1, n1, rfl, l1, C1⟩ := K_slice k3
  obtain ⟨c5, c6, rfl, k5, k6⟩ := K_pair k4
  obtain ⟨A2, n2, rfl, l2, C2⟩ := K_slice k5
  obtain ⟨c7, c8, rfl, k7, k8⟩ := K_pair k6
  obtain ⟨A3, n3, rfl, l3, C3⟩ := K_slice k7
  obtain ⟨c9, c10, rfl, k9, k10⟩ := K_pair k8
  obtain ⟨A4, n4, rfl, l4, C4⟩ := K_slice k9
  obtain ⟨c11, c12, rfl, k11, k12⟩ := K_pair k10
  obtain ⟨A5, n5, rfl, l5, C5⟩ := K_slice k11
  obtain ⟨A6, n6, rfl, l6, C6⟩ := K_slice k12
  have hb := hw.2.2.2.2.2.1.2
  rw [bytes_import] at hb
  refine ⟨⟨⟨y.1, ⟨A1, y.2.1.length, n1⟩, ⟨A2, y.2.2.1.length, n2⟩, ⟨A3, y.2.2.2.1.length, n3⟩, ⟨A4, y.2.2.2.2.1.length, n4⟩, ⟨A5, y.2.2.2.2.2.1.length, n5⟩, ⟨A6, y.2.2.2.2.2.2.length, n6⟩⟩, ⟨y.2.1, y.2.2.2.1, y.2.2.2.2.2.1.map (·.f0)⟩⟩, ?_, ⟨⟨rfl, C1⟩, ⟨rfl, C3⟩, y.2.2.2.2.2.1, rfl, C5, rfl, hb⟩, ⟨y.2.2.2.2.1, rfl, C4⟩, ⟨y.2.2.2.2.2.2, rfl, C6⟩⟩
  show Value.agg cs = _
  rw [← Array.toArray_toList (xs := cs), e]
  rfl
end Tr
end Go.Proofs.YtdecijmncpbheaaGreatDoor
