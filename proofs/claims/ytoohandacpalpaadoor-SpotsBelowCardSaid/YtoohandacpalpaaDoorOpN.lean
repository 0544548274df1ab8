/- What reading an argument that is a slice of nodes says: each node's fields are of their kinds. -/
import Derived.Test.YtoohandacpalpaaDoorOp
import Derived.Test.YtoohandacpalpaaDoorK
namespace Go.Proofs.YtoohandacpalpaaDoor
open Go.RowKit Go.Proofs.YtoohandacpalpaaDoorW.PrintWords Go.Proofs.YtoohandacpalpaaDoorW.PrintLast Go.Proofs.YtoohandacpalpaaDoorW.PrintMore
set_option linter.unusedVariables false
theorem wf_u8 {n : Int} (h : (Lit.int .u8 n).wf = true) : 0 ≤ n ∧ n ≤ 255 := by
  simpa [Lit.wf, IntKind.min, IntKind.max, IntKind.signed, IntKind.bits] using h
theorem wf_i64 {n : Int} (h : (Lit.int .i64 n).wf = true) : -9223372036854775808 ≤ n ∧ n ≤ 9223372036854775807 := by
  simpa [Lit.wf, IntKind.min, IntKind.max, IntKind.signed, IntKind.bits] using h
theorem wf_u64 {n : Int} (h : (Lit.int .u64 n).wf = true) : 0 ≤ n ∧ n ≤ 18446744073709551615 := by
  simpa [Lit.wf, IntKind.min, IntKind.max, IntKind.signed, IntKind.bits] using h
def Term.wf (t : Term) : Prop := (Lit.int .u64 t.f1).wf = true
theorem opens_term : Opens Tryd.prog 34 kTerm Term.wf :=
  Opens.imp (opens_iso (fun x : Term => (x.f0, x.f1)) (fun p => ⟨p.1, p.2⟩) (fun _ => rfl)
    (opens_struct (l := [(4, 0), (32, 1)]) (by kernel_rfl) (by kernel_rfl)
      (from_cons (by kernel_rfl) rfl (opens_bool Tryd.underlying4) (from_last (by kernel_rfl) (opens_int Tryd.underlying32))))) fun x h => h.2
def Node.wf (n : Node) : Prop := (Lit.int .u8 n.f0).wf = true ∧ (Lit.int .i64 n.f1).wf = true ∧ (n.f2.size ≤ maxLen ∧ n.f2.size ≤ 140737488351232) ∧ (Lit.int .i64 n.f3).wf = true ∧ Term.wf n.f4 ∧ Term.wf n.f5 ∧ Term.wf n.f6
theorem opens_node : Opens Tryd.prog 36 kNode Node.wf :=
  Opens.imp (opens_iso (fun x : Node => (x.f0, x.f1, x.f2, x.f3, x.f4, x.f5, x.f6)) (fun p => ⟨p.1, p.2.1, p.2.2.1, p.2.2.2.1, p.2.2.2.2.1, p.2.2.2.2.2.1, p.2.2.2.2.2.2⟩) (fun _ => rfl)
    (opens_struct (l := [(31, 0), (3, 1), (9, 2), (3, 3), (34, 4), (34, 6), (34, 8)]) (by kernel_rfl) (by kernel_rfl)
      (from_cons (by kernel_rfl) rfl (opens_int Tryd.underlying31) (from_cons (by kernel_rfl) rfl (opens_int Tryd.underlying3) (from_cons (by kernel_rfl) rfl (opens_string Tryd.underlying9)
        (from_cons (by kernel_rfl) rfl (opens_int Tryd.underlying3) (from_cons (by kernel_rfl) rfl opens_term (from_cons (by kernel_rfl) rfl opens_term (from_last (by kernel_rfl) opens_term))))))))) fun x h => h
end Go.Proofs.YtoohandacpalpaaDoor
