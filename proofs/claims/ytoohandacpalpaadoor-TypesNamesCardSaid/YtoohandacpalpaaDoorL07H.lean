/- The law TypesNames: true at every input. -/
import Derived.Test.YtoohandacpalpaaDoorL07Ea
import Derived.Test.YtoohandacpalpaaDoorL07Eb
import Derived.Test.YtoohandacpalpaaDoorL07Ec
namespace Go.Proofs.YtoohandacpalpaaDoor
open Go.RowKit Go.Shelf Go.Proofs.YtoohandacpalpaaDoorW.PrintWords Go.Proofs.YtoohandacpalpaaDoorW.PrintLast Go.Proofs.YtoohandacpalpaaDoorW.PrintMore
set_option linter.unusedVariables false
set_option linter.unusedSimpArgs false
namespace L07
/-- TypesNames: true at every input. -/
theorem names_walk (w : World) (s : ByteArray) (hs : s.size ≤ maxLen) (mod : Int) (hm : (Lit.int .i64 mod).wf = true) :
    Calls Tryd.prog 8 #[.string s, .int .i64 mod] w fun e w' => e = .returned (.bool true) ∧ Below w.heap.size w w' := by
  rcases Nat.lt_or_ge 1000 s.size with h | h
  · exact names_long w s mod h
  · rcases (by omega : s.size = 0 ∨ (0 < s.size ∧ s.size ≤ 32) ∨ 32 < s.size) with h2 | h2 | h2
    · exact names_zero w s mod h h2
    · exact names_mid w s mod h h2
    · exact names_over w s mod h h2
end L07
end Go.Proofs.YtoohandacpalpaaDoor
