/- What the rows ask of the program as a whole, told once. -/
import Derived.Test.YtjnelonnefgljaaRows
import Derived.WalkKit
import Derived.ProofKit
import Derived.JoinedOf
namespace Go.Proofs.Ytjnelonnefgljaa
open Go Go.Proofs.Ytjnelonnefgljaa
theorem joined6 : (Try.pinned.checked.prog.stopsHeard) = true := by kernel_rfl
theorem joined7 : (Try.pinned.checked.prog.mayEnter) = true := by kernel_rfl
theorem joined8 : ((Rows.fnExactSomeOfRow.lifted == Try.pinned.checked.prog.liftsFinal)) = true := by kernel_rfl
theorem joined9 : ((Try.pinned.checked.prog.make == some Rows.fnExactSomeOfRow.make)) = true := by kernel_rfl
end Go.Proofs.Ytjnelonnefgljaa
