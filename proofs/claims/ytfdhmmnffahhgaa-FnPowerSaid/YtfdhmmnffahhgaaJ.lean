/- What the rows ask of the program as a whole, told once. -/
import Derived.Test.YtfdhmmnffahhgaaRows
import Derived.WalkKit
import Derived.ProofKit
import Derived.JoinedOf
namespace Go.Proofs.Ytfdhmmnffahhgaa
open Go Go.Proofs.Ytfdhmmnffahhgaa
theorem joined6 : (Try.pinned.checked.prog.stopsHeard) = true := by kernel_rfl
theorem joined7 : (Try.pinned.checked.prog.mayEnter) = true := by kernel_rfl
theorem joined8 : ((Rows.fnPowerRow.lifted == Try.pinned.checked.prog.liftsFinal)) = true := by kernel_rfl
theorem joined9 : ((Try.pinned.checked.prog.make == some Rows.fnPowerRow.make)) = true := by kernel_rfl
end Go.Proofs.Ytfdhmmnffahhgaa
