/- What the rows ask of the program as a whole, told once. -/
import Derived.Test.YtohllafjfhjmmaaRows
import Derived.WalkKit
import Derived.ProofKit
import Derived.JoinedOf
namespace Go.Proofs.Ytohllafjfhjmmaa
open Go Go.Proofs.Ytohllafjfhjmmaa
theorem joined6 : (Try.pinned.checked.prog.stopsHeard) = true := by kernel_rfl
theorem joined7 : (Try.pinned.checked.prog.mayEnter) = true := by kernel_rfl
theorem joined8 : ((Rows.fnGrowingBetweenRow.lifted == Try.pinned.checked.prog.liftsFinal)) = true := by kernel_rfl
theorem joined9 : ((Try.pinned.checked.prog.make == some Rows.fnGrowingBetweenRow.make)) = true := by kernel_rfl
end Go.Proofs.Ytohllafjfhjmmaa
