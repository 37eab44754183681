/- What the rows ask of the program as a whole, told once. -/
import Derived.Test.YtcmcjhdccnbmoaaRows
import Derived.WalkKit
import Derived.ProofKit
import Derived.JoinedOf
namespace Go.Proofs.Ytcmcjhdccnbmoaa
open Go Go.Proofs.Ytcmcjhdccnbmoaa
theorem joined6 : (Try.pinned.checked.prog.stopsHeard) = true := by kernel_rfl
theorem joined7 : (Try.pinned.checked.prog.mayEnter) = true := by kernel_rfl
theorem joined8 : ((Rows.fnFirstOverRow.lifted == Try.pinned.checked.prog.liftsFinal)) = true := by kernel_rfl
theorem joined9 : ((Try.pinned.checked.prog.make == some Rows.fnFirstOverRow.make)) = true := by kernel_rfl
end Go.Proofs.Ytcmcjhdccnbmoaa
