/- What the rows ask of the program as a whole, told once. -/
import Derived.Test.YtogigagfgkfkhaaRows
import Derived.WalkKit
import Derived.ProofKit
import Derived.JoinedOf
namespace Go.Proofs.Ytogigagfgkfkhaa
open Go Go.Proofs.Ytogigagfgkfkhaa
theorem joined6 : (Try.pinned.checked.prog.stopsHeard) = true := by kernel_rfl
theorem joined7 : (Try.pinned.checked.prog.mayEnter) = true := by kernel_rfl
theorem joined8 : ((Rows.fnApartRow.lifted == Try.pinned.checked.prog.liftsFinal)) = true := by kernel_rfl
theorem joined9 : ((Try.pinned.checked.prog.make == some Rows.fnApartRow.make)) = true := by kernel_rfl
end Go.Proofs.Ytogigagfgkfkhaa
