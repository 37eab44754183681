/- What the rows ask of the program as a whole, told once. -/
import Derived.Test.YtbmlleocidldpaaGreatRows
import Derived.WalkKit
import Derived.ProofKit
import Derived.JoinedOf
namespace Go.Proofs.YtbmlleocidldpaaGreat
open Go Go.Proofs.YtbmlleocidldpaaGreat
theorem joined6 : (Tryz.pinned.checked.prog.stopsHeard) = true := by kernel_rfl
theorem joined7 : (Tryz.pinned.checked.prog.mayEnter) = true := by kernel_rfl
theorem joined8 : ((Rows.fnBoundedRow.lifted == Tryz.pinned.checked.prog.liftsFinal)) = true := by kernel_rfl
theorem joined9 : ((Tryz.pinned.checked.prog.make == some Rows.fnBoundedRow.make)) = true := by kernel_rfl
end Go.Proofs.YtbmlleocidldpaaGreat
