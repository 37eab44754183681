/- What the rows ask of the program as a whole, told once. -/
import Derived.Test.YtbndfclpclifbaaGreatDoorRows
import Derived.WalkKit
import Derived.ProofKit
import Derived.JoinedOf
namespace Go.Proofs.YtbndfclpclifbaaGreatDoor
open Go Go.Proofs.YtbndfclpclifbaaGreatDoor
theorem joined6 : (Tryz.pinned.checked.prog.stopsHeard) = true := by kernel_rfl
theorem joined7 : (Tryz.pinned.checked.prog.mayEnter) = true := by kernel_rfl
theorem joined8 : ((Rows.fnScriptWordRow.lifted == Tryz.pinned.checked.prog.liftsFinal)) = true := by kernel_rfl
theorem joined9 : ((Tryz.pinned.checked.prog.make == some Rows.fnScriptWordRow.make)) = true := by kernel_rfl
end Go.Proofs.YtbndfclpclifbaaGreatDoor
