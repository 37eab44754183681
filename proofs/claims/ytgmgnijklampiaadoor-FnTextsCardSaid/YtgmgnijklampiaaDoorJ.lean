/- What the rows ask of the program as a whole, told once. -/
import Derived.Test.YtgmgnijklampiaaDoorRows
import Derived.WalkKit
import Derived.ProofKit
import Derived.JoinedOf
namespace Go.Proofs.YtgmgnijklampiaaDoor
open Go Go.Proofs.YtgmgnijklampiaaDoor
theorem joined6 : (Tryd.pinned.checked.prog.stopsHeard) = true := by kernel_rfl
theorem joined7 : (Tryd.pinned.checked.prog.mayEnter) = true := by kernel_rfl
theorem joined8 : ((Rows.fnTextsRow.lifted == Tryd.pinned.checked.prog.liftsFinal)) = true := by kernel_rfl
theorem joined9 : ((Tryd.pinned.checked.prog.make == some Rows.fnTextsRow.make)) = true := by kernel_rfl
end Go.Proofs.YtgmgnijklampiaaDoor
