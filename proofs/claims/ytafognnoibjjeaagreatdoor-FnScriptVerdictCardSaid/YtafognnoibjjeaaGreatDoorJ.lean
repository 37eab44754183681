/- What the rows ask of the program as a whole, told once. -/
import Derived.Test.YtafognnoibjjeaaGreatDoorRows
import Derived.WalkKit
import Derived.ProofKit
import Derived.JoinedOf
namespace Go.Proofs.YtafognnoibjjeaaGreatDoor
open Go Go.Proofs.YtafognnoibjjeaaGreatDoor
theorem joined6:(Tryz.pinned.checked.prog.stopsHeard)=true:=by kernel_rfl
theorem joined7:(Tryz.pinned.checked.prog.mayEnter)=true:=by kernel_rfl
theorem joined8:((Rows.fnScriptVerdictRow.lifted==Tryz.pinned.checked.prog.liftsFinal))=true:=by kernel_rfl
theorem joined9:((Tryz.pinned.checked.prog.make==some Rows.fnScriptVerdictRow.make))=true:=by kernel_rfl
end Go.Proofs.YtafognnoibjjeaaGreatDoor
