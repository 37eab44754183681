/- What the rows ask of the program as a whole, told once. -/
import Derived.Test.YthkflageghfbgaaGreatDoorRows
import Derived.WalkKit
import Derived.ProofKit
import Derived.JoinedOf
namespace Go.Proofs.YthkflageghfbgaaGreatDoor
open Go Go.Proofs.YthkflageghfbgaaGreatDoor
theorem joined6:(Tryz.pinned.checked.prog.stopsHeard)=true:=by kernel_rfl
theorem joined7:(Tryz.pinned.checked.prog.mayEnter)=true:=by kernel_rfl
theorem joined8:((Rows.fnScriptExpressionRow.lifted==Tryz.pinned.checked.prog.liftsFinal))=true:=by kernel_rfl
theorem joined9:((Tryz.pinned.checked.prog.make==some Rows.fnScriptExpressionRow.make))=true:=by kernel_rfl
end Go.Proofs.YthkflageghfbgaaGreatDoor
