/- Texts of costs and of matrices of costs. -/
import Derived.Test.YtafognnoibjjeaaGreatDoorP95
set_option linter.unusedVariables false
set_option linter.unusedSimpArgs false
namespace Go.Proofs.YtafognnoibjjeaaGreatDoor
open Go Go.Proofs.YtafognnoibjjeaaGreatDoor.Am
theorem y3u{c:Int}(h:0≤c∧c≤1000000):yn1 c=some true:=by
 simp only[yn1,decide_eq_true (show c≥0 by omega),decide_eq_true (show c≤1000000 by omega),cond_true]
/-! ### matrices -/
end Go.Proofs.YtafognnoibjjeaaGreatDoor
