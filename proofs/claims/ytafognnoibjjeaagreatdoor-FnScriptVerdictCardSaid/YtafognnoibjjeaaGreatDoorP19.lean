/- Marks of texts; free words, the greatest costs, splits; their laws' frames. -/
import Derived.Test.YtafognnoibjjeaaGreatDoorP10
set_option linter.unusedVariables false
set_option linter.unusedSimpArgs false
namespace Go.Proofs.YtafognnoibjjeaaGreatDoor
open Go Go.Proofs.YtafognnoibjjeaaGreatDoor.Am
/-! ### lists of texts -/
/-! ### free words -/
/-! ### the greatest costs -/
end Go.Proofs.YtafognnoibjjeaaGreatDoor
