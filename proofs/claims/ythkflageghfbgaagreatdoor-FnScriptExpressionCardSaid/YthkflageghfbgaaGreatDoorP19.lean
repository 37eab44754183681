/- Marks of texts; free words, the greatest costs, splits; their laws' frames. -/
import Derived.Test.YthkflageghfbgaaGreatDoorP10
set_option linter.unusedVariables false
set_option linter.unusedSimpArgs false
namespace Go.Proofs.YthkflageghfbgaaGreatDoor
open Go Go.Proofs.YthkflageghfbgaaGreatDoor.Am
/-! ### lists of texts -/
/-! ### free words -/
/-! ### the greatest costs -/
end Go.Proofs.YthkflageghfbgaaGreatDoor
