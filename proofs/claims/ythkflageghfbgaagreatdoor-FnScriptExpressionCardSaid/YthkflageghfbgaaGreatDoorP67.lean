/- Grades of all elements: both sides tell the same list. -/
import Derived.Test.YthkflageghfbgaaGreatDoorP30
import Derived.Test.YthkflageghfbgaaGreatDoorP61
set_option linter.unusedVariables false
set_option linter.unusedSimpArgs false
namespace Go.Proofs.YthkflageghfbgaaGreatDoor
open Go Go.Proofs.YthkflageghfbgaaGreatDoor.Am
end Go.Proofs.YthkflageghfbgaaGreatDoor
