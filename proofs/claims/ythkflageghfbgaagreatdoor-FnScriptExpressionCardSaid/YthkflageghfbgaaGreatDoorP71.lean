/- What the grades of a word tell of its runs. -/
import Derived.Test.YthkflageghfbgaaGreatDoorP60
import Derived.Test.YthkflageghfbgaaGreatDoorP67
set_option linter.unusedVariables false
set_option linter.unusedSimpArgs false
namespace Go.Proofs.YthkflageghfbgaaGreatDoor
open Go Go.Proofs.YthkflageghfbgaaGreatDoor.Am
end Go.Proofs.YthkflageghfbgaaGreatDoor
