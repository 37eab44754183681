/- Splits by the program; the laws of free words, greatest costs and splits. -/
import Derived.Test.YthkflageghfbgaaGreatDoorP19
set_option linter.unusedVariables false
set_option linter.unusedSimpArgs false
namespace Go.Proofs.YthkflageghfbgaaGreatDoor
open Go Go.Proofs.YthkflageghfbgaaGreatDoor.Am
end Go.Proofs.YthkflageghfbgaaGreatDoor
