/- There is a stable element among elements that are closed. -/
import Derived.Test.YthkflageghfbgaaGreatDoorP56
set_option linter.unusedVariables false
set_option linter.unusedSimpArgs false
namespace Go.Proofs.YthkflageghfbgaaGreatDoor
open Go Go.Proofs.YthkflageghfbgaaGreatDoor.Am
/-! ### powers -/
end Go.Proofs.YthkflageghfbgaaGreatDoor
