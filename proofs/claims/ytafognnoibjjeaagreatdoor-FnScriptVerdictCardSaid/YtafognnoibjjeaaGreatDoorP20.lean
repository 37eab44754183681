/- Splits by the program; the laws of free words, greatest costs and splits. -/
import Derived.Test.YtafognnoibjjeaaGreatDoorP19
set_option linter.unusedVariables false
set_option linter.unusedSimpArgs false
namespace Go.Proofs.YtafognnoibjjeaaGreatDoor
open Go Go.Proofs.YtafognnoibjjeaaGreatDoor.Am
end Go.Proofs.YtafognnoibjjeaaGreatDoor
