/- Finite powers: both sides tell the same. -/
import Derived.Test.YtafognnoibjjeaaGreatDoorP30
import Derived.Test.YtafognnoibjjeaaGreatDoorP61
set_option linter.unusedVariables false
set_option linter.unusedSimpArgs false
namespace Go.Proofs.YtafognnoibjjeaaGreatDoor
open Go Go.Proofs.YtafognnoibjjeaaGreatDoor.Am
end Go.Proofs.YtafognnoibjjeaaGreatDoor
