/- What grows between two states grows there. -/
import Derived.Test.YtafognnoibjjeaaGreatDoorP30
import Derived.Test.YtafognnoibjjeaaGreatDoorP52
set_option linter.unusedVariables false
set_option linter.unusedSimpArgs false
namespace Go.Proofs.YtafognnoibjjeaaGreatDoor
open Go Go.Proofs.YtafognnoibjjeaaGreatDoor.Am
end Go.Proofs.YtafognnoibjjeaaGreatDoor
