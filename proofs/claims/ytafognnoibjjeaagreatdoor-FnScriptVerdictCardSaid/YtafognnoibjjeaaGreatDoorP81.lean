/- The law of growing costs. -/
import Derived.Test.YtafognnoibjjeaaGreatDoorP78
import Derived.Test.YtafognnoibjjeaaGreatDoorP54
import Derived.Test.YtafognnoibjjeaaGreatDoorP56
set_option linter.unusedVariables false
set_option linter.unusedSimpArgs false
namespace Go.Proofs.YtafognnoibjjeaaGreatDoor
open Go Go.Proofs.YtafognnoibjjeaaGreatDoor.Am
end Go.Proofs.YtafognnoibjjeaaGreatDoor
