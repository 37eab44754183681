/- The law of tables. -/
import Derived.Test.YtafognnoibjjeaaGreatDoorP40
import Derived.Test.YtafognnoibjjeaaGreatDoorP20
set_option linter.unusedVariables false
set_option linter.unusedSimpArgs false
namespace Go.Proofs.YtafognnoibjjeaaGreatDoor
open Go Go.Proofs.YtafognnoibjjeaaGreatDoor.Am
end Go.Proofs.YtafognnoibjjeaaGreatDoor
