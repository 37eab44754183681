/- The law of finite powers. -/
import Derived.Test.YtafognnoibjjeaaGreatDoorP81
import Derived.Test.YtafognnoibjjeaaGreatDoorP86
import Derived.Test.YtafognnoibjjeaaGreatDoorP65
set_option linter.unusedVariables false
set_option linter.unusedSimpArgs false
namespace Go.Proofs.YtafognnoibjjeaaGreatDoor
open Go Go.Proofs.YtafognnoibjjeaaGreatDoor.Am
end Go.Proofs.YtafognnoibjjeaaGreatDoor
