/- Elements that grow: both sides tell the same; the law. -/
import Derived.Test.YtafognnoibjjeaaGreatDoorP30
set_option linter.unusedVariables false
set_option linter.unusedSimpArgs false
namespace Go.Proofs.YtafognnoibjjeaaGreatDoor
open Go Go.Proofs.YtafognnoibjjeaaGreatDoor.Am
end Go.Proofs.YtafognnoibjjeaaGreatDoor
