/- Grades of all elements: both sides tell the same list. -/
import Derived.Test.YtbndfclpclifbaaGreatDoorP30
import Derived.Test.YtbndfclpclifbaaGreatDoorP61
set_option linter.unusedVariables false
set_option linter.unusedSimpArgs false
namespace Go.Proofs.YtbndfclpclifbaaGreatDoor
open Go Go.Proofs.YtbndfclpclifbaaGreatDoor.Am
end Go.Proofs.YtbndfclpclifbaaGreatDoor
