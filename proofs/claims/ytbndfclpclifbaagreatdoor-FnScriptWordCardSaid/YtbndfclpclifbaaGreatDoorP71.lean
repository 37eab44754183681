/- What the grades of a word tell of its runs. -/
import Derived.Test.YtbndfclpclifbaaGreatDoorP57
import Derived.Test.YtbndfclpclifbaaGreatDoorP67
set_option linter.unusedVariables false
set_option linter.unusedSimpArgs false
namespace Go.Proofs.YtbndfclpclifbaaGreatDoor
open Go Go.Proofs.YtbndfclpclifbaaGreatDoor.Am
end Go.Proofs.YtbndfclpclifbaaGreatDoor
