/- The law of hardest words. -/
import Derived.Test.YtbndfclpclifbaaGreatDoorP44
set_option linter.unusedVariables false
set_option linter.unusedSimpArgs false
namespace Go.Proofs.YtbndfclpclifbaaGreatDoor
open Go Go.Proofs.YtbndfclpclifbaaGreatDoor.Am
section
variable {a : Aut} (sa : Small a) (ha : autOk a = true) {n : Int} (hn : shortN n = true)
include sa ha hn
end
end Go.Proofs.YtbndfclpclifbaaGreatDoor
