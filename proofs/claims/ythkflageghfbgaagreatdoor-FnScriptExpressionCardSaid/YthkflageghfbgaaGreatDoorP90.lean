/- Texts tell lists and words apart; the law of texts. -/
import Derived.Test.YthkflageghfbgaaGreatDoorP89
import Derived.Test.YthkflageghfbgaaGreatDoorP59
import Derived.Test.YthkflageghfbgaaGreatDoorP44
set_option linter.unusedVariables false
set_option linter.unusedSimpArgs false
namespace Go.Proofs.YthkflageghfbgaaGreatDoor
open Go Go.Proofs.YthkflageghfbgaaGreatDoor.Am
/-! ### decimal texts differ -/
/-! ### two lists are the same -/
/-! ### words -/
/-! ### lists that are drawn -/
/-! ### elements that are drawn -/
end Go.Proofs.YthkflageghfbgaaGreatDoor
