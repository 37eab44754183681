/- Texts tell lists and words apart; the law of texts. -/
import Derived.Test.YtafognnoibjjeaaGreatDoorP89
import Derived.Test.YtafognnoibjjeaaGreatDoorP56
import Derived.Test.YtafognnoibjjeaaGreatDoorP44
set_option linter.unusedVariables false
set_option linter.unusedSimpArgs false
namespace Go.Proofs.YtafognnoibjjeaaGreatDoor
open Go Go.Proofs.YtafognnoibjjeaaGreatDoor.Am
/-! ### decimal texts differ -/
/-! ### two lists are the same -/
/-! ### words -/
/-! ### lists that are drawn -/
/-! ### elements that are drawn -/
end Go.Proofs.YtafognnoibjjeaaGreatDoor
