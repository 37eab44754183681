/- What grows between two states grows there. -/
import Derived.Test.YtgmgnijklampiaaDoorP36
import Derived.Test.YtgmgnijklampiaaDoorP52
set_option linter.unusedVariables false
set_option linter.unusedSimpArgs false
namespace Go.Proofs.YtgmgnijklampiaaDoor
open Go Go.Proofs.YtgmgnijklampiaaDoor.Am
end Go.Proofs.YtgmgnijklampiaaDoor
