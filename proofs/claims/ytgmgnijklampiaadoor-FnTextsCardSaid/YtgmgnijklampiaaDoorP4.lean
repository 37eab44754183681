/- A repeated number; words. -/
import Derived.Test.YtgmgnijklampiaaDoorP3
set_option linter.unusedVariables false
set_option linter.unusedSimpArgs false
namespace Go.Proofs.YtgmgnijklampiaaDoor
open Go Go.Proofs.YtgmgnijklampiaaDoor.Am
end Go.Proofs.YtgmgnijklampiaaDoor
