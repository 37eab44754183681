/- Tables of costs and what they count; their laws' frames. -/
import Derived.Test.YtgmgnijklampiaaDoorP16
set_option linter.unusedVariables false
set_option linter.unusedSimpArgs false
namespace Go.Proofs.YtgmgnijklampiaaDoor
open Go Go.Proofs.YtgmgnijklampiaaDoor.Am
/-! ### counts -/
end Go.Proofs.YtgmgnijklampiaaDoor
