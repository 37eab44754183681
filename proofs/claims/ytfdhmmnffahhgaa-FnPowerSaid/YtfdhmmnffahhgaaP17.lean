/- Tables of costs and what they count; their laws' frames. -/
import Derived.Test.YtfdhmmnffahhgaaP11
set_option linter.unusedVariables false
set_option linter.unusedSimpArgs false
namespace Go.Proofs.Ytfdhmmnffahhgaa
open Go Go.Proofs.Ytfdhmmnffahhgaa.Am
/-! ### counts -/
end Go.Proofs.Ytfdhmmnffahhgaa
