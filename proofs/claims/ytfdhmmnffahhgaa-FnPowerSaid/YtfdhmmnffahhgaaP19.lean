/- Marks of texts; free words, the greatest costs, splits; their laws' frames. -/
import Derived.Test.YtfdhmmnffahhgaaP18
set_option linter.unusedVariables false
set_option linter.unusedSimpArgs false
namespace Go.Proofs.Ytfdhmmnffahhgaa
open Go Go.Proofs.Ytfdhmmnffahhgaa.Am
/-! ### lists of texts -/
/-! ### free words -/
/-! ### the greatest costs -/
end Go.Proofs.Ytfdhmmnffahhgaa
