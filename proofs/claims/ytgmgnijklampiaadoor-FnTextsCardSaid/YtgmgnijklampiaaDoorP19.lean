/- Marks of texts; free words, the greatest costs, splits; their laws' frames. -/
import Derived.Test.YtgmgnijklampiaaDoorP18
set_option linter.unusedVariables false
set_option linter.unusedSimpArgs false
namespace Go.Proofs.YtgmgnijklampiaaDoor
open Go Go.Proofs.YtgmgnijklampiaaDoor.Am
/-! ### lists of texts -/
/-! ### free words -/
/-! ### the greatest costs -/
end Go.Proofs.YtgmgnijklampiaaDoor
