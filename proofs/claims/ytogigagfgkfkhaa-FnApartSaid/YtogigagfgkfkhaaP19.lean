/- Marks of texts; free words, the greatest costs, splits; their laws' frames. -/
import Derived.Test.YtogigagfgkfkhaaP18
set_option linter.unusedVariables false
set_option linter.unusedSimpArgs false
namespace Go.Proofs.Ytogigagfgkfkhaa
open Go Go.Proofs.Ytogigagfgkfkhaa.Am
/-! ### lists of texts -/
/-! ### free words -/
/-! ### the greatest costs -/
end Go.Proofs.Ytogigagfgkfkhaa
