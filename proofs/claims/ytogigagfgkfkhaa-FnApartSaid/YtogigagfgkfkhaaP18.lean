/- The least costs of each number of letters. -/
import Derived.Test.YtogigagfgkfkhaaP17
set_option linter.unusedVariables false
set_option linter.unusedSimpArgs false
namespace Go.Proofs.Ytogigagfgkfkhaa
open Go Go.Proofs.Ytogigagfgkfkhaa.Am
/-! ### all words are there -/
/-! ### runs of any word -/
/-! ### byLength -/
end Go.Proofs.Ytogigagfgkfkhaa
