/- The least costs of each number of letters. -/
import Derived.Test.YtfdhmmnffahhgaaP17
set_option linter.unusedVariables false
set_option linter.unusedSimpArgs false
namespace Go.Proofs.Ytfdhmmnffahhgaa
open Go Go.Proofs.Ytfdhmmnffahhgaa.Am
/-! ### all words are there -/
/-! ### runs of any word -/
/-! ### byLength -/
end Go.Proofs.Ytfdhmmnffahhgaa
