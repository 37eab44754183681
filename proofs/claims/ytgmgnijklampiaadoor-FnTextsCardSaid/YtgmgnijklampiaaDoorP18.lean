/- The least costs of each number of letters. -/
import Derived.Test.YtgmgnijklampiaaDoorP17
set_option linter.unusedVariables false
set_option linter.unusedSimpArgs false
namespace Go.Proofs.YtgmgnijklampiaaDoor
open Go Go.Proofs.YtgmgnijklampiaaDoor.Am
/-! ### all words are there -/
/-! ### runs of any word -/
/-! ### byLength -/
end Go.Proofs.YtgmgnijklampiaaDoor
