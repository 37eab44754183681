/- Factors of words: how many a word is made of. -/
import Derived.Test.YtgmgnijklampiaaDoorP11
set_option linter.unusedVariables false
set_option linter.unusedSimpArgs false
namespace Go.Proofs.YtgmgnijklampiaaDoor
open Go Go.Proofs.YtgmgnijklampiaaDoor.Am
end Go.Proofs.YtgmgnijklampiaaDoor
