/- The number of factors: both sides tell the same; the hardest word. -/
import Derived.Test.YtgmgnijklampiaaDoorP12
set_option linter.unusedVariables false
set_option linter.unusedSimpArgs false
namespace Go.Proofs.YtgmgnijklampiaaDoor
open Go Go.Proofs.YtgmgnijklampiaaDoor.Am
end Go.Proofs.YtgmgnijklampiaaDoor
