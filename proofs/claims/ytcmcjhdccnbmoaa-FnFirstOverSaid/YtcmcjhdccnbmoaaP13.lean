/- The number of factors: both sides tell the same; the hardest word. -/
import Derived.Test.YtcmcjhdccnbmoaaP12
set_option linter.unusedVariables false
set_option linter.unusedSimpArgs false
namespace Go.Proofs.Ytcmcjhdccnbmoaa
open Go Go.Proofs.Ytcmcjhdccnbmoaa.Am
end Go.Proofs.Ytcmcjhdccnbmoaa
