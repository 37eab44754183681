/- The number of factors: both sides tell the same; the hardest word. -/
import Derived.Test.YtcmcjhdccnbmoaaGreatP12
set_option linter.unusedVariables false
set_option linter.unusedSimpArgs false
namespace Go.Proofs.YtcmcjhdccnbmoaaGreat
open Go Go.Proofs.YtcmcjhdccnbmoaaGreat.Am
end Go.Proofs.YtcmcjhdccnbmoaaGreat
