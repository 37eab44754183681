/- The hardest word and the most factors; the laws' frames. -/
import Derived.Test.YtcmcjhdccnbmoaaP14
set_option linter.unusedVariables false
set_option linter.unusedSimpArgs false
namespace Go.Proofs.Ytcmcjhdccnbmoaa
open Go Go.Proofs.Ytcmcjhdccnbmoaa.Am
end Go.Proofs.Ytcmcjhdccnbmoaa
