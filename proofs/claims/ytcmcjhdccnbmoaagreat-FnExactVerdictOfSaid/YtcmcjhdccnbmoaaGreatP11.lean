/- The first word that costs more, and the same costs. -/
import Derived.Test.YtcmcjhdccnbmoaaGreatP10
set_option linter.unusedVariables false
set_option linter.unusedSimpArgs false
namespace Go.Proofs.YtcmcjhdccnbmoaaGreat
open Go Go.Proofs.YtcmcjhdccnbmoaaGreat.Am
end Go.Proofs.YtcmcjhdccnbmoaaGreat
