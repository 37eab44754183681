/- A repeated number; words. -/
import Derived.Test.YtcmcjhdccnbmoaaGreatP3
set_option linter.unusedVariables false
set_option linter.unusedSimpArgs false
namespace Go.Proofs.YtcmcjhdccnbmoaaGreat
open Go Go.Proofs.YtcmcjhdccnbmoaaGreat.Am
end Go.Proofs.YtcmcjhdccnbmoaaGreat
