/- Draws of texts that are mostly expressions; draws of matrices of grades. -/
import Derived.Test.YtcmcjhdccnbmoaaGreatP50
import Derived.Test.YtcmcjhdccnbmoaaGreatP58
set_option linter.unusedVariables false
set_option linter.unusedSimpArgs false
namespace Go.Proofs.YtcmcjhdccnbmoaaGreat
open Go Go.Proofs.YtcmcjhdccnbmoaaGreat.Am
end Go.Proofs.YtcmcjhdccnbmoaaGreat
