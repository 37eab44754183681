/- The parts of any text, the value of any text. -/
import Derived.Test.YtcmcjhdccnbmoaaGreatP56
set_option linter.unusedVariables false
set_option linter.unusedSimpArgs false
namespace Go.Proofs.YtcmcjhdccnbmoaaGreat
open Go Go.Proofs.YtcmcjhdccnbmoaaGreat.Am
section
variable (φ : Rec) (ac : Pts) (s : List UInt8)
end
end Go.Proofs.YtcmcjhdccnbmoaaGreat
