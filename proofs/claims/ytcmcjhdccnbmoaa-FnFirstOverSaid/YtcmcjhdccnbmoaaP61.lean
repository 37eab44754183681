/- Marks of automata that are handed back. -/
import Derived.Test.YtcmcjhdccnbmoaaP16
set_option linter.unusedVariables false
set_option linter.unusedSimpArgs false
namespace Go.Proofs.Ytcmcjhdccnbmoaa
open Go Go.Proofs.Ytcmcjhdccnbmoaa.Am
end Go.Proofs.Ytcmcjhdccnbmoaa
