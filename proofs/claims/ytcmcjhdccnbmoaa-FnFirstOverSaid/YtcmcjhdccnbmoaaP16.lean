/- Marks: what is written into lists and read back. -/
import Derived.Test.YtcmcjhdccnbmoaaP15
set_option linter.unusedVariables false
set_option linter.unusedSimpArgs false
namespace Go.Proofs.Ytcmcjhdccnbmoaa
open Go Go.Proofs.Ytcmcjhdccnbmoaa.Am
end Go.Proofs.Ytcmcjhdccnbmoaa
