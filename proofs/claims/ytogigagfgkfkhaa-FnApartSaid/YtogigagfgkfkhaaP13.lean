/- The number of factors: both sides tell the same; the hardest word. -/
import Derived.Test.YtogigagfgkfkhaaP12
set_option linter.unusedVariables false
set_option linter.unusedSimpArgs false
namespace Go.Proofs.Ytogigagfgkfkhaa
open Go Go.Proofs.Ytogigagfgkfkhaa.Am
end Go.Proofs.Ytogigagfgkfkhaa
