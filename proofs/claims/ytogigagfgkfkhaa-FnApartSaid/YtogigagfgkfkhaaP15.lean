/- The hardest word and the most factors; the laws' frames. -/
import Derived.Test.YtogigagfgkfkhaaP14
set_option linter.unusedVariables false
set_option linter.unusedSimpArgs false
namespace Go.Proofs.Ytogigagfgkfkhaa
open Go Go.Proofs.Ytogigagfgkfkhaa.Am
end Go.Proofs.Ytogigagfgkfkhaa
