/- The law of tables. -/
import Derived.Test.YtogigagfgkfkhaaP42
import Derived.Test.YtogigagfgkfkhaaP20
set_option linter.unusedVariables false
set_option linter.unusedSimpArgs false
namespace Go.Proofs.Ytogigagfgkfkhaa
open Go Go.Proofs.Ytogigagfgkfkhaa.Am
end Go.Proofs.Ytogigagfgkfkhaa
