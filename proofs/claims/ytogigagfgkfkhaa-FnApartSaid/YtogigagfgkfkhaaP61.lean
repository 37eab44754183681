/- Marks of automata that are handed back. -/
import Derived.Test.YtogigagfgkfkhaaP16
set_option linter.unusedVariables false
set_option linter.unusedSimpArgs false
namespace Go.Proofs.Ytogigagfgkfkhaa
open Go Go.Proofs.Ytogigagfgkfkhaa.Am
end Go.Proofs.Ytogigagfgkfkhaa
