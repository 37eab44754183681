/- Elements that grow: both sides tell the same; the law. -/
import Derived.Test.YtogigagfgkfkhaaGreatP30
set_option linter.unusedVariables false
set_option linter.unusedSimpArgs false
namespace Go.Proofs.YtogigagfgkfkhaaGreat
open Go Go.Proofs.YtogigagfgkfkhaaGreat.Am
end Go.Proofs.YtogigagfgkfkhaaGreat
