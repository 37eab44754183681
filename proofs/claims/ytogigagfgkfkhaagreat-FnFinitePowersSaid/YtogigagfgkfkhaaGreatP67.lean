/- Grades of all elements: both sides tell the same list. -/
import Derived.Test.YtogigagfgkfkhaaGreatP30
import Derived.Test.YtogigagfgkfkhaaGreatP61
set_option linter.unusedVariables false
set_option linter.unusedSimpArgs false
namespace Go.Proofs.YtogigagfgkfkhaaGreat
open Go Go.Proofs.YtogigagfgkfkhaaGreat.Am
end Go.Proofs.YtogigagfgkfkhaaGreat
