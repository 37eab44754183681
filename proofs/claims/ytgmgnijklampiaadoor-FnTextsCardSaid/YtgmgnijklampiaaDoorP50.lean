/- Products of grades are put together in any way; the value of a text that is put behind another. -/
import Derived.Test.YtgmgnijklampiaaDoorP39
set_option linter.unusedVariables false
set_option linter.unusedSimpArgs false
namespace Go.Proofs.YtgmgnijklampiaaDoor
open Go Go.Proofs.YtgmgnijklampiaaDoor.Am
end Go.Proofs.YtgmgnijklampiaaDoor
