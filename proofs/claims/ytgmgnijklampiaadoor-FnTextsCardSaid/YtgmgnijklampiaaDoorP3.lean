/- The laws' own helpers: sizes, copies, comparisons. -/
import Derived.Test.YtgmgnijklampiaaDoorP2
set_option linter.unusedVariables false
set_option linter.unusedSimpArgs false
namespace Go.Proofs.YtgmgnijklampiaaDoor
open Go Go.Proofs.YtgmgnijklampiaaDoor.Am
/-- what the bound tells -/
def Small (a : Aut) : Prop := a.2.1.length ≤ 1048576 ∧ a.2.2.1.length ≤ 1048576 ∧ a.2.2.2.length ≤ 1048576
end Go.Proofs.YtgmgnijklampiaaDoor
