/- The automaton of factors: both sides make the same. -/
import Derived.Test.YtfdhmmnffahhgaaGreatP62
set_option linter.unusedVariables false
set_option linter.unusedSimpArgs false
namespace Go.Proofs.YtfdhmmnffahhgaaGreat
open Go Go.Proofs.YtfdhmmnffahhgaaGreat.Am
/-! ### what stands in order -/
/-! ### the loops -/
def zs (s : Stp) : Stp := (s.1, s.2.1, s.2.2.1, 0)
/-! ### what is put -/
end Go.Proofs.YtfdhmmnffahhgaaGreat
