/- The automaton of factors: both sides make the same. -/
import Derived.Test.YtfdhmmnffahhgaaP62
set_option linter.unusedVariables false
set_option linter.unusedSimpArgs false
namespace Go.Proofs.Ytfdhmmnffahhgaa
open Go Go.Proofs.Ytfdhmmnffahhgaa.Am
/-! ### what stands in order -/
/-! ### the loops -/
def zs (s : Stp) : Stp := (s.1, s.2.1, s.2.2.1, 0)
/-! ### what is put -/
end Go.Proofs.Ytfdhmmnffahhgaa
