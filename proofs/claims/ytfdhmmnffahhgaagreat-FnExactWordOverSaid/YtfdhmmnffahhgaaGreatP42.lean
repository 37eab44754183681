/- Draws of automata and of words come to an end, and what is drawn is small. -/
import Derived.Test.YtfdhmmnffahhgaaGreatP41
set_option linter.unusedVariables false
set_option linter.unusedSimpArgs false
namespace Go.Proofs.YtfdhmmnffahhgaaGreat
open Go Go.Proofs.YtfdhmmnffahhgaaGreat.Am
def Tinier (a : Aut) : Prop := a.2.1.length ≤ 3000 ∧ a.2.2.1.length ≤ 3000 ∧ a.2.2.2.length ≤ 3000
theorem Tinier.small {a : Aut} (h : Tinier a) : Small a := ⟨by have := h.1; omega, by have := h.2.1; omega, by have := h.2.2; omega⟩
end Go.Proofs.YtfdhmmnffahhgaaGreat
