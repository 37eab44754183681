/- Reading an automaton comes to an end, and what is read is small. -/
import Derived.Test.YtfdhmmnffahhgaaGreatP40
set_option linter.unusedVariables false
set_option linter.unusedSimpArgs false
namespace Go.Proofs.YtfdhmmnffahhgaaGreat
open Go Go.Proofs.YtfdhmmnffahhgaaGreat.Am
def Tiny (a : Aut) : Prop := a.2.1.length ≤ 2000 ∧ a.2.2.1.length ≤ 2000 ∧ a.2.2.2.length ≤ 2000
theorem Tiny.small {a : Aut} (h : Tiny a) : Small a := ⟨by have := h.1; omega, by have := h.2.1; omega, by have := h.2.2; omega⟩
theorem Tiny.zero : Tiny ((0 : Int), ([] : List Int), ([] : List Int), ([] : List Stp)) := ⟨by simp, by simp, by simp⟩
end Go.Proofs.YtfdhmmnffahhgaaGreat
