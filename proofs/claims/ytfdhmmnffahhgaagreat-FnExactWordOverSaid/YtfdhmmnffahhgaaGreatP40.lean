/- Drawn arguments: each draw comes to an end, and what it draws is small. -/
import Derived.Test.YtfdhmmnffahhgaaGreatP3
set_option linter.unusedVariables false
set_option linter.unusedSimpArgs false
namespace Go.Proofs.YtfdhmmnffahhgaaGreat
open Go Go.Proofs.YtfdhmmnffahhgaaGreat.Am
abbrev Dr := List Int × Int
structure DrOk (N : Int) (d : Dr) : Prop where
 b : ∀ x ∈ d.1, 0 ≤ x ∧ x ≤ 255
 len : d.1.length ≤ 2000
 p0 : 0 ≤ d.2
 p1 : d.2 ≤ N
theorem DrOk.next {N : Int} {d : Dr} (h : DrOk N d) : DrOk (N + 1) (d.1, d.2 + 1) := ⟨h.b, h.len, by have := h.p0; show 0 ≤ d.2 + 1; omega, by have := h.p1; show d.2 + 1 ≤ N + 1; omega⟩
theorem DrOk.mono {N M : Int} {d : Dr} (h : DrOk N d) (hM : N ≤ M) : DrOk M d := ⟨h.b, h.len, h.p0, by have := h.p1; omega⟩
/-! ### states, steps -/
end Go.Proofs.YtfdhmmnffahhgaaGreat
