/- The first word that costs more, and the same costs. -/
import Derived.Test.YtogigagfgkfkhaaP10
set_option linter.unusedVariables false
set_option linter.unusedSimpArgs false
namespace Go.Proofs.Ytogigagfgkfkhaa
open Go Go.Proofs.Ytogigagfgkfkhaa.Am
theorem find_none {m : Nat} {p : Nat → Bool} : (List.range m).find? p = none ↔ ∀ i, i < m → p i = false := by
 rw [List.find?_eq_none]
 constructor
 ·intro h i hi
  have := h i (List.mem_range.2 hi)
  simpa using this
 ·intro h i hi
  rw [h i (List.mem_range.1 hi)]
  simp
end Go.Proofs.Ytogigagfgkfkhaa
