/- The law of splits. -/
import Derived.Test.YtooigaliccnldaaP43
set_option linter.unusedVariables false
set_option linter.unusedSimpArgs false
namespace Go.Proofs.Ytooigaliccnldaa
open Go Go.Proofs.Ytooigaliccnldaa.Am
theorem toList_ne {f : ByteArray} (h : bytes f ≠ []) : (ByteArray.toList f == ByteArray.toList (⟨#[]⟩ : ByteArray)) = false := by
  rw [toList_bytes, toList_bytes, beq_eq_false_iff_ne]
  exact h
end Go.Proofs.Ytooigaliccnldaa
