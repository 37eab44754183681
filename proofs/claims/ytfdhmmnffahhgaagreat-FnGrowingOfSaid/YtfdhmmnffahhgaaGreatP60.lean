/- The law of an element's expression. -/
import Derived.Test.YtfdhmmnffahhgaaGreatP59
set_option linter.unusedVariables false
set_option linter.unusedSimpArgs false
namespace Go.Proofs.YtfdhmmnffahhgaaGreat
open Go Go.Proofs.YtfdhmmnffahhgaaGreat.Am
theorem firstOf_no {L : List Elt} {p : Elt → Bool} (h : (firstOf L p).2 = false) : firstOf L p = ((⟨#[]⟩ : ByteArray), false) := by
 unfold firstOf at h ⊢
 cases hf : (List.range L.length).find? fun i => p (L.getD i el0) with
 | none => rfl
 | some i => rw [hf] at h; cases h
end Go.Proofs.YtfdhmmnffahhgaaGreat
