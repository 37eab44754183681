/- Steps in order: what is put among them; the sort of steps. -/
import Derived.Test.YtcmcjhdccnbmoaaP61
set_option linter.unusedVariables false
set_option linter.unusedSimpArgs false
namespace Go.Proofs.Ytcmcjhdccnbmoaa
open Go Go.Proofs.Ytcmcjhdccnbmoaa.Am
theorem getD_g {α : Type} {l : List α} {i : Nat} (d : α) (hi : i < l.length) : l.getD i d = l[i] := by
 rw [List.getD_eq_getElem?_getD, List.getElem?_eq_getElem hi]
 rfl
end Go.Proofs.Ytcmcjhdccnbmoaa
