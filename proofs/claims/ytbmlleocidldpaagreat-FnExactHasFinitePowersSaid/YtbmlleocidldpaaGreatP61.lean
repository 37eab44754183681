/- Marks of automata that are handed back. -/
import Derived.Test.YtbmlleocidldpaaGreatP16
set_option linter.unusedVariables false
set_option linter.unusedSimpArgs false
namespace Go.Proofs.YtbmlleocidldpaaGreat
open Go Go.Proofs.YtbmlleocidldpaaGreat.Am
theorem getD_set_at {α : Type} (d : α) {l : List α} {i : Nat} (h : i < l.length) (x : α) : (l.set i x).getD i d = x := by
  rw [List.getD_eq_getElem?_getD, List.getElem?_set_self h]
  rfl
theorem take_mks' (k : Int) (n : Nat) : List.take n (mks k n) = mks k n := List.take_of_length_le (by simp [mks_len])
end Go.Proofs.YtbmlleocidldpaaGreat
