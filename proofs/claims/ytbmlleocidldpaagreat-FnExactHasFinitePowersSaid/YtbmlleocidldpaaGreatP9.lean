/- The cost of a word, the program's way: from the end. -/
import Derived.Test.YtbmlleocidldpaaGreatP8
set_option linter.unusedVariables false
set_option linter.unusedSimpArgs false
namespace Go.Proofs.YtbmlleocidldpaaGreat
open Go Go.Proofs.YtbmlleocidldpaaGreat.Am
theorem extract_is {w : ByteArray} {i : Nat} (hi : i < w.size) : (w.extract i (i + 1)).toList = [w.data.getD i 0] := by
  have hi' : i < w.data.size := hi
  rw [toList_bytes, ByteArray.data_extract, Array.toList_extract]
  have h := bytes_at hi
  obtain ⟨h1, h2⟩ := List.getElem?_eq_some_iff.1 h
  have h2 : w.data.toList[i]'h1 = w.data.getD i 0 := h2
  have e : List.drop i w.data.toList = w.data.toList[i]'h1 :: List.drop (i + 1) w.data.toList := List.drop_eq_getElem_cons h1
  rw [← h2]
  simp only [List.extract_eq_take_drop, Nat.add_sub_cancel_left, e, List.take_succ_cons, List.take_zero]
/-- least costs of runs to a final -/
def VecIs (n : Nat) (F : List Int) (l : List Stp) (ws : List UInt8) (v : List Int) : Prop :=
  Rng v n ∧ ∀ i, i < n → ∀ z, z ≤ v.getD i 0 ↔ z ≤ Nv ∧ ∀ k ∈ F, ∀ c, Run l ws (i : Int) k c → z ≤ c
end Go.Proofs.YtbmlleocidldpaaGreat
