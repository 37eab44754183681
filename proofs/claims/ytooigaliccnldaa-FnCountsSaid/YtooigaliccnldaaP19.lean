/- Marks of texts; free words, the greatest costs, splits; their laws' frames. -/
import Derived.Test.YtooigaliccnldaaP18
set_option linter.unusedVariables false
set_option linter.unusedSimpArgs false
namespace Go.Proofs.Ytooigaliccnldaa
open Go Go.Proofs.Ytooigaliccnldaa.Am
/-! ### lists of texts -/
/-- an append to a list of texts -/
theorem app_txt {p : List ByteArray} {x : ByteArray} (hp : p.length ≤ 2000000) : ((0 + p.length = p.length) ∧ ((p.length + (List.take 1 (List.drop 0 [x])).length) * 16 ≤ 140737488355328)) ∧ List.take (p.length + (List.take 1 (List.drop 0 [x])).length) (List.drop 0 (List.drop 0 p ++ List.take 1 (List.drop 0 [x]))) = p ++ [x] := by
  have e : List.take 1 (List.drop 0 [x]) = [x] := rfl
  rw [e]
  refine ⟨⟨by omega, by simp only [List.length_cons, List.length_nil]; omega⟩, ?_⟩
  simp only [List.drop_zero, List.length_cons, List.length_nil]
  exact List.take_of_length_le (by simp)
/-! ### free words -/
theorem free_step {a : Aut} {W : List ByteArray} {i : Nat} (hi : i < W.length) : ((W.take (i + 1)).filter fun w => cst a w == 0) = ((W.take i).filter fun w => cst a w == 0) ++ (if (cst a (W.getD i be0) == 0) = true then [W.getD i be0] else []) := by
  have e : W.getD i be0 = W[i] := by rw [List.getD_eq_getElem?_getD, List.getElem?_eq_getElem hi]; rfl
  rw [take_snoc hi, List.filter_append, e]
  congr 1
  cases h : (cst a W[i] == 0) with
  | true => simp [h]
  | false => simp [h]
section free
variable {a : Aut} (sa : Small a) (n : Int)
include sa
noncomputable def freeOf (a : Aut) (n : Int) : List ByteArray := (words n).filter fun w => cst a w == 0
end free
/-! ### the greatest costs -/
end Go.Proofs.Ytooigaliccnldaa
