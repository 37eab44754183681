/- Matrices of grades: products and what is repeated again and again, by the reference and by the program. -/
import Derived.Test.YtgmgnijklampiaaDoorP10
set_option linter.unusedVariables false
set_option linter.unusedSimpArgs false
namespace Go.Proofs.YtgmgnijklampiaaDoor
open Go Go.Proofs.YtgmgnijklampiaaDoor.Am
/-- grades in a square -/
def GOk (n : Nat) (A : List Int) : Prop := A.length = n * n ∧ ∀ x ∈ A, 0 ≤ x ∧ x ≤ 3
theorem GOk.at {n i : Nat} {A : List Int} (h : GOk n A) (hi : i < n * n) : 0 ≤ A.getD i 0 ∧ A.getD i 0 ≤ 3 := by
 have hi' : i < A.length := by rw [h.1]; exact hi
 rw [List.getD_eq_getElem?_getD, List.getElem?_eq_getElem hi']
 exact h.2 _ (List.getElem_mem hi')
def mx (x y : Int) : Int := if y > x then y else x
/-- a square of what is told of each two numbers -/
def mk (n : Nat) (c : Nat → Nat → Int) : List Int := (List.range (n * n)).map fun m => c (m / n) (m % n)
/-! ### products -/
/-! ### what is repeated again and again -/
/-! ### the program's way -/
end Go.Proofs.YtgmgnijklampiaaDoor
