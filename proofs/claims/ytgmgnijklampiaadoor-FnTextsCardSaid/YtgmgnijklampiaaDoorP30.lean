/- Matrices of grades: products and what is repeated again and again, by the reference and by the program. -/
import Derived.Test.YtgmgnijklampiaaDoorP10
set_option linter.unusedVariables false
set_option linter.unusedSimpArgs false
namespace Go.Proofs.YtgmgnijklampiaaDoor
open Go Go.Proofs.YtgmgnijklampiaaDoor.Am
/-- grades in a square -/
def GOk (n : Nat) (A : List Int) : Prop := A.length = n * n ∧ ∀ x ∈ A, 0 ≤ x ∧ x ≤ 3
theorem GOk.at {n i : Nat} {A : List Int} (h : GOk n A) (hi : i < n * n) : 0 ≤ A.getD i 0 ∧ A.getD i 0 ≤ 3 := by
 have hi' : i < A.length := by rw [h.1]; exact hi
 rw [List.getD_eq_getElem?_getD, List.getElem?_eq_getElem hi']
 exact h.2 _ (List.getElem_mem hi')
def mn (x y : Int) : Int := if y < x then y else x
def mx (x y : Int) : Int := if y > x then y else x
/-- a square of what is told of each two numbers -/
def mk (n : Nat) (c : Nat → Nat → Int) : List Int := (List.range (n * n)).map fun m => c (m / n) (m % n)
/-! ### products -/
def gcN (n : Nat) (A B : List Int) (i k : Nat) : Nat → Int
 | 0 => 3
 | l + 1 => mn (gcN n A B i k l) (mx (A.getD (i * n + l) 0) (B.getD (l * n + k) 0))
def gmul (n : Nat) (A B : List Int) : List Int := mk n fun i k => gcN n A B i k n
/-! ### what is repeated again and again -/
def ag (g : Int) : Int := if g = 1 then 2 else g
def gsN (n : Nat) (A : List Int) (i k : Nat) : Nat → Int
 | 0 => 3
 | l + 1 => mn (gsN n A i k l) (mx (mx (A.getD (i * n + l) 0) (ag (A.getD (l * n + l) 0))) (A.getD (l * n + k) 0))
def gstab (n : Nat) (A : List Int) : List Int := mk n fun i k => gsN n A i k n
/-! ### the program's way -/
end Go.Proofs.YtgmgnijklampiaaDoor
