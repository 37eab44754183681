/- Valid automata: both sides tell the same. -/
import Derived.Test.YtgmgnijklampiaaDoorP0
set_option linter.unusedVariables false
set_option linter.unusedSimpArgs false
namespace Go.Proofs.YtgmgnijklampiaaDoor
open Go Go.Proofs.YtgmgnijklampiaaDoor.Am
abbrev Stp := Int × ByteArray × Int × Int
abbrev Aut := Int × List Int × List Int × List Stp
abbrev stp0 : Stp := ((0 : Int), (⟨Array.empty⟩ : ByteArray), (0 : Int), (0 : Int))
abbrev la : ByteArray := ⟨#[(97 : UInt8)]⟩
abbrev lb : ByteArray := ⟨#[(98 : UInt8)]⟩
/-- a round's tests -/
theorem lt_t {i n : Nat} (h : i < n) : decide ((i : Int) < (n : Int)) = true := decide_eq_true (by omega)
theorem in_t {i n : Nat} (h : i < n) : (0 : Int) ≤ (i : Int) ∧ (i : Int) < (n : Int) := ⟨by omega, by omega⟩
theorem lt_f (n : Nat) : decide ((n : Int) < (n : Int)) = false := decide_eq_false (by omega)
def marksP (n : Int) (l : List Int) (i : Nat) : Bool := decide (0 ≤ l.getD i 0 ∧ l.getD i 0 ≤ n - 1) && (decide (i = 0) || !decide (l.getD (i - 1) 0 ≥ l.getD i 0))
def marksOk (n : Int) (l : List Int) : Bool := (List.range l.length).all (marksP n l)
theorem spec_l1In_is (n a b : Int) : spec_l1In n a b = some (decide (a ≤ n ∧ n ≤ b)) := by
 unfold spec_l1In
 by_cases h : a ≤ n <;> simp [h]
end Go.Proofs.YtgmgnijklampiaaDoor
