/- The cost of a word: both sides tell the least cost of a run. -/
import Derived.Test.YtgmgnijklampiaaDoorP7
set_option linter.unusedVariables false
set_option linter.unusedSimpArgs false
namespace Go.Proofs.YtgmgnijklampiaaDoor
open Go Go.Proofs.YtgmgnijklampiaaDoor.Am
abbrev bytes (w : ByteArray) : List UInt8 := w.data.toList
/-- a valid automaton, in numbers -/
structure AutIs (a : Aut) (n : Nat) : Prop where
 st : a.1 = (n : Int)
 n1 : 1 ≤ n
 n4 : n ≤ 4
 S : ∀ q ∈ a.2.1, 0 ≤ q ∧ q ≤ (n : Int) - 1
 F : ∀ q ∈ a.2.2.1, 0 ≤ q ∧ q ≤ (n : Int) - 1
 len : a.2.2.2.length ≤ 24
 ok : stepsOk a.1 a.2.2.2 = true
 steps : ∀ s ∈ a.2.2.2, StepIs (n : Int) s
/-- the least cost of a run from a start to a final -/
def CostIs (a : Aut) (ws : List UInt8) (r : Int) : Prop := (0 ≤ r ∧ r ≤ Nv) ∧ ∀ z, z ≤ r ↔ z ≤ Nv ∧ ∀ i ∈ a.2.1, ∀ k ∈ a.2.2.1, ∀ c, Run a.2.2.2 ws i k c → z ≤ c
theorem CostIs.same {a : Aut} {ws : List UInt8} {r r' : Int} (h : CostIs a ws r) (h' : CostIs a ws r') : r = r' := eq_of_le_iff fun z => (h.2 z).trans (h'.2 z).symm
theorem take_snoc {α : Type} {l : List α} {i : Nat} (hi : i < l.length) : l.take (i + 1) = l.take i ++ [l[i]] := by
 rw [List.take_add_one, List.getElem?_eq_getElem hi]; rfl
end Go.Proofs.YtgmgnijklampiaaDoor
