/- Valid automata, on: steps and their order. -/
import Derived.Test.YtgmgnijklampiaaDoorP1
set_option linter.unusedVariables false
set_option linter.unusedSimpArgs false
namespace Go.Proofs.YtgmgnijklampiaaDoor
open Go Go.Proofs.YtgmgnijklampiaaDoor.Am
def stepOk (n : Int) (s : Stp) : Bool := decide (0 ≤ s.1 ∧ s.1 ≤ n - 1) && (decide (0 ≤ s.2.2.1 ∧ s.2.2.1 ≤ n - 1) && (decide (0 ≤ s.2.2.2 ∧ s.2.2.2 ≤ 3) && (s.2.1.toList == la.toList || s.2.1.toList == lb.toList)))
def befB (s t : Stp) : Bool := bif s.1 != t.1 then decide (s.1 < t.1) else bif !(s.2.1.toList == t.2.1.toList) then Op.bytesLess s.2.1.toList t.2.1.toList else decide (s.2.2.1 < t.2.2.1)
def stepsP (n : Int) (l : List Stp) (i : Nat) : Bool := stepOk n (l.getD i stp0) && (decide (i = 0) || befB (l.getD (i - 1) stp0) (l.getD i stp0))
def stepsOk (n : Int) (l : List Stp) : Bool := (List.range l.length).all (stepsP n l)
def autOk (a : Aut) : Bool := decide (1 ≤ a.1 ∧ a.1 ≤ 4) && (marksOk a.1 a.2.1 && (marksOk a.1 a.2.2.1 && (decide (a.2.2.2.length ≤ 24) && stepsOk a.1 a.2.2.2)))
end Go.Proofs.YtgmgnijklampiaaDoor
