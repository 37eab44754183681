/- The grades of letters, by the reference and by the program. -/
import Derived.Test.YtgmgnijklampiaaDoorP31
set_option linter.unusedVariables false
set_option linter.unusedSimpArgs false
namespace Go.Proofs.YtgmgnijklampiaaDoor
open Go Go.Proofs.YtgmgnijklampiaaDoor.Am
/-- a step's cost is put into its place -/
def putStep (c : ByteArray) (n : Nat) (l : List Stp) (i : Nat) (M : List Int) : List Int :=
 bif (l.getD i stp0).2.1.toList == c.toList then M.set ((l.getD i stp0).1.toNat * n + (l.getD i stp0).2.2.1.toNat) (l.getD i stp0).2.2.2 else M
def putSteps (c : ByteArray) (n : Nat) (l : List Stp) : Nat → List Int
 | 0 => List.replicate (n * n) Nv
 | i + 1 => putStep c n l i (putSteps c n l i)
section
variable {S F : List Int} {l : List Stp} {n : Nat} (h4 : n ≤ 4) (hl : l.length ≤ 24) (hst : ∀ s ∈ l, StepIs (n : Int) s) (c : ByteArray)
include h4 hl hst
end
/-! ### grades -/
def gr (x : Int) : Int := if x = 0 then 0 else if x = 1000000 then 3 else 1
/-! ### the value of a letter -/
end Go.Proofs.YtgmgnijklampiaaDoor
