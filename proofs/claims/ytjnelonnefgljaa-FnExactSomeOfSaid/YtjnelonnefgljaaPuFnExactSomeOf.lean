/- The law FnExactSomeOf, as a plain statement. -/
import Derived.Test.YtjnelonnefgljaaP39
namespace Go.Proofs.Ytjnelonnefgljaa
open Go Go.Proofs.Ytjnelonnefgljaa.Am
theorem pure_FnExactSomeOf (x0 : Aut) (f0 : Fits kAut x0) : laws_FnExactSomeOf x0 = some true :=
  pure_SomeOf x0 f0
end Go.Proofs.Ytjnelonnefgljaa
