/- The law FnExactLeastOf, as a plain statement. -/
import Derived.Test.YtcjlhckebkibaaaP18
namespace Go.Proofs.Ytcjlhckebkibaaa
open Go Go.Proofs.Ytcjlhckebkibaaa.Am
theorem pure_FnExactLeastOf (x0 : Aut) (x1 : Int) (f0 : Fits kAut x0) (_ : Fits (.int .i64) x1) : laws_FnExactLeastOf x0 x1 = some true :=
  pure_LeastOf x0 x1 f0
end Go.Proofs.Ytcjlhckebkibaaa
