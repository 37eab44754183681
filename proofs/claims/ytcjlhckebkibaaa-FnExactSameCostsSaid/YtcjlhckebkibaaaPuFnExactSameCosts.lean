/- The law FnExactSameCosts, as a plain statement. -/
import Derived.Test.YtcjlhckebkibaaaP11
namespace Go.Proofs.Ytcjlhckebkibaaa
open Go Go.Proofs.Ytcjlhckebkibaaa.Am
theorem pure_FnExactSameCosts (x0 x1 : Aut) (x2 : Int) (f0 : Fits kAut x0) (f1 : Fits kAut x1) (_ : Fits (.int .i64) x2) : laws_FnExactSameCosts x0 x1 x2 = some true :=
  pure_SameCosts x0 x1 x2 f0 f1
end Go.Proofs.Ytcjlhckebkibaaa
