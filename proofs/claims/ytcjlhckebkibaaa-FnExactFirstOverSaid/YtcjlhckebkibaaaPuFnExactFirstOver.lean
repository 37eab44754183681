/- The law FnExactFirstOver, as a plain statement. -/
import Derived.Test.YtcjlhckebkibaaaP11
namespace Go.Proofs.Ytcjlhckebkibaaa
open Go Go.Proofs.Ytcjlhckebkibaaa.Am
theorem pure_FnExactFirstOver (x0 x1 : Aut) (x2 : Int) (f0 : Fits kAut x0) (f1 : Fits kAut x1) (_ : Fits (.int .i64) x2) : laws_FnExactFirstOver x0 x1 x2 = some true :=
  pure_FirstOver x0 x1 x2 f0 f1
end Go.Proofs.Ytcjlhckebkibaaa
