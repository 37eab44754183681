/- The law FnExactTableOf, as a plain statement. -/
import Derived.Test.YtcjlhckebkibaaaP17
namespace Go.Proofs.Ytcjlhckebkibaaa
open Go Go.Proofs.Ytcjlhckebkibaaa.Am
theorem pure_FnExactTableOf (x0 : Aut) (x1 : Int) (f0 : Fits kAut x0) (_ : Fits (.int .i64) x1) : laws_FnExactTableOf x0 x1 = some true :=
  pure_TableOf x0 x1 f0
end Go.Proofs.Ytcjlhckebkibaaa
