/- The law FnExactHardestWord, as a plain statement. -/
import Derived.Test.YtcjlhckebkibaaaP15
namespace Go.Proofs.Ytcjlhckebkibaaa
open Go Go.Proofs.Ytcjlhckebkibaaa.Am
theorem pure_FnExactHardestWord (x0 : Aut) (x1 : Int) (f0 : Fits kAut x0) (_ : Fits (.int .i64) x1) : laws_FnExactHardestWord x0 x1 = some true :=
  pure_HardestWord x0 x1 f0
end Go.Proofs.Ytcjlhckebkibaaa
