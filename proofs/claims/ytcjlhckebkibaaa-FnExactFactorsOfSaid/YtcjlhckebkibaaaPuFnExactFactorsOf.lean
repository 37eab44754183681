/- The law FnExactFactorsOf, as a plain statement. -/
import Derived.Test.YtcjlhckebkibaaaP15
namespace Go.Proofs.Ytcjlhckebkibaaa
open Go Go.Proofs.Ytcjlhckebkibaaa.Am
theorem pure_FnExactFactorsOf (x0 : Aut) (x1 : ByteArray) (f0 : Fits kAut x0) (f1 : Fits .str x1) : laws_FnExactFactorsOf x0 x1 = some true :=
  pure_FactorsOf x0 x1 f0 f1
end Go.Proofs.Ytcjlhckebkibaaa
