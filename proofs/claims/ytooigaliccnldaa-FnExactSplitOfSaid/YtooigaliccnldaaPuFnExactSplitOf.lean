/- The law FnExactSplitOf, as a plain statement. -/
import Derived.Test.YtooigaliccnldaaP20
namespace Go.Proofs.Ytooigaliccnldaa
open Go Go.Proofs.Ytooigaliccnldaa.Am
theorem pure_FnExactSplitOf (x0 : Aut) (x1 : ByteArray) (f0 : Fits kAut x0) (f1 : Fits .str x1) : laws_FnExactSplitOf x0 x1 = some true :=
  pure_SplitOf x0 x1 f0 f1
end Go.Proofs.Ytooigaliccnldaa
