/- The law FnExactGrowingBetween, as a plain statement. -/
import Derived.Test.YtooigaliccnldaaP36
namespace Go.Proofs.Ytooigaliccnldaa
open Go Go.Proofs.Ytooigaliccnldaa.Am
theorem pure_FnExactGrowingBetween (x0 : Aut) (x1 x2 : Int) (f0 : Fits kAut x0) (_ : Fits (.int .i64) x1) (_ : Fits (.int .i64) x2) : laws_FnExactGrowingBetween x0 x1 x2 = some true :=
  pure_GrowingBetween x0 x1 x2 f0
end Go.Proofs.Ytooigaliccnldaa
