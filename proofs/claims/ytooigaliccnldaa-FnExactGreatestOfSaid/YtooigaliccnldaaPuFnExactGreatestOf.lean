/- The law FnExactGreatestOf, as a plain statement. -/
import Derived.Test.YtooigaliccnldaaP20
namespace Go.Proofs.Ytooigaliccnldaa
open Go Go.Proofs.Ytooigaliccnldaa.Am
theorem pure_FnExactGreatestOf (x0 : Aut) (x1 : Int) (f0 : Fits kAut x0) (_ : Fits (.int .i64) x1) : laws_FnExactGreatestOf x0 x1 = some true :=
  pure_GreatestOf x0 x1 f0
end Go.Proofs.Ytooigaliccnldaa
