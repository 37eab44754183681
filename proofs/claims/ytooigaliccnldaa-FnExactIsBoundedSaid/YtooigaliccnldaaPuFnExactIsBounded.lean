/- The law FnExactIsBounded, as a plain statement. -/
import Derived.Test.YtooigaliccnldaaP36
namespace Go.Proofs.Ytooigaliccnldaa
open Go Go.Proofs.Ytooigaliccnldaa.Am
theorem pure_FnExactIsBounded (x0 : Aut) (f0 : Fits kAut x0) : laws_FnExactIsBounded x0 = some true :=
  pure_IsBounded x0 f0
end Go.Proofs.Ytooigaliccnldaa
