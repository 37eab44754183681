/- The law FnHardest, as a plain statement. -/
import Derived.Test.YtooigaliccnldaaP45
namespace Go.Proofs.Ytooigaliccnldaa
open Go Go.Proofs.Ytooigaliccnldaa.Am
theorem pure_FnHardest (x0 : List Int) (f0 : Fits (.sl (.int .u8)) x0) : laws_FnHardest x0 = some true :=
  p_FnHardest x0 f0
end Go.Proofs.Ytooigaliccnldaa
