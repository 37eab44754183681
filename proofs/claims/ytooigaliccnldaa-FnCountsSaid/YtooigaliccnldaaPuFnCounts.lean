/- The law FnCounts, as a plain statement. -/
import Derived.Test.YtooigaliccnldaaP46
namespace Go.Proofs.Ytooigaliccnldaa
open Go Go.Proofs.Ytooigaliccnldaa.Am
theorem pure_FnCounts (x0 : List Int) (f0 : Fits (.sl (.int .u8)) x0) : laws_FnCounts x0 = some true :=
  p_FnCounts x0 f0
end Go.Proofs.Ytooigaliccnldaa
