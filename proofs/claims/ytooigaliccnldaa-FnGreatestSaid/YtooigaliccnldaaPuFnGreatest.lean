/- The law FnGreatest, as a plain statement. -/
import Derived.Test.YtooigaliccnldaaP49
namespace Go.Proofs.Ytooigaliccnldaa
open Go Go.Proofs.Ytooigaliccnldaa.Am
theorem pure_FnGreatest (x0 : List Int) (f0 : Fits (.sl (.int .u8)) x0) : laws_FnGreatest x0 = some true :=
  p_FnGreatest x0 f0
end Go.Proofs.Ytooigaliccnldaa
