/- The law FnTable, as a plain statement. -/
import Derived.Test.YtooigaliccnldaaP43
namespace Go.Proofs.Ytooigaliccnldaa
open Go Go.Proofs.Ytooigaliccnldaa.Am
theorem pure_FnTable (x0 : List Int) (f0 : Fits (.sl (.int .u8)) x0) : laws_FnTable x0 = some true :=
  p_FnTable x0 f0
end Go.Proofs.Ytooigaliccnldaa
