/- The law FnSplitOf, as a plain statement. -/
import Derived.Test.YtooigaliccnldaaP44
namespace Go.Proofs.Ytooigaliccnldaa
open Go Go.Proofs.Ytooigaliccnldaa.Am
theorem pure_FnSplitOf (x0 : List Int) (f0 : Fits (.sl (.int .u8)) x0) : laws_FnSplitOf x0 = some true :=
  p_FnSplitOf x0 f0
end Go.Proofs.Ytooigaliccnldaa
