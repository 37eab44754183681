/- The law FnGrowingBetween, as a plain statement. -/
import Derived.Test.YtohllafjfhjmmaaP55
namespace Go.Proofs.Ytohllafjfhjmmaa
open Go Go.Proofs.Ytohllafjfhjmmaa.Am
theorem pure_FnGrowingBetween (x0 : List Int) (f0 : Fits (.sl (.int .u8)) x0) : laws_FnGrowingBetween x0 = some true :=
  p_FnGrowingBetween x0 f0
end Go.Proofs.Ytohllafjfhjmmaa
