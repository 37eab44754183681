/- The law FnGrowingOf, as a plain statement. -/
import Derived.Test.YtfdhmmnffahhgaaGreatP81
namespace Go.Proofs.YtfdhmmnffahhgaaGreat
open Go Go.Proofs.YtfdhmmnffahhgaaGreat.Am
theorem pure_FnGrowingOf (x0 : List Int) (f0 : Fits (.sl (.int .u8)) x0) : laws_FnGrowingOf x0 = some true := p_FnGrowingOf x0 f0
end Go.Proofs.YtfdhmmnffahhgaaGreat
