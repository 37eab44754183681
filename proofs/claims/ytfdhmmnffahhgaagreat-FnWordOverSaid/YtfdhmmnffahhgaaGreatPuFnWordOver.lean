/- The law FnWordOver, as a plain statement. -/
import Derived.Test.YtfdhmmnffahhgaaGreatP80
namespace Go.Proofs.YtfdhmmnffahhgaaGreat
open Go Go.Proofs.YtfdhmmnffahhgaaGreat.Am
theorem zw1 (x0 : List Int) (f0 : Fits (.sl (.int .u8)) x0) : yq2 x0 = some true := z4v x0 f0
end Go.Proofs.YtfdhmmnffahhgaaGreat
