/- The law FnFinitePowers, as a plain statement. -/
import Derived.Test.YtogigagfgkfkhaaGreatP91
namespace Go.Proofs.YtogigagfgkfkhaaGreat
open Go Go.Proofs.YtogigagfgkfkhaaGreat.Am
theorem y6y (x0 : List Int) (f0 : Fits (.sl (.int .u8)) x0) : yn0 x0 = some true := za2 x0 f0
end Go.Proofs.YtogigagfgkfkhaaGreat
