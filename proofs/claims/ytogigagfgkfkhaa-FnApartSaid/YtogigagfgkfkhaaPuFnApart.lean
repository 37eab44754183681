/- The law FnApart, as a plain statement. -/
import Derived.Test.YtogigagfgkfkhaaP94
namespace Go.Proofs.Ytogigagfgkfkhaa
open Go Go.Proofs.Ytogigagfgkfkhaa.Am
theorem pure_FnApart (x0 : List Int) (f0 : Fits (.sl (.int .u8)) x0) : laws_FnApart x0 = some true := p_FnApart x0 f0
end Go.Proofs.Ytogigagfgkfkhaa
