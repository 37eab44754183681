/- The law FnPower, as a plain statement. -/
import Derived.Test.YtfdhmmnffahhgaaP86
namespace Go.Proofs.Ytfdhmmnffahhgaa
open Go Go.Proofs.Ytfdhmmnffahhgaa.Am
theorem pure_FnPower (x0 : List Int) (f0 : Fits (.sl (.int .u8)) x0) : laws_FnPower x0 = some true := p_FnPower x0 f0
end Go.Proofs.Ytfdhmmnffahhgaa
