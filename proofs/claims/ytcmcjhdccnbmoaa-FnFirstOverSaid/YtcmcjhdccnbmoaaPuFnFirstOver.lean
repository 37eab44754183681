/- The law FnFirstOver, as a plain statement. -/
import Derived.Test.YtcmcjhdccnbmoaaP74
namespace Go.Proofs.Ytcmcjhdccnbmoaa
open Go Go.Proofs.Ytcmcjhdccnbmoaa.Am
theorem pure_FnFirstOver (x0 : List Int) (f0 : Fits (.sl (.int .u8)) x0) : laws_FnFirstOver x0 = some true := p_FnFirstOver x0 f0
end Go.Proofs.Ytcmcjhdccnbmoaa
