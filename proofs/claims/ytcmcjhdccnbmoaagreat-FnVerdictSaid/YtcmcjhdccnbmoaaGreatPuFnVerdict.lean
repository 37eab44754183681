/- The law FnVerdict, as a plain statement. -/
import Derived.Test.YtcmcjhdccnbmoaaGreatP72
namespace Go.Proofs.YtcmcjhdccnbmoaaGreat
open Go Go.Proofs.YtcmcjhdccnbmoaaGreat.Am
theorem pure_FnVerdict (x0 : List Int) (f0 : Fits (.sl (.int .u8)) x0) : laws_FnVerdict x0 = some true := p_FnVerdict x0 f0
end Go.Proofs.YtcmcjhdccnbmoaaGreat
