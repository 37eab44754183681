/- The law FnGradesIn, as a plain statement. -/
import Derived.Test.YtcmcjhdccnbmoaaGreatP70
namespace Go.Proofs.YtcmcjhdccnbmoaaGreat
open Go Go.Proofs.YtcmcjhdccnbmoaaGreat.Am
theorem pure_FnGradesIn (x0 : List Int) (f0 : Fits (.sl (.int .u8)) x0) : laws_FnGradesIn x0 = some true := p_FnGradesIn x0 f0
end Go.Proofs.YtcmcjhdccnbmoaaGreat
