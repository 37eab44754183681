/- The law FnTexts, as a plain statement. -/
import Derived.Test.YtgmgnijklampiaaDoorP90
namespace Go.Proofs.YtgmgnijklampiaaDoor
open Go Go.Proofs.YtgmgnijklampiaaDoor.Am
theorem pure_FnTexts (x0 x1 : List Int) (f0 : Fits (.sl (.int .u8)) x0) (f1 : Fits (.sl (.int .u8)) x1) : laws_FnTexts x0 x1 = some true := p_FnTexts x0 x1 f0 f1
end Go.Proofs.YtgmgnijklampiaaDoor
