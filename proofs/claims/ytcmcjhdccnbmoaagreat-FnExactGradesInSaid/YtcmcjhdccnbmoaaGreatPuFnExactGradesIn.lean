/- The law FnExactGradesIn, as a plain statement. -/
import Derived.Test.YtcmcjhdccnbmoaaGreatP67
namespace Go.Proofs.YtcmcjhdccnbmoaaGreat
open Go Go.Proofs.YtcmcjhdccnbmoaaGreat.Am
theorem pure_FnExactGradesIn (x0 : Aut) (f0 : Fits kAut x0) : laws_FnExactGradesIn x0 = some true :=
  pure_GradesIn x0 f0
end Go.Proofs.YtcmcjhdccnbmoaaGreat
