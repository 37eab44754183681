/- The law FnExactVerdictOf, as a plain statement. -/
import Derived.Test.YtcmcjhdccnbmoaaGreatP68
namespace Go.Proofs.YtcmcjhdccnbmoaaGreat
open Go Go.Proofs.YtcmcjhdccnbmoaaGreat.Am
theorem pure_FnExactVerdictOf (x0 : Aut) (f0 : Fits kAut x0) : laws_FnExactVerdictOf x0 = some true :=
  pure_VerdictOf x0 f0
end Go.Proofs.YtcmcjhdccnbmoaaGreat
