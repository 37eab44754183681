/- The law FnExpressionFor, as a plain statement. -/
import Derived.Test.YtbmlleocidldpaaP60
namespace Go.Proofs.Ytbmlleocidldpaa
open Go Go.Proofs.Ytbmlleocidldpaa.Am
theorem pure_FnExpressionFor (x0 x1 : List Int) (f0 : Fits (.sl (.int .u8)) x0) (f1 : Fits (.sl (.int .u8)) x1) : laws_FnExpressionFor x0 x1 = some true :=
  p_FnExpressionFor x0 x1 f0 f1
end Go.Proofs.Ytbmlleocidldpaa
