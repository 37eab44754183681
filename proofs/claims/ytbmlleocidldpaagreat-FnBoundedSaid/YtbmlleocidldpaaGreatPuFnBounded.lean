/- The law FnBounded, as a plain statement. -/
import Derived.Test.YtbmlleocidldpaaGreatP66
namespace Go.Proofs.YtbmlleocidldpaaGreat
open Go Go.Proofs.YtbmlleocidldpaaGreat.Am
theorem pure_FnBounded (x0 x1 : List Int) (f0 : Fits (.sl (.int .u8)) x0) (f1 : Fits (.sl (.int .u8)) x1) : laws_FnBounded x0 x1 = some true :=
 p_FnBounded x0 x1 f0 f1
end Go.Proofs.YtbmlleocidldpaaGreat
