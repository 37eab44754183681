/- The law FnExactHasFinitePowers, as a plain statement. -/
import Derived.Test.YtbmlleocidldpaaGreatP65
namespace Go.Proofs.YtbmlleocidldpaaGreat
open Go Go.Proofs.YtbmlleocidldpaaGreat.Am
theorem pure_FnExactHasFinitePowers (x0 : Aut) (f0 : Fits kAut x0) : laws_FnExactHasFinitePowers x0 = some true :=
  p_FnExactHasFinitePowers x0 f0
end Go.Proofs.YtbmlleocidldpaaGreat
