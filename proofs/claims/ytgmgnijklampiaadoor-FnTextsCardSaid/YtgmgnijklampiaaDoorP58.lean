/- The value of any text is none, or it lies among closed matrices. -/
import Derived.Test.YtgmgnijklampiaaDoorP57
set_option linter.unusedVariables false
set_option linter.unusedSimpArgs false
namespace Go.Proofs.YtgmgnijklampiaaDoor
open Go Go.Proofs.YtgmgnijklampiaaDoor.Am
section
variable {a : Aut} {n : Nat} (ha : AutIs a n) (hv : autOk a = true) (hs : Small a) {C : List Int → Prop} (hC : Closed n a.2.2.2 C) (hg : ∀ A, C A → GOk n A)
include ha hv hs hC hg
end
end Go.Proofs.YtgmgnijklampiaaDoor
