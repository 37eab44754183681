/- The value of any text is none, or it lies among closed matrices. -/
import Derived.Test.YtfdhmmnffahhgaaGreatP57
set_option linter.unusedVariables false
set_option linter.unusedSimpArgs false
namespace Go.Proofs.YtfdhmmnffahhgaaGreat
open Go Go.Proofs.YtfdhmmnffahhgaaGreat.Am
section
variable {a : Aut} {n : Nat} (ha : AutIs a n) (hv : y0g a = true) (hs : y2q a) {C : List Int → Prop} (hC : Closed n a.2.2.2 C) (hg : ∀ A, C A → GOk n A)
include ha hv hs hC hg
end
end Go.Proofs.YtfdhmmnffahhgaaGreat
