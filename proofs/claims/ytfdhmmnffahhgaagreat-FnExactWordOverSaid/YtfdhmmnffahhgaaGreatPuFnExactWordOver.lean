/- The law FnExactWordOver, as a plain statement. -/
import Derived.Test.YtfdhmmnffahhgaaGreatP79
namespace Go.Proofs.YtfdhmmnffahhgaaGreat
open Go Go.Proofs.YtfdhmmnffahhgaaGreat.Am
theorem pure_FnExactWordOver (x0 : Aut) (x1 : Int) (f0 : Fits kAut x0) (_ : Fits (.int .i64) x1) : laws_FnExactWordOver x0 x1 = some true :=
  pure_WordOver x0 x1 f0
end Go.Proofs.YtfdhmmnffahhgaaGreat
