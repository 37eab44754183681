/- The law FnExactGrowingOf, as a plain statement. -/
import Derived.Test.YtmanjfglaamhdaaP37
namespace Go.Proofs.Ytmanjfglaamhdaa
open Go Go.Proofs.Ytmanjfglaamhdaa.Am
theorem pure_FnExactGrowingOf (x0 : Aut) (f0 : Fits kAut x0) : laws_FnExactGrowingOf x0 = some true :=
  pure_GrowingOf x0 f0
end Go.Proofs.Ytmanjfglaamhdaa
