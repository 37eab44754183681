/- The law FnExactFormatNumbers, as a plain statement. -/
import Derived.Test.YtgmgnijklampiaaDoorP89
namespace Go.Proofs.YtgmgnijklampiaaDoor
open Go Go.Proofs.YtgmgnijklampiaaDoor.Am
theorem pure_FnExactFormatNumbers (x0 : List Int) (f0 : Fits (.sl (.int .i64)) x0) : laws_FnExactFormatNumbers x0 = some true :=
  pure_FormatNumbers x0 f0
end Go.Proofs.YtgmgnijklampiaaDoor
