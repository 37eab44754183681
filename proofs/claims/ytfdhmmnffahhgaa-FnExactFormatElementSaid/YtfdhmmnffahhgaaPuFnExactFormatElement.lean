/- The law FnExactFormatElement, as a plain statement. -/
import Derived.Test.YtfdhmmnffahhgaaP82
namespace Go.Proofs.Ytfdhmmnffahhgaa
open Go Go.Proofs.Ytfdhmmnffahhgaa.Am
theorem pure_FnExactFormatElement (x0 : (Int × List Int) × ByteArray) (f0 : Fits (.pair (.pair (.int .i64) (.sl (.int .i64))) .str) x0) : laws_FnExactFormatElement x0 = some true :=
  pure_FormatElement x0 f0
end Go.Proofs.Ytfdhmmnffahhgaa
