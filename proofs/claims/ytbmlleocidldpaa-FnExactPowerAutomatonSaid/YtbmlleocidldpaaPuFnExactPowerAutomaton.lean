/- The law FnExactPowerAutomaton, as a plain statement. -/
import Derived.Test.YtbmlleocidldpaaP64
namespace Go.Proofs.Ytbmlleocidldpaa
open Go Go.Proofs.Ytbmlleocidldpaa.Am
theorem pure_FnExactPowerAutomaton (x0 : Aut) (f0 : Fits (.pair (.int .i64) (.pair (.sl (.int .i64)) (.pair (.sl (.int .i64)) (.sl (.pair (.int .i64) (.pair .str (.pair (.int .i64) (.int .i64)))))))) x0) : laws_FnExactPowerAutomaton x0 = some true :=
  p_FnExactPowerAutomaton x0 f0
end Go.Proofs.Ytbmlleocidldpaa
