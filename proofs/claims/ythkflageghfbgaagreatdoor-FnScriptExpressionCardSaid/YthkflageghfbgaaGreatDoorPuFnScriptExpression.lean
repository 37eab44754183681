/- The law FnScriptExpression, as a plain statement. -/
import Derived.Test.YthkflageghfbgaaGreatDoorP111
namespace Go.Proofs.YthkflageghfbgaaGreatDoor
open Go Go.Proofs.YthkflageghfbgaaGreatDoor.Am
theorem pure_FnScriptExpression(x0:List Int)(f0:Fits (.sl (.int .u8)) x0):laws_FnScriptExpression x0=some true:=
  p_FnScriptExpression x0 f0
end Go.Proofs.YthkflageghfbgaaGreatDoor
