/- The law FnScriptWord, as a plain statement. -/
import Derived.Test.YtbndfclpclifbaaGreatDoorP95
namespace Go.Proofs.YtbndfclpclifbaaGreatDoor
open Go Go.Proofs.YtbndfclpclifbaaGreatDoor.Am
theorem pure_FnScriptWord (x0 : List Int) (f0 : Fits (.sl (.int .u8)) x0) : laws_FnScriptWord x0 = some true :=
  p_FnScriptWord x0 f0
end Go.Proofs.YtbndfclpclifbaaGreatDoor
