/- The law FnScriptVerdict, as a plain statement. -/
import Derived.Test.YtafognnoibjjeaaGreatDoorP104
namespace Go.Proofs.YtafognnoibjjeaaGreatDoor
open Go Go.Proofs.YtafognnoibjjeaaGreatDoor.Am
theorem y7r(x0:List Int)(f0:Fits (.sl (.int .u8)) x0):ym4 x0=some true:=
  zc8 x0 f0
end Go.Proofs.YtafognnoibjjeaaGreatDoor
