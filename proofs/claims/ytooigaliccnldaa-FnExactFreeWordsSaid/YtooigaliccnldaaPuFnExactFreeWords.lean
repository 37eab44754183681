/- The law FnExactFreeWords, as a plain statement. -/
import Derived.Test.YtooigaliccnldaaP20
namespace Go.Proofs.Ytooigaliccnldaa
open Go Go.Proofs.Ytooigaliccnldaa.Am
theorem pure_FnExactFreeWords (x0 : Aut) (x1 : Int) (f0 : Fits kAut x0) (_ : Fits (.int .i64) x1) : laws_FnExactFreeWords x0 x1 = some true :=
  pure_FreeWords x0 x1 f0
end Go.Proofs.Ytooigaliccnldaa
