/- Both sides expand a text to the same word. -/
import Derived.Test.YtafognnoibjjeaaGreatDoorP75
set_option linter.unusedVariables false
set_option linter.unusedSimpArgs false
namespace Go.Proofs.YtafognnoibjjeaaGreatDoor
open Go Go.Proofs.YtafognnoibjjeaaGreatDoor.Am
theorem k2a(a b:Nat):Int.tdiv (a:Int) (b:Int)=((a/b:Nat):Int):=rfl
theorem room{o k m:Nat}(hk:0<k)(ho:o≤1000)(hk2:k≤1000):decide ((m:Int)>IntKind.wrap .i64 (Int.tdiv (IntKind.wrap .i64 ((1000:Int)-(o:Int))) (k:Int)))=decide (1000<o+m*k):=by
 have e1:IntKind.wrap .i64 ((1000:Int)-(o:Int))=((1000-o:Nat):Int):=by
  rw[w64 (by omega) (by omega)];omega
 have hle:(1000-o)/k≤1000:=Nat.le_trans (Nat.div_le_self _ _) (by omega);have h:=Nat.div_lt_iff_lt_mul (x:=1000-o) (y:=m) hk;rw[e1,k2a];generalize(1000-o)/k=q at hle h;rw[w64 (by omega) (by omega)];rw[decide_eq_decide];constructor
 ·intro h1;have:=h.1 (by omega);omega
 ·intro h1;have:=h.2 (by omega);omega
/-! ### the other side -/
end Go.Proofs.YtafognnoibjjeaaGreatDoor
