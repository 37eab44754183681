/- Bounds of expressions: both sides tell the same; the law SomeOf. -/
import Derived.Test.YtafognnoibjjeaaGreatDoorP38
set_option linter.unusedVariables false
set_option linter.unusedSimpArgs false
namespace Go.Proofs.YtafognnoibjjeaaGreatDoor
open Go Go.Proofs.YtafognnoibjjeaaGreatDoor.Am
/-! ### where an expression ends -/
abbrev RecE:=ByteArray→Int→Option Int
section
variable (φ : RecE) {S : List UInt8} (hS : S.length ≤ 1000) (b : Int) {p : Nat}
include hS
end
/-! ### y5o -/
def ad(a b:Int):Int:=if 1000000<a+b then 1000000 else a+b
theorem ad_rng{a b:Int}(ha:0≤a∧a≤1000000)(hb:0≤b∧b≤1000000):0≤ad a b∧ad a b≤1000000:=by
 unfold ad;split<;>omega
theorem z33{α:Type}{L l:List α}{k:Nat}{x:α}(d:α)(h:L.drop k=x::l):k<L.length∧L.getD k d=x∧L.drop (k+1)=l:=by
 have hk:k<L.length:=by
  apply Classical.byContradiction;intro hk;rw[List.drop_eq_nil_of_le (by omega)] at h;cases h
 rw[List.drop_eq_getElem_cons hk] at h;obtain⟨h1,h2⟩:=List.cons.inj h;exact⟨hk,by rw[yb4 d hk];exact h1,h2⟩
end Go.Proofs.YtafognnoibjjeaaGreatDoor
