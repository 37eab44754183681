/- Products of grades are put together in any way; the value of a text that is put behind another. -/
import Derived.Test.YtafognnoibjjeaaGreatDoorP39
set_option linter.unusedVariables false
set_option linter.unusedSimpArgs false
namespace Go.Proofs.YtafognnoibjjeaaGreatDoor
open Go Go.Proofs.YtafognnoibjjeaaGreatDoor.Am
theorem mn_le(x y z:Int):z≤mn x y↔z≤x∧z≤y:=by unfold mn;split<;>omega
theorem mx_le(x y z:Int):z≤mx x y↔z≤x∨z≤y:=by unfold mx;split<;>omega
theorem gcN_le{n:Nat}{A B:List Int}{i k:Nat}(z:Int):∀m,z≤gcN n A B i k m↔z≤3∧∀l,l<m→z≤A.getD (i*n+l) 0∨z≤B.getD (l*n+k) 0
 |0=>⟨fun h=>⟨h,fun l hl=>absurd hl (by omega)⟩,fun h=>h.1⟩
 |m+1=>by
  show z≤mn (gcN n A B i k m) (mx _ _)↔_;rw[mn_le,mx_le,gcN_le z m];constructor
  ·rintro⟨⟨h1,h2⟩,h3⟩;refine⟨h1,fun l hl=> ?_⟩
   by_cases e:l=m
   ·rw[e];exact h3
   ·exact h2 l (by omega)
  ·rintro⟨h1,h2⟩;exact⟨⟨h1,fun l hl=>h2 l (by omega)⟩,h2 m (by omega)⟩
theorem gmul_le{n:Nat}{A B:List Int}{i k:Nat}(hi:i<n)(hk:k<n)(z:Int):z≤(gmul n A B).getD (i*n+k) 0↔z≤3∧∀l,l<n→z≤A.getD (i*n+l) 0∨z≤B.getD (l*n+k) 0:=by
 unfold gmul;rw[ku6 _ hi hk];exact gcN_le z n
end Go.Proofs.YtafognnoibjjeaaGreatDoor
