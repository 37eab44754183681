/- There is a stable element among elements that are closed. -/
import Derived.Test.YtafognnoibjjeaaGreatDoorP56
set_option linter.unusedVariables false
set_option linter.unusedSimpArgs false
namespace Go.Proofs.YtafognnoibjjeaaGreatDoor
open Go Go.Proofs.YtafognnoibjjeaaGreatDoor.Am
theorem gsN_le{n:Nat}{A:List Int}{i k:Nat}(z:Int):∀m,z≤gsN n A i k m↔z≤3∧∀l,l<m→z≤A.getD (i*n+l) 0∨z≤ag (A.getD (l*n+l) 0)∨z≤A.getD (l*n+k) 0
 |0=>⟨fun h=>⟨h,fun l hl=>absurd hl (by omega)⟩,fun h=>h.1⟩
 |m+1=>by
  show z≤mn (gsN n A i k m) (mx (mx _ _) _)↔_;rw[mn_le,mx_le,mx_le,gsN_le z m,or_assoc];constructor
  ·rintro⟨⟨h1,h2⟩,h3⟩;refine⟨h1,fun l hl=> ?_⟩
   by_cases e:l=m
   ·rw[e];exact h3
   ·exact h2 l (by omega)
  ·rintro⟨h1,h2⟩;exact⟨⟨h1,fun l hl=>h2 l (by omega)⟩,h2 m (by omega)⟩
theorem k12{n:Nat}{A:List Int}{i k:Nat}(hi:i<n)(hk:k<n)(z:Int):z≤(y0r n A).getD (i*n+k) 0↔z≤3∧∀l,l<n→z≤A.getD (i*n+l) 0∨z≤ag (A.getD (l*n+l) 0)∨z≤A.getD (l*n+k) 0:=by
 unfold y0r;rw[ku6 _ hi hk];exact gsN_le z n
/-! ### powers -/
/-- of more values than a list has two are the same -/
theorem kv3{α:Type}:∀(M:List α) (f:Nat→α) (N:Nat),(∀k,k<N→f k∈M)→M.length<N→∃i j,i<j∧j<N∧f i=f j
 |[],f,N,h,hN=>absurd (h 0 (by simpa using hN)) (by simp)
 |x::M,f,N,h,hN=>by
  apply Classical.byContradiction;intro hno;have inj:∀i j,i<N→j<N→i≠j→f i≠f j:=by
   intro i j hi hj hne e
   rcases Nat.lt_or_gt_of_ne hne with h1|h1
   ·exact hno ⟨i,j,h1,hj,e⟩
   ·exact hno ⟨j,i,h1,hi,e.symm⟩
  simp only[List.length_cons] at hN
  by_cases hx:∃c,c<N∧f c=x
  ·obtain⟨c,hc,hcx⟩:=hx;obtain⟨i,j,h1,h2,h3⟩:=kv3 M (fun k=>f (if k<c then k else k+1)) (N-1) (fun k hk=>by
    have hk1:(if k<c then k else k+1)<N:=by split<;>omega
    have hk2:(if k<c then k else k+1)≠c:=by split<;>omega
    rcases List.mem_cons.1 (h _ hk1) with e|e
    ·exact absurd (e.trans hcx.symm) (inj _ _ hk1 hc hk2)
    ·exact e) (by omega)
   have a1:(if i<c then i else i+1)<N:=by split<;>omega
   have a2:(if j<c then j else j+1)<N:=by split<;>omega
   exact inj _ _ a1 a2 (by split<;>split<;>omega) h3
  ·obtain⟨i,j,h1,h2,h3⟩:=kv3 M f N (fun k hk=>by
    rcases List.mem_cons.1 (h k hk) with e|e
    ·exact absurd ⟨k,hk,e⟩ hx
    ·exact e) (by omega)
   exact hno ⟨i,j,h1,h2,h3⟩
end Go.Proofs.YtafognnoibjjeaaGreatDoor
