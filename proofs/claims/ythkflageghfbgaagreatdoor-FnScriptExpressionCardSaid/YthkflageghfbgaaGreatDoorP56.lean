/- The elements are closed under products and repetition when the search is whole. -/
import Derived.Test.YthkflageghfbgaaGreatDoorP50
set_option linter.unusedVariables false
set_option linter.unusedSimpArgs false
namespace Go.Proofs.YthkflageghfbgaaGreatDoor
open Go Go.Proofs.YthkflageghfbgaaGreatDoor.Am
def Pre(L M:List Elt):Prop:=∃X,M=L++X
theorem Pre.refl(L:List Elt):Pre L L:=⟨[],(List.append_nil L).symm⟩
theorem Pre.trans{L M K:List Elt}(h:Pre L M)(k:Pre M K):Pre L K:=by
 obtain⟨X,rfl⟩:=h;obtain⟨Y,rfl⟩:=k;exact⟨X++Y,List.append_assoc ..⟩
theorem Pre.le{L M:List Elt}(h:Pre L M):L.length≤M.length:=by
 obtain⟨X,rfl⟩:=h;rw[List.length_append];omega
theorem Pre.get{L M:List Elt}(h:Pre L M){k:Nat}(hk:k<L.length):M.getD k el0=L.getD k el0:=by
 have:=h.le;rw[getD_get el0 hk,getD_get el0 (show k<M.length by omega)];obtain⟨X,rfl⟩:=h;rw[List.getElem_append_left hk]
theorem has_iff{L:List Elt}{A:List Int}:has L A=true↔∃e∈L,e.1.2=A:=by
 unfold has;rw[List.any_eq_true];constructor
 ·rintro⟨e,he,h⟩;exact⟨e,he,of_decide_eq_true h⟩
 ·rintro⟨e,he,h⟩;exact⟨e,he,decide_eq_true h⟩
theorem Pre.has{L M:List Elt}(h:Pre L M){A:List Int}(hA:has L A=true):has M A=true:=by
 obtain⟨e,he,h1⟩:=has_iff.1 hA;obtain⟨X,rfl⟩:=h;exact has_iff.2 ⟨e,List.mem_append_left _ he,h1⟩
/-- the k-th element's repetition and its products with those before it are there -/
def Cl(n:Nat)(M:List Elt)(k:Nat):Prop:=
 (gmul n (M.getD k el0).1.2 (M.getD k el0).1.2=(M.getD k el0).1.2→has M (gstab n (M.getD k el0).1.2)=true)∧
  ∀j,j≤k→has M (gmul n (M.getD k el0).1.2 (M.getD j el0).1.2)=true∧has M (gmul n (M.getD j el0).1.2 (M.getD k el0).1.2)=true
theorem Cl.pre{n k:Nat}{M K:List Elt}(h:Cl n M k)(hk:k<M.length)(hp:Pre M K):Cl n K k:=by
 refine⟨?_,fun j hj=> ?_⟩
 ·rw[hp.get hk];exact fun e=>hp.has (h.1 e)
 ·rw[hp.get hk,hp.get (show j<M.length by omega)];exact⟨hp.has (h.2 j hj).1,hp.has (h.2 j hj).2⟩
/-- all matrices that stand in the list -/
structure Closed (n:Nat) (st:List Stp) (C:List Int→Prop):Prop where
 la:C (lett la n st)
 lb:C (lett lb n st)
 mul:∀A A',C A→C A'→C (gmul n A A')
 stab:∀A,C A→gmul n A A=A→C (gstab n A)
end Go.Proofs.YthkflageghfbgaaGreatDoor
