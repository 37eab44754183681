import Derived.Test.YtafognnoibjjeaaGreatDoorP53
import Derived.Test.YtafognnoibjjeaaGreatDoorP54
set_option linter.unusedVariables false
set_option linter.unusedSimpArgs false
/- The elements are closed under products and repetition when the search is whole. -/
namespace Go.Proofs.YtafognnoibjjeaaGreatDoor
open Go Go.Proofs.YtafognnoibjjeaaGreatDoor.Am
def Pre(L M:List Elt):Prop:=∃X,M=L++X
theorem Pre.refl(L:List Elt):Pre L L:=⟨[],(List.append_nil L).symm⟩
theorem Pre.trans{L M K:List Elt}(h:Pre L M)(k:Pre M K):Pre L K:=by
 obtain⟨X,rfl⟩:=h;obtain⟨Y,rfl⟩:=k;exact⟨X++Y,List.append_assoc ..⟩
theorem Pre.le{L M:List Elt}(h:Pre L M):L.length≤M.length:=by
 obtain⟨X,rfl⟩:=h;rw[List.length_append];omega
theorem Pre.get{L M:List Elt}(h:Pre L M){k:Nat}(hk:k<L.length):M.getD k el0=L.getD k el0:=by
 have:=h.le;rw[yb4 el0 hk,yb4 el0 (show k<M.length by omega)];obtain⟨X,rfl⟩:=h;rw[List.getElem_append_left hk]
theorem has_iff{L:List Elt}{A:List Int}:has L A=true↔∃e∈L,e.1.2=A:=by
 unfold has;rw[List.any_eq_true];constructor
 ·rintro⟨e,he,h⟩;exact⟨e,he,of_decide_eq_true h⟩
 ·rintro⟨e,he,h⟩;exact⟨e,he,decide_eq_true h⟩
theorem Pre.has{L M:List Elt}(h:Pre L M){A:List Int}(hA:has L A=true):has M A=true:=by
 obtain⟨e,he,h1⟩:=has_iff.1 hA;obtain⟨X,rfl⟩:=h;exact has_iff.2 ⟨e,List.mem_append_left _ he,h1⟩
theorem y4p{n:Nat}{A:List Int}{t:ByteArray}{p:List Elt×Bool}(h:(sput n A t p).2=false):p.2=false∧Pre p.1 (sput n A t p).1∧has (sput n A t p).1 A=true:=by
 obtain⟨L,F⟩:=p;unfold sput at h⊢;dsimp only at h⊢;cases hh:has L A with
 |true=>
  rw[hh] at h;simp only[cond_true] at h⊢;exact⟨h,Pre.refl _,hh⟩
 |false=>
  rw[hh] at h;cases F with
  |true=>
   simp only[cond_true,cond_false] at h;cases h
  |false=>
   cases h1:decide ((L.length:Int)≥120) with
   |true=>
    rw[h1] at h;simp only[cond_true,cond_false] at h;cases h
   |false=>
    cases h2:(!decide ((t.size:Int)>120)) with
    |false=>
     rw[h1,h2] at h;simp only[cond_false] at h;cases h
    |true=>
     simp only[cond_true,cond_false];exact⟨trivial,⟨_,rfl⟩,has_iff.2 ⟨_,List.mem_append_right _ (List.mem_singleton.2 rfl),rfl⟩⟩
theorem y8h{n:Nat}{e:Elt}:∀{W:List Elt} {p:List Elt×Bool},(y4o n e W p).2=false→p.2=false∧Pre p.1 (y4o n e W p).1∧∀f∈W,has (y4o n e W p).1 (gmul n e.1.2 f.1.2)=true∧has (y4o n e W p).1 (gmul n f.1.2 e.1.2)=true
 |[],p,h=>⟨h,Pre.refl _,fun f hf=>by cases hf⟩
 |f::W,p,h=>by
  have h:(y4o n e W (s2 n e f p)).2=false:=h;show p.2=false∧Pre p.1 (y4o n e W (s2 n e f p)).1∧∀g∈f::W,has (y4o n e W (s2 n e f p)).1 _=true∧has (y4o n e W (s2 n e f p)).1 _=true;obtain⟨h1,h2,h3⟩:=y8h (W:=W) (p:=s2 n e f p) h;have h1:(sput n (gmul n f.1.2 e.1.2) (f.2++e.2) (sput n (gmul n e.1.2 f.1.2) (e.2++f.2) p)).2=false:=h1;obtain⟨g1,g2,g3⟩:=y4p h1;obtain⟨k1,k2,k3⟩:=y4p g1;refine⟨k1,(k2.trans g2).trans h2,fun g hg=> ?_⟩
  rcases List.mem_cons.1 hg with rfl|hg
  ·exact⟨h2.has (g2.has k3),h2.has g3⟩
  ·exact h3 g hg
/-- the k-th element's repetition and its products with those before it are there -/
def Cl(n:Nat)(M:List Elt)(k:Nat):Prop:=
 (gmul n (M.getD k el0).1.2 (M.getD k el0).1.2=(M.getD k el0).1.2→has M (y0r n (M.getD k el0).1.2)=true)∧
  ∀j,j≤k→has M (gmul n (M.getD k el0).1.2 (M.getD j el0).1.2)=true∧has M (gmul n (M.getD j el0).1.2 (M.getD k el0).1.2)=true
theorem Cl.pre{n k:Nat}{M K:List Elt}(h:Cl n M k)(hk:k<M.length)(hp:Pre M K):Cl n K k:=by
 refine⟨?_,fun j hj=> ?_⟩
 ·rw[hp.get hk];exact fun e=>hp.has (h.1 e)
 ·rw[hp.get hk,hp.get (show j<M.length by omega)];exact⟨hp.has (h.2 j hj).1,hp.has (h.2 j hj).2⟩
theorem z93{n i:Nat}{L:List Elt}(hi:i<L.length)(h:(body n i L).2=false):Pre L (body n i L).1∧Cl n (body n i L).1 i:=by
 have key:∀p:List Elt×Bool,Pre L p.1→(y4o n (L.getD i el0) (p.1.take (i+1)) p).2=false→(gmul n (L.getD i el0).1.2 (L.getD i el0).1.2=(L.getD i el0).1.2→has p.1 (y0r n (L.getD i el0).1.2)=true)→
   Pre L (y4o n (L.getD i el0) (p.1.take (i+1)) p).1∧Cl n (y4o n (L.getD i el0) (p.1.take (i+1)) p).1 i:=by
  intro p hp hf hs;obtain⟨h1,h2,h3⟩:=y8h hf;have h4:=hp.trans h2;refine⟨h4, ?_,fun j hj=> ?_⟩
  ·rw[h4.get hi];exact fun e=>h2.has (hs e)
  ·rw[h4.get hi,h4.get (show j<L.length by omega),←hp.get (show j<L.length by omega)];have hl:=hp.le;have hm:p.1.getD j el0∈p.1.take (i+1):=by
    rw[yb4 el0 (show j<p.1.length by omega)];have:(p.1.take (i+1))[j]'(by rw[List.length_take];omega)=p.1[j]:=List.getElem_take;rw[←this];exact List.getElem_mem _
   exact h3 _ hm
 unfold body at h⊢;dsimp only at h⊢
 by_cases hid:gmul n (L.getD i el0).1.2 (L.getD i el0).1.2=(L.getD i el0).1.2
 ·rw[if_pos hid] at h⊢;obtain⟨h1,h2,h3⟩:=y8h h;obtain⟨g1,g2,g3⟩:=y4p h1;exact key _ g2 h fun _=>g3
 ·rw[if_neg hid] at h⊢;exact key (L,false) (Pre.refl L) h fun e=>absurd e hid
theorem z4a{n:Nat}(h4:n≤4)(w:List Elt):∀(d i:Nat) (p:List Elt×Bool),i+d=121→LOk n p.1→
  ∃p':List Elt×Bool,ya2 ya5 (true,(p.1,p.2,()),w,(i:Int),())=some ((p'.1,p'.2,()),())∧(p'.2=false→p.2=false∧Pre p.1 p'.1∧∀k,i≤k→k<p'.1.length→Cl n p'.1 k):=by
 intro d
 induction d with
 |zero=>
  intro i p hi hp;obtain⟨L,F⟩:=p;have e1:L.length≤120:=hp.len;refine⟨(L,F), ?_,fun h=>⟨h,Pre.refl _,fun k h1 h2=> ?_⟩⟩
  ·rw[yb2];simp only[ya5,decide_eq_false (show ¬(i:Int)<(L.length:Int) by omega),cond_false,Nat.zero_add,List.drop_zero,List.take_length,if_true,Option.bind_some]
  ·have h2:k<L.length:=h2;omega
 |succ d ih=>
  intro i p hi hp;obtain⟨L,F⟩:=p;cases F with
  |false=>
   by_cases hlt:i<L.length
   ·obtain⟨g1,g2⟩:=zy6 h4 hp hlt w;obtain⟨p',k1,k2⟩:=ih (i+1) (body n i L) (by omega) g2;refine⟨p', ?_,fun h=> ?_⟩
    ·rw[yb2];show(ya5 (true,(L,false,()),w,(i:Int),())).bind _=_;rw[g1];exact k1
    ·obtain⟨q1,q2,q3⟩:=k2 h;obtain⟨b1,b2⟩:=z93 hlt q1;refine⟨rfl,b1.trans q2,fun k h1 h2=> ?_⟩
     by_cases hk:k=i
     ·subst hk;exact b2.pre (Nat.lt_of_lt_of_le hlt b1.le) q2
     ·exact q3 k (by omega) h2
   ·refine⟨(L,false), ?_,fun h=>⟨rfl,Pre.refl _,fun k h1 h2=> ?_⟩⟩
    ·rw[yb2];simp only[ya5,decide_eq_false (show ¬(i:Int)<(L.length:Int) by omega),cond_false,Nat.zero_add,List.drop_zero,List.take_length,if_true,Option.bind_some]
    ·have h2:k<L.length:=h2;omega
  |true=>
   refine⟨(L,true), ?_,fun h=>by cases h⟩;rw[yb2];simp only[ya5];cases decide ((i:Int)<(L.length:Int))<;>simp only[cond_true,cond_false,Bool.not_true,Nat.zero_add,List.drop_zero,List.take_length,if_true,Option.bind_some]
/-- all matrices that stand in the list -/
structure Closed (n:Nat) (st:List Stp) (C:List Int→Prop):Prop where
 la:C (lett la n st)
 lb:C (lett lb n st)
 mul:∀A A',C A→C A'→C (gmul n A A')
 stab:∀A,C A→gmul n A A=A→C (y0r n A)
theorem zr5{a:Aut}{n:Nat}(ha:AutIs a n){L:List Elt}(h:zy7 n a.2.2.2=some (L,true)):Closed n a.2.2.2 (fun A=>has L A=true):=by
 have okA:GOk n (lett la n a.2.2.2):=z3t (yr1 ha la).1;have okB:GOk n (lett lb n a.2.2.2):=z3t (yr1 ha lb).1;have p1:=y5i okA la (p:=([],false)) (LOk.nil n);have p2:=y5i okB lb p1;obtain⟨p',e1,e2⟩:=z4a ha.n4 ([]++[(((n:Int),lett la n a.2.2.2),la)]++[(((n:Int),lett lb n a.2.2.2),lb)]) 121 0 _ (by omega) p2;unfold zy7 at h;have e1:ya2 ya5 (true,((sput n (lett lb n a.2.2.2) lb (sput n (lett la n a.2.2.2) la ([],false))).1,(sput n (lett lb n a.2.2.2) lb (sput n (lett la n a.2.2.2) la ([],false))).2,()),[]++[(((n:Int),lett la n a.2.2.2),la)]++[(((n:Int),lett lb n a.2.2.2),lb)],(0:Int),())=_:=e1;rw[e1] at h;obtain⟨M,F⟩:=p';cases F with
 |true=>
  simp at h
 |false=>
  have hM:M=L:=by simpa using h
  subst hM;obtain⟨q1,q2,q3⟩:=e2 rfl;have q2:Pre _ M:=q2;have q3:∀k,0≤k→k<M.length→Cl n M k:=q3;obtain⟨g1,g2,g3⟩:=y4p q1;obtain⟨k1,k2,k3⟩:=y4p g1;have at_:∀{A},has M A=true→∃k,k<M.length∧(M.getD k el0).1.2=A:=by
   intro A hA;obtain⟨e,he,rfl⟩:=has_iff.1 hA;obtain⟨k,hk,rfl⟩:=List.getElem_of_mem he;exact⟨k,hk,by rw[yb4 el0 hk]⟩
  refine⟨q2.has (g2.has k3),q2.has g3,fun A A' hA hA'=> ?_,fun A hA hid=> ?_⟩
  ·obtain⟨k,hk,rfl⟩:=at_ hA;obtain⟨j,hj,rfl⟩:=at_ hA'
   rcases Nat.le_total j k with hjk|hjk
   ·exact((q3 k (Nat.zero_le _) hk).2 j hjk).1
   ·exact((q3 j (Nat.zero_le _) hj).2 k hjk).2
  ·obtain⟨k,hk,rfl⟩:=at_ hA;exact(q3 k (Nat.zero_le _) hk).1 hid
end Go.Proofs.YtafognnoibjjeaaGreatDoor

/- The parts of any text, the value of any text. -/
namespace Go.Proofs.YtafognnoibjjeaaGreatDoor
open Go Go.Proofs.YtafognnoibjjeaaGreatDoor.Am
section
variable (φ : Rec) (ac : Pts) (s : List UInt8)
end
end Go.Proofs.YtafognnoibjjeaaGreatDoor

/- The value of any text is none, or it lies among closed matrices. -/
namespace Go.Proofs.YtafognnoibjjeaaGreatDoor
open Go Go.Proofs.YtafognnoibjjeaaGreatDoor.Am
section
variable {a : Aut} {n : Nat} (ha : AutIs a n) (hv : yo7 a = true) (hs : yy1 a) {C : List Int → Prop} (hC : Closed n a.2.2.2 C) (hg : ∀ A, C A → GOk n A)
include ha hv hs hC hg
end
end Go.Proofs.YtafognnoibjjeaaGreatDoor

/- Draws of texts that are mostly expressions; draws of matrices of grades. -/
namespace Go.Proofs.YtafognnoibjjeaaGreatDoor
open Go Go.Proofs.YtafognnoibjjeaaGreatDoor.Am
end Go.Proofs.YtafognnoibjjeaaGreatDoor

/- The law of an element's expression. -/
namespace Go.Proofs.YtafognnoibjjeaaGreatDoor
open Go Go.Proofs.YtafognnoibjjeaaGreatDoor.Am
/-- the elements and what is told of them, for any automaton -/
theorem z4b{a:Aut}(hs:yy1 a):∃(n:Nat) (L:List Elt) (ok:Bool),n≤4∧LOk n L∧yd5 a=some (L,ok)∧ya6 a=some (L,ok)∧(ok=false→L=[])∧(ok=true→L≠[])∧
  (L≠[]→yo7 a=true∧AutIs a n∧XOk (VX n a.2.2.2) L∧Closed n a.2.2.2 (fun A=>has L A=true)):=by
 cases hv:yo7 a with
 |false=>
  obtain⟨e1,e2⟩:=zg0 hv hs;exact⟨1,[],false,by omega,LOk.nil 1,e1,e2,fun _=>rfl,fun h=>(by cases h),fun h=>absurd rfl h⟩
 |true=>
  obtain⟨n,ha⟩:=y9n hv;obtain⟨L,ok,hL,e1,e2,e0,eO,eV⟩:=zr1 ha hv hs;have hc:ok=true→Closed n a.2.2.2 (fun A=>has L A=true):=by
   rintro rfl;exact zr5 ha eO
  refine⟨n,L,ok,ha.n4,hL,e1,e2,e0,fun h hn=> ?_,fun hn=>⟨rfl,ha,eV,hc ?_⟩⟩
  ·obtain⟨e,he,_⟩:=has_iff.1 (hc h).la;rw[hn] at he;cases he
  ·cases ok with
   |true=>rfl
   |false=>exact absurd (e0 rfl) hn
end Go.Proofs.YtafognnoibjjeaaGreatDoor
