/- Grades of all elements: both sides tell the same list. -/
import Derived.Test.YtafognnoibjjeaaGreatDoorP30
import Derived.Test.YtafognnoibjjeaaGreatDoorP61
set_option linter.unusedVariables false
set_option linter.unusedSimpArgs false
namespace Go.Proofs.YtafognnoibjjeaaGreatDoor
open Go Go.Proofs.YtafognnoibjjeaaGreatDoor.Am
theorem gr_at{n:Nat}{A:List Int}(hA:GOk n A)(i:Nat):0≤A.getD i 0∧A.getD i 0≤3:=by
 by_cases h:i<A.length
 ·rw[yb4 0 h];exact hA.2 _ (List.getElem_mem h)
 ·rw[List.getD_eq_getElem?_getD,List.getElem?_eq_none (by omega)];simp
theorem z8m{n:Nat}{A:List Int}(hA:GOk n A)(i:Int):∀(F:List Int) (c:Int),0≤c∧c≤3→0≤btwF n A i F c∧btwF n A i F c≤3
 |[],c,h=>h
 |k::F,c,h=>by
  have g:=gr_at hA (i.toNat*n+k.toNat);refine z8m hA i F (mn c (A.getD (i.toNat*n+k.toNat) 0)) ?_;unfold mn;split<;>omega
theorem z8n{n:Nat}{A:List Int}(hA:GOk n A)(F:List Int):∀(S:List Int) (c:Int),0≤c∧c≤3→0≤S.foldl (fun c i=>btwF n A i F c) c∧S.foldl (fun c i=>btwF n A i F c) c≤3
 |[],c,h=>h
 |i::S,c,h=>z8n hA F S _ (z8m hA i F c h)
theorem kw0{n:Nat}{A:List Int}(hA:GOk n A)(S F:List Int):0≤btw n A S F∧btw n A S F≤3:=z8n hA F S 3 (by omega)
theorem zr7{xs:List Int}{m:Nat}(h:m<xs.length):xs.toArray[m]! =xs.getD m 0:=by
 rw[getElem!_pos xs.toArray m (by simpa using h),yb4 0 h];rfl
/-- what is left of a list in order when neighbours that are the same are told once -/
theorem z97{xs:List Int}(hs:∀j k,j≤k→k<xs.length→xs.getD j 0≤xs.getD k 0):∀m,m≤xs.length→(Lib.compactUpTo xs.toArray m).Pairwise (·<·)∧∀x,x∈Lib.compactUpTo xs.toArray m↔∃j,j<m∧x=xs.getD j 0:=by
 intro m
 induction m with
 |zero=>
  intro _;refine⟨by simp[Lib.compactUpTo],fun x=> ?_⟩;constructor
  ·intro h;simp[Lib.compactUpTo] at h
  ·rintro⟨j,hj,_⟩;omega
 |succ m ih=>
  intro hm;obtain⟨i1,i2⟩:=ih (by omega);rw[Lib.compactUpTo_succ,zr7 (by omega)];cases hk:Lib.keeps xs.toArray m with
  |true=>
   simp only[if_true];have hk:=of_decide_eq_true hk;refine⟨?_,fun x=> ?_⟩
   ·rw[List.pairwise_append];refine⟨i1,by simp,fun a ha b hb=> ?_⟩;obtain⟨j,hj,rfl⟩:=(i2 a).1 ha;rw[List.mem_singleton] at hb;subst hb;have hne:xs.getD m 0≠xs.getD (m-1) 0:=by
     rcases hk with h|h
     ·omega
     ·rwa [zr7 (by omega),zr7 (by omega)] at h
    have h1:=hs j (m-1) (by omega) (by omega);have h2:=hs (m-1) m (by omega) (by omega);omega
   ·rw[List.mem_append,i2,List.mem_singleton];constructor
    ·rintro(⟨j,hj,rfl⟩|rfl)
     ·exact⟨j,by omega,rfl⟩
     ·exact⟨m,by omega,rfl⟩
    ·rintro⟨j,hj,rfl⟩
     by_cases e:j=m
     ·subst e;exact .inr rfl
     ·exact .inl ⟨j,by omega,rfl⟩
  |false=>
   simp only[Bool.false_eq_true,if_false,List.append_nil];have hk:=of_decide_eq_false hk;refine⟨i1,fun x=> ?_⟩;rw[i2];constructor
   ·rintro⟨j,hj,rfl⟩;exact⟨j,by omega,rfl⟩
   ·rintro⟨j,hj,rfl⟩
    by_cases e:j=m
    ·subst e;have h0:j≠0:=fun h=>hk (.inl h);have h1:xs.toArray[j]! =xs.toArray[j-1]!:=Classical.byContradiction fun h=>hk (.inr h);rw[zr7 (by omega),zr7 (by omega)] at h1;exact⟨j-1,by omega,h1⟩
    ·exact⟨j,by omega,rfl⟩
theorem lt_ext:∀{a b:List Int},a.Pairwise (·<·)→b.Pairwise (·<·)→(∀x,x∈a↔x∈b)→a=b
 |[],[],_,_,_=>rfl
 |[],y::b,_,_,h=>absurd ((h y).2 List.mem_cons_self) (by simp)
 |x::a,[],_,_,h=>absurd ((h x).1 List.mem_cons_self) (by simp)
 |x::a,y::b,ha,hb,h=>by
  rw[List.pairwise_cons] at ha hb;have hx:=(h x).1 List.mem_cons_self;have hy:=(h y).2 List.mem_cons_self;rw[List.mem_cons] at hx hy;have e:x=y:=by
   rcases hx with rfl|hx
   ·rfl
   ·rcases hy with rfl|hy
    ·rfl
    ·have h1:=hb.1 x hx;have h2:=ha.1 y hy;omega
  subst e;refine congrArg _ (lt_ext ha.2 hb.2 fun z=> ?_);have hz:=h z;rw[List.mem_cons,List.mem_cons] at hz;constructor
  ·intro h1
   rcases hz.1 (.inr h1) with rfl|h2
   ·have:=ha.1 z h1;omega
   ·exact h2
  ·intro h1
   rcases hz.2 (.inr h1) with rfl|h2
   ·have:=hb.1 z h1;omega
   ·exact h2
/-- grades that a list holds, in order -/
def gset(xs:List Int):List Int:=[0,1,2,3].filter fun g=>decide (g∈xs)
theorem z4h{xs:List Int}(h:∀x∈xs,0≤x∧x≤3):Lib.compact (xs.mergeSort fun x y=>decide (x≤y))=gset xs:=by
 have hp:=List.mergeSort_perm xs fun x y=>decide (x≤y);have hs:(xs.mergeSort fun x y=>decide (x≤y)).Pairwise fun a b=>decide (a≤b)=true:=
  List.pairwise_mergeSort (le:=fun x y=>decide (x≤y)) (fun a b c h1 h2=>decide_eq_true (Int.le_trans (of_decide_eq_true h1) (of_decide_eq_true h2))) (fun a b=>by
   rcases Int.le_total a b with h|h
   ·simp[decide_eq_true h]
   ·simp[decide_eq_true h]) xs
 generalize xs.mergeSort (fun x y=>decide (x≤y))=ys at hp hs;have hm:∀x,x∈ys↔x∈xs:=fun x=>hp.mem_iff;obtain⟨c1,c2⟩:=z97 (xs:=ys) (fun j k hjk hk=>by
  by_cases e:j=k
  ·subst e;exact Int.le_refl _
  ·rw[yb4 0 (by omega),yb4 0 hk];exact of_decide_eq_true (List.pairwise_iff_getElem.1 hs j k (by omega) hk (by omega))) ys.length (Nat.le_refl _)
 refine lt_ext c1 (List.Pairwise.filter _ (by decide)) fun x=> ?_;show x∈Lib.compactUpTo ys.toArray ys.length↔_;rw[c2];unfold gset;rw[List.mem_filter];constructor
 ·rintro⟨j,hj,rfl⟩;have:ys.getD j 0∈xs:=by rw[←hm,yb4 0 hj];exact List.getElem_mem hj
  have:=h _ this;refine⟨?_,decide_eq_true ‹_›⟩;simp only[List.mem_cons,List.not_mem_nil,or_false];omega
 ·rintro⟨_,h1⟩;have h1:=(hm x).2 (of_decide_eq_true h1);obtain⟨j,hj,rfl⟩:=List.getElem_of_mem h1;exact⟨j,hj,(yb4 0 hj).symm⟩
def yg5(n:Nat)(S F:List Int)(L:List Elt):List Int:=L.map fun e=>btw n e.1.2 S F
theorem z6g{n:Nat}{L:List Elt}(hL:LOk n L)(S F:List Int):∀x∈yg5 n S F L,0≤x∧x≤3:=by
 intro x hx;obtain⟨e,he,rfl⟩:=List.mem_map.1 hx;exact kw0 (hL.el e he).2.1 S F
theorem k17(xs:List Int):(gset xs).length≤4:=List.length_filter_le _ _
theorem z6h{a:Aut}{n:Nat}(ha:AutIs a n)(hv:yo7 a=true)(hs:yy1 a){L:List Elt}(hL:LOk n L)(hE:ya6 a=some (L,true)):yr7 a=some (gset (yg5 n a.2.1 a.2.2.1 L),true):=by
 obtain⟨x,S,F,l⟩:=a;have hx:x=(n:Int):=ha.st;subst hx;have hlen:=hL.len;have hgl:(yg5 n S F L).length=L.length:=List.length_map _;obtain⟨r,g1,g2⟩:=yd9 (f:=yl6) L.length (fun i (o:List Int)=>(((n:Int),S,F,l,()),o,L,(L.length:Int),(i:Int),())) (fun i o=>o++[btw n (L.getD i el0).1.2 S F]) (fun o=>(o,())) (fun i o=>o=(yg5 n S F L).take i)
  (fun i o hi ho=>by
   subst ho;rw[yg4 (show i<(yg5 n S F L).length by omega),yb4 el0 hi];simp[yg5])
  (fun i o hi ho=>by
   have hol:o.length=i:=by subst ho;rw[List.length_take];omega
   have hat:=hL.at hi;have hm:L.getD i el0∈L:=by rw[yb4 el0 hi];exact List.getElem_mem hi
   have hb:=y6r ha.n1 ha.n4 l ha.S ha.F hs.1 hs.2.1 (hL.el _ hm).2.1 hv;simp only[yl6,lt_t hi,cond_true,if_pos (in_t hi),Int.toNat_natCast,Nat.zero_add,hat.1,hb,Option.bind_some,List.drop_zero,List.take_length,show ∀z:Int,List.take 1 [z]=[z] from fun _=>rfl];rw[if_pos ⟨trivial,by simp;omega⟩,List.take_of_length_le (by simp),ya3 hi (by omega)])
  (fun o ho=>by simp only[yl6,lt_f,cond_false,List.drop_zero,List.take_length])
  [] rfl
 have g1:ya2 yl6 (((n:Int),S,F,l,()),[],L,(L.length:Int),(0:Int),())=_:=g1;rw[List.take_of_length_le (by omega)] at g2;subst g2;have q1:yu8 (yg5 n S F L)=some ((),((yg5 n S F L).mergeSort fun x y=>decide (x≤y),())):=by
  unfold yu8 sortI;rw[if_pos (by omega)];rfl
 have ql:((yg5 n S F L).mergeSort fun x y=>decide (x≤y)).length=(yg5 n S F L).length:=List.length_mergeSort _;have q2:z3f ((yg5 n S F L).mergeSort fun x y=>decide (x≤y))=some (gset (yg5 n S F L)++List.replicate (((yg5 n S F L).mergeSort fun x y=>decide (x≤y)).length-(gset (yg5 n S F L)).length) 0,(gset (yg5 n S F L)).length):=by
  unfold z3f;rw[if_pos (by omega),z4h (z6g hL S F)]
 simp only[yr7,hE,Option.bind_some,Bool.not_true,cond_false,List.drop_zero,List.take_length,List.take_nil,g1,if_true,q1];rw[List.take_of_length_le (show((yg5 n S F L).mergeSort fun x y=>decide (x≤y)).length≤(yg5 n S F L).length by omega)];simp only[yt7,q2,Option.bind_some,List.drop_zero,List.take_left',List.take_length];simp only[yt8,Int.toNat_natCast,List.drop_zero,List.take_length];rw[if_pos ⟨by omega,by omega,trivial⟩];simp only[Option.bind_some,List.take_length]
theorem z6i{a:Aut}{n:Nat}(ha:AutIs a n)(hs:yy1 a){L:List Elt}(hL:LOk n L)(hE:yd5 a=some (L,true)):ys2 a=some (gset (yg5 n a.2.1 a.2.2.1 L),true):=by
 obtain⟨x,S,F,l⟩:=a;have hx:x=(n:Int):=ha.st;subst hx;have hlen:=hL.len;have hgl:(yg5 n S F L).length=L.length:=List.length_map _
 let mk (i:Nat) (g:Int):Bool:=decide (g∈(yg5 n S F L).take i)
 obtain⟨r,g1,g2⟩:=yd9 (f:=ym0) L.length (fun i (m:Bool×Bool×Bool×Bool)=>(((n:Int),S,F,l,()),([]:List Int),(m.1,m.2.1,m.2.2.1,m.2.2.2,()),L,(L.length:Int),(i:Int),()))
  (fun i _=>(mk (i+1) 0,mk (i+1) 1,mk (i+1) 2,mk (i+1) 3)) (fun m=>([],(m.1,m.2.1,m.2.2.1,m.2.2.2,()),())) (fun i m=>m=(mk i 0,mk i 1,mk i 2,mk i 3))
  (fun i m hi ho=>rfl)
  (fun i m hi ho=>by
   subst ho;have hat:=hL.at hi;have hm:L.getD i el0∈L:=by rw[yb4 el0 hi];exact List.getElem_mem hi
   have hb:=z3y ha.n4 l ha.S ha.F hs.1 hs.2.1 (hL.el _ hm).2.1;have hr:=kw0 (hL.el _ hm).2.1 S F;have he:(yg5 n S F L).take (i+1)=(yg5 n S F L).take i++[btw n (L.getD i el0).1.2 S F]:=by
    rw[yg4 (show i<(yg5 n S F L).length by omega),yb4 el0 hi];simp[yg5]
   have hk:∀(b:Nat),(bif Nat.beq (btw n (L.getD i el0).1.2 S F).toNat b then true else mk i (b:Int))=mk (i+1) (b:Int):=by
    intro b;show _=decide ((b:Int)∈(yg5 n S F L).take (i+1));rw[he]
    by_cases e:(btw n (L.getD i el0).1.2 S F).toNat=b
    ·have e2:(b:Int)=btw n (L.getD i el0).1.2 S F:=by omega
     rw[show Nat.beq (btw n (L.getD i el0).1.2 S F).toNat b=true from by rw[e];exact Nat.beq_refl b,e2];simp
    ·have e2:(b:Int)≠btw n (L.getD i el0).1.2 S F:=by omega
     rw[show Nat.beq (btw n (L.getD i el0).1.2 S F).toNat b=false from by
      cases h:Nat.beq (btw n (L.getD i el0).1.2 S F).toNat b with
      |false=>rfl
      |true=>exact absurd (Nat.eq_of_beq_eq_true h) e]
     simp only[cond_false];exact decide_eq_decide.2 ⟨fun h=>List.mem_append.2 (.inl h),fun h=>(List.mem_append.1 h).resolve_right fun h=>e2 (List.mem_singleton.1 h)⟩
   have h0:=hk 0;have h1:=hk 1;have h2:=hk 2;have h3:=hk 3;simp only[ym0,lt_t hi,cond_true,if_pos (in_t hi),Int.toNat_natCast,Nat.zero_add,hat.1,hb,Option.bind_some,List.drop_zero,List.take_length,List.length_nil,List.take_nil];rw[if_pos ⟨hr.1,by omega⟩,ya3 hi (by omega)];simp only[show(1:Nat)+1=2 from rfl,show(2:Nat)+1=3 from rfl];rw[show(bif Nat.beq (btw n (L.getD i el0).1.2 S F).toNat 0 then true else mk i 0)=mk (i+1) 0 from h0,show(bif Nat.beq (btw n (L.getD i el0).1.2 S F).toNat 1 then true else mk i 1)=mk (i+1) 1 from h1,
    show(bif Nat.beq (btw n (L.getD i el0).1.2 S F).toNat 2 then true else mk i 2)=mk (i+1) 2 from h2,show(bif Nat.beq (btw n (L.getD i el0).1.2 S F).toNat 3 then true else mk i 3)=mk (i+1) 3 from h3])
  (fun m ho=>by simp only[ym0,lt_f,cond_false,List.drop_zero,List.take_length,List.length_nil,List.take_nil])
  (false,false,false,false) (by simp[mk])
 have g1:ya2 ym0 (((n:Int),S,F,l,()),[],(false,false,false,false,()),L,(L.length:Int),(0:Int),())=_:=g1;have hmk:∀g,mk L.length g=decide (g∈yg5 n S F L):=fun g=>by
  show decide _=_;rw[List.take_of_length_le (by omega)]
 rw[hmk,hmk,hmk,hmk] at g2;subst g2;have lp:∀m0 m1 m2 m3:Bool,ya2 yi7 ([],(m0,m1,m2,m3),(0:Int),())=some ([0,1,2,3].filter (fun g:Int=>[m0,m1,m2,m3].getD g.toNat false),()):=by
  intro m0 m1 m2 m3;obtain⟨r,k1,k2⟩:=yd9 (f:=yi7) 4 (fun i (o:List Int)=>(o,(m0,m1,m2,m3),(i:Int),())) (fun i o=>bif [m0,m1,m2,m3].getD i false then o++[(i:Int)] else o) (fun o=>(o,())) (fun i o=>o=(([0,1,2,3]:List Int).take i).filter (fun g:Int=>[m0,m1,m2,m3].getD g.toNat false))
   (fun i o hi ho=>by
    subst ho
    match i,hi with
    |0,_=>cases m0<;>rfl
    |1,_=>cases m0<;>cases m1<;>rfl
    |2,_=>cases m0<;>cases m1<;>cases m2<;>rfl
    |3,_=>cases m0<;>cases m1<;>cases m2<;>cases m3<;>rfl)
   (fun i o hi ho=>by
    have hol:o.length≤4:=by subst ho;exact Nat.le_trans (List.length_filter_le _ _) (by simp;omega)
    simp only[yi7,decide_eq_true (show(i:Int)<4 by omega),cond_true,Int.toNat_natCast,Nat.zero_add,List.drop_zero,List.take_length,show ∀z:Int,List.take 1 [z]=[z] from fun _=>rfl];rw[if_pos ⟨by omega,by omega⟩,ya3 hi (by omega)];cases[m0,m1,m2,m3].getD i false with
    |false=>simp only[cond_false]
    |true=>
     simp only[cond_true];rw[if_pos ⟨trivial,by simp;omega⟩,List.take_of_length_le (by simp)])
   (fun o ho=>by simp only[yi7,show decide (((4:Nat):Int)<4)=false from rfl,cond_false,List.drop_zero,List.take_length])
   [] rfl
  have k1:ya2 yi7 ([],(m0,m1,m2,m3),(0:Int),())=_:=k1;rw[k1,k2];rfl
 simp only[ys2,hE,Option.bind_some,Bool.not_true,cond_false,List.drop_zero,List.take_length,List.take_nil,g1,List.length_nil,lp];rfl
theorem zz0{a:Aut}(hE:yd5 a=some ([],false))(hI:ya6 a=some ([],false)):ys2 a=some ([],false)∧yr7 a=some ([],false):=by
 obtain⟨x,S,F,l⟩:=a;constructor
 ·simp only[ys2,hE,Option.bind_some,Bool.not_false,cond_true,List.drop_zero,List.take_nil]
 ·simp only[yr7,hI,Option.bind_some,Bool.not_false,cond_true]
/-- both sides tell the same grades -/
theorem z6j{a:Aut}{n:Nat}(ha:AutIs a n)(hv:yo7 a=true)(hs:yy1 a):∃L ok,LOk n L∧yd5 a=some (L,ok)∧ya6 a=some (L,ok)∧(ok=false→L=[])∧
  ys2 a=some (if ok then gset (yg5 n a.2.1 a.2.2.1 L) else[],ok)∧yr7 a=some (if ok then gset (yg5 n a.2.1 a.2.2.1 L) else[],ok):=by
 obtain⟨L,ok,hL,e1,e2,e0⟩:=zu3 ha hv hs;refine⟨L,ok,hL,e1,e2,e0, ?_⟩;cases ok with
 |true=>exact⟨z6i ha hs hL e1,z6h ha hv hs hL e2⟩
 |false=>
  obtain rfl:=e0 rfl;exact zz0 e1 e2
end Go.Proofs.YtafognnoibjjeaaGreatDoor
