/- What the grades of a word tell of its runs. -/
import Derived.Test.YtafognnoibjjeaaGreatDoorP56
import Derived.Test.YtafognnoibjjeaaGreatDoorP67
set_option linter.unusedVariables false
set_option linter.unusedSimpArgs false
namespace Go.Proofs.YtafognnoibjjeaaGreatDoor
open Go Go.Proofs.YtafognnoibjjeaaGreatDoor.Am
theorem run_app{l:List Stp}:∀{ws vs:List UInt8} {i k c:Int},Run l (ws++vs) i k c↔∃j c1 c2,Run l ws i j c1∧Run l vs j k c2∧c=c1+c2
 |[],vs,i,k,c=>by
  simp only[List.nil_append,Run];constructor
  ·intro h;exact⟨i,0,c,⟨rfl,rfl⟩,h,by omega⟩
  ·rintro⟨j,c1,c2,⟨rfl,rfl⟩,h,rfl⟩;rw[show(0:Int)+c2=c2 by omega];exact h
 |b::ws,vs,i,k,c=>by
  simp only[List.cons_append,Run];constructor
  ·rintro⟨s,h1,h2,h3,c',h4,rfl⟩;obtain⟨j,c1,c2,g1,g2,rfl⟩:=run_app.1 h4;exact⟨j,s.2.2.2+c1,c2,⟨s,h1,h2,h3,c1,g1,rfl⟩,g2,by omega⟩
  ·rintro⟨j,c1,c2,⟨s,h1,h2,h3,c',h4,rfl⟩,g2,rfl⟩;exact⟨s,h1,h2,h3,c'+c2,run_app.2 ⟨j,c',c2,h4,g2,rfl⟩,by omega⟩
theorem zr8{n:Int}{l:List Stp}(hl:∀s∈l,StepIs n s):∀{ws:List UInt8} {i k c:Int},Run l ws i k c→(0≤i∧i≤n-1)→0≤k∧k≤n-1
 |[],i,k,c,h,hi=>by simp only[Run] at h;omega
 |b::ws,i,k,c,h,hi=>by
  simp only[Run] at h;obtain⟨s,h1,_,_,c',h3,_⟩:=h;exact zr8 hl h3 ⟨(hl s h1).t0,(hl s h1).t1⟩
theorem k18{n:Nat}{l:List Stp}(hl:∀s∈l,StepIs (n:Int) s){b:UInt8}{M:List Int}(hM:MatIs n l [b] M):ProdIs n l [b] M:=by
 refine⟨hM.1,fun i k hi hk z=> ?_⟩;rw[hM.2 i k hi hk z];refine and_congr_right fun hz=> ?_;constructor
 ·rintro h c ⟨s,h1,h2,h3,c',⟨h4,rfl⟩,rfl⟩;have:=h s h1 h2 h3 h4;omega
 ·intro h s h1 h2 h3 h4;have:=h (s.2.2.2+0) ⟨s,h1,h2,h3,0,⟨h4,rfl⟩,rfl⟩;omega
/-- a word's grades: where there is a run, and where there is one that costs nothing -/
def GM(n:Nat)(l:List Stp)(ws:List UInt8)(A:List Int):Prop:=
 GOk n A∧∀i k:Nat,i<n→k<n→(A.getD (i*n+k) 0≤2↔∃c,Run l ws (i:Int) (k:Int) c)∧(A.getD (i*n+k) 0≤0↔Run l ws (i:Int) (k:Int) 0)
theorem gr_two{x:Int}(h:0≤x∧x≤Nv):(gr x≤2↔x<Nv)∧(gr x≤0↔x≤0):=by
 have h1:x≤1000000:=h.2;unfold gr;constructor
 ·split
  ·exact⟨fun _=>by show x<1000000;omega,fun _=>by omega⟩
  ·split
   ·exact⟨fun h=>absurd h (by decide),fun h=>absurd h (by show ¬x<1000000;omega)⟩
   ·exact⟨fun _=>by show x<1000000;omega,fun _=>by omega⟩
 ·split
  ·exact⟨fun _=>by omega,fun _=>by omega⟩
  ·split
   ·exact⟨fun h=>absurd h (by decide),fun h=>absurd h (by omega)⟩
   ·exact⟨fun h=>absurd h (by decide),fun h=>absurd h (by omega)⟩
theorem map_at{M:List Int}{f:Int→Int}{j:Nat}(h:j<M.length):(M.map f).getD j 0=f (M.getD j 0):=by
 rw[yb4 0 (by rw[List.length_map];exact h),yb4 0 h,List.getElem_map]
theorem kw1{n:Nat}{l:List Stp}(hl:∀s∈l,StepIs (n:Int) s){b:UInt8}{M:List Int}(hM:ProdIs n l [b] M):GM n l [b] (M.map gr):=by
 refine⟨z3t hM.1.1,fun i k hi hk=> ?_⟩;have hx:=hM.1.at (yw1 hi hk);rw[map_at (by rw[hM.1.1];exact yw1 hi hk)];have hz:=hM.2 i k hi hk;obtain⟨g1,g2⟩:=gr_two hx;rw[g1,g2];have small:∀c,Run l [b] (i:Int) (k:Int) c→c≤3:=by
  intro c hc;simp only[Run] at hc;obtain⟨s,hs,_,_,c',⟨_,rfl⟩,rfl⟩:=hc;have:=(hl s hs).c1;omega
 constructor
 ·constructor
  ·intro h;apply Classical.byContradiction;intro hno;have:=(hz Nv).2 ⟨Int.le_refl _,fun c hc=>absurd ⟨c,hc⟩ hno⟩;omega
  ·rintro⟨c,hc⟩;have h1:=((hz _).1 (Int.le_refl _)).2 c hc;have h2:=small c hc;show _<(1000000:Int);omega
 ·constructor
  ·intro h;apply Classical.byContradiction;intro hno;have:=(hz 1).2 ⟨by decide,fun c hc=>by
    have h1:=Run.nonneg hl hc
    by_cases e:c=0
    ·subst e;exact absurd hc hno
    ·omega⟩
   omega
  ·intro hc;exact((hz _).1 (Int.le_refl _)).2 0 hc
theorem z1l{n:Nat}{A B:List Int}{i k:Nat}(hi:i<n)(hk:k<n){z:Int}(hz:z≤2):(gmul n A B).getD (i*n+k) 0≤z↔∃j,j<n∧A.getD (i*n+j) 0≤z∧B.getD (j*n+k) 0≤z:=by
 have h:=gmul_le (A:=A) (B:=B) hi hk (z+1);constructor
 ·intro h1;apply Classical.byContradiction;intro hno;have:=h.2 ⟨by omega,fun j hj=>by
   by_cases c:z+1≤A.getD (i*n+j) 0
   ·exact .inl c
   ·refine .inr ?_
    by_cases d:z+1≤B.getD (j*n+k) 0
    ·exact d
    ·exact absurd ⟨j,hj,by omega,by omega⟩ hno⟩
  omega
 ·rintro⟨j,hj,h1,h2⟩;apply Classical.byContradiction;intro hno
  rcases(h.1 (by omega)).2 j hj with h3|h3<;>omega
theorem kw2{n:Nat}{A:List Int}(i:Int)(z:Int):∀(F:List Int) (c:Int),z≤btwF n A i F c↔z≤c∧∀k∈F,z≤A.getD (i.toNat*n+k.toNat) 0
 |[],c=>⟨fun h=>⟨h,fun k hk=>by cases hk⟩,fun h=>h.1⟩
 |k::F,c=>by
  show z≤btwF n A i F (mn c _)↔_;rw[kw2 i z F,mn_le];simp only[List.mem_cons,forall_eq_or_imp];exact and_assoc
theorem kw3{n:Nat}{A:List Int}(F:List Int)(z:Int):∀(S:List Int) (c:Int),z≤S.foldl (fun c i=>btwF n A i F c) c↔z≤c∧∀i∈S,∀k∈F,z≤A.getD (i.toNat*n+k.toNat) 0
 |[],c=>⟨fun h=>⟨h,fun k hk=>by cases hk⟩,fun h=>h.1⟩
 |i::S,c=>by
  rw[List.foldl_cons,kw3 F z S,kw2];simp only[List.mem_cons,forall_eq_or_imp];exact and_assoc
theorem btw_le{n:Nat}{A:List Int}(S F:List Int)(z:Int):z≤btw n A S F↔z≤3∧∀i∈S,∀k∈F,z≤A.getD (i.toNat*n+k.toNat) 0:=kw3 F z S 3
end Go.Proofs.YtafognnoibjjeaaGreatDoor
