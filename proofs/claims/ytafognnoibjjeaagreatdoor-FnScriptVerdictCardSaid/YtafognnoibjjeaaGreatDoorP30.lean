import Derived.Test.YtafognnoibjjeaaGreatDoorP10
set_option linter.unusedVariables false
set_option linter.unusedSimpArgs false
/- Matrices of grades: products and what is repeated again and again, by the reference and by the program. -/
namespace Go.Proofs.YtafognnoibjjeaaGreatDoor
open Go Go.Proofs.YtafognnoibjjeaaGreatDoor.Am
/-- grades in a square -/
def GOk(n:Nat)(A:List Int):Prop:=A.length=n*n∧∀x∈A,0≤x∧x≤3
theorem GOk.at{n i:Nat}{A:List Int}(h:GOk n A)(hi:i<n*n):0≤A.getD i 0∧A.getD i 0≤3:=by
 have hi':i<A.length:=by rw[h.1];exact hi
 rw[List.getD_eq_getElem?_getD,List.getElem?_eq_getElem hi'];exact h.2 _ (List.getElem_mem hi')
def mn(x y:Int):Int:=if y<x then y else x
def mx(x y:Int):Int:=if y>x then y else x
theorem mn_rng{x y:Int}(hx:0≤x∧x≤3)(hy:0≤y∧y≤3):0≤mn x y∧mn x y≤3:=by unfold mn;split<;>omega
theorem ku5{x y:Int}(hx:0≤x∧x≤3)(hy:0≤y∧y≤3):0≤mx x y∧mx x y≤3:=by unfold mx;split<;>omega
/-- a square of what is told of each two numbers -/
def mk(n:Nat)(c:Nat→Nat→Int):List Int:=(List.range (n*n)).map fun m=>c (m/n) (m%n)
theorem mk_len(n:Nat)(c:Nat→Nat→Int):(mk n c).length=n*n:=by simp[mk]
theorem ku6{n i k:Nat}(c:Nat→Nat→Int)(hi:i<n)(hk:k<n):(mk n c).getD (i*n+k) 0=c i k:=by
 have h:=yw1 hi hk;have e:=col_row (i:=i) hk;unfold mk;rw[List.getD_eq_getElem?_getD,List.getElem?_map,List.getElem?_range h];simp only[Option.map_some,Option.getD_some,e.1,e.2]
theorem mat_ext{n:Nat}{A B:List Int}(hA:A.length=n*n)(hB:B.length=n*n)(h:∀i k,i<n→k<n→A.getD (i*n+k) 0=B.getD (i*n+k) 0):A=B:=by
 apply List.ext_getElem (by rw[hA,hB]);intro m h1 h2;rw[hA] at h1;obtain⟨r1,r2,r3⟩:=z09 h1;have:=h (m/n) (m%n) r1 r2;rw[r3,List.getD_eq_getElem?_getD,List.getD_eq_getElem?_getD,List.getElem?_eq_getElem (by omega),List.getElem?_eq_getElem (by omega)] at this;exact this
theorem mk_is{n:Nat}{C:List Int}{c:Nat→Nat→Int}(hC:C.length=n*n)(h:∀i k,i<n→k<n→C.getD (i*n+k) 0=c i k):C=mk n c:=
 mat_ext hC (mk_len n c) fun i k hi hk=>by rw[h i k hi hk,ku6 c hi hk]
theorem mk_ok{n:Nat}{c:Nat→Nat→Int}(h:∀i k,i<n→k<n→0≤c i k∧c i k≤3):GOk n (mk n c):=by
 refine⟨mk_len n c,fun x hx=> ?_⟩;unfold mk at hx;obtain⟨m,hm,rfl⟩:=List.mem_map.1 hx;have hm:=List.mem_range.1 hm;obtain⟨r1,r2,r3⟩:=z09 hm;exact h _ _ r1 r2
/-! ### products -/
def gcN(n:Nat)(A B:List Int)(i k:Nat):Nat→Int
 |0=>3
 |l+1=>mn (gcN n A B i k l) (mx (A.getD (i*n+l) 0) (B.getD (l*n+k) 0))
def gmul(n:Nat)(A B:List Int):List Int:=mk n fun i k=>gcN n A B i k n
theorem ku7{n:Nat}{A B:List Int}(hA:GOk n A)(hB:GOk n B){i k:Nat}(hi:i<n)(hk:k<n):∀l,l≤n→0≤gcN n A B i k l∧gcN n A B i k l≤3
 |0,_=>by simp[gcN]
 |l+1,hl=>mn_rng (ku7 hA hB hi hk l (by omega)) (ku5 (hA.at (yw1 hi (by omega))) (hB.at (yw1 (by omega) hk)))
theorem yy8{n:Nat}{A B:List Int}(hA:GOk n A)(hB:GOk n B):GOk n (gmul n A B):=mk_ok fun i k hi hk=>ku7 hA hB hi hk n (Nat.le_refl n)
theorem k1o{n:Nat}(h4:n≤4){A B:List Int}(hA:GOk n A)(hB:GOk n B)(o:List Int){m:Nat}(hm:m<n*n):
  ya2 yr9 (((n:Int),A,()),((n:Int),B,()),((0:Int),[],()),((n:Int),o,()),(m:Int),(3:Int),((n*n:Nat):Int),(m:Int),(n:Int),(0:Int),())=
   some (((n:Int),A,()),((n:Int),B,()),((0:Int),[],()),((n:Int),o,()),gcN n A B (m/n) (m%n) n,((n*n:Nat):Int),(m:Int),()):=by
 have hsq:=y1l h4;obtain⟨r1,r2,r3⟩:=z09 hm;obtain⟨r,g1,g2⟩:=yd9 (f:=yr9) n (fun l (c:Int)=>(((n:Int),A,()),((n:Int),B,()),((0:Int),[],()),((n:Int),o,()),(m:Int),c,((n*n:Nat):Int),(m:Int),(n:Int),(l:Int),()))
  (fun l c=>mn c (mx (A.getD (m/n*n+l) 0) (B.getD (l*n+m%n) 0)))
  (fun c=>(((n:Int),A,()),((n:Int),B,()),((0:Int),[],()),((n:Int),o,()),c,((n*n:Nat):Int),(m:Int),())) (fun l c=>c=gcN n A B (m/n) (m%n) l)
  (fun l c hl hc=>by subst hc;rfl)
  (fun l c hl hc=>by
   have e1:=yw1 r1 hl;have e2:=yw1 hl r2;simp only[yr9,lt_t hl,cond_true,div_is,mod_is,w64n (show m/n≤1000000 by omega),mulw (show m/n*n+l≤1000000 by omega),mulw (show l*n+m%n≤1000000 by omega),Int.toNat_natCast];rw[if_neg (by omega),if_pos ⟨by omega,by rw[hA.1];omega⟩,if_neg (by omega),if_pos ⟨by omega,by rw[hB.1];omega⟩];simp only[List.drop_zero,List.take_length,ya3 hl (show n≤9223372036854775807 by omega)];rfl)
  (fun c hc=>by simp only[yr9,lt_f,cond_false,List.drop_zero,List.take_length])
  3 rfl
 rw[g2] at g1;exact g1
theorem z1a{n:Nat}(h4:n≤4){A B:List Int}(hA:GOk n A)(hB:GOk n B):y2f ((n:Int),A) ((n:Int),B)=some ((n:Int),gmul n A B):=by
 have hsq:=y1l h4;simp only[y2f,sqw h4];obtain⟨r,g1,g2⟩:=yd9 (f:=ys1) (n*n) (fun m (o:List Int)=>(((n:Int),A,()),((n:Int),B,()),((0:Int),[],()),((n:Int),o,()),((n*n:Nat):Int),(m:Int),()))
  (fun m o=>o++[gcN n A B (m/n) (m%n) n]) (fun o=>(((0:Int),[],()),((n:Int),o,()),())) (fun m o=>o=(List.range m).map fun m=>gcN n A B (m/n) (m%n) n)
  (fun m o hm ho=>by subst ho;rw[List.range_succ,List.map_append];rfl)
  (fun m o hm ho=>by
   have hol:o.length=m:=by subst ho;simp
   simp only[ys1,lt_t hm,cond_true,List.drop_zero,List.take_length];rw[k1o h4 hA hB o hm];simp only[Option.bind_some,List.drop_zero,List.take_length,Nat.zero_add];rw[show List.take 1 [gcN n A B (m/n) (m%n) n]=[gcN n A B (m/n) (m%n) n] from rfl,if_pos ⟨trivial,by simp;omega⟩,List.take_of_length_le (by simp),ya3 hm (by omega)])
  (fun o ho=>by simp only[ys1,lt_f,cond_false,List.drop_zero,List.take_length])
  [] rfl
 have g1:ya2 ys1 (((n:Int),A,()),((n:Int),B,()),((0:Int),[],()),((n:Int),[],()),((n*n:Nat):Int),(0:Int),())=_:=g1;rw[g1,g2];simp only[Option.bind_some,List.drop_zero,List.take_length];rfl
/-! ### what is repeated again and again -/
def ag(g:Int):Int:=if g=1 then 2 else g
def gsN(n:Nat)(A:List Int)(i k:Nat):Nat→Int
 |0=>3
 |l+1=>mn (gsN n A i k l) (mx (mx (A.getD (i*n+l) 0) (ag (A.getD (l*n+l) 0))) (A.getD (l*n+k) 0))
def y0r(n:Nat)(A:List Int):List Int:=mk n fun i k=>gsN n A i k n
theorem ag_rng{x:Int}(h:0≤x∧x≤3):0≤ag x∧ag x≤3:=by unfold ag;split<;>omega
theorem ku8{n:Nat}{A:List Int}(hA:GOk n A){i k:Nat}(hi:i<n)(hk:k<n):∀l,l≤n→0≤gsN n A i k l∧gsN n A i k l≤3
 |0,_=>by simp[gsN]
 |l+1,hl=>mn_rng (ku8 hA hi hk l (by omega)) (ku5 (ku5 (hA.at (yw1 hi (by omega))) (ag_rng (hA.at (yw1 (by omega) (by omega))))) (hA.at (yw1 (by omega) hk)))
theorem y5h{n:Nat}{A:List Int}(hA:GOk n A):GOk n (y0r n A):=mk_ok fun i k hi hk=>ku8 hA hi hk n (Nat.le_refl n)
theorem z9x(g:Int):y3i g=some (ag g):=by
 unfold y3i ag
 by_cases h:g=1
 ·subst h;rfl
 ·have:(g==1)=false:=by simpa using h
  simp only[this,cond_false,if_neg h]
theorem z54{n:Nat}(h4:n≤4){A:List Int}(hA:GOk n A)(o:List Int){m:Nat}(hm:m<n*n):
  ya2 yl8 (((n:Int),A,()),((0:Int),[],()),((n:Int),o,()),(m:Int),(3:Int),((n*n:Nat):Int),(m:Int),(n:Int),(0:Int),())=
   some (((n:Int),A,()),((0:Int),[],()),((n:Int),o,()),gsN n A (m/n) (m%n) n,((n*n:Nat):Int),(m:Int),()):=by
 have hsq:=y1l h4;obtain⟨r1,r2,r3⟩:=z09 hm;obtain⟨r,g1,g2⟩:=yd9 (f:=yl8) n (fun l (c:Int)=>(((n:Int),A,()),((0:Int),[],()),((n:Int),o,()),(m:Int),c,((n*n:Nat):Int),(m:Int),(n:Int),(l:Int),()))
  (fun l c=>mn c (mx (mx (A.getD (m/n*n+l) 0) (ag (A.getD (l*n+l) 0))) (A.getD (l*n+m%n) 0)))
  (fun c=>(((n:Int),A,()),((0:Int),[],()),((n:Int),o,()),c,((n*n:Nat):Int),(m:Int),())) (fun l c=>c=gsN n A (m/n) (m%n) l)
  (fun l c hl hc=>by subst hc;rfl)
  (fun l c hl hc=>by
   have e1:=yw1 r1 hl;have e2:=yw1 hl r2;have e3:=yw1 hl hl;simp only[yl8,lt_t hl,cond_true,div_is,mod_is,w64n (show m/n≤1000000 by omega),mulw (show m/n*n+l≤1000000 by omega),mulw (show l*n+m%n≤1000000 by omega),mulw (show l*n+l≤1000000 by omega),Int.toNat_natCast,z9x,Option.bind_some];rw[if_neg (by omega),if_pos ⟨by omega,by rw[hA.1];omega⟩,if_pos ⟨by omega,by rw[hA.1];omega⟩,if_neg (by omega),if_pos ⟨by omega,by rw[hA.1];omega⟩];simp only[List.drop_zero,List.take_length,ya3 hl (show n≤9223372036854775807 by omega)];rfl)
  (fun c hc=>by simp only[yl8,lt_f,cond_false,List.drop_zero,List.take_length])
  3 rfl
 rw[g2] at g1;exact g1
theorem z56{n:Nat}(h4:n≤4){A:List Int}(hA:GOk n A):y18 ((n:Int),A)=some ((n:Int),y0r n A):=by
 have hsq:=y1l h4;simp only[y18,sqw h4];obtain⟨r,g1,g2⟩:=yd9 (f:=yl9) (n*n) (fun m (o:List Int)=>(((n:Int),A,()),((0:Int),[],()),((n:Int),o,()),((n*n:Nat):Int),(m:Int),()))
  (fun m o=>o++[gsN n A (m/n) (m%n) n]) (fun o=>(((0:Int),[],()),((n:Int),o,()),())) (fun m o=>o=(List.range m).map fun m=>gsN n A (m/n) (m%n) n)
  (fun m o hm ho=>by subst ho;rw[List.range_succ,List.map_append];rfl)
  (fun m o hm ho=>by
   have hol:o.length=m:=by subst ho;simp
   simp only[yl9,lt_t hm,cond_true,List.drop_zero,List.take_length];rw[z54 h4 hA o hm];simp only[Option.bind_some,List.drop_zero,List.take_length,Nat.zero_add];rw[show List.take 1 [gsN n A (m/n) (m%n) n]=[gsN n A (m/n) (m%n) n] from rfl,if_pos ⟨trivial,by simp;omega⟩,List.take_of_length_le (by simp),ya3 hm (by omega)])
  (fun o ho=>by simp only[yl9,lt_f,cond_false,List.drop_zero,List.take_length])
  [] rfl
 have g1:ya2 yl9 (((n:Int),A,()),((0:Int),[],()),((n:Int),[],()),((n*n:Nat):Int),(0:Int),())=_:=g1;rw[g1,g2];simp only[Option.bind_some,List.drop_zero,List.take_length];rfl
/-! ### the program's way -/
theorem at_is{n:Nat}(h4:n≤4){A:List Int}(hA:A.length=n*n){i k:Nat}(hi:i<n)(hk:k<n):yf6 ((n:Int),A) (i:Int) (k:Int)=some (A.getD (i*n+k) 0):=by
 have hsq:=y1l h4;have e1:=yw1 hi hk;simp only[yf6,mulw (show i*n+k≤1000000 by omega),Int.toNat_natCast];rw[if_pos ⟨by omega,by rw[hA];omega⟩]
theorem y9o{n:Nat}(h4:n≤4){φ:(Int×Int×Unit)→Option Int}{c:Nat→Nat→Int}(hφ:∀i k,i<n→k<n→φ ((i:Int),(k:Int),())=some (c i k)):yr6 (n:Int) φ=some ((n:Int),mk n c):=by
 have hsq:=y1l h4;have inner:∀(i:Nat),i<n→∀o:List Int,o.length=i*n→ya2 yp9 ((n:Int),φ,((0:Int),[],()),((n:Int),o,()),(i:Int),(n:Int),(i:Int),(n:Int),(0:Int),())=
   some ((n:Int),φ,((0:Int),[],()),((n:Int),o++(List.range n).map (c i),()),(n:Int),(i:Int),()):=by
  intro i hi o hol;have e0:(i+1)*n≤n*n:=Nat.mul_le_mul_right _ hi;rw[Nat.add_mul] at e0;obtain⟨r,g1,g2⟩:=yd9 (f:=yp9) n (fun k (u:List Int)=>((n:Int),φ,((0:Int),[],()),((n:Int),u,()),(i:Int),(n:Int),(i:Int),(n:Int),(k:Int),()))
   (fun k u=>u++[c i k]) (fun u=>((n:Int),φ,((0:Int),[],()),((n:Int),u,()),(n:Int),(i:Int),())) (fun k u=>u=o++(List.range k).map (c i))
   (fun k u hk hu=>by subst hu;rw[List.range_succ,List.map_append,List.append_assoc];rfl)
   (fun k u hk hu=>by
    have hul:u.length=i*n+k:=by subst hu;simp[hol]
    simp only[yp9,lt_t hk,cond_true,hφ i k hi hk,Option.bind_some,List.drop_zero,List.take_length,Nat.zero_add];rw[show List.take 1 [c i k]=[c i k] from rfl,if_pos ⟨trivial,by simp;omega⟩,List.take_of_length_le (by simp),ya3 hk (by omega)])
   (fun u hu=>by simp only[yp9,lt_f,cond_false,List.drop_zero,List.take_length])
   o (by simp)
  rw[g2] at g1;exact g1
 obtain⟨r,g1,g2⟩:=yd9 (f:=yq0) n (fun i (o:List Int)=>((n:Int),φ,((0:Int),[],()),((n:Int),o,()),(n:Int),(i:Int),()))
  (fun i o=>o++(List.range n).map (c i)) (fun o=>(((0:Int),[],()),((n:Int),o,()),())) (fun i o=>o.length=i*n∧∀a b,a<i→b<n→o.getD (a*n+b) 0=c a b)
  (fun i o hi ho=>by
   refine⟨by rw[List.length_append,ho.1,Nat.add_mul];simp,fun a b ha hb=> ?_⟩
   by_cases e:a=i
   ·subst e;rw[List.getD_eq_getElem?_getD,List.getElem?_append_right (by rw[ho.1];omega),ho.1,Nat.add_sub_cancel_left,List.getElem?_map,List.getElem?_range hb];rfl
   ·have e1:(a+1)*n≤i*n:=Nat.mul_le_mul_right _ (by omega);rw[Nat.add_mul] at e1;rw[←ho.2 a b (by omega) hb,List.getD_eq_getElem?_getD,List.getElem?_append_left (by rw[ho.1];omega),List.getD_eq_getElem?_getD])
  (fun i o hi ho=>by
   simp only[yq0,lt_t hi,cond_true,List.drop_zero,List.take_length];rw[inner i hi o ho.1];simp only[Option.bind_some,List.drop_zero,List.take_length,ya3 hi (show n≤9223372036854775807 by omega)])
  (fun o ho=>by simp only[yq0,lt_f,cond_false,List.drop_zero,List.take_length])
  [] ⟨by simp,fun a b ha=>by omega⟩
 have g1:ya2 yq0 ((n:Int),φ,((0:Int),[],()),((n:Int),[],()),(n:Int),(0:Int),())=_:=g1;simp only[yr6];rw[g1];simp only[Option.bind_some,List.drop_zero,List.take_length];rw[mk_is g2.1 g2.2]
end Go.Proofs.YtafognnoibjjeaaGreatDoor

/- Lists that are searched and compared; matrices of grades, the program's way. -/
namespace Go.Proofs.YtafognnoibjjeaaGreatDoor
open Go Go.Proofs.YtafognnoibjjeaaGreatDoor.Am
theorem yb4{α:Type}{l:List α}{i:Nat}(d:α)(hi:i<l.length):l.getD i d=l[i]:=by
 rw[List.getD_eq_getElem?_getD,List.getElem?_eq_getElem hi];rfl
theorem zc1{α:Type}(xs:List α)(d:α)(p:α→Bool):((List.range xs.length).find? fun i=>p (xs.getD i d)).isSome=xs.any p:=by
 rw[Bool.eq_iff_iff,List.find?_isSome,List.any_eq_true];constructor
 ·rintro⟨i,hi,hp⟩;have hi:=List.mem_range.1 hi;exact⟨xs[i],List.getElem_mem hi,by rw[←yb4 d hi];exact hp⟩
 ·rintro⟨x,hx,hp⟩;obtain⟨i,hi,rfl⟩:=List.getElem_of_mem hx;exact⟨i,List.mem_range.2 hi,by rw[yb4 d hi];exact hp⟩
theorem eq_idx{a b:List Int}(h:a.length=b.length):((List.range a.length).find? fun i=>a.getD i 0 != b.getD i 0).isSome= !decide (a=b):=by
 rw[Bool.eq_iff_iff,List.find?_isSome];simp only[Bool.not_eq_true',decide_eq_false_iff_not];constructor
 ·rintro⟨i,hi,hp⟩ e;subst e;simp at hp
 ·intro hne;apply Classical.byContradiction;intro hn;apply hne;apply List.ext_getElem h;intro i h1 h2;apply Classical.byContradiction;intro hh;refine hn ⟨i,List.mem_range.2 h1, ?_⟩;rw[yb4 0 h1,yb4 0 h2];simpa using hh
theorem zq4{xs:List Int}(hl:xs.length≤1000000){φ:(Int×Unit)→Option Bool}{p:Int→Bool}(hφ:∀x∈xs,φ (x,())=some (p x)):yn7 xs φ=some (xs.any p):=by
 have g:=yr0 (f:=yi0) (fun i=>(xs,φ,(xs.length:Int),(i:Int),())) xs.length (fun i=>p (xs.getD i 0)) (fun i=>Sum.inl ((i:Int),())) (Sum.inr ())
  (fun i hi=>by
   have hm:xs.getD i 0∈xs:=by rw[yb4 0 hi];exact List.getElem_mem hi
   simp only[yi0,lt_t hi,cond_true,Int.toNat_natCast];rw[if_pos (in_t hi),hφ _ hm];simp only[Option.bind_some,ya3 hi (show xs.length≤9223372036854775807 by omega)];cases p (xs.getD i 0)<;>rfl)
  (by simp only[yi0,lt_f,cond_false])
 have g:ya2 yi0 (xs,φ,(xs.length:Int),(0:Int),())=_:=g;simp only[yn7,y1v];rw[g,←zc1 xs 0 p];cases(List.range xs.length).find? fun i=>p (xs.getD i 0) with
 |none=>rfl
 |some i=>simp only[Option.bind_some,Option.isSome_some];rw[decide_eq_true (by omega)]
theorem zq5{a b:List Int}(h:a.length=b.length)(hl:a.length≤1000000):yv3 a b=some (decide (a=b)):=by
 have g:=yr0 (f:=yq2) (fun i=>(a,b,(a.length:Int),(i:Int),())) a.length (fun i=>a.getD i 0 != b.getD i 0) (fun i=>Sum.inl (false,())) (Sum.inr (a,b,()))
  (fun i hi=>by
   simp only[yq2,lt_t hi,cond_true,Int.toNat_natCast];rw[if_pos (in_t hi),if_pos (in_t (show i<b.length by omega))];simp only[ya3 hi (show a.length≤9223372036854775807 by omega)];cases a.getD i 0 != b.getD i 0<;>rfl)
  (by simp only[yq2,lt_f,cond_false])
 have g:ya2 yq2 (a,b,(a.length:Int),(0:Int),())=_:=g;have e:=eq_idx h;simp only[yv3,←h];rw[if_neg (by omega),g];cases hf:(List.range a.length).find? fun i=>a.getD i 0 != b.getD i 0 with
 |none=>
  rw[hf] at e;simp only[Option.bind_some,←h,BEq.rfl];rw[show decide (a=b)=true by simpa using e.symm]
 |some i=>
  rw[hf] at e;simp only[Option.bind_some];rw[show decide (a=b)=false by simpa using e.symm]
theorem k1p{a b:List Int}(h:a.length=b.length)(hl:a.length≤1000000):y3g a b=some (decide (a=b)):=by
 have g:=yr0 (f:=yn8) (fun i=>(a,b,(a.length:Int),(i:Int),())) a.length (fun i=>a.getD i 0 != b.getD i 0) (fun i=>Sum.inl (false,())) (Sum.inr ())
  (fun i hi=>by
   simp only[yn8,lt_t hi,cond_true,Int.toNat_natCast];rw[if_pos (in_t hi),if_pos (in_t (show i<b.length by omega))];simp only[ya3 hi (show a.length≤9223372036854775807 by omega)];cases a.getD i 0 != b.getD i 0<;>rfl)
  (by simp only[yn8,lt_f,cond_false])
 have g:ya2 yn8 (a,b,(a.length:Int),(0:Int),())=_:=g;have e:=eq_idx h;simp only[y3g,←h,bne_self_eq_false,cond_false];rw[g];cases hf:(List.range a.length).find? fun i=>a.getD i 0 != b.getD i 0 with
 |none=>
  rw[hf] at e;simp only[Option.bind_some];rw[show decide (a=b)=true by simpa using e.symm]
 |some i=>
  rw[hf] at e;simp only[Option.bind_some];rw[show decide (a=b)=false by simpa using e.symm]
theorem y9p{n:Nat}(h4:n≤4){A B:List Int}(hA:A.length=n*n)(hB:B.length=n*n):yv1 ((n:Int),A) ((n:Int),B)=some (decide (A=B)):=by
 have hsq:=y1l h4;simp only[yv1,BEq.rfl,cond_true];rw[k1p (by rw[hA,hB]) (by omega)];rfl
theorem y71{n:Nat}(h1:1≤n)(h4:n≤4){A:List Int}(hA:A.length=n*n)(hx:∀x∈A,0≤x∧x≤1000000):ys9 ((n:Int),A)=some true:=by
 have hsq:=y1l h4;simp only[ys9,decide_eq_false (show ¬(n:Int)<1 by omega),decide_eq_false (show ¬(n:Int)>4 by omega),cond_false,hA,sqw h4,bne_self_eq_false];rw[zq4 (p:=fun _=>false) (by omega) (fun x h=>by
  have:=hx x h;simp only[y0j,yn1];rw[decide_eq_true (show x≥0 by omega),decide_eq_true (show x≤1000000 by omega)];rfl)]
 simp
theorem y1b{n:Nat}(h1:1≤n)(h4:n≤4){A:List Int}(hA:GOk n A):yl5 ((n:Int),A)=some true:=by
 have hsq:=y1l h4;simp only[yl5];rw[y71 h1 h4 hA.1 (fun x hx=>by have:=hA.2 x hx;omega)];simp only[Option.bind_some,cond_true];rw[zq4 (p:=fun _=>false) (by rw[hA.1];omega) (fun x h=>by
  have:=hA.2 x h;simp only[y0k];rw[decide_eq_false (show ¬x>3 by omega)])]
 simp
theorem y6p{n:Nat}(h1:1≤n)(h4:n≤4){A B:List Int}(hA:GOk n A)(hB:GOk n B):yk2 ((n:Int),A) ((n:Int),B)=some (((n:Int),gmul n A B),true):=by
 simp only[yk2,y1b h1 h4 hA,y1b h1 h4 hB,Option.bind_some,Bool.not_true,cond_false,bne_self_eq_false];rw[y9o h4 (c:=fun i k=>gcN n A B i k n) (fun i k hi hk=>by
  simp only[y1w];obtain⟨r,g1,g2⟩:=yd9 (f:=yi1) n (fun l (c:Int)=>((i:Int),(k:Int),((n:Int),A),((n:Int),B),c,(n:Int),(l:Int),()))
   (fun l c=>mn c (mx (A.getD (i*n+l) 0) (B.getD (l*n+k) 0))) (fun c=>(c,())) (fun l c=>c=gcN n A B i k l)
   (fun l c hl hc=>by subst hc;rfl)
   (fun l c hl hc=>by
    simp only[yi1,lt_t hl,cond_true,at_is h4 hA.1 hi hl,at_is h4 hB.1 hl hk,Option.bind_some,ya3 hl (show n≤9223372036854775807 by omega)];rfl)
   (fun c hc=>by simp only[yi1,lt_f,cond_false])
   3 rfl
  have g1:ya2 yi1 ((i:Int),(k:Int),((n:Int),A),((n:Int),B),(3:Int),(n:Int),(0:Int),())=_:=g1;rw[g1,g2];rfl)]
 simp only[Option.bind_some,List.drop_zero,List.take_length];rfl
theorem zq6{n:Nat}(h1:1≤n)(h4:n≤4){A:List Int}(hA:GOk n A):yw8 ((n:Int),A)=some (decide (gmul n A A=A)):=by
 simp only[yw8,y6p h1 h4 hA hA,Option.bind_some,cond_true,List.drop_zero,List.take_length];rw[y9p h4 (yy8 hA hA).1 hA.1];rfl
theorem y6q{n:Nat}(h4:n≤4){A:List Int}(hA:GOk n A):yw9 ((n:Int),A)=some (decide (gmul n A A=A)):=by
 have hsq:=y1l h4;simp only[yw9,z1a h4 hA hA,Option.bind_some,List.drop_zero,List.take_length];rw[zq5 (by rw[(yy8 hA hA).1,hA.1]) (by rw[(yy8 hA hA).1];omega)];rfl
theorem zf9{n:Nat}(h1:1≤n)(h4:n≤4){A:List Int}(hA:GOk n A):yx8 ((n:Int),A)=some (if gmul n A A=A then(((n:Int),y0r n A),true) else(((0:Int),[]),false)):=by
 simp only[yx8,zq6 h1 h4 hA,Option.bind_some]
 by_cases h:gmul n A A=A
 ·rw[decide_eq_true h,if_pos h];simp only[Bool.not_true,cond_false];rw[y9o h4 (c:=fun i k=>gsN n A i k n) (fun i k hi hk=>by
   simp only[y1x];obtain⟨r,g1,g2⟩:=yd9 (f:=yi2) n (fun l (c:Int)=>((i:Int),(k:Int),((n:Int),A),c,(n:Int),(l:Int),()))
    (fun l c=>mn c (mx (mx (A.getD (i*n+l) 0) (ag (A.getD (l*n+l) 0))) (A.getD (l*n+k) 0))) (fun c=>(c,())) (fun l c=>c=gsN n A i k l)
    (fun l c hl hc=>by subst hc;rfl)
    (fun l c hl hc=>by
     simp only[yi2,lt_t hl,cond_true,at_is h4 hA.1 hi hl,at_is h4 hA.1 hl hl,at_is h4 hA.1 hl hk,Option.bind_some,ya3 hl (show n≤9223372036854775807 by omega)]
     by_cases e:A.getD (l*n+l) 0=1
     ·rw[e];rfl
     ·have e2:(A.getD (l*n+l) 0==1)=false:=by simpa using e
      rw[e2,show ag (A.getD (l*n+l) 0)=A.getD (l*n+l) 0 from if_neg e];rfl)
    (fun c hc=>by simp only[yi2,lt_f,cond_false])
    3 rfl
   have g1:ya2 yi2 ((i:Int),(k:Int),((n:Int),A),(3:Int),(n:Int),(0:Int),())=_:=g1;rw[g1,g2];rfl)]
  simp only[Option.bind_some,List.drop_zero,List.take_length];rfl
 ·rw[decide_eq_false h,if_neg h];rfl
end Go.Proofs.YtafognnoibjjeaaGreatDoor

/- The grades of letters, by the reference and by the program. -/
namespace Go.Proofs.YtafognnoibjjeaaGreatDoor
open Go Go.Proofs.YtafognnoibjjeaaGreatDoor.Am
/-- a step's cost is put into its place -/
def zc2(c:ByteArray)(n:Nat)(l:List Stp)(i:Nat)(M:List Int):List Int:=
 bif (l.getD i stp0).2.1.toList==c.toList then M.set ((l.getD i stp0).1.toNat*n+(l.getD i stp0).2.2.1.toNat) (l.getD i stp0).2.2.2 else M
def ym7(c:ByteArray)(n:Nat)(l:List Stp):Nat→List Int
 |0=>List.replicate (n*n) Nv
 |i+1=>zc2 c n l i (ym7 c n l i)
theorem y3p(c:ByteArray)(n:Nat)(l:List Stp):∀i,(ym7 c n l i).length=n*n
 |0=>by simp[ym7]
 |i+1=>by
  simp only[ym7,zc2];cases(l.getD i stp0).2.1.toList==c.toList
  ·exact y3p c n l i
  ·simp only[cond_true,List.length_set];exact y3p c n l i
theorem z8g{n:Nat}(h4:n≤4){s:Stp}(hs:StepIs (n:Int) s):s.1.toNat*n+s.2.2.1.toNat<n*n∧IntKind.wrap .i64 (IntKind.wrap .i64 (s.1*(n:Int))+s.2.2.1)=((s.1.toNat*n+s.2.2.1.toNat:Nat):Int):=by
 have hsq:=y1l h4;have e0:=hs.f0;have e1:=hs.f1;have e2:=hs.t0;have e3:=hs.t1;have hlt:s.1.toNat*n+s.2.2.1.toNat<n*n:=yw1 (by omega) (by omega);have m1:s.1*(n:Int)=((s.1.toNat*n:Nat):Int):=by
  rw[Int.natCast_mul];congr 1;omega
 have w1:IntKind.wrap .i64 (s.1*(n:Int))=((s.1.toNat*n:Nat):Int):=by rw[m1];exact w64 (by omega) (by omega)
 refine⟨hlt, ?_⟩;rw[w1,w64 (by omega) (by omega)];omega
section
variable {S F : List Int} {l : List Stp} {n : Nat} (h4 : n ≤ 4) (hl : l.length ≤ 24) (hst : ∀ s ∈ l, StepIs (n : Int) s) (c : ByteArray)
include h4 hl hst
theorem z1b:yp4 ((n:Int),S,F,l) c=some ((n:Int),ym7 c n l l.length):=by
 have hsq:=y1l h4;simp only[yp4,sqw h4];obtain⟨r,g1,g2⟩:=yd9 (f:=yg6) (n*n) (fun i (o:List Int)=>(c,((n:Int),S,F,l,()),((0:Int),[],()),((n:Int),o,()),((n*n:Nat):Int),(i:Int),())) (fun i o=>o++[Nv]) (fun o=>(c,((n:Int),S,F,l,()),((0:Int),[],()),((n:Int),o,()),())) (fun i o=>o=List.replicate i Nv)
  (fun i o hi ho=>by subst ho;rw[List.replicate_succ'])
  (fun i o hi ho=>by
   have hol:o.length=i:=by subst ho;simp
   simp only[yg6,lt_t hi,cond_true,Nat.zero_add,List.drop_zero,ya3 hi (show n*n≤9223372036854775807 by omega)];rw[if_pos ⟨trivial,by simp;omega⟩];simp[List.take_of_length_le])
  (fun o ho=>by simp only[yg6,lt_f,cond_false,List.drop_zero,List.take_length])
  [] rfl
 have g1:ya2 yg6 (c,((n:Int),S,F,l,()),((0:Int),[],()),((n:Int),[],()),((n*n:Nat):Int),(0:Int),())=_:=g1;rw[g1];subst g2;simp only[Option.bind_some,List.drop_zero,List.take_length];obtain⟨r,g1,g2⟩:=yd9 (f:=yg7) l.length (fun i (M:List Int)=>(c,((n:Int),S,F,l,()),((0:Int),[],()),((n:Int),M,()),l,(l.length:Int),(i:Int),())) (fun i M=>zc2 c n l i M)
  (fun M=>(((0:Int),[],()),((n:Int),M,()),())) (fun i M=>M=ym7 c n l i)
  (fun i M hi hM=>by subst hM;rfl)
  (fun i M hi hM=>by
   have hMl:M.length=n*n:=by subst hM;exact y3p c n l i
   have hsi:=hst _ (show l.getD i stp0∈l by rw[yb4 stp0 hi];exact List.getElem_mem hi);obtain⟨hlt,hw⟩:=z8g h4 hsi;simp only[yg7,lt_t hi,cond_true,if_pos (in_t hi),Int.toNat_natCast,List.drop_zero,Nat.zero_add,ya3 hi (show l.length≤9223372036854775807 by omega),hw,zc2];cases hc:(l.getD i stp0).2.1.toList==c.toList with
   |false=>simp only[cond_false,List.take_length]
   |true=>
    simp only[cond_true];rw[if_pos ⟨by omega,by rw[hMl];omega⟩,List.take_length,List.take_of_length_le (by rw[List.length_set];exact Nat.le_refl _)])
  (fun M hM=>by simp only[yg7,lt_f,cond_false,List.drop_zero,List.take_length])
  (List.replicate (n*n) Nv) rfl
 have g1:ya2 yg7 (c,((n:Int),S,F,l,()),((0:Int),[],()),((n:Int),List.replicate (n*n) Nv,()),l,(l.length:Int),(0:Int),())=_:=g1;rw[g1,g2];simp only[Option.bind_some,List.drop_zero,List.take_length]
theorem z1c:Option.bind (yr6 (n:Int) (fun y1=>(yw7 y1.1 y1.2.1))) (fun(r2,r3)=>Option.bind (ya2 yg0 (c,((0:Int),[],()),(r2,(List.take (List.length r3) (List.drop 0 r3)),()),l,(((List.length l):Nat):Int),(0:Int),())) fun((r4,r5,_),(r6,r7,_),_)=>some ((r6,(List.take (List.length r7) (List.drop 0 r7))),true))=some (((n:Int),ym7 c n l l.length),true):=by
 have hsq:=y1l h4;have e0:mk n (fun _ _=>Nv)=List.replicate (n*n) Nv:=by
  unfold mk;rw[List.map_const',List.length_range]
 rw[y9o h4 (c:=fun _ _=>Nv) (fun i k _ _=>rfl),e0];simp only[Option.bind_some,List.drop_zero,List.take_length];obtain⟨r,g1,g2⟩:=yd9 (f:=yg0) l.length (fun i (M:List Int)=>(c,((0:Int),[],()),((n:Int),M,()),l,(l.length:Int),(i:Int),())) (fun i M=>zc2 c n l i M)
  (fun M=>(((0:Int),[],()),((n:Int),M,()),())) (fun i M=>M=ym7 c n l i)
  (fun i M hi hM=>by subst hM;rfl)
  (fun i M hi hM=>by
   have hMl:M.length=n*n:=by subst hM;exact y3p c n l i
   have hsi:=hst _ (show l.getD i stp0∈l by rw[yb4 stp0 hi];exact List.getElem_mem hi);obtain⟨hlt,hw⟩:=z8g h4 hsi;simp only[yg0,lt_t hi,cond_true,if_pos (in_t hi),Int.toNat_natCast,List.drop_zero,Nat.zero_add,ya3 hi (show l.length≤9223372036854775807 by omega),hw,zc2];cases hc:(l.getD i stp0).2.1.toList==c.toList with
   |false=>simp only[cond_false,List.take_length,List.length_nil,List.take_zero]
   |true=>
    simp only[cond_true];rw[if_pos ⟨by omega,by rw[hMl];omega⟩,List.take_length,List.take_of_length_le (by rw[List.length_set];exact Nat.le_refl _)])
  (fun M hM=>by simp only[yg0,lt_f,cond_false,List.drop_zero,List.take_length])
  (List.replicate (n*n) Nv) rfl
 have g1:ya2 yg0 (c,((0:Int),[],()),((n:Int),List.replicate (n*n) Nv,()),l,(l.length:Int),(0:Int),())=_:=g1;rw[g1,g2];simp only[Option.bind_some,List.drop_zero,List.take_length]
end
theorem z1d{a:Aut}{n:Nat}(ha:AutIs a n)(hv:yo7 a=true)(hs:yy1 a){c:ByteArray}(hc:c=la∨c=lb):y0i a c=some (((n:Int),ym7 c n a.2.2.2 a.2.2.2.length),true):=by
 obtain⟨x,S,F,l⟩:=a;have hx:x=(n:Int):=ha.st;subst hx;have hin:=z1c ha.n4 ha.len ha.steps c;unfold y0i;dsimp only
 rw[yc4 _ (yh0 hs).1 (yh0 hs).2,hv];simp only[Option.bind_some,Bool.not_true,cond_false]
 rcases hc with rfl|rfl
 ·have e1:(!(la.toList==(⟨#[(97:UInt8)]⟩:ByteArray).toList))=false:=by simp
  rw[e1,cond_false];exact hin
 ·have e1:(!(lb.toList==(⟨#[(97:UInt8)]⟩:ByteArray).toList))=true:=by simp only[yc3];rfl
  have e2:(!(lb.toList==(⟨#[(98:UInt8)]⟩:ByteArray).toList))=false:=by simp
  rw[e1,e2,cond_true,cond_false];exact hin
theorem y31{a:Aut}{n:Nat}(ha:AutIs a n)(c:ByteArray):yp4 a c=some ((n:Int),ym7 c n a.2.2.2 a.2.2.2.length):=by
 obtain⟨x,S,F,l⟩:=a;have hx:x=(n:Int):=ha.st;subst hx;exact z1b ha.n4 ha.len ha.steps c
theorem yr1{a:Aut}{n:Nat}(ha:AutIs a n)(c:ByteArray):Rng (ym7 c n a.2.2.2 a.2.2.2.length) (n*n):=by
 obtain⟨M,h1,h2⟩:=zq3 (c:=c) ha.st ha.n1 ha.n4 ha.len ha.ok;rw[y31 ha c] at h1;obtain⟨_,rfl⟩:=Prod.mk.inj (Option.some.inj h1);exact h2.1
/-! ### grades -/
def gr(x:Int):Int:=if x=0 then 0 else if x=1000000 then 3 else 1
theorem gr_rng(x:Int):0≤gr x∧gr x≤3:=by
 unfold gr;split
 ·omega
 ·split<;>omega
theorem z3t{n:Nat}{M:List Int}(hM:M.length=n*n):GOk n (M.map gr):=by
 refine⟨by rw[List.length_map,hM],fun x hx=> ?_⟩;obtain⟨y,_,rfl⟩:=List.mem_map.1 hx;exact gr_rng y
theorem z57{n:Nat}(h4:n≤4){M:List Int}(hM:M.length=n*n):y0m ((n:Int),M)=some ((n:Int),M.map gr):=by
 have hsq:=y1l h4;simp only[y0m];obtain⟨r,g1,g2⟩:=yd9 (f:=yl7) M.length (fun i (o:List Int)=>(((0:Int),[],()),((n:Int),o,()),M,(M.length:Int),(i:Int),())) (fun i o=>o++[gr (M.getD i 0)]) (fun o=>(((0:Int),[],()),((n:Int),o,()),())) (fun i o=>o=(M.take i).map gr)
  (fun i o hi ho=>by subst ho;rw[yg4 hi,List.map_append,yb4 0 hi];rfl)
  (fun i o hi ho=>by
   have hol:o.length=i:=by subst ho;rw[List.length_map,List.length_take];omega
   simp only[yl7,lt_t hi,cond_true,if_pos (in_t hi),Int.toNat_natCast,Nat.zero_add,List.drop_zero,List.take_length,ya3 hi (show M.length≤9223372036854775807 by omega)]
   by_cases z:M.getD i 0=0
   ·rw[z];simp only[BEq.rfl,cond_true];rw[if_pos ⟨trivial,by simp;omega⟩,show List.take 1 [(0:Int)]=[gr 0] from rfl,List.take_of_length_le (by simp)]
   ·have z':(M.getD i 0==0)=false:=by simpa using z
    rw[z',cond_false]
    by_cases y:M.getD i 0=1000000
    ·rw[y];simp only[BEq.rfl,cond_true];rw[if_pos ⟨trivial,by simp;omega⟩,show List.take 1 [(3:Int)]=[gr 1000000] from rfl,List.take_of_length_le (by simp)]
    ·have y':(M.getD i 0==1000000)=false:=by simpa using y
     rw[y',cond_false,if_pos ⟨trivial,by simp;omega⟩,show List.take 1 [(1:Int)]=[gr (M.getD i 0)] by unfold gr;rw[if_neg z,if_neg y];rfl,List.take_of_length_le (by simp)])
  (fun o ho=>by simp only[yl7,lt_f,cond_false,List.drop_zero,List.take_length])
  [] rfl
 have g1:ya2 yl7 (((0:Int),[],()),((n:Int),[],()),M,(M.length:Int),(0:Int),())=_:=g1;rw[g1,g2];simp only[Option.bind_some,List.drop_zero,List.take_length]
theorem z58{n:Nat}(h1:1≤n)(h4:n≤4){M:List Int}(hM:Rng M (n*n)):y17 ((n:Int),M)=some (((n:Int),M.map gr),true):=by
 have hsq:=y1l h4;simp only[y17,y71 h1 h4 hM.1 (fun x hx=>hM.2 x hx),Option.bind_some,Bool.not_true,cond_false];rw[y9o h4 (c:=fun i k=>gr (M.getD (i*n+k) 0)) (fun i k hi hk=>by
  simp only[y2z,at_is h4 hM.1 hi hk,Option.bind_some]
  by_cases z:M.getD (i*n+k) 0=0
  ·rw[z];rfl
  ·have z':(M.getD (i*n+k) 0==0)=false:=by simpa using z
   rw[z',cond_false]
   by_cases y:M.getD (i*n+k) 0=1000000
   ·rw[y];rfl
   ·have y':(M.getD (i*n+k) 0==1000000)=false:=by simpa using y
    rw[y',cond_false];unfold gr;rw[if_neg z,if_neg y])]
 have e:mk n (fun i k=>gr (M.getD (i*n+k) 0))=M.map gr:=by
  refine(mk_is (by rw[List.length_map,hM.1]) fun i k hi hk=> ?_).symm;have:=yw1 hi hk;rw[yb4 0 (by rw[List.length_map,hM.1];exact this),List.getElem_map,yb4 0 (by rw[hM.1];exact this)]
 simp only[Option.bind_some,List.drop_zero,List.take_length,e]
/-! ### the value of a letter -/
theorem zg9{c:ByteArray}(hc:c=la∨c=lb):yx7 c=some ([(c,PT.mk [])],(⟨#[]⟩:ByteArray)):=by
 have e:yx7=yh9 (yf1 199):=rfl;rw[e];generalize yf1 199=φ;have s1:yb0 φ (c,[],())=some (.inl ((⟨#[]⟩:ByteArray),[(c,PT.mk [])],())):=by
  rcases hc with rfl|rfl<;>(unfold yb0;simp only[yc3];rfl)
 have s2:yb0 φ ((⟨#[]⟩:ByteArray),[(c,PT.mk [])],())=some (.inr (.inr ((⟨#[]⟩:ByteArray),[(c,PT.mk [])],()))):=by
  unfold yb0;simp only[yc3];rfl
 unfold yh9;rw[show List.take 0 (List.drop 0 [])=([]:List (ByteArray×PT)) from rfl,yb2,s1];simp only[Option.bind_some];rw[yb2,s2];rfl
theorem z3u{c:ByteArray}(hc:c=la∨c=lb):y03 c=some ([(c,PT.mk [])],true):=by
 have hsz:c.size=1:=by rcases hc with rfl|rfl<;>rfl
 unfold y03;rw[decide_eq_false (show ¬(c.size:Int)>120 by omega),cond_false,zg9 hc];simp
theorem zu2{a:Aut}{n:Nat}(ha:AutIs a n)(hv:yo7 a=true)(hs:yy1 a){c:ByteArray}(hc:c=la∨c=lb):y1h a c=some (((n:Int),(ym7 c n a.2.2.2 a.2.2.2.length).map gr),true):=by
 have hm:=z1d ha hv hs hc;have hr:=yr1 ha c;have hg:=z58 ha.n1 ha.n4 hr;obtain⟨x,S,F,l⟩:=a;unfold y1h;dsimp only
 rw[z3u hc];simp only[Option.bind_some,Bool.not_true,cond_false];rw[yc4 _ (yh0 hs).1 (yh0 hs).2,hv];simp only[Option.bind_some,Bool.not_true,cond_false,List.drop_zero,List.take_length];have e:zb5=yv2 (yq8 199):=rfl;rw[e];generalize yq8 199=φ;have hne:(!(c.toList==(⟨#[]⟩:ByteArray).toList))=true:=by
  rcases hc with rfl|rfl<;>(simp only[yc3];rfl)
 have s1:yp2 φ ((x,S,F,l,()),((0:Int),[],()),((0:Int),[],()),[(c,PT.mk [])],(1:Int),(0:Int),())=some (.inl ((x,S,F,l,()),((0:Int),[],()),((n:Int),(ym7 c n l l.length).map gr,()),[(c,PT.mk [])],(1:Int),(1:Int),())):=by
  unfold yp2;simp only[show decide ((0:Int)<1)=true from rfl,cond_true];rw[if_pos ⟨Int.le_refl _,by simp⟩];simp only[show List.getD [(c,PT.mk [])] (Int.toNat 0) ((⟨Array.empty⟩:ByteArray),PT.mk [])=(c,PT.mk []) from rfl,hne,cond_true,hm,Option.bind_some,List.drop_zero,List.take_length,hg,show decide ((0:Int)>0)=false from rfl,cond_false];rfl
 have s2:yp2 φ ((x,S,F,l,()),((0:Int),[],()),((n:Int),(ym7 c n l l.length).map gr,()),[(c,PT.mk [])],(1:Int),(1:Int),())=some (.inr (.inr (((0:Int),[],()),((n:Int),(ym7 c n l l.length).map gr,()),()))):=by
  unfold yp2;simp only[show decide ((1:Int)<1)=false from rfl,cond_false,List.drop_zero,List.take_length]
 unfold yv2;dsimp only
 rw[show(((List.length [(c,PT.mk [])]):Nat):Int)=1 from rfl,yb2,s1];simp only[Option.bind_some];rw[yb2,s2];simp only[Option.bind_some,List.drop_zero,List.take_length]
end Go.Proofs.YtafognnoibjjeaaGreatDoor

/- Elements that are put behind the others, by the reference and by the program: at each place the same. -/
namespace Go.Proofs.YtafognnoibjjeaaGreatDoor
open Go Go.Proofs.YtafognnoibjjeaaGreatDoor.Am
abbrev Elt:=(Int×List Int)×ByteArray
abbrev el0:Elt:=(((0:Int),[]),(⟨Array.empty⟩:ByteArray))
structure LOk (n:Nat) (L:List Elt):Prop where
 el:∀e∈L,e.1.1=(n:Int)∧GOk n e.1.2∧e.2.size≤120
 len:L.length≤120
theorem LOk.at{n i:Nat}{L:List Elt}(h:LOk n L)(hi:i<L.length):(L.getD i el0).1.1=(n:Int)∧GOk n (L.getD i el0).1.2∧(L.getD i el0).2.size≤120:=by
 rw[yb4 el0 hi];exact h.el _ (List.getElem_mem hi)
def has(L:List Elt)(A:List Int):Bool:=L.any fun e=>decide (e.1.2=A)
def sput(n:Nat)(A:List Int)(t:ByteArray)(p:List Elt×Bool):List Elt×Bool:=
 bif has p.1 A then p else bif p.2 then(p.1,true) else bif decide ((p.1.length:Int)≥120) then(p.1,true) else bif (!decide ((t.size:Int)>120)) then(p.1++[(((n:Int),A),t)],false) else(p.1,true)
def iput(n:Nat)(A:List Int)(t:ByteArray)(p:List Elt×Bool):List Elt×Bool:=
 bif has p.1 A then p else bif decide ((p.1.length:Int)≥120) then(p.1,false) else bif decide ((t.size:Int)>120) then(p.1,false) else(p.1++[(((n:Int),A),t)],p.2)
theorem LOk.snoc{n:Nat}{L:List Elt}(h:LOk n L){A:List Int}(hA:GOk n A){t:ByteArray}(ht:t.size≤120)(hl:L.length<120):LOk n (L++[(((n:Int),A),t)]):=by
 refine⟨fun e he=> ?_,by rw[List.length_append];simp;omega⟩
 rcases List.mem_append.1 he with he|he
 ·exact h.el e he
 ·rw[List.mem_singleton] at he;subst he;exact⟨rfl,hA,ht⟩
theorem y5i{n:Nat}{A:List Int}(hA:GOk n A)(t:ByteArray){p:List Elt×Bool}(h:LOk n p.1):LOk n (sput n A t p).1:=by
 obtain⟨L,F⟩:=p;unfold sput;cases has L A
 ·cases F
  ·by_cases h1:(L.length:Int)≥120
   ·rw[decide_eq_true h1];exact h
   ·rw[decide_eq_false h1]
    by_cases h2:(t.size:Int)>120
    ·rw[decide_eq_true h2];exact h
    ·rw[decide_eq_false h2];exact LOk.snoc (L:=L) h hA (by omega) (by omega)
  ·exact h
 ·exact h
theorem zc3{n:Nat}{A:List Int}(hA:GOk n A)(t:ByteArray){p:List Elt×Bool}(h:LOk n p.1):LOk n (iput n A t p).1:=by
 obtain⟨L,F⟩:=p;unfold iput;cases has L A
 ·by_cases h1:(L.length:Int)≥120
  ·rw[decide_eq_true h1];exact h
  ·rw[decide_eq_false h1]
   by_cases h2:(t.size:Int)>120
   ·rw[decide_eq_true h2];exact h
   ·rw[decide_eq_false h2];exact LOk.snoc (L:=L) h hA (by omega) (by omega)
 ·exact h
/-- both have the same, or both have failed -/
def Same(p q:List Elt×Bool):Prop:=(p.2=false∧q.2=true∧q.1=p.1)∨(p.2=true∧q.2=false)
theorem Same.put{n:Nat}{A:List Int}{t:ByteArray}{p q:List Elt×Bool}(h:Same p q):Same (sput n A t p) (iput n A t q):=by
 obtain⟨L,F⟩:=p;obtain⟨L',f⟩:=q
 rcases h with⟨h1,h2,h3⟩|⟨h1,h2⟩
 ·have h1:F=false:=h1;have h2:f=true:=h2;have h3:L'=L:=h3;subst h1 h2 h3;unfold sput iput;cases has L' A
  ·by_cases h1:(L'.length:Int)≥120
   ·rw[decide_eq_true h1];exact .inr ⟨rfl,rfl⟩
   ·rw[decide_eq_false h1]
    by_cases h2:(t.size:Int)>120
    ·rw[decide_eq_true h2];exact .inr ⟨rfl,rfl⟩
    ·rw[decide_eq_false h2];exact .inl ⟨rfl,rfl,rfl⟩
  ·exact .inl ⟨rfl,rfl,rfl⟩
 ·have h1:F=true:=h1;have h2:f=false:=h2;subst h1 h2;refine .inr ⟨?_, ?_⟩
  ·unfold sput;cases has L A<;>rfl
  ·unfold iput;cases has L' A
   ·cases decide ((L'.length:Int)≥120)
    ·cases decide ((t.size:Int)>120)<;>rfl
    ·rfl
   ·rfl
theorem z3v{n:Nat}{A:List Int}{t:ByteArray}{p:List Elt×Bool}(h:p.2=true):(sput n A t p).2=true:=by
 obtain⟨L,F⟩:=p;have h:F=true:=h;subst h;unfold sput;cases has L A<;>rfl
theorem z8h{n:Nat}{A:List Int}{t:ByteArray}{p:List Elt×Bool}:∃X,(iput n A t p).1=p.1++X:=by
 obtain⟨L,f⟩:=p;unfold iput;cases has L A
 ·cases decide ((L.length:Int)≥120)
  ·cases decide ((t.size:Int)>120)
   ·exact⟨_,rfl⟩
   ·exact⟨[],(List.append_nil L).symm⟩
  ·exact⟨[],(List.append_nil L).symm⟩
 ·exact⟨[],(List.append_nil L).symm⟩
theorem z6a{xs:List Elt}(hl:xs.length≤1000000){φ:(Elt×Unit)→Option Bool}{p:Elt→Bool}(hφ:∀x∈xs,φ (x,())=some (p x)):yc5 xs φ=some (xs.any p):=by
 have g:=yr0 (f:=yd1) (fun i=>(xs,φ,(xs.length:Int),(i:Int),())) xs.length (fun i=>p (xs.getD i el0)) (fun i=>Sum.inl ((i:Int),())) (Sum.inr ())
  (fun i hi=>by
   have hm:xs.getD i el0∈xs:=by rw[yb4 el0 hi];exact List.getElem_mem hi
   simp only[yd1,lt_t hi,cond_true,Int.toNat_natCast];rw[if_pos (in_t hi),hφ _ hm];simp only[Option.bind_some,ya3 hi (show xs.length≤9223372036854775807 by omega)];cases p (xs.getD i el0)<;>rfl)
  (by simp only[yd1,lt_f,cond_false])
 have g:ya2 yd1 (xs,φ,(xs.length:Int),(0:Int),())=_:=g;simp only[yc5,yq9];rw[g,←zc1 xs el0 p];cases(List.range xs.length).find? fun i=>p (xs.getD i el0) with
 |none=>rfl
 |some i=>simp only[Option.bind_some,Option.isSome_some];rw[decide_eq_true (by omega)]
theorem y3q{n:Nat}(h4:n≤4){L:List Elt}(hL:LOk n L){A:List Int}(hA:GOk n A):yc5 L (fun y0=>(yj2 y0.1 ((n:Int),A)))=some (has L A):=by
 refine z6a (p:=fun e=>decide (e.1.2=A)) (by have:=hL.len;omega) fun x hx=> ?_;obtain⟨h1,h2,_⟩:=hL.el x hx;obtain⟨⟨m,B⟩,t⟩:=x;have h1:m=(n:Int):=h1;subst h1;show yj2 _ _=_;simp only[yj2,y9p h4 h2.1 hA.1,Option.bind_some]

theorem sput_39{n:Nat}(h4:n≤4)(p:List Elt×Bool)(hL:LOk n p.1){A:List Int}(hA:GOk n A)(t:ByteArray)(x:Int)(S R:List Int)(l:List Stp)(b:Bool)(w:List Elt)(ws:List ByteArray)(u v:Int):
  ym2 ((p.1,p.2,()),((n:Int),A),t,b,(x,S,R,l,()),w,ws,u,v,())=some (b,(x,S,R,l,()),((sput n A t p).1,(sput n A t p).2,()),w,ws,u,v,()):=by
 obtain⟨L,F⟩:=p;have hL:LOk n L:=hL;have hsq:=y1l h4;have hlen:=hL.len;have g:=yr0 (f:=yf2) (fun i=>((L,F,()),t,((n:Int),A,()),L,(L.length:Int),(i:Int),b,(x,S,R,l,()),w,ws,u,v,())) L.length (fun i=>decide ((L.getD i el0).1.2=A)) (fun _=>Sum.inl (b,(x,S,R,l,()),(L,F,()),w,ws,u,v,())) (Sum.inr ((L,F,()),t,((n:Int),A,()),b,(x,S,R,l,()),w,ws,u,v,()))
  (fun i hi=>by
   obtain⟨m1,m2,m3⟩:=hL.at hi;simp only[yf2,lt_t hi,cond_true,if_pos (in_t hi),Int.toNat_natCast,Nat.zero_add,List.drop_zero,List.take_length,zq5 (show(L.getD i el0).1.2.length=A.length by rw[m2.1,hA.1]) (show(L.getD i el0).1.2.length≤1000000 by rw[m2.1];omega),Option.bind_some,if_true,ya3 hi (show L.length≤9223372036854775807 by omega)];cases decide ((L.getD i el0).1.2=A)<;>rfl)
  (by simp only[yf2,lt_f,cond_false,Nat.zero_add,List.drop_zero,List.take_length,if_true])
 have g:ya2 yf2 ((L,F,()),t,((n:Int),A,()),L,(L.length:Int),(0:Int),b,(x,S,R,l,()),w,ws,u,v,())=_:=g;have e:=zc1 L el0 (fun e=>decide (e.1.2=A));simp only[ym2,Nat.zero_add,List.drop_zero,List.take_length,if_true];rw[g];cases hf:(List.range L.length).find? fun i=>decide ((L.getD i el0).1.2=A) with
 |some i=>
  rw[hf] at e;have e:has L A=true:=e.symm;simp only[Option.bind_some,sput,e,cond_true,if_true,List.drop_zero,List.take_length,Nat.zero_add]
 |none=>
  rw[hf] at e;have e:has L A=false:=e.symm;simp only[Option.bind_some,sput,e,cond_false];cases F with
  |true=>simp only[cond_true,if_true,List.drop_zero,List.take_length,Nat.zero_add]
  |false=>
   simp only[cond_false]
   by_cases h1:(L.length:Int)≥120
   ·simp only[decide_eq_true h1,cond_true,if_true,List.drop_zero,List.take_length,Nat.zero_add]
   ·by_cases h2:(t.size:Int)>120
    ·simp only[decide_eq_false h1,decide_eq_true h2,Bool.not_true,cond_false,if_true,List.drop_zero,List.take_length,Nat.zero_add]
    ·simp only[decide_eq_false h1,decide_eq_false h2,Bool.not_false,cond_true,cond_false,if_true,List.drop_zero,List.take_length,Nat.zero_add,show List.take 1 [(((n:Int),A),t)]=[(((n:Int),A),t)] from rfl];rw[if_pos ⟨trivial,by simp;omega⟩,if_pos (by simp)]

theorem sput_78{n:Nat}(h4:n≤4)(p:List Elt×Bool)(hL:LOk n p.1){A:List Int}(hA:GOk n A)(t:ByteArray)(b:Bool)(w:List Elt)(u:Int)(ex:Int)(ey:List Int)(ez:ByteArray):
  yj1 ((p.1,p.2,()),((n:Int),A,()),t,b,w,u,(ex,ey,ez,()),())=some (b,((sput n A t p).1,(sput n A t p).2,()),w,u,(ex,ey,ez,()),()):=by
 obtain⟨L,F⟩:=p;have hL:LOk n L:=hL;have hsq:=y1l h4;have hlen:=hL.len;have g:=yr0 (f:=yf3) (fun i=>((L,F,()),t,((n:Int),A,()),L,(L.length:Int),(i:Int),b,w,u,(ex,ey,ez,()),())) L.length (fun i=>decide ((L.getD i el0).1.2=A)) (fun _=>Sum.inl (b,(L,F,()),w,u,(ex,ey,ez,()),())) (Sum.inr ((L,F,()),t,((n:Int),A,()),b,w,u,(ex,ey,ez,()),()))
  (fun i hi=>by
   obtain⟨m1,m2,m3⟩:=hL.at hi;simp only[yf3,lt_t hi,cond_true,if_pos (in_t hi),Int.toNat_natCast,Nat.zero_add,List.drop_zero,List.take_length,zq5 (show(L.getD i el0).1.2.length=A.length by rw[m2.1,hA.1]) (show(L.getD i el0).1.2.length≤1000000 by rw[m2.1];omega),Option.bind_some,if_true,ya3 hi (show L.length≤9223372036854775807 by omega)];cases decide ((L.getD i el0).1.2=A)<;>rfl)
  (by simp only[yf3,lt_f,cond_false,Nat.zero_add,List.drop_zero,List.take_length,if_true])
 have g:ya2 yf3 ((L,F,()),t,((n:Int),A,()),L,(L.length:Int),(0:Int),b,w,u,(ex,ey,ez,()),())=_:=g;have e:=zc1 L el0 (fun e=>decide (e.1.2=A));simp only[yj1,Nat.zero_add,List.drop_zero,List.take_length,if_true];rw[g];cases hf:(List.range L.length).find? fun i=>decide ((L.getD i el0).1.2=A) with
 |some i=>
  rw[hf] at e;have e:has L A=true:=e.symm;simp only[Option.bind_some,sput,e,cond_true,if_true,List.drop_zero,List.take_length,Nat.zero_add]
 |none=>
  rw[hf] at e;have e:has L A=false:=e.symm;simp only[Option.bind_some,sput,e,cond_false];cases F with
  |true=>simp only[cond_true,if_true,List.drop_zero,List.take_length,Nat.zero_add]
  |false=>
   simp only[cond_false]
   by_cases h1:(L.length:Int)≥120
   ·simp only[decide_eq_true h1,cond_true,if_true,List.drop_zero,List.take_length,Nat.zero_add]
   ·by_cases h2:(t.size:Int)>120
    ·simp only[decide_eq_false h1,decide_eq_true h2,Bool.not_true,cond_false,if_true,List.drop_zero,List.take_length,Nat.zero_add]
    ·simp only[decide_eq_false h1,decide_eq_false h2,Bool.not_false,cond_true,cond_false,if_true,List.drop_zero,List.take_length,Nat.zero_add,show List.take 1 [(((n:Int),A),t)]=[(((n:Int),A),t)] from rfl];rw[if_pos ⟨trivial,by simp;omega⟩,if_pos (by simp)]

theorem k1q{n:Nat}(h4:n≤4)(p:List Elt×Bool)(hL:LOk n p.1){A:List Int}(hA:GOk n A)(t:ByteArray)(b:Bool)(w:List Elt)(u:Int)(ex:Int)(ey:List Int)(ez:ByteArray)(fx:Int)(fy:List Int)(fz:ByteArray)(w2:List Elt)(c d:Int):
  yl0 ((p.1,p.2,()),((n:Int),A,()),t,b,w,u,(ex,ey,ez,()),(fx,fy,fz,()),w2,c,d,())=some (b,((sput n A t p).1,(sput n A t p).2,()),w,u,(ex,ey,ez,()),(fx,fy,fz,()),w2,c,d,()):=by
 obtain⟨L,F⟩:=p;have hL:LOk n L:=hL;have hsq:=y1l h4;have hlen:=hL.len;have g:=yr0 (f:=ye6) (fun i=>((L,F,()),t,((n:Int),A,()),L,(L.length:Int),(i:Int),b,w,u,(ex,ey,ez,()),(fx,fy,fz,()),w2,c,d,())) L.length (fun i=>decide ((L.getD i el0).1.2=A)) (fun _=>Sum.inl (b,(L,F,()),w,u,(ex,ey,ez,()),(fx,fy,fz,()),w2,c,d,())) (Sum.inr ((L,F,()),t,((n:Int),A,()),b,w,u,(ex,ey,ez,()),(fx,fy,fz,()),w2,c,d,()))
  (fun i hi=>by
   obtain⟨m1,m2,m3⟩:=hL.at hi;simp only[ye6,lt_t hi,cond_true,if_pos (in_t hi),Int.toNat_natCast,Nat.zero_add,List.drop_zero,List.take_length,zq5 (show(L.getD i el0).1.2.length=A.length by rw[m2.1,hA.1]) (show(L.getD i el0).1.2.length≤1000000 by rw[m2.1];omega),Option.bind_some,if_true,ya3 hi (show L.length≤9223372036854775807 by omega)];cases decide ((L.getD i el0).1.2=A)<;>rfl)
  (by simp only[ye6,lt_f,cond_false,Nat.zero_add,List.drop_zero,List.take_length,if_true])
 have g:ya2 ye6 ((L,F,()),t,((n:Int),A,()),L,(L.length:Int),(0:Int),b,w,u,(ex,ey,ez,()),(fx,fy,fz,()),w2,c,d,())=_:=g;have e:=zc1 L el0 (fun e=>decide (e.1.2=A));simp only[yl0,Nat.zero_add,List.drop_zero,List.take_length,if_true];rw[g];cases hf:(List.range L.length).find? fun i=>decide ((L.getD i el0).1.2=A) with
 |some i=>
  rw[hf] at e;have e:has L A=true:=e.symm;simp only[Option.bind_some,sput,e,cond_true,if_true,List.drop_zero,List.take_length,Nat.zero_add]
 |none=>
  rw[hf] at e;have e:has L A=false:=e.symm;simp only[Option.bind_some,sput,e,cond_false];cases F with
  |true=>simp only[cond_true,if_true,List.drop_zero,List.take_length,Nat.zero_add]
  |false=>
   simp only[cond_false]
   by_cases h1:(L.length:Int)≥120
   ·simp only[decide_eq_true h1,cond_true,if_true,List.drop_zero,List.take_length,Nat.zero_add]
   ·by_cases h2:(t.size:Int)>120
    ·simp only[decide_eq_false h1,decide_eq_true h2,Bool.not_true,cond_false,if_true,List.drop_zero,List.take_length,Nat.zero_add]
    ·simp only[decide_eq_false h1,decide_eq_false h2,Bool.not_false,cond_true,cond_false,if_true,List.drop_zero,List.take_length,Nat.zero_add,show List.take 1 [(((n:Int),A),t)]=[(((n:Int),A),t)] from rfl];rw[if_pos ⟨trivial,by simp;omega⟩,if_pos (by simp)]

theorem k1r{n:Nat}(h4:n≤4)(p:List Elt×Bool)(hL:LOk n p.1){A:List Int}(hA:GOk n A)(t:ByteArray)(b:Bool)(w:List Elt)(u:Int)(ex:Int)(ey:List Int)(ez:ByteArray)(w2:List Elt)(c d:Int):
  yl1 ((p.1,p.2,()),((n:Int),A,()),t,b,w,u,(ex,ey,ez,()),w2,c,d,())=some (b,((sput n A t p).1,(sput n A t p).2,()),w,u,(ex,ey,ez,()),w2,c,d,()):=by
 obtain⟨L,F⟩:=p;have hL:LOk n L:=hL;have hsq:=y1l h4;have hlen:=hL.len;have g:=yr0 (f:=ye7) (fun i=>((L,F,()),t,((n:Int),A,()),L,(L.length:Int),(i:Int),b,w,u,(ex,ey,ez,()),w2,c,d,())) L.length (fun i=>decide ((L.getD i el0).1.2=A)) (fun _=>Sum.inl (b,(L,F,()),w,u,(ex,ey,ez,()),w2,c,d,())) (Sum.inr ((L,F,()),t,((n:Int),A,()),b,w,u,(ex,ey,ez,()),w2,c,d,()))
  (fun i hi=>by
   obtain⟨m1,m2,m3⟩:=hL.at hi;simp only[ye7,lt_t hi,cond_true,if_pos (in_t hi),Int.toNat_natCast,Nat.zero_add,List.drop_zero,List.take_length,zq5 (show(L.getD i el0).1.2.length=A.length by rw[m2.1,hA.1]) (show(L.getD i el0).1.2.length≤1000000 by rw[m2.1];omega),Option.bind_some,if_true,ya3 hi (show L.length≤9223372036854775807 by omega)];cases decide ((L.getD i el0).1.2=A)<;>rfl)
  (by simp only[ye7,lt_f,cond_false,Nat.zero_add,List.drop_zero,List.take_length,if_true])
 have g:ya2 ye7 ((L,F,()),t,((n:Int),A,()),L,(L.length:Int),(0:Int),b,w,u,(ex,ey,ez,()),w2,c,d,())=_:=g;have e:=zc1 L el0 (fun e=>decide (e.1.2=A));simp only[yl1,Nat.zero_add,List.drop_zero,List.take_length,if_true];rw[g];cases hf:(List.range L.length).find? fun i=>decide ((L.getD i el0).1.2=A) with
 |some i=>
  rw[hf] at e;have e:has L A=true:=e.symm;simp only[Option.bind_some,sput,e,cond_true,if_true,List.drop_zero,List.take_length,Nat.zero_add]
 |none=>
  rw[hf] at e;have e:has L A=false:=e.symm;simp only[Option.bind_some,sput,e,cond_false];cases F with
  |true=>simp only[cond_true,if_true,List.drop_zero,List.take_length,Nat.zero_add]
  |false=>
   simp only[cond_false]
   by_cases h1:(L.length:Int)≥120
   ·simp only[decide_eq_true h1,cond_true,if_true,List.drop_zero,List.take_length,Nat.zero_add]
   ·by_cases h2:(t.size:Int)>120
    ·simp only[decide_eq_false h1,decide_eq_true h2,Bool.not_true,cond_false,if_true,List.drop_zero,List.take_length,Nat.zero_add]
    ·simp only[decide_eq_false h1,decide_eq_false h2,Bool.not_false,cond_true,cond_false,if_true,List.drop_zero,List.take_length,Nat.zero_add,show List.take 1 [(((n:Int),A),t)]=[(((n:Int),A),t)] from rfl];rw[if_pos ⟨trivial,by simp;omega⟩,if_pos (by simp)]

theorem z1e{n:Nat}(h4:n≤4)(p:List Elt×Bool)(hL:LOk n p.1){A:List Int}(hA:GOk n A)(t:ByteArray)(x:Int)(S R:List Int)(l:List Stp)(ws:List ByteArray)(u v:Int):
  yi4 ((p.1,p.2,()),((n:Int),A,()),t,(x,S,R,l,()),ws,u,v,())=some ((x,S,R,l,()),((iput n A t p).1,(iput n A t p).2,()),ws,u,v,()):=by
 obtain⟨L,f⟩:=p;have hL:LOk n L:=hL;have hlen:=hL.len;simp only[yi4,List.drop_zero,List.take_length,y3q h4 hL hA,Option.bind_some,iput];cases has L A with
 |true=>rfl
 |false=>
  simp only[cond_false]
  by_cases h1:(L.length:Int)≥120
  ·simp only[decide_eq_true h1,cond_true]
  ·by_cases h2:(t.size:Int)>120
   ·simp only[decide_eq_false h1,decide_eq_true h2,cond_false,cond_true]
   ·simp only[decide_eq_false h1,decide_eq_false h2,cond_false,Nat.zero_add,show List.take 1 [(((n:Int),A),t)]=[(((n:Int),A),t)] from rfl];rw[if_pos ⟨trivial,by simp;omega⟩,List.take_of_length_le (by simp)]

theorem y9q{n:Nat}(h4:n≤4)(p:List Elt×Bool)(hL:LOk n p.1){A:List Int}(hA:GOk n A)(t:ByteArray)(u:Int)(ex:Int)(ey:List Int)(ez:ByteArray)(z:Int):
  yd3 ((p.1,p.2,()),((n:Int),A,()),t,u,(ex,ey,ez,()),z,())=some (((iput n A t p).1,(iput n A t p).2,()),u,(ex,ey,ez,()),z,()):=by
 obtain⟨L,f⟩:=p;have hL:LOk n L:=hL;have hlen:=hL.len;simp only[yd3,List.drop_zero,List.take_length,y3q h4 hL hA,Option.bind_some,iput];cases has L A with
 |true=>rfl
 |false=>
  simp only[cond_false]
  by_cases h1:(L.length:Int)≥120
  ·simp only[decide_eq_true h1,cond_true]
  ·by_cases h2:(t.size:Int)>120
   ·simp only[decide_eq_false h1,decide_eq_true h2,cond_false,cond_true]
   ·simp only[decide_eq_false h1,decide_eq_false h2,cond_false,Nat.zero_add,show List.take 1 [(((n:Int),A),t)]=[(((n:Int),A),t)] from rfl];rw[if_pos ⟨trivial,by simp;omega⟩,List.take_of_length_le (by simp)]

theorem y9r{n:Nat}(h4:n≤4)(p:List Elt×Bool)(hL:LOk n p.1){A:List Int}(hA:GOk n A)(t:ByteArray)(u:Int)(ex:Int)(ey:List Int)(ez:ByteArray)(k:Int)(fx:Int)(fy:List Int)(fz:ByteArray)(mx_:Int)(my:List Int)(z:Int):
  yd4 ((p.1,p.2,()),((n:Int),A),t,u,(ex,ey,ez,()),k,(fx,fy,fz,()),(mx_,my,()),z,())=some (((iput n A t p).1,(iput n A t p).2,()),u,(ex,ey,ez,()),k,(fx,fy,fz,()),(mx_,my,()),z,()):=by
 obtain⟨L,f⟩:=p;have hL:LOk n L:=hL;have hlen:=hL.len;simp only[yd4,List.drop_zero,List.take_length,y3q h4 hL hA,Option.bind_some,iput];cases has L A with
 |true=>rfl
 |false=>
  simp only[cond_false]
  by_cases h1:(L.length:Int)≥120
  ·simp only[decide_eq_true h1,cond_true]
  ·by_cases h2:(t.size:Int)>120
   ·simp only[decide_eq_false h1,decide_eq_true h2,cond_false,cond_true]
   ·simp only[decide_eq_false h1,decide_eq_false h2,cond_false,Nat.zero_add,show List.take 1 [(((n:Int),A),t)]=[(((n:Int),A),t)] from rfl];rw[if_pos ⟨trivial,by simp;omega⟩,List.take_of_length_le (by simp)]

theorem y9s{n:Nat}(h4:n≤4)(p:List Elt×Bool)(hL:LOk n p.1){A:List Int}(hA:GOk n A)(t:ByteArray)(u:Int)(ex:Int)(ey:List Int)(ez:ByteArray)(k:Int)(z:Int):
  yf5 ((p.1,p.2,()),((n:Int),A,()),t,u,(ex,ey,ez,()),k,z,())=some (((iput n A t p).1,(iput n A t p).2,()),u,(ex,ey,ez,()),k,z,()):=by
 obtain⟨L,f⟩:=p;have hL:LOk n L:=hL;have hlen:=hL.len;simp only[yf5,List.drop_zero,List.take_length,y3q h4 hL hA,Option.bind_some,iput];cases has L A with
 |true=>rfl
 |false=>
  simp only[cond_false]
  by_cases h1:(L.length:Int)≥120
  ·simp only[decide_eq_true h1,cond_true]
  ·by_cases h2:(t.size:Int)>120
   ·simp only[decide_eq_false h1,decide_eq_true h2,cond_false,cond_true]
   ·simp only[decide_eq_false h1,decide_eq_false h2,cond_false,Nat.zero_add,show List.take 1 [(((n:Int),A),t)]=[(((n:Int),A),t)] from rfl];rw[if_pos ⟨trivial,by simp;omega⟩,List.take_of_length_le (by simp)]

end Go.Proofs.YtafognnoibjjeaaGreatDoor

/- All elements of an automaton: the reference and the program find the same. -/
namespace Go.Proofs.YtafognnoibjjeaaGreatDoor
open Go Go.Proofs.YtafognnoibjjeaaGreatDoor.Am
def s2(n:Nat)(e f:Elt)(p:List Elt×Bool):List Elt×Bool:=sput n (gmul n f.1.2 e.1.2) (f.2++e.2) (sput n (gmul n e.1.2 f.1.2) (e.2++f.2) p)
def i2(n:Nat)(e f:Elt)(p:List Elt×Bool):List Elt×Bool:=iput n (gmul n f.1.2 e.1.2) (f.2++e.2) (iput n (gmul n e.1.2 f.1.2) (e.2++f.2) p)
def y4o(n:Nat)(e:Elt)(W:List Elt)(p:List Elt×Bool):List Elt×Bool:=W.foldl (fun p f=>s2 n e f p) p
def y5j(t:ByteArray):ByteArray:=((⟨#[(40:UInt8)]⟩:ByteArray)++t)++(⟨#[(41:UInt8),(35:UInt8)]⟩:ByteArray)
theorem s2_ok{n:Nat}{e f:Elt}(he:GOk n e.1.2)(hf:GOk n f.1.2){p:List Elt×Bool}(h:LOk n p.1):LOk n (s2 n e f p).1:=y5i (yy8 hf he) _ (y5i (yy8 he hf) _ h)
theorem i2_ok{n:Nat}{e f:Elt}(he:GOk n e.1.2)(hf:GOk n f.1.2){p:List Elt×Bool}(h:LOk n p.1):LOk n (i2 n e f p).1:=zc3 (yy8 hf he) _ (zc3 (yy8 he hf) _ h)
theorem zy4{n:Nat}{e:Elt}:∀{W:List Elt} {p:List Elt×Bool},p.2=true→(y4o n e W p).2=true
 |[],_,h=>h
 |f::W,p,h=>zy4 (W:=W) (p:=s2 n e f p) (z3v (z3v h))
theorem size_append(a b:ByteArray):(a++b).size=a.size+b.size:=ByteArray.size_append
theorem zy5{n:Nat}(h4:n≤4){E:List Int}(hE:GOk n E){te:ByteArray}(hte:te.size≤120){W:List Elt}(hW:LOk n W)(w:List Elt)(i:Int)(p:List Elt×Bool)(hp:LOk n p.1):
  ya2 yc1 (true,(p.1,p.2,()),w,i,((n:Int),E,te,()),W,(W.length:Int),(0:Int),())=some (true,((y4o n (((n:Int),E),te) W p).1,(y4o n (((n:Int),E),te) W p).2,()),w,i,())∧LOk n (y4o n (((n:Int),E),te) W p).1:=by
 have hlen:=hW.len;obtain⟨r,g1,g2⟩:=yd9 (f:=yc1) W.length (fun k (q:List Elt×Bool)=>(true,(q.1,q.2,()),w,i,((n:Int),E,te,()),W,(W.length:Int),(k:Int),())) (fun k q=>s2 n (((n:Int),E),te) (W.getD k el0) q)
  (fun q=>(true,(q.1,q.2,()),w,i,())) (fun k q=>q=y4o n (((n:Int),E),te) (W.take k) p∧LOk n q.1)
  (fun k q hk hq=>by
   refine⟨?_,s2_ok hE (hW.at hk).2.1 hq.2⟩;rw[hq.1];unfold y4o;rw[yg4 hk,List.foldl_append,yb4 el0 hk];rfl)
  (fun k q hk hq=>by
   have hat:=hW.at hk
   rcases hf:W.getD k el0 with⟨⟨m,B⟩,ft⟩;rw[hf] at hat;obtain⟨m1,m2,m3⟩:=hat;have m1:m=(n:Int):=m1;subst m1;have m2:GOk n B:=m2;have m3:ft.size≤120:=m3;simp only[yc1,lt_t hk,cond_true,if_pos (in_t hk),Int.toNat_natCast,hf,z1a h4 hE m2,Option.bind_some,Nat.zero_add,List.drop_zero,List.take_length,if_true];rw[if_pos (by omega),k1q h4 q hq.2 (yy8 hE m2) (te++ft)];simp only[Option.bind_some,cond_true,z1a h4 m2 hE,Nat.zero_add,List.drop_zero,List.take_length,if_true];rw[if_pos (by omega),k1r h4 _ (y5i (yy8 hE m2) _ hq.2) (yy8 m2 hE) (ft++te)];simp only[Option.bind_some,Nat.zero_add,List.drop_zero,List.take_length,if_true,ya3 hk (show W.length≤9223372036854775807 by omega)];rfl)
  (fun q hq=>by simp only[yc1,lt_f,cond_false,Nat.zero_add,List.drop_zero,List.take_length,if_true])
  p ⟨rfl,hp⟩
 have g1:ya2 yc1 (true,(p.1,p.2,()),w,i,((n:Int),E,te,()),W,(W.length:Int),(0:Int),())=_:=g1;rw[List.take_length] at g2;rw[g1,g2.1];exact⟨rfl,by rw[←g2.1];exact g2.2⟩
theorem zc4{n:Nat}(h1:1≤n)(h4:n≤4){E:List Int}(hE:GOk n E){te:ByteArray}(hte:te.size≤120){W:List Elt}(hW:LOk n W){at_:Nat}(hat:W.length=at_+1)(z:Int):
  ∀(d k:Nat) (p q:List Elt×Bool),k+d=at_+1→Same p q→LOk n p.1→LOk n q.1→(q.2=true→∃X,q.1=W++X)→
   ∃q',ya2 ya7 ((q.1,q.2,()),(at_:Int),((n:Int),E,te,()),(k:Int),z,())=some ((q'.1,q'.2,()),z,())∧Same (y4o n (((n:Int),E),te) (W.drop k) p) q'∧LOk n q'.1
 |0,k,p,q,hk,hs,hp,hq,hX=>by
  refine⟨q, ?_, ?_,hq⟩
  ·rw[yb2];simp only[ya7,decide_eq_false (show ¬(k:Int)≤(at_:Int) by omega),cond_false,List.drop_zero,List.take_length,Option.bind_some]
  ·rw[List.drop_eq_nil_of_le (by omega)];exact hs
 |d+1,k,p,q,hk,hs,hp,hq,hX=>by
  obtain⟨L',f⟩:=q;cases f with
  |false=>
   refine⟨(L',false), ?_, ?_,hq⟩
   ·rw[yb2];simp only[ya7,decide_eq_true (show(k:Int)≤(at_:Int) by omega),cond_true,cond_false,List.drop_zero,List.take_length,Option.bind_some]
   ·rcases hs with⟨_,h,_⟩|⟨h,_⟩
    ·cases h
    ·exact .inr ⟨zy4 h,rfl⟩
  |true=>
   obtain⟨X,hX'⟩:=hX rfl;have hX':L'=W++X:=hX';have hkW:k<W.length:=by omega
   have hkL:k<L'.length:=by rw[hX',List.length_append];omega
   have hget:L'.getD k el0=W.getD k el0:=by rw[yb4 el0 hkL,yb4 el0 hkW];simp only[hX',List.getElem_append_left hkW]
   have hatk:=hW.at hkW
   rcases hf:W.getD k el0 with⟨⟨m,B⟩,ft⟩;rw[hf] at hatk;obtain⟨m1,m2,m3⟩:=hatk;have m1:m=(n:Int):=m1;subst m1;have m2:GOk n B:=m2;have m3:ft.size≤120:=m3;have hq:LOk n L':=hq;have hstep:ya7 ((L',true,()),(at_:Int),((n:Int),E,te,()),(k:Int),z,())=some (.inl (((i2 n (((n:Int),E),te) (((n:Int),B),ft) (L',true)).1,(i2 n (((n:Int),E),te) (((n:Int),B),ft) (L',true)).2,()),(at_:Int),((n:Int),E,te,()),((k+1:Nat):Int),z,())):=by
    have e1:=y9r h4 (L',true) hq (yy8 hE m2) (te++ft) (at_:Int) (n:Int) E te (k:Int) (n:Int) B ft (n:Int) (gmul n E B) z;simp only[ya7,decide_eq_true (show(k:Int)≤(at_:Int) by omega),cond_true,if_pos (in_t hkL),Int.toNat_natCast,Nat.zero_add,hget,hf,y6p h1 h4 hE m2,Option.bind_some,List.drop_zero,List.take_length];rw[if_pos (by omega)];have e1:yd4 ((L',true,()),((n:Int),gmul n E B),te++ft,(at_:Int),((n:Int),E,te,()),(k:Int),((n:Int),B,ft,()),((n:Int),gmul n E B,()),z,())=_:=e1;rw[e1];simp only[Option.bind_some,y6p h1 h4 m2 hE,List.drop_zero,List.take_length];rw[if_pos (by omega),y9s h4 _ (zc3 (yy8 hE m2) _ hq) (yy8 m2 hE) (ft++te)];simp only[Option.bind_some,List.drop_zero,List.take_length,ya3 hkL (show L'.length≤9223372036854775807 by have:=hq.len;omega)];rfl
   have hdrop:W.drop k=(((n:Int),B),ft)::W.drop (k+1):=by
    rw[List.drop_eq_getElem_cons hkW,←yb4 el0 hkW,hf]
   obtain⟨q',r1,r2,r3⟩:=zc4 h1 h4 hE hte hW hat z d (k+1) (s2 n (((n:Int),E),te) (((n:Int),B),ft) p) (i2 n (((n:Int),E),te) (((n:Int),B),ft) (L',true)) (by omega) ((hs.put).put) (s2_ok hE m2 hp) (i2_ok hE m2 hq) (fun _=>by
    obtain⟨X1,x1⟩:=z8h (n:=n) (A:=gmul n E B) (t:=te++ft) (p:=(L',true));obtain⟨X2,x2⟩:=z8h (n:=n) (A:=gmul n B E) (t:=ft++te) (p:=iput n (gmul n E B) (te++ft) (L',true));refine⟨X++X1++X2, ?_⟩;show(iput n (gmul n B E) (ft++te) (iput n (gmul n E B) (te++ft) (L',true))).1=_;rw[x2,x1];simp only[hX',List.append_assoc])
   refine⟨q', ?_, ?_,r3⟩
   ·rw[yb2];show(ya7 ((L',true,()),(at_:Int),((n:Int),E,te,()),(k:Int),z,())).bind _=_;rw[hstep];exact r1
   ·rw[hdrop];exact r2
/-- what becomes of the elements when the i-th is gone through -/
def body(n i:Nat)(L:List Elt):List Elt×Bool:=
 let e:=L.getD i el0
 let p:=if gmul n e.1.2 e.1.2=e.1.2 then sput n (y0r n e.1.2) (y5j e.2) (L,false) else(L,false)
 y4o n e (p.1.take (i+1)) p
theorem z1f{n:Nat}{L:List Elt}(h:LOk n L)(k:Nat):LOk n (L.take k):=⟨fun e he=>h.el e (List.mem_of_mem_take he),by have:=h.len;rw[List.length_take];omega⟩
theorem z3w{n:Nat}{A:List Int}{t:ByteArray}{p:List Elt×Bool}:p.1.length≤(sput n A t p).1.length:=by
 obtain⟨L,F⟩:=p;unfold sput;cases has L A
 ·cases F
  ·cases decide ((L.length:Int)≥120)
   ·cases decide ((t.size:Int)>120)
    ·simp
    ·exact Nat.le_refl _
   ·exact Nat.le_refl _
  ·exact Nat.le_refl _
 ·exact Nat.le_refl _
theorem zy6{n:Nat}(h4:n≤4){L:List Elt}(hL:LOk n L){i:Nat}(hi:i<L.length)(w:List Elt):
  ya5 (true,(L,false,()),w,(i:Int),())=some (.inl (true,((body n i L).1,(body n i L).2,()),w,((i+1:Nat):Int),()))∧LOk n (body n i L).1:=by
 have hlen:=hL.len;have hat:=hL.at hi;unfold body
 rcases he:L.getD i el0 with⟨⟨m,E⟩,te⟩;rw[he] at hat;obtain⟨m1,m2,m3⟩:=hat;have m1:m=(n:Int):=m1;subst m1;have hE:GOk n E:=m2;have hte:te.size≤120:=m3;have hw:IntKind.wrap .i64 ((i:Int)+1)=((i+1:Nat):Int):=ya3 hi (by omega);have hsz:(⟨#[(40:UInt8)]⟩:ByteArray).size=1:=rfl;have hsz2:(⟨#[(41:UInt8),(35:UInt8)]⟩:ByteArray).size=2:=rfl;dsimp only
 by_cases hid:gmul n E E=E
 ·rw[if_pos hid];have hp:=y5i (y5h hE) (y5j te) (p:=(L,false)) hL;have hgr:=z3w (n:=n) (A:=y0r n E) (t:=y5j te) (p:=(L,false));obtain⟨g1,g2⟩:=zy5 h4 hE hte (z1f hp (i+1)) w (i:Int) (sput n (y0r n E) (y5j te) (L,false)) hp;refine⟨?_,g2⟩;have e1:=sput_78 h4 (L,false) hL (y5h hE) (y5j te) true w (i:Int) (n:Int) E te;have e1:yj1 ((L,false,()),((n:Int),y0r n E,()),((⟨#[(40:UInt8)]⟩:ByteArray)++te)++(⟨#[(41:UInt8),(35:UInt8)]⟩:ByteArray),true,w,(i:Int),((n:Int),E,te,()),())=_:=e1;have hgr:L.length≤(sput n (y0r n E) (y5j te) (L,false)).1.length:=hgr;have hp120:=hp.len;simp only[ya5,decide_eq_true (show(i:Int)<(L.length:Int) by omega),cond_true,Bool.not_false,if_pos (in_t hi),Int.toNat_natCast,Nat.zero_add,he,y6q h4 hE,hid,decide_true,Option.bind_some,z56 h4 hE,List.drop_zero,List.take_length,if_true];rw[if_pos (by rw[hsz];omega),if_pos (by rw[size_append,hsz,hsz2];omega),e1];simp only[Option.bind_some,cond_true,hw,Int.toNat_natCast,Nat.sub_zero,Nat.zero_add,List.drop_zero,List.take_length,List.length_nil,List.nil_append,if_true];rw[if_pos ⟨by omega,by omega⟩,if_pos ⟨trivial,by rw[List.length_take];omega⟩,g1];simp only[Option.bind_some,hw,Nat.zero_add,List.drop_zero,if_true]
 ·rw[if_neg hid];obtain⟨g1,g2⟩:=zy5 h4 hE hte (z1f hL (i+1)) w (i:Int) (L,false) hL;refine⟨?_,g2⟩;have g1:ya2 yc1 (true,(L,false,()),w,(i:Int),((n:Int),E,te,()),L.take (i+1),((L.take (i+1)).length:Int),(0:Int),())=_:=g1;simp only[ya5,decide_eq_true (show(i:Int)<(L.length:Int) by omega),cond_true,Bool.not_false,if_pos (in_t hi),Int.toNat_natCast,Nat.zero_add,he,y6q h4 hE,decide_eq_false hid,cond_false,Option.bind_some,hw,Nat.sub_zero,List.drop_zero,List.take_length,List.length_nil,List.nil_append,if_true];rw[if_pos ⟨by omega,by omega⟩,if_pos ⟨trivial,by rw[List.length_take];omega⟩,g1];simp only[Option.bind_some,hw,Nat.zero_add,List.drop_zero,if_true]
theorem z9y{n:Nat}(h1:1≤n)(h4:n≤4){L:List Elt}(hL:LOk n L){i:Nat}(hi:i<L.length):
  ∃q',yb6 ((L,true,()),(i:Int),())=some (.inl ((q'.1,q'.2,()),((i+1:Nat):Int),()))∧Same (body n i L) q'∧LOk n q'.1:=by
 have hlen:=hL.len;have hat:=hL.at hi;unfold body
 rcases he:L.getD i el0 with⟨⟨m,E⟩,te⟩;rw[he] at hat;obtain⟨m1,m2,m3⟩:=hat;have m1:m=(n:Int):=m1;subst m1;have hE:GOk n E:=m2;have hte:te.size≤120:=m3;have hw:IntKind.wrap .i64 ((i:Int)+1)=((i+1:Nat):Int):=ya3 hi (by omega);have hsz:(⟨#[(40:UInt8)]⟩:ByteArray).size=1:=rfl;have hsz2:(⟨#[(41:UInt8),(35:UInt8)]⟩:ByteArray).size=2:=rfl;have h0:Same (L,false) (L,true):=.inl ⟨rfl,rfl,rfl⟩;dsimp only
 by_cases hid:gmul n E E=E
 ·rw[if_pos hid];have hp:=y5i (y5h hE) (y5j te) (p:=(L,false)) hL;have hq:=zc3 (y5h hE) (y5j te) (p:=(L,true)) hL;have hs:=h0.put (n:=n) (A:=y0r n E) (t:=y5j te);have hgr:L.length≤(sput n (y0r n E) (y5j te) (L,false)).1.length:=z3w (n:=n) (A:=y0r n E) (t:=y5j te) (p:=(L,false));obtain⟨q',r1,r2,r3⟩:=zc4 h1 h4 hE hte (z1f hp (i+1)) (at_:=i) (by rw[List.length_take];omega) (i:Int) (i+1) 0 (sput n (y0r n E) (y5j te) (L,false)) (iput n (y0r n E) (y5j te) (L,true)) (by omega) hs hp hq (fun hf=>by
   rcases hs with⟨_,_,e⟩|⟨_,e⟩
   ·exact⟨_,by rw[e];exact(List.take_append_drop (i+1) _).symm⟩
   ·rw[e] at hf;cases hf)
  refine⟨q', ?_,r2,r3⟩;have r1:ya2 ya7 (((iput n (y0r n E) (y5j te) (L,true)).1,(iput n (y0r n E) (y5j te) (L,true)).2,()),(i:Int),((n:Int),E,te,()),(0:Int),(i:Int),())=_:=r1;have e1:=y9q h4 (L,true) hL (y5h hE) (y5j te) (i:Int) (n:Int) E te (i:Int);have e1:yd3 ((L,true,()),((n:Int),y0r n E,()),((⟨#[(40:UInt8)]⟩:ByteArray)++te)++(⟨#[(41:UInt8),(35:UInt8)]⟩:ByteArray),(i:Int),((n:Int),E,te,()),(i:Int),())=_:=e1;simp only[yb6,decide_eq_true (show(i:Int)<(L.length:Int) by omega),cond_true,yi5,if_pos (in_t hi),Int.toNat_natCast,Nat.zero_add,he,zf9 h1 h4 hE,if_pos hid,Option.bind_some,List.drop_zero,List.take_length];rw[if_pos (by rw[hsz];omega),if_pos (by rw[size_append,hsz,hsz2];omega),e1];simp only[Option.bind_some,List.drop_zero,List.take_length];rw[r1];simp only[Option.bind_some,List.drop_zero,List.take_length,hw]
 ·rw[if_neg hid];obtain⟨q',r1,r2,r3⟩:=zc4 h1 h4 hE hte (z1f hL (i+1)) (at_:=i) (by rw[List.length_take];omega) (i:Int) (i+1) 0 (L,false) (L,true) (by omega) h0 hL hL (fun hf=>⟨_,(List.take_append_drop (i+1) _).symm⟩);refine⟨q', ?_,r2,r3⟩;have r1:ya2 ya7 ((L,true,()),(i:Int),((n:Int),E,te,()),(0:Int),(i:Int),())=_:=r1;simp only[yb6,decide_eq_true (show(i:Int)<(L.length:Int) by omega),cond_true,yi5,if_pos (in_t hi),Int.toNat_natCast,Nat.zero_add,he,zf9 h1 h4 hE,if_neg hid,Option.bind_some,cond_false,List.drop_zero,List.take_length];rw[r1];simp only[Option.bind_some,List.drop_zero,List.take_length,hw]
def XOk(X:List Int→ByteArray→Prop)(L:List Elt):Prop:=∀e∈L,X e.1.2 e.2
structure Clo (n:Nat) (X:List Int→ByteArray→Prop):Prop where
 app:∀A s C t,X A s→X C t→X (gmul n A C) (s++t)
 sh:∀A s,X A s→gmul n A A=A→X (y0r n A) (y5j s)
theorem z3x{X:List Int→ByteArray→Prop}{n:Nat}{A:List Int}{t:ByteArray}(ht:X A t){p:List Elt×Bool}(h:XOk X p.1):XOk X (sput n A t p).1:=by
 obtain⟨L,F⟩:=p;unfold sput;cases has L A
 ·cases F
  ·cases decide ((L.length:Int)≥120)
   ·cases decide ((t.size:Int)>120)
    ·intro e he
     rcases List.mem_append.1 he with he|he
     ·exact h e he
     ·rw[List.mem_singleton] at he;subst he;exact ht
    ·exact h
   ·exact h
  ·exact h
 ·exact h
theorem z6b{X:List Int→ByteArray→Prop}{n:Nat}(hc:Clo n X){e:Elt}(he:X e.1.2 e.2):∀{W:List Elt} {p:List Elt×Bool},XOk X W→XOk X p.1→XOk X (y4o n e W p).1
 |[],_,_,h=>h
 |f::W,p,hW,h=>by
  have hf:=hW f List.mem_cons_self;exact z6b hc he (W:=W) (p:=s2 n e f p) (fun g hg=>hW g (List.mem_cons_of_mem _ hg)) (z3x (hc.app _ _ _ _ hf he) (z3x (hc.app _ _ _ _ he hf) h))
theorem body_X{X:List Int→ByteArray→Prop}{n i:Nat}(hc:Clo n X){L:List Elt}(hi:i<L.length)(h:XOk X L):XOk X (body n i L).1:=by
 have he:X (L.getD i el0).1.2 (L.getD i el0).2:=by rw[yb4 el0 hi];exact h _ (List.getElem_mem hi)
 unfold body;dsimp only
 split
 ·rename_i hid;have hp:=z3x (n:=n) (A:=y0r n (L.getD i el0).1.2) (hc.sh _ _ he hid) (p:=(L,false)) h;exact z6b hc he (fun e h1=>hp e (List.mem_of_mem_take h1)) hp
 ·exact z6b hc he (fun e h1=>h e (List.mem_of_mem_take h1)) h
theorem z6c{n:Nat}(h1:1≤n)(h4:n≤4)(w:List Elt):∀(d i:Nat) (p q:List Elt×Bool),i+d=121→Same p q→LOk n p.1→LOk n q.1→
  ∃p' q',ya2 ya5 (true,(p.1,p.2,()),w,(i:Int),())=some ((p'.1,p'.2,()),())∧ya2 yb6 ((q.1,q.2,()),(i:Int),())=some ((q'.1,q'.2,()),())∧Same p' q'∧LOk n p'.1∧∀X:List Int→ByteArray→Prop,Clo n X→XOk X p.1→XOk X p'.1:=by
 intro d
 induction d with
 |zero=>
  intro i p q hi hs hp hq;obtain⟨L,F⟩:=p;obtain⟨L',f⟩:=q;have e1:L.length≤120:=hp.len;have e2:L'.length≤120:=hq.len;refine⟨(L,F),(L',f), ?_, ?_,hs,hp,fun _ _ h=>h⟩
  ·rw[yb2];simp only[ya5,decide_eq_false (show ¬(i:Int)<(L.length:Int) by omega),cond_false,Nat.zero_add,List.drop_zero,List.take_length,if_true,Option.bind_some]
  ·rw[yb2];simp only[yb6,decide_eq_false (show ¬(i:Int)<(L'.length:Int) by omega),cond_false,List.drop_zero,List.take_length,Option.bind_some]
 |succ d ih=>
  intro i p q hi hs hp hq;obtain⟨L,F⟩:=p;obtain⟨L',f⟩:=q
  rcases hs with⟨a1,a2,a3⟩|⟨a1,a2⟩
  ·have a1:F=false:=a1;have a2:f=true:=a2;have a3:L'=L:=a3;subst a1 a2 a3
   by_cases hlt:i<L'.length
   ·obtain⟨g1,g2⟩:=zy6 h4 hp hlt w;obtain⟨q',g3,g4,g5⟩:=z9y h1 h4 hp hlt;obtain⟨p2,q2,k1,k2,k3⟩:=ih (i+1) (body n i L') q' (by omega) g4 g2 g5;refine⟨p2,q2, ?_, ?_,k3.1,k3.2.1,fun X hX h=>k3.2.2 X hX (body_X hX hlt h)⟩
    ·rw[yb2];show(ya5 (true,(L',false,()),w,(i:Int),())).bind _=_;rw[g1];exact k1
    ·rw[yb2];show(yb6 ((L',true,()),(i:Int),())).bind _=_;rw[g3];exact k2
   ·refine⟨(L',false),(L',true), ?_, ?_,.inl ⟨rfl,rfl,rfl⟩,hp,fun _ _ h=>h⟩
    ·rw[yb2];simp only[ya5,decide_eq_false (show ¬(i:Int)<(L'.length:Int) by omega),cond_false,Nat.zero_add,List.drop_zero,List.take_length,if_true,Option.bind_some]
    ·rw[yb2];simp only[yb6,decide_eq_false (show ¬(i:Int)<(L'.length:Int) by omega),cond_false,List.drop_zero,List.take_length,Option.bind_some]
  ·have a1:F=true:=a1;have a2:f=false:=a2;subst a1 a2;refine⟨(L,true),(L',false), ?_, ?_,.inr ⟨rfl,rfl⟩,hp,fun _ _ h=>h⟩
   ·rw[yb2];simp only[ya5];cases decide ((i:Int)<(L.length:Int))<;>simp only[cond_true,cond_false,Bool.not_true,Nat.zero_add,List.drop_zero,List.take_length,if_true,Option.bind_some]
   ·rw[yb2];simp only[yb6];cases decide ((i:Int)<(L'.length:Int))<;>simp only[cond_true,cond_false,List.drop_zero,List.take_length,Option.bind_some]
end Go.Proofs.YtafognnoibjjeaaGreatDoor

/- The elements of any automaton, and what is asked of them: both sides tell the same. -/
namespace Go.Proofs.YtafognnoibjjeaaGreatDoor
open Go Go.Proofs.YtafognnoibjjeaaGreatDoor.Am
def lett(c:ByteArray)(n:Nat)(l:List Stp):List Int:=(ym7 c n l l.length).map gr
theorem zq7{a:Aut}{n:Nat}(ha:AutIs a n){p:List Elt×Bool}(hp:LOk n p.1){w:List Elt}(hw:w.length≤2){k:Nat}(hk:k<2){c:ByteArray}(hc:List.getD [la,lb] k (⟨Array.empty⟩:ByteArray)=c):
  yh2 (true,(a.1,a.2.1,a.2.2.1,a.2.2.2,()),(p.1,p.2,()),w,[la,lb],(2:Int),(k:Int),())=some (.inl (true,(a.1,a.2.1,a.2.2.1,a.2.2.2,()),((sput n (lett c n a.2.2.2) c p).1,(sput n (lett c n a.2.2.2) c p).2,()),w++[(((n:Int),lett c n a.2.2.2),c)],[la,lb],(2:Int),((k+1:Nat):Int),())):=by
 have hr:=yr1 ha c;have hm:=y31 ha c;obtain⟨x,S,F,l⟩:=a;have hm:yp4 (x,S,F,l) c=some ((n:Int),ym7 c n l l.length):=hm;have hg:=z57 ha.n4 hr.1;have hA:GOk n (lett c n l):=z3t hr.1;have e1:=sput_39 ha.n4 p hp hA c x S F l true (w++[(((n:Int),lett c n l),c)]) [la,lb] (2:Int) (k:Int);simp only[yh2,decide_eq_true (show(k:Int)<2 by omega),cond_true,Int.toNat_natCast,Nat.zero_add,hc,hm,Option.bind_some,List.drop_zero,List.take_length];rw[if_pos ⟨by omega,by simp;omega⟩,show y0m ((n:Int),ym7 c n l l.length)=some ((n:Int),lett c n l) from hg];simp only[Option.bind_some,List.drop_zero,List.take_length,show List.take 1 [(((n:Int),lett c n l),c)]=[(((n:Int),lett c n l),c)] from rfl,List.take_of_length_le (show(w++[(((n:Int),lett c n l),c)]).length≤w.length+[(((n:Int),lett c n l),c)].length by simp),if_true];rw[if_pos ⟨trivial,by simp;omega⟩,e1];simp only[Option.bind_some,Nat.zero_add,List.drop_zero,List.take_length,if_true,ya3 hk (by omega)]
theorem zq8{a:Aut}{n:Nat}(ha:AutIs a n)(hv:yo7 a=true)(hs:yy1 a){p:List Elt×Bool}(hp:LOk n p.1){k:Nat}(hk:k<2){c:ByteArray}(hc:List.getD [la,lb] k (⟨Array.empty⟩:ByteArray)=c)(hc2:c=la∨c=lb):
  ye2 ((a.1,a.2.1,a.2.2.1,a.2.2.2,()),(p.1,p.2,()),[la,lb],(2:Int),(k:Int),())=some (.inl ((a.1,a.2.1,a.2.2.1,a.2.2.2,()),((iput n (lett c n a.2.2.2) c p).1,(iput n (lett c n a.2.2.2) c p).2,()),[la,lb],(2:Int),((k+1:Nat):Int),())):=by
 have hr:=yr1 ha c;have hm:=zu2 ha hv hs hc2;obtain⟨x,S,F,l⟩:=a;have hm:y1h (x,S,F,l) c=some (((n:Int),lett c n l),true):=hm;have hA:GOk n (lett c n l):=z3t hr.1;have e1:=z1e ha.n4 p hp hA c x S F l [la,lb] (2:Int) (k:Int);simp only[ye2,decide_eq_true (show(k:Int)<2 by omega),cond_true,Int.toNat_natCast,Nat.zero_add,hc,hm,Option.bind_some,List.drop_zero,List.take_length];rw[if_pos ⟨by omega,by simp;omega⟩,e1];simp only[Option.bind_some,Nat.zero_add,List.drop_zero,List.take_length,if_true,ya3 hk (by omega)]
theorem LOk.nil(n:Nat):LOk n []:=⟨fun e he=>(by cases he),(by simp)⟩
theorem ku9{L:List Elt}{n:Nat}(hL:LOk n L)(h4:n≤4):yo5 L=some L:=by
 have hlen:=hL.len;have hsq:=y1l h4;obtain⟨r,g1,g2⟩:=yd9 (f:=ye1) L.length (fun i (o:List Elt)=>(o,L,(L.length:Int),(i:Int),())) (fun i o=>o++[L.getD i el0]) (fun o=>(o,())) (fun i o=>o=L.take i)
  (fun i o hi ho=>by subst ho;rw[yg4 hi,yb4 el0 hi])
  (fun i o hi ho=>by
   have hol:o.length=i:=by subst ho;rw[List.length_take];omega
   have hat:=hL.at hi
   rcases he:L.getD i el0 with⟨⟨m,E⟩,te⟩;rw[he] at hat;have hE:E.length=n*n:=hat.2.1.1;have e1:yt9 ((m,E),te)=some ((m,E),te):=by
    simp only[yt9,y04,List.length_nil,Nat.zero_add,List.drop_zero,List.nil_append,List.take_length];rw[if_pos ⟨trivial,by rw[hE];omega⟩];simp only[Option.bind_some,List.take_length]
   simp only[ye1,lt_t hi,cond_true,if_pos (in_t hi),Int.toNat_natCast,he,e1,Option.bind_some,List.drop_zero,List.take_length,Nat.zero_add,show List.take 1 [((m,E),te)]=[((m,E),te)] from rfl];rw[if_pos ⟨trivial,by simp;omega⟩,List.take_of_length_le (by simp),ya3 hi (by omega)])
  (fun o ho=>by simp only[ye1,lt_f,cond_false,List.drop_zero,List.take_length])
  [] rfl
 have g1:ya2 ye1 ([],L,(L.length:Int),(0:Int),())=_:=g1;rw[List.take_length] at g2;simp only[yo5,List.drop_zero,List.take_nil];rw[g1,g2];simp only[Option.bind_some,List.drop_zero,List.take_length]
/-- the elements, told of steps alone -/
noncomputable def zy7(n:Nat)(st:List Stp):Option (List Elt×Bool):=
 (ya2 ya5 (true,((sput n (lett lb n st) lb (sput n (lett la n st) la ([],false))).1,(sput n (lett lb n st) lb (sput n (lett la n st) la ([],false))).2,()),[]++[(((n:Int),lett la n st),la)]++[(((n:Int),lett lb n st),lb)],(0:Int),())).map fun r=>if r.1.2.1 then([],false) else(r.1.1,true)
theorem y5k{a:Aut}{n:Nat}(ha:AutIs a n)(hv:yo7 a=true)(hs:yy1 a):∃L ok,LOk n L∧yd5 a=some (L,ok)∧ya6 a=some (L,ok)∧(ok=false→L=[])∧(∀X:List Int→ByteArray→Prop,Clo n X→X (lett la n a.2.2.2) la→X (lett lb n a.2.2.2) lb→XOk X L)∧zy7 n a.2.2.2=some (L,ok):=by
 have a1:=zq7 ha (LOk.nil n) (p:=([],false)) (w:=[]) (by simp) (show 0<2 by omega) (c:=la) rfl;have okA:GOk n (lett la n a.2.2.2):=z3t (yr1 ha la).1;have okB:GOk n (lett lb n a.2.2.2):=z3t (yr1 ha lb).1;have p1:=y5i okA la (p:=([],false)) (LOk.nil n);have q1:=zc3 okA la (p:=([],true)) (LOk.nil n);have a2:=zq7 ha p1 (w:=[]++[(((n:Int),lett la n a.2.2.2),la)]) (by simp) (show 1<2 by omega) (c:=lb) rfl;have b1:=zq8 ha hv hs (LOk.nil n) (p:=([],true)) (show 0<2 by omega) (c:=la) rfl (.inl rfl);have b2:=zq8 ha hv hs q1 (show 1<2 by omega) (c:=lb) rfl (.inr rfl);have s1:Same (([],false):List Elt×Bool) ([],true):=.inl ⟨rfl,rfl,rfl⟩;have s2:=(s1.put (n:=n) (A:=lett la n a.2.2.2) (t:=la)).put (n:=n) (A:=lett lb n a.2.2.2) (t:=lb);obtain⟨p',q',g1,g2,g3,g4,g5⟩:=z6c ha.n1 ha.n4 ([]++[(((n:Int),lett la n a.2.2.2),la)]++[(((n:Int),lett lb n a.2.2.2),lb)]) 121 0 _ _ (by omega) s2 (y5i okB lb p1) (zc3 okB lb q1);have hS:y0n a true=some (p'.1, !p'.2):=by
  obtain⟨x,S,F,l⟩:=a;have a1:yh2 (true,(x,S,F,l,()),([],false,()),[],[la,lb],(2:Int),(0:Int),())=_:=a1;have a2:yh2 (true,(x,S,F,l,()),_,_,[la,lb],(2:Int),((0+1:Nat):Int),())=_:=a2;simp only[y0n,List.length_nil,List.drop_zero,List.take_zero,if_true,Nat.add_zero,show List.take 2 [la,lb]=[la,lb] from rfl,show((2:Nat):Int)=2 from rfl];rw[yb2,a1];simp only[Option.bind_some];rw[yb2,a2];simp only[Option.bind_some];rw[yb2];simp only[yh2,show decide (((1+1:Nat):Int)<2)=false from rfl,cond_false,Nat.zero_add,List.drop_zero,List.take_length,if_true,Option.bind_some];have g1:ya2 ya5 (true,_,_,(0:Int),())=_:=g1;rw[g1];simp only[Option.bind_some]
 have hI:yj7 (a,())=some ((if p'.2 then[] else p'.1, !p'.2,()),()):=by
  have hA:=yc4 a (yh0 hs).1 (yh0 hs).2;obtain⟨x,S,F,l⟩:=a;have b1:ye2 ((x,S,F,l,()),([],true,()),[la,lb],(2:Int),(0:Int),())=_:=b1;have b2:ye2 ((x,S,F,l,()),_,[la,lb],(2:Int),((0+1:Nat):Int),())=_:=b2;simp only[yj7,hA,hv,Option.bind_some,Bool.not_true,cond_false,List.drop_zero,show List.take 2 [la,lb]=[la,lb] from rfl,show((2:Nat):Int)=2 from rfl];rw[yb2,b1];simp only[Option.bind_some];rw[yb2,b2];simp only[Option.bind_some];rw[yb2];simp only[ye2,show decide (((1+1:Nat):Int)<2)=false from rfl,cond_false,List.drop_zero,List.take_length,Option.bind_some];have g2:ya2 yb6 (_,(0:Int),())=_:=g2;rw[g2];obtain⟨L,F⟩:=p';obtain⟨L',f⟩:=q'
  rcases g3 with⟨c1,c2,c3⟩|⟨c1,c2⟩
  ·have c1:F=false:=c1;have c2:f=true:=c2;have c3:L'=L:=c3;subst c1 c2 c3;simp
  ·have c1:F=true:=c1;have c2:f=false:=c2;subst c1 c2;simp
 have hSv:=yj5 a (yh0 hs).1 (yh0 hs).2;have hO:zy7 n a.2.2.2=some (if p'.2 then([],false) else(p'.1,true)):=by
  unfold zy7;rw[show ya2 ya5 (true,_,_,(0:Int),())=_ from g1];rfl
 obtain⟨x,S,F,l⟩:=a;obtain⟨L,full⟩:=p';have g4:LOk n L:=g4;cases full with
 |true=>
  refine⟨[],false,LOk.nil n, ?_, ?_,fun _=>rfl,(fun _ _ _ _ e he=>by cases he),hO⟩
  ·simp only[yd5,ym3,hSv,hv,hS,Option.bind_some,Bool.not_true,Bool.not_false,cond_false,cond_true,List.drop_zero,List.take_zero,ku9 (LOk.nil n) ha.n4,List.take_length]
  ·simp only[ya6,hI,Option.bind_some,if_true,List.drop_zero,List.take_length];rfl
 |false=>
  refine⟨L,true,g4, ?_, ?_,(fun h=>by cases h),(fun X hX xa xb=>g5 X hX (z3x xb (z3x xa fun e he=>by cases he))),hO⟩
  ·simp only[yd5,ym3,hSv,hv,hS,Option.bind_some,Bool.not_true,Bool.not_false,cond_false,cond_true,List.drop_zero,ku9 g4 ha.n4,List.take_length]
  ·simp only[ya6,hI,Option.bind_some,List.drop_zero,List.take_length];simp
theorem zu3{a:Aut}{n:Nat}(ha:AutIs a n)(hv:yo7 a=true)(hs:yy1 a):∃L ok,LOk n L∧yd5 a=some (L,ok)∧ya6 a=some (L,ok)∧(ok=false→L=[]):=by
 obtain⟨L,ok,h1,h2,h3,h4,_,_⟩:=y5k ha hv hs;exact⟨L,ok,h1,h2,h3,h4⟩
theorem zg0{a:Aut}(hv:yo7 a=false)(hs:yy1 a):yd5 a=some ([],false)∧ya6 a=some ([],false):=by
 have hA:=yc4 a (yh0 hs).1 (yh0 hs).2;have hSv:=yj5 a (yh0 hs).1 (yh0 hs).2;obtain⟨x,S,F,l⟩:=a;constructor
 ·simp only[yd5,ym3,hSv,hv,Option.bind_some,Bool.not_false,cond_true,List.drop_zero,List.take_zero,ku9 (LOk.nil 1) (by omega),List.take_length]
 ·simp only[ya6,yj7,hA,hv,Option.bind_some,Bool.not_false,cond_true,List.drop_zero,List.take_length]
/-! ### the grade from a start to a final -/
def btwF(n:Nat)(A:List Int)(i:Int)(F:List Int)(c:Int):Int:=F.foldl (fun c k=>mn c (A.getD (i.toNat*n+k.toNat) 0)) c
def btw(n:Nat)(A:List Int)(S F:List Int):Int:=S.foldl (fun c i=>btwF n A i F c) 3
section
variable {n : Nat} (h1 : 1 ≤ n) (h4 : n ≤ 4) {S F : List Int} (l : List Stp) (hS : ∀ q ∈ S, 0 ≤ q ∧ q ≤ (n : Int) - 1) (hF : ∀ q ∈ F, 0 ≤ q ∧ q ≤ (n : Int) - 1) (lS : S.length ≤ 1048576) (lF : F.length ≤ 1048576) {A : List Int} (hA : GOk n A)
include h4 hF lF hA
theorem zq9(c:Int){i:Int}(hi:0≤i∧i≤(n:Int)-1)(u v:Int):ya2 yi6 (((n:Int),S,F,l,()),((n:Int),A,()),c,i,S,u,v,F,(F.length:Int),(0:Int),())=some (((n:Int),S,F,l,()),((n:Int),A,()),btwF n A i F c,S,u,v,()):=by
 obtain⟨r,g1,g2⟩:=yd9 (f:=yi6) F.length (fun j (c:Int)=>(((n:Int),S,F,l,()),((n:Int),A,()),c,i,S,u,v,F,(F.length:Int),(j:Int),())) (fun j c=>mn c (A.getD (i.toNat*n+(F.getD j 0).toNat) 0)) (fun c=>(((n:Int),S,F,l,()),((n:Int),A,()),c,S,u,v,()))
  (fun j c'=>c'=btwF n A i (F.take j) c)
  (fun j c' hj hc=>by subst hc;unfold btwF;rw[yg4 hj,List.foldl_append,yb4 0 hj];rfl)
  (fun j c' hj hc=>by
   have hk:=hF _ (show F.getD j 0∈F by rw[yb4 0 hj];exact List.getElem_mem hj);obtain⟨w1,w2⟩:=mulwI h4 hi hk;simp only[yi6,lt_t hj,cond_true,if_pos (in_t hj),Int.toNat_natCast,w1];rw[if_pos ⟨by omega,by rw[hA.1];omega⟩];simp only[ya3 hj (show F.length≤9223372036854775807 by omega)];rfl)
  (fun c' hc=>by simp only[yi6,lt_f,cond_false])
  c rfl
 have g1:ya2 yi6 (((n:Int),S,F,l,()),((n:Int),A,()),c,i,S,u,v,F,(F.length:Int),(0:Int),())=_:=g1;rw[g1,g2,List.take_length]
include hS lS in
theorem z3y:y09 ((n:Int),S,F,l) ((n:Int),A)=some (btw n A S F):=by
 obtain⟨r,g1,g2⟩:=yd9 (f:=yj9) S.length (fun j (c:Int)=>(((n:Int),S,F,l,()),((n:Int),A,()),c,S,(S.length:Int),(j:Int),())) (fun j c=>btwF n A (S.getD j 0) F c) (fun c=>(c,()))
  (fun j c'=>c'=(S.take j).foldl (fun c i=>btwF n A i F c) 3)
  (fun j c' hj hc=>by subst hc;rw[yg4 hj,List.foldl_append,yb4 0 hj];rfl)
  (fun j c' hj hc=>by
   have hk:=hS _ (show S.getD j 0∈S by rw[yb4 0 hj];exact List.getElem_mem hj);simp only[yj9,lt_t hj,cond_true,if_pos (in_t hj),Int.toNat_natCast,zq9 h4 l hF lF hA c' hk,Option.bind_some,ya3 hj (show S.length≤9223372036854775807 by omega)])
  (fun c' hc=>by simp only[yj9,lt_f,cond_false])
  3 rfl
 have g1:ya2 yj9 (((n:Int),S,F,l,()),((n:Int),A,()),(3:Int),S,(S.length:Int),(0:Int),())=_:=g1;simp only[y09];rw[g1,g2,List.take_length];rfl
theorem zr0(c:Int){i:Int}(hi:0≤i∧i≤(n:Int)-1)(u v:Int):ya2 yf7 (((n:Int),S,F,l,()),((n:Int),A,()),c,i,S,u,v,F,(F.length:Int),(0:Int),())=some (((n:Int),S,F,l,()),((n:Int),A,()),btwF n A i F c,S,u,v,()):=by
 obtain⟨r,g1,g2⟩:=yd9 (f:=yf7) F.length (fun j (c:Int)=>(((n:Int),S,F,l,()),((n:Int),A,()),c,i,S,u,v,F,(F.length:Int),(j:Int),())) (fun j c=>mn c (A.getD (i.toNat*n+(F.getD j 0).toNat) 0)) (fun c=>(((n:Int),S,F,l,()),((n:Int),A,()),c,S,u,v,()))
  (fun j c'=>c'=btwF n A i (F.take j) c)
  (fun j c' hj hc=>by subst hc;unfold btwF;rw[yg4 hj,List.foldl_append,yb4 0 hj];rfl)
  (fun j c' hj hc=>by
   have hk:=hF _ (show F.getD j 0∈F by rw[yb4 0 hj];exact List.getElem_mem hj);obtain⟨w1,w2⟩:=mulwI h4 hi hk;simp only[yf7,lt_t hj,cond_true,if_pos (in_t hj),Int.toNat_natCast,yf6,w1];rw[if_pos ⟨by omega,by rw[hA.1];omega⟩];simp only[Option.bind_some,ya3 hj (show F.length≤9223372036854775807 by omega)];rfl)
  (fun c' hc=>by simp only[yf7,lt_f,cond_false])
  c rfl
 have g1:ya2 yf7 (((n:Int),S,F,l,()),((n:Int),A,()),c,i,S,u,v,F,(F.length:Int),(0:Int),())=_:=g1;rw[g1,g2,List.take_length]
include h1 hS lS in
theorem y6r(hv:yo7 ((n:Int),S,F,l)=true):yj8 ((n:Int),S,F,l) ((n:Int),A)=some (btw n A S F):=by
 obtain⟨r,g1,g2⟩:=yd9 (f:=yh1) S.length (fun j (c:Int)=>(((n:Int),S,F,l,()),((n:Int),A,()),c,S,(S.length:Int),(j:Int),())) (fun j c=>btwF n A (S.getD j 0) F c) (fun c=>(c,()))
  (fun j c'=>c'=(S.take j).foldl (fun c i=>btwF n A i F c) 3)
  (fun j c' hj hc=>by subst hc;rw[yg4 hj,List.foldl_append,yb4 0 hj];rfl)
  (fun j c' hj hc=>by
   have hk:=hS _ (show S.getD j 0∈S by rw[yb4 0 hj];exact List.getElem_mem hj);simp only[yh1,lt_t hj,cond_true,if_pos (in_t hj),Int.toNat_natCast,zr0 h4 l hF lF hA c' hk,Option.bind_some,ya3 hj (show S.length≤9223372036854775807 by omega)])
  (fun c' hc=>by simp only[yh1,lt_f,cond_false])
  3 rfl
 have g1:ya2 yh1 (((n:Int),S,F,l,()),((n:Int),A,()),(3:Int),S,(S.length:Int),(0:Int),())=_:=g1;have hA':=yc4 ((n:Int),S,F,l) (show S.length≤_ by omega) (show F.length≤_ by omega);simp only[yj8,hA',hv,y1b h1 h4 hA,Option.bind_some,Bool.not_true,cond_false,bne_self_eq_false];rw[g1,g2,List.take_length];rfl
end
/-! ### the first element for which something holds -/
def y5l(L:List Elt)(p:Elt→Bool):ByteArray×Bool:=match(List.range L.length).find? fun i=>p (L.getD i el0) with|some i=>((L.getD i el0).2,true)|none=>((⟨#[]⟩:ByteArray),false)
theorem z3z{a:Aut}{L:List Elt}{ok:Bool}(hE:ya6 a=some (L,ok))(hl:L.length≤120){φ:(((Int×List Int))×Unit)→Option Bool}{p:Elt→Bool}(hφ:∀e∈L,φ (e.1,())=some (p e)):y1a a φ=some (y5l L p):=by
 have g:=yr0 (f:=yk0) (fun i=>(φ,L,(L.length:Int),(i:Int),())) L.length (fun i=>p (L.getD i el0)) (fun i=>Sum.inl ((L.getD i el0).2,true,())) (Sum.inr ())
  (fun i hi=>by
   have hm:L.getD i el0∈L:=by rw[yb4 el0 hi];exact List.getElem_mem hi
   have hp:=hφ _ hm;have hp:φ (((L.getD i el0).1.1,(L.getD i el0).1.2),())=some (p (L.getD i el0)):=hp;simp only[yk0,lt_t hi,cond_true,if_pos (in_t hi),Int.toNat_natCast,Nat.zero_add,hp,Option.bind_some,List.drop_zero,List.take_length,ya3 hi (show L.length≤9223372036854775807 by omega)];cases p (L.getD i el0)<;>rfl)
  (by simp only[yk0,lt_f,cond_false])
 have g:ya2 yk0 (φ,L,(L.length:Int),(0:Int),())=_:=g;obtain⟨x,S,F,l⟩:=a;simp only[y1a,hE,Option.bind_some,List.drop_zero,List.take_length];rw[g];unfold y5l;cases(List.range L.length).find? fun i=>p (L.getD i el0)<;>rfl
end Go.Proofs.YtafognnoibjjeaaGreatDoor

/- Bounded costs and elements that grow between two states: both sides tell the same; the laws. -/
namespace Go.Proofs.YtafognnoibjjeaaGreatDoor
open Go Go.Proofs.YtafognnoibjjeaaGreatDoor.Am
def growP(n:Nat)(S F:List Int)(e:Elt):Bool:=btw n e.1.2 S F==2
theorem z30{a:Aut}{n:Nat}(ha:AutIs a n)(hv:yo7 a=true)(hs:yy1 a){L:List Elt}{ok:Bool}(hL:LOk n L)(hE:ya6 a=some (L,ok)):yk4 a=some (y5l L (growP n a.2.1 a.2.2.1)):=by
 obtain⟨x,S,F,l⟩:=a;have hx:x=(n:Int):=ha.st;subst hx;have hb:=fun(e:Elt) (he:e∈L)=>y6r ha.n1 ha.n4 l ha.S ha.F hs.1 hs.2.1 (hL.el e he).2.1 hv;simp only[yk4];rw[z3z hE hL.len (p:=growP n S F) (fun e he=>by
  have h1:=(hL.el e he).1;have h2:=hb e he;obtain⟨⟨m,B⟩,t⟩:=e;have h1:m=(n:Int):=h1;subst h1;have h2:yj8 ((n:Int),S,F,l) ((n:Int),B)=some (btw n B S F):=h2;show yy3 ((n:Int),B) ((n:Int),S,F,l)=_;simp only[yy3,h2,Option.bind_some];rfl)]
 rfl
end Go.Proofs.YtafognnoibjjeaaGreatDoor
