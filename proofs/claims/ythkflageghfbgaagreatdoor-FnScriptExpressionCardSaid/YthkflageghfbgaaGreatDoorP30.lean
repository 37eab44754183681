import Derived.Test.YthkflageghfbgaaGreatDoorP10
set_option linter.unusedVariables false
set_option linter.unusedSimpArgs false
/- Matrices of grades: products and what is repeated again and again, by the reference and by the program. -/
namespace Go.Proofs.YthkflageghfbgaaGreatDoor
open Go Go.Proofs.YthkflageghfbgaaGreatDoor.Am
/-- grades in a square -/
def GOk(n:Nat)(A:List Int):Prop:=A.length=n*n∧∀x∈A,0≤x∧x≤3
theorem GOk.at{n i:Nat}{A:List Int}(h:GOk n A)(hi:i<n*n):0≤A.getD i 0∧A.getD i 0≤3:=by
 have hi':i<A.length:=by rw[h.1];exact hi
 rw[List.getD_eq_getElem?_getD,List.getElem?_eq_getElem hi'];exact h.2 _ (List.getElem_mem hi')
def mn(x y:Int):Int:=if y<x then y else x
def mx(x y:Int):Int:=if y>x then y else x
theorem mn_rng{x y:Int}(hx:0≤x∧x≤3)(hy:0≤y∧y≤3):0≤mn x y∧mn x y≤3:=by unfold mn;split<;>omega
theorem mx_rng{x y:Int}(hx:0≤x∧x≤3)(hy:0≤y∧y≤3):0≤mx x y∧mx x y≤3:=by unfold mx;split<;>omega
/-- a square of what is told of each two numbers -/
def mk(n:Nat)(c:Nat→Nat→Int):List Int:=(List.range (n*n)).map fun m=>c (m/n) (m%n)
theorem mk_len(n:Nat)(c:Nat→Nat→Int):(mk n c).length=n*n:=by simp[mk]
theorem mk_get{n i k:Nat}(c:Nat→Nat→Int)(hi:i<n)(hk:k<n):(mk n c).getD (i*n+k) 0=c i k:=by
 have h:=idx_lt hi hk;have e:=col_row (i:=i) hk;unfold mk;rw[List.getD_eq_getElem?_getD,List.getElem?_map,List.getElem?_range h];simp only[Option.map_some,Option.getD_some,e.1,e.2]
theorem mat_ext{n:Nat}{A B:List Int}(hA:A.length=n*n)(hB:B.length=n*n)(h:∀i k,i<n→k<n→A.getD (i*n+k) 0=B.getD (i*n+k) 0):A=B:=by
 apply List.ext_getElem (by rw[hA,hB]);intro m h1 h2;rw[hA] at h1;obtain⟨r1,r2,r3⟩:=row_col h1;have:=h (m/n) (m%n) r1 r2;rw[r3,List.getD_eq_getElem?_getD,List.getD_eq_getElem?_getD,List.getElem?_eq_getElem (by omega),List.getElem?_eq_getElem (by omega)] at this;exact this
theorem mk_is{n:Nat}{C:List Int}{c:Nat→Nat→Int}(hC:C.length=n*n)(h:∀i k,i<n→k<n→C.getD (i*n+k) 0=c i k):C=mk n c:=
 mat_ext hC (mk_len n c) fun i k hi hk=>by rw[h i k hi hk,mk_get c hi hk]
theorem mk_ok{n:Nat}{c:Nat→Nat→Int}(h:∀i k,i<n→k<n→0≤c i k∧c i k≤3):GOk n (mk n c):=by
 refine⟨mk_len n c,fun x hx=> ?_⟩;unfold mk at hx;obtain⟨m,hm,rfl⟩:=List.mem_map.1 hx;have hm:=List.mem_range.1 hm;obtain⟨r1,r2,r3⟩:=row_col hm;exact h _ _ r1 r2
/-! ### products -/
def gcN(n:Nat)(A B:List Int)(i k:Nat):Nat→Int
 |0=>3
 |l+1=>mn (gcN n A B i k l) (mx (A.getD (i*n+l) 0) (B.getD (l*n+k) 0))
def gmul(n:Nat)(A B:List Int):List Int:=mk n fun i k=>gcN n A B i k n
theorem gcN_rng{n:Nat}{A B:List Int}(hA:GOk n A)(hB:GOk n B){i k:Nat}(hi:i<n)(hk:k<n):∀l,l≤n→0≤gcN n A B i k l∧gcN n A B i k l≤3
 |0,_=>by simp[gcN]
 |l+1,hl=>mn_rng (gcN_rng hA hB hi hk l (by omega)) (mx_rng (hA.at (idx_lt hi (by omega))) (hB.at (idx_lt (by omega) hk)))
theorem gmul_ok{n:Nat}{A B:List Int}(hA:GOk n A)(hB:GOk n B):GOk n (gmul n A B):=mk_ok fun i k hi hk=>gcN_rng hA hB hi hk n (Nat.le_refl n)
theorem l6Mul_in{n:Nat}(h4:n≤4){A B:List Int}(hA:GOk n A)(hB:GOk n B)(o:List Int){m:Nat}(hm:m<n*n):
  loopF spec_l6Mul_l7 (((n:Int),A,()),((n:Int),B,()),((0:Int),[],()),((n:Int),o,()),(m:Int),(3:Int),((n*n:Nat):Int),(m:Int),(n:Int),(0:Int),())=
   some (((n:Int),A,()),((n:Int),B,()),((0:Int),[],()),((n:Int),o,()),gcN n A B (m/n) (m%n) n,((n*n:Nat):Int),(m:Int),()):=by
 have hsq:=sq_le h4;obtain⟨r1,r2,r3⟩:=row_col hm;obtain⟨r,g1,g2⟩:=loop_inv (f:=spec_l6Mul_l7) n (fun l (c:Int)=>(((n:Int),A,()),((n:Int),B,()),((0:Int),[],()),((n:Int),o,()),(m:Int),c,((n*n:Nat):Int),(m:Int),(n:Int),(l:Int),()))
  (fun l c=>mn c (mx (A.getD (m/n*n+l) 0) (B.getD (l*n+m%n) 0)))
  (fun c=>(((n:Int),A,()),((n:Int),B,()),((0:Int),[],()),((n:Int),o,()),c,((n*n:Nat):Int),(m:Int),())) (fun l c=>c=gcN n A B (m/n) (m%n) l)
  (fun l c hl hc=>by subst hc;rfl)
  (fun l c hl hc=>by
   have e1:=idx_lt r1 hl;have e2:=idx_lt hl r2;simp only[spec_l6Mul_l7,lt_t hl,cond_true,div_is,mod_is,w64n (show m/n≤1000000 by omega),mulw (show m/n*n+l≤1000000 by omega),mulw (show l*n+m%n≤1000000 by omega),Int.toNat_natCast];rw[if_neg (by omega),if_pos ⟨by omega,by rw[hA.1];omega⟩,if_neg (by omega),if_pos ⟨by omega,by rw[hB.1];omega⟩];simp only[List.drop_zero,List.take_length,w64_succ hl (show n≤9223372036854775807 by omega)];rfl)
  (fun c hc=>by simp only[spec_l6Mul_l7,lt_f,cond_false,List.drop_zero,List.take_length])
  3 rfl
 rw[g2] at g1;exact g1
theorem l6Mul_is{n:Nat}(h4:n≤4){A B:List Int}(hA:GOk n A)(hB:GOk n B):spec_l6Mul ((n:Int),A) ((n:Int),B)=some ((n:Int),gmul n A B):=by
 have hsq:=sq_le h4;simp only[spec_l6Mul,sqw h4];obtain⟨r,g1,g2⟩:=loop_inv (f:=spec_l6Mul_l3) (n*n) (fun m (o:List Int)=>(((n:Int),A,()),((n:Int),B,()),((0:Int),[],()),((n:Int),o,()),((n*n:Nat):Int),(m:Int),()))
  (fun m o=>o++[gcN n A B (m/n) (m%n) n]) (fun o=>(((0:Int),[],()),((n:Int),o,()),())) (fun m o=>o=(List.range m).map fun m=>gcN n A B (m/n) (m%n) n)
  (fun m o hm ho=>by subst ho;rw[List.range_succ,List.map_append];rfl)
  (fun m o hm ho=>by
   have hol:o.length=m:=by subst ho;simp
   simp only[spec_l6Mul_l3,lt_t hm,cond_true,List.drop_zero,List.take_length];rw[l6Mul_in h4 hA hB o hm];simp only[Option.bind_some,List.drop_zero,List.take_length,Nat.zero_add];rw[show List.take 1 [gcN n A B (m/n) (m%n) n]=[gcN n A B (m/n) (m%n) n] from rfl,if_pos ⟨trivial,by simp;omega⟩,List.take_of_length_le (by simp),w64_succ hm (by omega)])
  (fun o ho=>by simp only[spec_l6Mul_l3,lt_f,cond_false,List.drop_zero,List.take_length])
  [] rfl
 have g1:loopF spec_l6Mul_l3 (((n:Int),A,()),((n:Int),B,()),((0:Int),[],()),((n:Int),[],()),((n*n:Nat):Int),(0:Int),())=_:=g1;rw[g1,g2];simp only[Option.bind_some,List.drop_zero,List.take_length];rfl
/-! ### what is repeated again and again -/
def ag(g:Int):Int:=if g=1 then 2 else g
def gsN(n:Nat)(A:List Int)(i k:Nat):Nat→Int
 |0=>3
 |l+1=>mn (gsN n A i k l) (mx (mx (A.getD (i*n+l) 0) (ag (A.getD (l*n+l) 0))) (A.getD (l*n+k) 0))
def gstab(n:Nat)(A:List Int):List Int:=mk n fun i k=>gsN n A i k n
theorem ag_rng{x:Int}(h:0≤x∧x≤3):0≤ag x∧ag x≤3:=by unfold ag;split<;>omega
theorem gsN_rng{n:Nat}{A:List Int}(hA:GOk n A){i k:Nat}(hi:i<n)(hk:k<n):∀l,l≤n→0≤gsN n A i k l∧gsN n A i k l≤3
 |0,_=>by simp[gsN]
 |l+1,hl=>mn_rng (gsN_rng hA hi hk l (by omega)) (mx_rng (mx_rng (hA.at (idx_lt hi (by omega))) (ag_rng (hA.at (idx_lt (by omega) (by omega))))) (hA.at (idx_lt (by omega) hk)))
theorem gstab_ok{n:Nat}{A:List Int}(hA:GOk n A):GOk n (gstab n A):=mk_ok fun i k hi hk=>gsN_rng hA hi hk n (Nat.le_refl n)
theorem l6Again_is(g:Int):spec_l6Again g=some (ag g):=by
 unfold spec_l6Again ag
 by_cases h:g=1
 ·subst h;rfl
 ·have:(g==1)=false:=by simpa using h
  simp only[this,cond_false,if_neg h]
theorem l6Stable_in{n:Nat}(h4:n≤4){A:List Int}(hA:GOk n A)(o:List Int){m:Nat}(hm:m<n*n):
  loopF spec_l6Stable_l7 (((n:Int),A,()),((0:Int),[],()),((n:Int),o,()),(m:Int),(3:Int),((n*n:Nat):Int),(m:Int),(n:Int),(0:Int),())=
   some (((n:Int),A,()),((0:Int),[],()),((n:Int),o,()),gsN n A (m/n) (m%n) n,((n*n:Nat):Int),(m:Int),()):=by
 have hsq:=sq_le h4;obtain⟨r1,r2,r3⟩:=row_col hm;obtain⟨r,g1,g2⟩:=loop_inv (f:=spec_l6Stable_l7) n (fun l (c:Int)=>(((n:Int),A,()),((0:Int),[],()),((n:Int),o,()),(m:Int),c,((n*n:Nat):Int),(m:Int),(n:Int),(l:Int),()))
  (fun l c=>mn c (mx (mx (A.getD (m/n*n+l) 0) (ag (A.getD (l*n+l) 0))) (A.getD (l*n+m%n) 0)))
  (fun c=>(((n:Int),A,()),((0:Int),[],()),((n:Int),o,()),c,((n*n:Nat):Int),(m:Int),())) (fun l c=>c=gsN n A (m/n) (m%n) l)
  (fun l c hl hc=>by subst hc;rfl)
  (fun l c hl hc=>by
   have e1:=idx_lt r1 hl;have e2:=idx_lt hl r2;have e3:=idx_lt hl hl;simp only[spec_l6Stable_l7,lt_t hl,cond_true,div_is,mod_is,w64n (show m/n≤1000000 by omega),mulw (show m/n*n+l≤1000000 by omega),mulw (show l*n+m%n≤1000000 by omega),mulw (show l*n+l≤1000000 by omega),Int.toNat_natCast,l6Again_is,Option.bind_some];rw[if_neg (by omega),if_pos ⟨by omega,by rw[hA.1];omega⟩,if_pos ⟨by omega,by rw[hA.1];omega⟩,if_neg (by omega),if_pos ⟨by omega,by rw[hA.1];omega⟩];simp only[List.drop_zero,List.take_length,w64_succ hl (show n≤9223372036854775807 by omega)];rfl)
  (fun c hc=>by simp only[spec_l6Stable_l7,lt_f,cond_false,List.drop_zero,List.take_length])
  3 rfl
 rw[g2] at g1;exact g1
theorem l6Stable_is{n:Nat}(h4:n≤4){A:List Int}(hA:GOk n A):spec_l6Stable ((n:Int),A)=some ((n:Int),gstab n A):=by
 have hsq:=sq_le h4;simp only[spec_l6Stable,sqw h4];obtain⟨r,g1,g2⟩:=loop_inv (f:=spec_l6Stable_l3) (n*n) (fun m (o:List Int)=>(((n:Int),A,()),((0:Int),[],()),((n:Int),o,()),((n*n:Nat):Int),(m:Int),()))
  (fun m o=>o++[gsN n A (m/n) (m%n) n]) (fun o=>(((0:Int),[],()),((n:Int),o,()),())) (fun m o=>o=(List.range m).map fun m=>gsN n A (m/n) (m%n) n)
  (fun m o hm ho=>by subst ho;rw[List.range_succ,List.map_append];rfl)
  (fun m o hm ho=>by
   have hol:o.length=m:=by subst ho;simp
   simp only[spec_l6Stable_l3,lt_t hm,cond_true,List.drop_zero,List.take_length];rw[l6Stable_in h4 hA o hm];simp only[Option.bind_some,List.drop_zero,List.take_length,Nat.zero_add];rw[show List.take 1 [gsN n A (m/n) (m%n) n]=[gsN n A (m/n) (m%n) n] from rfl,if_pos ⟨trivial,by simp;omega⟩,List.take_of_length_le (by simp),w64_succ hm (by omega)])
  (fun o ho=>by simp only[spec_l6Stable_l3,lt_f,cond_false,List.drop_zero,List.take_length])
  [] rfl
 have g1:loopF spec_l6Stable_l3 (((n:Int),A,()),((0:Int),[],()),((n:Int),[],()),((n*n:Nat):Int),(0:Int),())=_:=g1;rw[g1,g2];simp only[Option.bind_some,List.drop_zero,List.take_length];rfl
/-! ### the program's way -/
theorem at_is{n:Nat}(h4:n≤4){A:List Int}(hA:A.length=n*n){i k:Nat}(hi:i<n)(hk:k<n):impl_Matrix_at ((n:Int),A) (i:Int) (k:Int)=some (A.getD (i*n+k) 0):=by
 have hsq:=sq_le h4;have e1:=idx_lt hi hk;simp only[impl_Matrix_at,mulw (show i*n+k≤1000000 by omega),Int.toNat_natCast];rw[if_pos ⟨by omega,by rw[hA];omega⟩]
theorem filled_is{n:Nat}(h4:n≤4){φ:(Int×Int×Unit)→Option Int}{c:Nat→Nat→Int}(hφ:∀i k,i<n→k<n→φ ((i:Int),(k:Int),())=some (c i k)):impl_filled (n:Int) φ=some ((n:Int),mk n c):=by
 have hsq:=sq_le h4;have inner:∀(i:Nat),i<n→∀o:List Int,o.length=i*n→loopF impl_filled_l6 ((n:Int),φ,((0:Int),[],()),((n:Int),o,()),(i:Int),(n:Int),(i:Int),(n:Int),(0:Int),())=
   some ((n:Int),φ,((0:Int),[],()),((n:Int),o++(List.range n).map (c i),()),(n:Int),(i:Int),()):=by
  intro i hi o hol;have e0:(i+1)*n≤n*n:=Nat.mul_le_mul_right _ hi;rw[Nat.add_mul] at e0;obtain⟨r,g1,g2⟩:=loop_inv (f:=impl_filled_l6) n (fun k (u:List Int)=>((n:Int),φ,((0:Int),[],()),((n:Int),u,()),(i:Int),(n:Int),(i:Int),(n:Int),(k:Int),()))
   (fun k u=>u++[c i k]) (fun u=>((n:Int),φ,((0:Int),[],()),((n:Int),u,()),(n:Int),(i:Int),())) (fun k u=>u=o++(List.range k).map (c i))
   (fun k u hk hu=>by subst hu;rw[List.range_succ,List.map_append,List.append_assoc];rfl)
   (fun k u hk hu=>by
    have hul:u.length=i*n+k:=by subst hu;simp[hol]
    simp only[impl_filled_l6,lt_t hk,cond_true,hφ i k hi hk,Option.bind_some,List.drop_zero,List.take_length,Nat.zero_add];rw[show List.take 1 [c i k]=[c i k] from rfl,if_pos ⟨trivial,by simp;omega⟩,List.take_of_length_le (by simp),w64_succ hk (by omega)])
   (fun u hu=>by simp only[impl_filled_l6,lt_f,cond_false,List.drop_zero,List.take_length])
   o (by simp)
  rw[g2] at g1;exact g1
 obtain⟨r,g1,g2⟩:=loop_inv (f:=impl_filled_l3) n (fun i (o:List Int)=>((n:Int),φ,((0:Int),[],()),((n:Int),o,()),(n:Int),(i:Int),()))
  (fun i o=>o++(List.range n).map (c i)) (fun o=>(((0:Int),[],()),((n:Int),o,()),())) (fun i o=>o.length=i*n∧∀a b,a<i→b<n→o.getD (a*n+b) 0=c a b)
  (fun i o hi ho=>by
   refine⟨by rw[List.length_append,ho.1,Nat.add_mul];simp,fun a b ha hb=> ?_⟩
   by_cases e:a=i
   ·subst e;rw[List.getD_eq_getElem?_getD,List.getElem?_append_right (by rw[ho.1];omega),ho.1,Nat.add_sub_cancel_left,List.getElem?_map,List.getElem?_range hb];rfl
   ·have e1:(a+1)*n≤i*n:=Nat.mul_le_mul_right _ (by omega);rw[Nat.add_mul] at e1;rw[←ho.2 a b (by omega) hb,List.getD_eq_getElem?_getD,List.getElem?_append_left (by rw[ho.1];omega),List.getD_eq_getElem?_getD])
  (fun i o hi ho=>by
   simp only[impl_filled_l3,lt_t hi,cond_true,List.drop_zero,List.take_length];rw[inner i hi o ho.1];simp only[Option.bind_some,List.drop_zero,List.take_length,w64_succ hi (show n≤9223372036854775807 by omega)])
  (fun o ho=>by simp only[impl_filled_l3,lt_f,cond_false,List.drop_zero,List.take_length])
  [] ⟨by simp,fun a b ha=>by omega⟩
 have g1:loopF impl_filled_l3 ((n:Int),φ,((0:Int),[],()),((n:Int),[],()),(n:Int),(0:Int),())=_:=g1;simp only[impl_filled];rw[g1];simp only[Option.bind_some,List.drop_zero,List.take_length];rw[mk_is g2.1 g2.2]
end Go.Proofs.YthkflageghfbgaaGreatDoor

/- Lists that are searched and compared; matrices of grades, the program's way. -/
namespace Go.Proofs.YthkflageghfbgaaGreatDoor
open Go Go.Proofs.YthkflageghfbgaaGreatDoor.Am
theorem getD_get{α:Type}{l:List α}{i:Nat}(d:α)(hi:i<l.length):l.getD i d=l[i]:=by
 rw[List.getD_eq_getElem?_getD,List.getElem?_eq_getElem hi];rfl
theorem any_idx{α:Type}(xs:List α)(d:α)(p:α→Bool):((List.range xs.length).find? fun i=>p (xs.getD i d)).isSome=xs.any p:=by
 rw[Bool.eq_iff_iff,List.find?_isSome,List.any_eq_true];constructor
 ·rintro⟨i,hi,hp⟩;have hi:=List.mem_range.1 hi;exact⟨xs[i],List.getElem_mem hi,by rw[←getD_get d hi];exact hp⟩
 ·rintro⟨x,hx,hp⟩;obtain⟨i,hi,rfl⟩:=List.getElem_of_mem hx;exact⟨i,List.mem_range.2 hi,by rw[getD_get d hi];exact hp⟩
theorem eq_idx{a b:List Int}(h:a.length=b.length):((List.range a.length).find? fun i=>a.getD i 0 != b.getD i 0).isSome= !decide (a=b):=by
 rw[Bool.eq_iff_iff,List.find?_isSome];simp only[Bool.not_eq_true',decide_eq_false_iff_not];constructor
 ·rintro⟨i,hi,hp⟩ e;subst e;simp at hp
 ·intro hne;apply Classical.byContradiction;intro hn;apply hne;apply List.ext_getElem h;intro i h1 h2;apply Classical.byContradiction;intro hh;refine hn ⟨i,List.mem_range.2 h1, ?_⟩;rw[getD_get 0 h1,getD_get 0 h2];simpa using hh
theorem contains_is{xs:List Int}(hl:xs.length≤1000000){φ:(Int×Unit)→Option Bool}{p:Int→Bool}(hφ:∀x∈xs,φ (x,())=some (p x)):slices_ContainsFunc xs φ=some (xs.any p):=by
 have g:=loop_find (f:=slices_IndexFunc_l2) (fun i=>(xs,φ,(xs.length:Int),(i:Int),())) xs.length (fun i=>p (xs.getD i 0)) (fun i=>Sum.inl ((i:Int),())) (Sum.inr ())
  (fun i hi=>by
   have hm:xs.getD i 0∈xs:=by rw[getD_get 0 hi];exact List.getElem_mem hi
   simp only[slices_IndexFunc_l2,lt_t hi,cond_true,Int.toNat_natCast];rw[if_pos (in_t hi),hφ _ hm];simp only[Option.bind_some,w64_succ hi (show xs.length≤9223372036854775807 by omega)];cases p (xs.getD i 0)<;>rfl)
  (by simp only[slices_IndexFunc_l2,lt_f,cond_false])
 have g:loopF slices_IndexFunc_l2 (xs,φ,(xs.length:Int),(0:Int),())=_:=g;simp only[slices_ContainsFunc,slices_IndexFunc];rw[g,←any_idx xs 0 p];cases(List.range xs.length).find? fun i=>p (xs.getD i 0) with
 |none=>rfl
 |some i=>simp only[Option.bind_some,Option.isSome_some];rw[decide_eq_true (by omega)]
theorem same_is{a b:List Int}(h:a.length=b.length)(hl:a.length≤1000000):spec_l2Same a b=some (decide (a=b)):=by
 have g:=loop_find (f:=spec_l2Same_l2) (fun i=>(a,b,(a.length:Int),(i:Int),())) a.length (fun i=>a.getD i 0 != b.getD i 0) (fun i=>Sum.inl (false,())) (Sum.inr (a,b,()))
  (fun i hi=>by
   simp only[spec_l2Same_l2,lt_t hi,cond_true,Int.toNat_natCast];rw[if_pos (in_t hi),if_pos (in_t (show i<b.length by omega))];simp only[w64_succ hi (show a.length≤9223372036854775807 by omega)];cases a.getD i 0 != b.getD i 0<;>rfl)
  (by simp only[spec_l2Same_l2,lt_f,cond_false])
 have g:loopF spec_l2Same_l2 (a,b,(a.length:Int),(0:Int),())=_:=g;have e:=eq_idx h;simp only[spec_l2Same,←h];rw[if_neg (by omega),g];cases hf:(List.range a.length).find? fun i=>a.getD i 0 != b.getD i 0 with
 |none=>
  rw[hf] at e;simp only[Option.bind_some,←h,BEq.rfl];rw[show decide (a=b)=true by simpa using e.symm]
 |some i=>
  rw[hf] at e;simp only[Option.bind_some];rw[show decide (a=b)=false by simpa using e.symm]
theorem equal_is{a b:List Int}(h:a.length=b.length)(hl:a.length≤1000000):slices_Equal a b=some (decide (a=b)):=by
 have g:=loop_find (f:=slices_Equal_l4) (fun i=>(a,b,(a.length:Int),(i:Int),())) a.length (fun i=>a.getD i 0 != b.getD i 0) (fun i=>Sum.inl (false,())) (Sum.inr ())
  (fun i hi=>by
   simp only[slices_Equal_l4,lt_t hi,cond_true,Int.toNat_natCast];rw[if_pos (in_t hi),if_pos (in_t (show i<b.length by omega))];simp only[w64_succ hi (show a.length≤9223372036854775807 by omega)];cases a.getD i 0 != b.getD i 0<;>rfl)
  (by simp only[slices_Equal_l4,lt_f,cond_false])
 have g:loopF slices_Equal_l4 (a,b,(a.length:Int),(0:Int),())=_:=g;have e:=eq_idx h;simp only[slices_Equal,←h,bne_self_eq_false,cond_false];rw[g];cases hf:(List.range a.length).find? fun i=>a.getD i 0 != b.getD i 0 with
 |none=>
  rw[hf] at e;simp only[Option.bind_some];rw[show decide (a=b)=true by simpa using e.symm]
 |some i=>
  rw[hf] at e;simp only[Option.bind_some];rw[show decide (a=b)=false by simpa using e.symm]
theorem sameMatrix_is{n:Nat}(h4:n≤4){A B:List Int}(hA:A.length=n*n)(hB:B.length=n*n):impl_SameMatrix ((n:Int),A) ((n:Int),B)=some (decide (A=B)):=by
 have hsq:=sq_le h4;simp only[impl_SameMatrix,BEq.rfl,cond_true];rw[equal_is (by rw[hA,hB]) (by omega)];rfl
theorem matrixValid_is{n:Nat}(h1:1≤n)(h4:n≤4){A:List Int}(hA:A.length=n*n)(hx:∀x∈A,0≤x∧x≤1000000):impl_MatrixValid ((n:Int),A)=some true:=by
 have hsq:=sq_le h4;simp only[impl_MatrixValid,decide_eq_false (show ¬(n:Int)<1 by omega),decide_eq_false (show ¬(n:Int)>4 by omega),cond_false,hA,sqw h4,bne_self_eq_false];rw[contains_is (p:=fun _=>false) (by omega) (fun x h=>by
  have:=hx x h;simp only[impl_MatrixValid_1,impl_CostValid];rw[decide_eq_true (show x≥0 by omega),decide_eq_true (show x≤1000000 by omega)];rfl)]
 simp
theorem gradesValid_is{n:Nat}(h1:1≤n)(h4:n≤4){A:List Int}(hA:GOk n A):impl_GradesValid ((n:Int),A)=some true:=by
 have hsq:=sq_le h4;simp only[impl_GradesValid];rw[matrixValid_is h1 h4 hA.1 (fun x hx=>by have:=hA.2 x hx;omega)];simp only[Option.bind_some,cond_true];rw[contains_is (p:=fun _=>false) (by rw[hA.1];omega) (fun x h=>by
  have:=hA.2 x h;simp only[impl_GradesValid_1];rw[decide_eq_false (show ¬x>3 by omega)])]
 simp
theorem mulGrades_is{n:Nat}(h1:1≤n)(h4:n≤4){A B:List Int}(hA:GOk n A)(hB:GOk n B):impl_MulGrades ((n:Int),A) ((n:Int),B)=some (((n:Int),gmul n A B),true):=by
 simp only[impl_MulGrades,gradesValid_is h1 h4 hA,gradesValid_is h1 h4 hB,Option.bind_some,Bool.not_true,cond_false,bne_self_eq_false];rw[filled_is h4 (c:=fun i k=>gcN n A B i k n) (fun i k hi hk=>by
  simp only[impl_MulGrades_1];obtain⟨r,g1,g2⟩:=loop_inv (f:=impl_MulGrades_1_l3) n (fun l (c:Int)=>((i:Int),(k:Int),((n:Int),A),((n:Int),B),c,(n:Int),(l:Int),()))
   (fun l c=>mn c (mx (A.getD (i*n+l) 0) (B.getD (l*n+k) 0))) (fun c=>(c,())) (fun l c=>c=gcN n A B i k l)
   (fun l c hl hc=>by subst hc;rfl)
   (fun l c hl hc=>by
    simp only[impl_MulGrades_1_l3,lt_t hl,cond_true,at_is h4 hA.1 hi hl,at_is h4 hB.1 hl hk,Option.bind_some,w64_succ hl (show n≤9223372036854775807 by omega)];rfl)
   (fun c hc=>by simp only[impl_MulGrades_1_l3,lt_f,cond_false])
   3 rfl
  have g1:loopF impl_MulGrades_1_l3 ((i:Int),(k:Int),((n:Int),A),((n:Int),B),(3:Int),(n:Int),(0:Int),())=_:=g1;rw[g1,g2];rfl)]
 simp only[Option.bind_some,List.drop_zero,List.take_length];rfl
theorem isIdempotent_is{n:Nat}(h1:1≤n)(h4:n≤4){A:List Int}(hA:GOk n A):impl_IsIdempotent ((n:Int),A)=some (decide (gmul n A A=A)):=by
 simp only[impl_IsIdempotent,mulGrades_is h1 h4 hA hA,Option.bind_some,cond_true,List.drop_zero,List.take_length];rw[sameMatrix_is h4 (gmul_ok hA hA).1 hA.1];rfl
theorem l6Idempotent_is{n:Nat}(h4:n≤4){A:List Int}(hA:GOk n A):spec_l6Idempotent ((n:Int),A)=some (decide (gmul n A A=A)):=by
 have hsq:=sq_le h4;simp only[spec_l6Idempotent,l6Mul_is h4 hA hA,Option.bind_some,List.drop_zero,List.take_length];rw[same_is (by rw[(gmul_ok hA hA).1,hA.1]) (by rw[(gmul_ok hA hA).1];omega)];rfl
theorem stabilise_is{n:Nat}(h1:1≤n)(h4:n≤4){A:List Int}(hA:GOk n A):impl_Stabilise ((n:Int),A)=some (if gmul n A A=A then(((n:Int),gstab n A),true) else(((0:Int),[]),false)):=by
 simp only[impl_Stabilise,isIdempotent_is h1 h4 hA,Option.bind_some]
 by_cases h:gmul n A A=A
 ·rw[decide_eq_true h,if_pos h];simp only[Bool.not_true,cond_false];rw[filled_is h4 (c:=fun i k=>gsN n A i k n) (fun i k hi hk=>by
   simp only[impl_Stabilise_1];obtain⟨r,g1,g2⟩:=loop_inv (f:=impl_Stabilise_1_l3) n (fun l (c:Int)=>((i:Int),(k:Int),((n:Int),A),c,(n:Int),(l:Int),()))
    (fun l c=>mn c (mx (mx (A.getD (i*n+l) 0) (ag (A.getD (l*n+l) 0))) (A.getD (l*n+k) 0))) (fun c=>(c,())) (fun l c=>c=gsN n A i k l)
    (fun l c hl hc=>by subst hc;rfl)
    (fun l c hl hc=>by
     simp only[impl_Stabilise_1_l3,lt_t hl,cond_true,at_is h4 hA.1 hi hl,at_is h4 hA.1 hl hl,at_is h4 hA.1 hl hk,Option.bind_some,w64_succ hl (show n≤9223372036854775807 by omega)]
     by_cases e:A.getD (l*n+l) 0=1
     ·rw[e];rfl
     ·have e2:(A.getD (l*n+l) 0==1)=false:=by simpa using e
      rw[e2,show ag (A.getD (l*n+l) 0)=A.getD (l*n+l) 0 from if_neg e];rfl)
    (fun c hc=>by simp only[impl_Stabilise_1_l3,lt_f,cond_false])
    3 rfl
   have g1:loopF impl_Stabilise_1_l3 ((i:Int),(k:Int),((n:Int),A),(3:Int),(n:Int),(0:Int),())=_:=g1;rw[g1,g2];rfl)]
  simp only[Option.bind_some,List.drop_zero,List.take_length];rfl
 ·rw[decide_eq_false h,if_neg h];rfl
end Go.Proofs.YthkflageghfbgaaGreatDoor

/- The grades of letters, by the reference and by the program. -/
namespace Go.Proofs.YthkflageghfbgaaGreatDoor
open Go Go.Proofs.YthkflageghfbgaaGreatDoor.Am
/-- a step's cost is put into its place -/
def putStep(c:ByteArray)(n:Nat)(l:List Stp)(i:Nat)(M:List Int):List Int:=
 bif (l.getD i stp0).2.1.toList==c.toList then M.set ((l.getD i stp0).1.toNat*n+(l.getD i stp0).2.2.1.toNat) (l.getD i stp0).2.2.2 else M
def putSteps(c:ByteArray)(n:Nat)(l:List Stp):Nat→List Int
 |0=>List.replicate (n*n) Nv
 |i+1=>putStep c n l i (putSteps c n l i)
theorem putSteps_len(c:ByteArray)(n:Nat)(l:List Stp):∀i,(putSteps c n l i).length=n*n
 |0=>by simp[putSteps]
 |i+1=>by
  simp only[putSteps,putStep];cases(l.getD i stp0).2.1.toList==c.toList
  ·exact putSteps_len c n l i
  ·simp only[cond_true,List.length_set];exact putSteps_len c n l i
theorem step_idx{n:Nat}(h4:n≤4){s:Stp}(hs:StepIs (n:Int) s):s.1.toNat*n+s.2.2.1.toNat<n*n∧IntKind.wrap .i64 (IntKind.wrap .i64 (s.1*(n:Int))+s.2.2.1)=((s.1.toNat*n+s.2.2.1.toNat:Nat):Int):=by
 have hsq:=sq_le h4;have e0:=hs.f0;have e1:=hs.f1;have e2:=hs.t0;have e3:=hs.t1;have hlt:s.1.toNat*n+s.2.2.1.toNat<n*n:=idx_lt (by omega) (by omega);have m1:s.1*(n:Int)=((s.1.toNat*n:Nat):Int):=by
  rw[Int.natCast_mul];congr 1;omega
 have w1:IntKind.wrap .i64 (s.1*(n:Int))=((s.1.toNat*n:Nat):Int):=by rw[m1];exact w64 (by omega) (by omega)
 refine⟨hlt, ?_⟩;rw[w1,w64 (by omega) (by omega)];omega
section
variable {S F : List Int} {l : List Stp} {n : Nat} (h4 : n ≤ 4) (hl : l.length ≤ 24) (hst : ∀ s ∈ l, StepIs (n : Int) s) (c : ByteArray)
include h4 hl hst
theorem l3Matrix_puts:spec_l3Matrix ((n:Int),S,F,l) c=some ((n:Int),putSteps c n l l.length):=by
 have hsq:=sq_le h4;simp only[spec_l3Matrix,sqw h4];obtain⟨r,g1,g2⟩:=loop_inv (f:=spec_l3Matrix_l3) (n*n) (fun i (o:List Int)=>(c,((n:Int),S,F,l,()),((0:Int),[],()),((n:Int),o,()),((n*n:Nat):Int),(i:Int),())) (fun i o=>o++[Nv]) (fun o=>(c,((n:Int),S,F,l,()),((0:Int),[],()),((n:Int),o,()),())) (fun i o=>o=List.replicate i Nv)
  (fun i o hi ho=>by subst ho;rw[List.replicate_succ'])
  (fun i o hi ho=>by
   have hol:o.length=i:=by subst ho;simp
   simp only[spec_l3Matrix_l3,lt_t hi,cond_true,Nat.zero_add,List.drop_zero,w64_succ hi (show n*n≤9223372036854775807 by omega)];rw[if_pos ⟨trivial,by simp;omega⟩];simp[List.take_of_length_le])
  (fun o ho=>by simp only[spec_l3Matrix_l3,lt_f,cond_false,List.drop_zero,List.take_length])
  [] rfl
 have g1:loopF spec_l3Matrix_l3 (c,((n:Int),S,F,l,()),((0:Int),[],()),((n:Int),[],()),((n*n:Nat):Int),(0:Int),())=_:=g1;rw[g1];subst g2;simp only[Option.bind_some,List.drop_zero,List.take_length];obtain⟨r,g1,g2⟩:=loop_inv (f:=spec_l3Matrix_l7) l.length (fun i (M:List Int)=>(c,((n:Int),S,F,l,()),((0:Int),[],()),((n:Int),M,()),l,(l.length:Int),(i:Int),())) (fun i M=>putStep c n l i M)
  (fun M=>(((0:Int),[],()),((n:Int),M,()),())) (fun i M=>M=putSteps c n l i)
  (fun i M hi hM=>by subst hM;rfl)
  (fun i M hi hM=>by
   have hMl:M.length=n*n:=by subst hM;exact putSteps_len c n l i
   have hsi:=hst _ (show l.getD i stp0∈l by rw[getD_get stp0 hi];exact List.getElem_mem hi);obtain⟨hlt,hw⟩:=step_idx h4 hsi;simp only[spec_l3Matrix_l7,lt_t hi,cond_true,if_pos (in_t hi),Int.toNat_natCast,List.drop_zero,Nat.zero_add,w64_succ hi (show l.length≤9223372036854775807 by omega),hw,putStep];cases hc:(l.getD i stp0).2.1.toList==c.toList with
   |false=>simp only[cond_false,List.take_length]
   |true=>
    simp only[cond_true];rw[if_pos ⟨by omega,by rw[hMl];omega⟩,List.take_length,List.take_of_length_le (by rw[List.length_set];exact Nat.le_refl _)])
  (fun M hM=>by simp only[spec_l3Matrix_l7,lt_f,cond_false,List.drop_zero,List.take_length])
  (List.replicate (n*n) Nv) rfl
 have g1:loopF spec_l3Matrix_l7 (c,((n:Int),S,F,l,()),((0:Int),[],()),((n:Int),List.replicate (n*n) Nv,()),l,(l.length:Int),(0:Int),())=_:=g1;rw[g1,g2];simp only[Option.bind_some,List.drop_zero,List.take_length]
theorem stepMatrix_in:Option.bind (impl_filled (n:Int) (fun y1=>(impl_StepMatrix_1 y1.1 y1.2.1))) (fun(r2,r3)=>Option.bind (loopF impl_StepMatrix_l5 (c,((0:Int),[],()),(r2,(List.take (List.length r3) (List.drop 0 r3)),()),l,(((List.length l):Nat):Int),(0:Int),())) fun((r4,r5,_),(r6,r7,_),_)=>some ((r6,(List.take (List.length r7) (List.drop 0 r7))),true))=some (((n:Int),putSteps c n l l.length),true):=by
 have hsq:=sq_le h4;have e0:mk n (fun _ _=>Nv)=List.replicate (n*n) Nv:=by
  unfold mk;rw[List.map_const',List.length_range]
 rw[filled_is h4 (c:=fun _ _=>Nv) (fun i k _ _=>rfl),e0];simp only[Option.bind_some,List.drop_zero,List.take_length];obtain⟨r,g1,g2⟩:=loop_inv (f:=impl_StepMatrix_l5) l.length (fun i (M:List Int)=>(c,((0:Int),[],()),((n:Int),M,()),l,(l.length:Int),(i:Int),())) (fun i M=>putStep c n l i M)
  (fun M=>(((0:Int),[],()),((n:Int),M,()),())) (fun i M=>M=putSteps c n l i)
  (fun i M hi hM=>by subst hM;rfl)
  (fun i M hi hM=>by
   have hMl:M.length=n*n:=by subst hM;exact putSteps_len c n l i
   have hsi:=hst _ (show l.getD i stp0∈l by rw[getD_get stp0 hi];exact List.getElem_mem hi);obtain⟨hlt,hw⟩:=step_idx h4 hsi;simp only[impl_StepMatrix_l5,lt_t hi,cond_true,if_pos (in_t hi),Int.toNat_natCast,List.drop_zero,Nat.zero_add,w64_succ hi (show l.length≤9223372036854775807 by omega),hw,putStep];cases hc:(l.getD i stp0).2.1.toList==c.toList with
   |false=>simp only[cond_false,List.take_length,List.length_nil,List.take_zero]
   |true=>
    simp only[cond_true];rw[if_pos ⟨by omega,by rw[hMl];omega⟩,List.take_length,List.take_of_length_le (by rw[List.length_set];exact Nat.le_refl _)])
  (fun M hM=>by simp only[impl_StepMatrix_l5,lt_f,cond_false,List.drop_zero,List.take_length])
  (List.replicate (n*n) Nv) rfl
 have g1:loopF impl_StepMatrix_l5 (c,((0:Int),[],()),((n:Int),List.replicate (n*n) Nv,()),l,(l.length:Int),(0:Int),())=_:=g1;rw[g1,g2];simp only[Option.bind_some,List.drop_zero,List.take_length]
end
theorem stepMatrix_is{a:Aut}{n:Nat}(ha:AutIs a n)(hv:autOk a=true)(hs:Small a){c:ByteArray}(hc:c=la∨c=lb):impl_StepMatrix a c=some (((n:Int),putSteps c n a.2.2.2 a.2.2.2.length),true):=by
 obtain⟨x,S,F,l⟩:=a;have hx:x=(n:Int):=ha.st;subst hx;have hin:=stepMatrix_in ha.n4 ha.len ha.steps c;unfold impl_StepMatrix;dsimp only
 rw[impl_AutomatonValid_is _ (small_len hs).1 (small_len hs).2,hv];simp only[Option.bind_some,Bool.not_true,cond_false]
 rcases hc with rfl|rfl
 ·have e1:(!(la.toList==(⟨#[(97:UInt8)]⟩:ByteArray).toList))=false:=by simp
  rw[e1,cond_false];exact hin
 ·have e1:(!(lb.toList==(⟨#[(97:UInt8)]⟩:ByteArray).toList))=true:=by simp only[toList_bytes];rfl
  have e2:(!(lb.toList==(⟨#[(98:UInt8)]⟩:ByteArray).toList))=false:=by simp
  rw[e1,e2,cond_true,cond_false];exact hin
theorem l3Matrix_puts'{a:Aut}{n:Nat}(ha:AutIs a n)(c:ByteArray):spec_l3Matrix a c=some ((n:Int),putSteps c n a.2.2.2 a.2.2.2.length):=by
 obtain⟨x,S,F,l⟩:=a;have hx:x=(n:Int):=ha.st;subst hx;exact l3Matrix_puts ha.n4 ha.len ha.steps c
theorem putSteps_rng{a:Aut}{n:Nat}(ha:AutIs a n)(c:ByteArray):Rng (putSteps c n a.2.2.2 a.2.2.2.length) (n*n):=by
 obtain⟨M,h1,h2⟩:=l3Matrix_is (c:=c) ha.st ha.n1 ha.n4 ha.len ha.ok;rw[l3Matrix_puts' ha c] at h1;obtain⟨_,rfl⟩:=Prod.mk.inj (Option.some.inj h1);exact h2.1
/-! ### grades -/
def gr(x:Int):Int:=if x=0 then 0 else if x=1000000 then 3 else 1
theorem gr_rng(x:Int):0≤gr x∧gr x≤3:=by
 unfold gr;split
 ·omega
 ·split<;>omega
theorem gr_ok{n:Nat}{M:List Int}(hM:M.length=n*n):GOk n (M.map gr):=by
 refine⟨by rw[List.length_map,hM],fun x hx=> ?_⟩;obtain⟨y,_,rfl⟩:=List.mem_map.1 hx;exact gr_rng y
theorem l6Grades_is{n:Nat}(h4:n≤4){M:List Int}(hM:M.length=n*n):spec_l6Grades ((n:Int),M)=some ((n:Int),M.map gr):=by
 have hsq:=sq_le h4;simp only[spec_l6Grades];obtain⟨r,g1,g2⟩:=loop_inv (f:=spec_l6Grades_l3) M.length (fun i (o:List Int)=>(((0:Int),[],()),((n:Int),o,()),M,(M.length:Int),(i:Int),())) (fun i o=>o++[gr (M.getD i 0)]) (fun o=>(((0:Int),[],()),((n:Int),o,()),())) (fun i o=>o=(M.take i).map gr)
  (fun i o hi ho=>by subst ho;rw[take_snoc hi,List.map_append,getD_get 0 hi];rfl)
  (fun i o hi ho=>by
   have hol:o.length=i:=by subst ho;rw[List.length_map,List.length_take];omega
   simp only[spec_l6Grades_l3,lt_t hi,cond_true,if_pos (in_t hi),Int.toNat_natCast,Nat.zero_add,List.drop_zero,List.take_length,w64_succ hi (show M.length≤9223372036854775807 by omega)]
   by_cases z:M.getD i 0=0
   ·rw[z];simp only[BEq.rfl,cond_true];rw[if_pos ⟨trivial,by simp;omega⟩,show List.take 1 [(0:Int)]=[gr 0] from rfl,List.take_of_length_le (by simp)]
   ·have z':(M.getD i 0==0)=false:=by simpa using z
    rw[z',cond_false]
    by_cases y:M.getD i 0=1000000
    ·rw[y];simp only[BEq.rfl,cond_true];rw[if_pos ⟨trivial,by simp;omega⟩,show List.take 1 [(3:Int)]=[gr 1000000] from rfl,List.take_of_length_le (by simp)]
    ·have y':(M.getD i 0==1000000)=false:=by simpa using y
     rw[y',cond_false,if_pos ⟨trivial,by simp;omega⟩,show List.take 1 [(1:Int)]=[gr (M.getD i 0)] by unfold gr;rw[if_neg z,if_neg y];rfl,List.take_of_length_le (by simp)])
  (fun o ho=>by simp only[spec_l6Grades_l3,lt_f,cond_false,List.drop_zero,List.take_length])
  [] rfl
 have g1:loopF spec_l6Grades_l3 (((0:Int),[],()),((n:Int),[],()),M,(M.length:Int),(0:Int),())=_:=g1;rw[g1,g2];simp only[Option.bind_some,List.drop_zero,List.take_length]
theorem gradesOf_is{n:Nat}(h1:1≤n)(h4:n≤4){M:List Int}(hM:Rng M (n*n)):impl_GradesOf ((n:Int),M)=some (((n:Int),M.map gr),true):=by
 have hsq:=sq_le h4;simp only[impl_GradesOf,matrixValid_is h1 h4 hM.1 (fun x hx=>hM.2 x hx),Option.bind_some,Bool.not_true,cond_false];rw[filled_is h4 (c:=fun i k=>gr (M.getD (i*n+k) 0)) (fun i k hi hk=>by
  simp only[impl_GradesOf_1,at_is h4 hM.1 hi hk,Option.bind_some]
  by_cases z:M.getD (i*n+k) 0=0
  ·rw[z];rfl
  ·have z':(M.getD (i*n+k) 0==0)=false:=by simpa using z
   rw[z',cond_false]
   by_cases y:M.getD (i*n+k) 0=1000000
   ·rw[y];rfl
   ·have y':(M.getD (i*n+k) 0==1000000)=false:=by simpa using y
    rw[y',cond_false];unfold gr;rw[if_neg z,if_neg y])]
 have e:mk n (fun i k=>gr (M.getD (i*n+k) 0))=M.map gr:=by
  refine(mk_is (by rw[List.length_map,hM.1]) fun i k hi hk=> ?_).symm;have:=idx_lt hi hk;rw[getD_get 0 (by rw[List.length_map,hM.1];exact this),List.getElem_map,getD_get 0 (by rw[hM.1];exact this)]
 simp only[Option.bind_some,List.drop_zero,List.take_length,e]
/-! ### the value of a letter -/
end Go.Proofs.YthkflageghfbgaaGreatDoor

/- Elements that are put behind the others, by the reference and by the program: at each place the same. -/
namespace Go.Proofs.YthkflageghfbgaaGreatDoor
open Go Go.Proofs.YthkflageghfbgaaGreatDoor.Am
abbrev Elt:=(Int×List Int)×ByteArray
abbrev el0:Elt:=(((0:Int),[]),(⟨Array.empty⟩:ByteArray))
structure LOk (n:Nat) (L:List Elt):Prop where
 el:∀e∈L,e.1.1=(n:Int)∧GOk n e.1.2∧e.2.size≤120
 len:L.length≤120
theorem LOk.at{n i:Nat}{L:List Elt}(h:LOk n L)(hi:i<L.length):(L.getD i el0).1.1=(n:Int)∧GOk n (L.getD i el0).1.2∧(L.getD i el0).2.size≤120:=by
 rw[getD_get el0 hi];exact h.el _ (List.getElem_mem hi)
def has(L:List Elt)(A:List Int):Bool:=L.any fun e=>decide (e.1.2=A)
def sput(n:Nat)(A:List Int)(t:ByteArray)(p:List Elt×Bool):List Elt×Bool:=
 bif has p.1 A then p else bif p.2 then(p.1,true) else bif decide ((p.1.length:Int)≥120) then(p.1,true) else bif (!decide ((t.size:Int)>120)) then(p.1++[(((n:Int),A),t)],false) else(p.1,true)
def iput(n:Nat)(A:List Int)(t:ByteArray)(p:List Elt×Bool):List Elt×Bool:=
 bif has p.1 A then p else bif decide ((p.1.length:Int)≥120) then(p.1,false) else bif decide ((t.size:Int)>120) then(p.1,false) else(p.1++[(((n:Int),A),t)],p.2)
theorem LOk.snoc{n:Nat}{L:List Elt}(h:LOk n L){A:List Int}(hA:GOk n A){t:ByteArray}(ht:t.size≤120)(hl:L.length<120):LOk n (L++[(((n:Int),A),t)]):=by
 refine⟨fun e he=> ?_,by rw[List.length_append];simp;omega⟩
 rcases List.mem_append.1 he with he|he
 ·exact h.el e he
 ·rw[List.mem_singleton] at he;subst he;exact⟨rfl,hA,ht⟩
/-- both have the same, or both have failed -/
def Same(p q:List Elt×Bool):Prop:=(p.2=false∧q.2=true∧q.1=p.1)∨(p.2=true∧q.2=false)
theorem Same.put{n:Nat}{A:List Int}{t:ByteArray}{p q:List Elt×Bool}(h:Same p q):Same (sput n A t p) (iput n A t q):=by
 obtain⟨L,F⟩:=p;obtain⟨L',f⟩:=q
 rcases h with⟨h1,h2,h3⟩|⟨h1,h2⟩
 ·have h1:F=false:=h1;have h2:f=true:=h2;have h3:L'=L:=h3;subst h1 h2 h3;unfold sput iput;cases has L' A
  ·by_cases h1:(L'.length:Int)≥120
   ·rw[decide_eq_true h1];exact .inr ⟨rfl,rfl⟩
   ·rw[decide_eq_false h1]
    by_cases h2:(t.size:Int)>120
    ·rw[decide_eq_true h2];exact .inr ⟨rfl,rfl⟩
    ·rw[decide_eq_false h2];exact .inl ⟨rfl,rfl,rfl⟩
  ·exact .inl ⟨rfl,rfl,rfl⟩
 ·have h1:F=true:=h1;have h2:f=false:=h2;subst h1 h2;refine .inr ⟨?_, ?_⟩
  ·unfold sput;cases has L A<;>rfl
  ·unfold iput;cases has L' A
   ·cases decide ((L'.length:Int)≥120)
    ·cases decide ((t.size:Int)>120)<;>rfl
    ·rfl
   ·rfl
end Go.Proofs.YthkflageghfbgaaGreatDoor

/- All elements of an automaton: the reference and the program find the same. -/
namespace Go.Proofs.YthkflageghfbgaaGreatDoor
open Go Go.Proofs.YthkflageghfbgaaGreatDoor.Am
def s2(n:Nat)(e f:Elt)(p:List Elt×Bool):List Elt×Bool:=sput n (gmul n f.1.2 e.1.2) (f.2++e.2) (sput n (gmul n e.1.2 f.1.2) (e.2++f.2) p)
def i2(n:Nat)(e f:Elt)(p:List Elt×Bool):List Elt×Bool:=iput n (gmul n f.1.2 e.1.2) (f.2++e.2) (iput n (gmul n e.1.2 f.1.2) (e.2++f.2) p)
def fold2(n:Nat)(e:Elt)(W:List Elt)(p:List Elt×Bool):List Elt×Bool:=W.foldl (fun p f=>s2 n e f p) p
def sharp(t:ByteArray):ByteArray:=((⟨#[(40:UInt8)]⟩:ByteArray)++t)++(⟨#[(41:UInt8),(35:UInt8)]⟩:ByteArray)
theorem size_append(a b:ByteArray):(a++b).size=a.size+b.size:=ByteArray.size_append
/-- what becomes of the elements when the i-th is gone through -/
def body(n i:Nat)(L:List Elt):List Elt×Bool:=
 let e:=L.getD i el0
 let p:=if gmul n e.1.2 e.1.2=e.1.2 then sput n (gstab n e.1.2) (sharp e.2) (L,false) else(L,false)
 fold2 n e (p.1.take (i+1)) p
structure Clo (n:Nat) (X:List Int→ByteArray→Prop):Prop where
 app:∀A s C t,X A s→X C t→X (gmul n A C) (s++t)
 sh:∀A s,X A s→gmul n A A=A→X (gstab n A) (sharp s)
end Go.Proofs.YthkflageghfbgaaGreatDoor

/- The elements of any automaton, and what is asked of them: both sides tell the same. -/
namespace Go.Proofs.YthkflageghfbgaaGreatDoor
open Go Go.Proofs.YthkflageghfbgaaGreatDoor.Am
def lett(c:ByteArray)(n:Nat)(l:List Stp):List Int:=(putSteps c n l l.length).map gr
theorem LOk.nil(n:Nat):LOk n []:=⟨fun e he=>(by cases he),(by simp)⟩
/-! ### the grade from a start to a final -/
def btwF(n:Nat)(A:List Int)(i:Int)(F:List Int)(c:Int):Int:=F.foldl (fun c k=>mn c (A.getD (i.toNat*n+k.toNat) 0)) c
def btw(n:Nat)(A:List Int)(S F:List Int):Int:=S.foldl (fun c i=>btwF n A i F c) 3
section
variable {n : Nat} (h1 : 1 ≤ n) (h4 : n ≤ 4) {S F : List Int} (l : List Stp) (hS : ∀ q ∈ S, 0 ≤ q ∧ q ≤ (n : Int) - 1) (hF : ∀ q ∈ F, 0 ≤ q ∧ q ≤ (n : Int) - 1) (lS : S.length ≤ 1048576) (lF : F.length ≤ 1048576) {A : List Int} (hA : GOk n A)
include h4 hF lF hA
end
/-! ### the first element for which something holds -/
end Go.Proofs.YthkflageghfbgaaGreatDoor

/- Bounded costs and elements that grow between two states: both sides tell the same; the laws. -/
namespace Go.Proofs.YthkflageghfbgaaGreatDoor
open Go Go.Proofs.YthkflageghfbgaaGreatDoor.Am
end Go.Proofs.YthkflageghfbgaaGreatDoor
