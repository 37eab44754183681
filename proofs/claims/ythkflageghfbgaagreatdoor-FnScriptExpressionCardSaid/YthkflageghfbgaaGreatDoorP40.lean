import Derived.Test.YthkflageghfbgaaGreatDoorP0
set_option linter.unusedVariables false
set_option linter.unusedSimpArgs false
/- Drawn arguments: each draw comes to an end, and what it draws is small. -/
namespace Go.Proofs.YthkflageghfbgaaGreatDoor
open Go Go.Proofs.YthkflageghfbgaaGreatDoor.Am
theorem getD_at0{α:Type}(d:α){l:List α}{i:Nat}(h:i<l.length):l.getD i d=l[i]:=by rw[List.getD_eq_getElem?_getD,List.getElem?_eq_getElem h];rfl
abbrev Dr:=List Int×Int
structure DrOk (N:Int) (d:Dr):Prop where
 b:∀x∈d.1,0≤x∧x≤255
 len:d.1.length≤2000
 p0:0≤d.2
 p1:d.2≤N
theorem DrOk.next{N:Int}{d:Dr}(h:DrOk N d):DrOk (N+1) (d.1,d.2+1):=⟨h.b,h.len,by have:=h.p0;show 0≤d.2+1;omega,by have:=h.p1;show d.2+1≤N+1;omega⟩
theorem DrOk.mono{N M:Int}{d:Dr}(h:DrOk N d)(hM:N≤M):DrOk M d:=⟨h.b,h.len,h.p0,by have:=h.p1;omega⟩
theorem xor_rng{A B:Int}(hA:0≤A∧A<4294967296)(hB:0≤B∧B<4294967296):(BitVec.ofInt (IntKind.bits .i64) A^^^BitVec.ofInt (IntKind.bits .i64) B).toNat<4294967296:=by
 have e:∀{C:Int},0≤C∧C<4294967296→(BitVec.ofInt (IntKind.bits .i64) C).toNat<2^32:=by
  intro C hC;have:(BitVec.ofInt 64 C).toNat<2^32:=by
   rw[BitVec.toNat_ofInt];omega
  exact this
 have h:=Nat.xor_lt_two_pow (e hA) (e hB);rw[BitVec.toNat_xor];exact h
theorem wrap_rec(T:Int):(Decidable.rec (fun y0=>(T%((2:Int)^(IntKind.bits .i64)))) (fun y1=>((T%((2:Int)^(IntKind.bits .i64)))-((2:Int)^(IntKind.bits .i64)))) (instDecidableEqBool ((IntKind.signed .i64)&&(decide ((T%((2:Int)^(IntKind.bits .i64)))≥((2:Int)^((IntKind.bits .i64)-1))))) true):Int)=IntKind.wrap .i64 T:=rfl
theorem tmod_in{x n:Int}(hx:0≤x)(hn:1≤n):0≤Int.tmod x n∧Int.tmod x n<n:=⟨Int.tmod_nonneg _ hx,Int.tmod_lt_of_pos _ (by omega)⟩
theorem pick_is{N:Int}{d:Dr}(h:DrOk N d)(hN:N≤100000){n:Int}(hn:n≤1000):∃r,spec_l13Rd_pick d n=some (r,(d.1,d.2+1),())∧0≤r∧(1≤n→r<n)∧(n<1→r=0):=by
 obtain⟨l,k⟩:=d;have h0:0≤k:=h.p0;have h1:k≤N:=h.p1;have hb:∀x∈l,0≤x∧x≤255:=h.b;have hlen:l.length≤2000:=h.len;have wk:IntKind.wrap .i64 (k+1)=k+1:=w64 (by omega) (by omega);have wk1:IntKind.wrap .i64 (k+1-1)=k:=by rw[w64 (by omega) (by omega)];omega
 unfold spec_l13Rd_pick;dsimp only
 rw[wk]
 by_cases c0:n<1
 ·exact⟨0,by rw[decide_eq_true c0,cond_true],by omega,by omega,fun _=>rfl⟩
 rw[decide_eq_false c0,cond_false,wk1]
 by_cases c1:l.length=0
 ·refine⟨0, ?_,by omega,by omega,fun _=>rfl⟩;rw[show((((l.length:Nat):Int)==(0:Int))=true) by rw[c1];rfl,cond_true]
 rw[show((((l.length:Nat):Int)==(0:Int))=false) by rw[beq_eq_false_iff_ne];omega,cond_false];have hat:∀i:Nat,i<l.length→0≤l.getD i 0∧l.getD i 0≤255:=by
  intro i hi;rw[getD_at0 0 hi];exact hb _ (List.getElem_mem hi)
 have n0:¬n=0:=by omega
 have L0:¬((l.length:Nat):Int)=0:=by omega
 by_cases c2:k<((l.length:Nat):Int)
 ·have hk:=hat k.toNat (by omega);rw[decide_eq_true c2,cond_true,if_pos ⟨h0,c2⟩,if_neg n0,w64 (n:=l.getD k.toNat 0) (by omega) (by omega)];have:=tmod_in hk.1 (show 1≤n by omega);exact⟨_,rfl,this.1,fun _=>this.2,fun h=>absurd h c0⟩
 ·rw[decide_eq_false c2,cond_false,if_neg L0];have t1:=tmod_in h0 (show 1≤((l.length:Nat):Int) by omega);have w7:IntKind.wrap .i64 (k*7)=k*7:=w64 (by omega) (by omega);have w73:IntKind.wrap .i64 (k*7+3)=k*7+3:=w64 (by omega) (by omega);have t2:=tmod_in (show 0≤k*7+3 by omega) (show 1≤((l.length:Nat):Int) by omega);rw[if_pos t1,if_neg L0,w7,w73,if_pos t2,if_neg L0,if_neg (by omega),if_neg n0,wrap_rec];have b1:=hat (Int.tmod k ((l.length:Nat):Int)).toNat (by omega);have b2:=hat (Int.tmod (k*7+3) ((l.length:Nat):Int)).toNat (by omega);generalize l.getD (Int.tmod k ((l.length:Nat):Int)).toNat 0=u at*
  generalize l.getD (Int.tmod (k*7+3) ((l.length:Nat):Int)).toNat 0=v at*
  have q0:0≤Int.tdiv k ((l.length:Nat):Int):=Int.tdiv_nonneg h0 (by omega);have q1:Int.tdiv k ((l.length:Nat):Int)≤k:=Int.tdiv_le_self _ h0;generalize Int.tdiv k ((l.length:Nat):Int)=q at*
  rw[w64 (n:=u) (by omega) (by omega),w64 (n:=v) (by omega) (by omega),w64 (n:=u*131) (by omega) (by omega),w64 (n:=v*1117) (by omega) (by omega),w64 (n:=k*29) (by omega) (by omega),w64 (n:=q) (by omega) (by omega),w64 (n:=q*53) (by omega) (by omega),
   w64 (n:=u*131+v*1117) (by omega) (by omega),w64 (n:=u*131+v*1117+k*29) (by omega) (by omega),w64 (n:=u*131+v*1117+k*29+q*53) (by omega) (by omega)]
  have hX:0≤u*131+v*1117+k*29+q*53∧u*131+v*1117+k*29+q*53<4294967296:=by omega
  generalize u*131+v*1117+k*29+q*53=X at*
  have d0:0≤Int.tdiv X 64:=Int.tdiv_nonneg hX.1 (by omega);have d1:Int.tdiv X 64≤X:=Int.tdiv_le_self _ hX.1;rw[w64 (n:=Int.tdiv X 64) (by omega) (by omega)];have hx:=xor_rng hX (show 0≤Int.tdiv X 64∧Int.tdiv X 64<4294967296 by omega);generalize(BitVec.ofInt (IntKind.bits .i64) X^^^BitVec.ofInt (IntKind.bits .i64) (Int.tdiv X 64)).toNat=Y at*
  rw[w64 (n:=(Y:Int)) (by omega) (by omega)];have:=tmod_in (show 0≤(Y:Int) by omega) (show 1≤n by omega);exact⟨_,rfl,this.1,fun _=>this.2,fun h=>absurd h c0⟩
theorem of_is{N:Int}{d:Dr}(h:DrOk N d)(hN:N≤100000){l:List ByteArray}(h0:0<l.length)(hl:l.length≤1000):∃v∈l,spec_l13Rd_of d l=some (v,(d.1,d.2+1),()):=by
 obtain⟨r,h1,h2,h3,_⟩:=pick_is h hN (n:=((l.length:Nat):Int)) (by omega);have h3:=h3 (by omega);obtain⟨x,k⟩:=d;refine⟨l.getD r.toNat (⟨Array.empty⟩:ByteArray), ?_, ?_⟩
 ·rw[getD_at0 _ (show r.toNat<l.length by omega)];exact List.getElem_mem _
 ·simp only[spec_l13Rd_of,h1,Option.bind_some];rw[if_pos ⟨h2,h3⟩]
theorem num_is{N:Int}{d:Dr}(h:DrOk N d)(hN:N≤100000){l:List Int}(h0:0<l.length)(hl:l.length≤1000):∃v∈l,spec_l13Rd_num d l=some (v,(d.1,d.2+1),()):=by
 obtain⟨r,h1,h2,h3,_⟩:=pick_is h hN (n:=((l.length:Nat):Int)) (by omega);have h3:=h3 (by omega);obtain⟨x,k⟩:=d;refine⟨l.getD r.toNat (0:Int), ?_, ?_⟩
 ·rw[getD_at0 _ (show r.toNat<l.length by omega)];exact List.getElem_mem _
 ·simp only[spec_l13Rd_num,h1,Option.bind_some];rw[if_pos ⟨h2,h3⟩]
theorem snoc_ok{α:Type}(m:Nat){p:List α}{x:α}(hp:p.length≤1000000)(hm:m≤100):((0+p.length=p.length)∧((p.length+(List.take 1 (List.drop 0 [x])).length)*m≤140737488355328))∧List.take (p.length+(List.take 1 (List.drop 0 [x])).length) (List.drop 0 (List.drop 0 p++List.take 1 (List.drop 0 [x])))=p++[x]:=by
 have e:List.take 1 (List.drop 0 [x])=[x]:=rfl;rw[e];refine⟨⟨by omega, ?_⟩, ?_⟩
 ·have:(p.length+[x].length)*m≤1000001*100:=Nat.mul_le_mul (by simp only[List.length_cons,List.length_nil];omega) hm;omega
 ·simp only[List.drop_zero];exact List.take_of_length_le (by simp)
theorem tk_id{α:Type}(p:List α):List.take p.length (List.drop 0 p)=p:=by simp
/-! ### states, steps -/
theorem l3Some_is{N:Int}{d:Dr}(h:DrOk N d)(hN:N≤90000){n:Int}(h0:0≤n)(hn:n≤100):∃o d',spec_l3Some d n=some (o,d',())∧o.length≤100∧DrOk (N+100) d':=by
 obtain⟨r,g1,g2⟩:=loop_rel (f:=spec_l3Some_l3) n.toNat (fun i (s:Dr×List Int)=>((s.1.1,s.1.2,()),s.2,n,(i:Int),())) (fun s=>((s.1.1,s.1.2,()),s.2,())) (fun i s=>DrOk (N+i) s.1∧s.2.length≤i)
  (fun i s hi hs=>by
   obtain⟨⟨l,k⟩,o⟩:=s;obtain⟨r,p1,p2,_,_⟩:=pick_is hs.1 (by omega) (n:=2) (by omega);have ho:o.length≤i:=hs.2;obtain⟨a1,a2⟩:=snoc_ok 8 (p:=o) (x:=(i:Int)) (by omega) (by omega);have hw:=w64_succ hi (show n.toNat≤9223372036854775807 by omega);have hd:decide ((i:Int)<n)=true:=decide_eq_true (by omega);have hnx:DrOk (N+((i+1:Nat):Int)) (l,k+1):=hs.1.next.mono (by omega)
   by_cases hr:r=0
   ·refine⟨((l,k+1),o++[(i:Int)]), ?_,hnx,by simp;omega⟩;simp only[spec_l3Some_l3,hd,cond_true,p1,Option.bind_some,hr,BEq.rfl,hw,tk_id];rw[if_pos a1,a2]
   ·refine⟨((l,k+1),o), ?_,hnx,by show o.length≤i+1;omega⟩;simp only[spec_l3Some_l3,hd,cond_true,p1,Option.bind_some,show(r==0)=false by simpa using hr,cond_false,hw,tk_id])
  (fun s hs=>by
   simp only[spec_l3Some_l3,show decide (((n.toNat:Nat):Int)<n)=false from decide_eq_false (by omega),cond_false,tk_id])
  (d,[]) ⟨h.mono (by omega),by simp⟩
 obtain⟨l,k⟩:=d;obtain⟨⟨l',k'⟩,o⟩:=r;have g1:loopF spec_l3Some_l3 ((l,k,()),[],n,(0:Int),())=some ((l',k',()),o,()):=g1;refine⟨o,(l',k'), ?_,by have:=g2.2;show o.length≤100;have:o.length≤n.toNat:=this;omega,g2.1.mono (by omega)⟩;simp only[spec_l3Some,show List.take 0 (List.drop 0 [])=([]:List Int) from rfl,g1,Option.bind_some,tk_id]
theorem l3Put_is{l:List Stp}(hl:l.length≤100000)(s:Stp):∃o,spec_l3Put l s=some o∧o.length≤l.length+1:=by
 obtain⟨x,y,z,c⟩:=s;obtain⟨r,g1,j,hj,g2⟩:=loop_tot (f:=spec_l3Put_l2) l.length (fun i (_:Unit)=>(l,(x,y,z,c,()),(i:Int),())) (fun _ _=>True) (fun r=>∃j:Nat,j≤l.length∧r=(l,(x,y,z,c,()),(j:Int),()))
  (fun i _ hi _=>by
   simp only[spec_l3Put_l2,lt_t hi,cond_true,if_pos (in_t hi),Int.toNat_natCast,spec_l3Before_is,Option.bind_some,w64_succ hi (show l.length≤9223372036854775807 by omega)];cases befB (List.getD l i ((0:Int),(⟨Array.empty⟩:ByteArray),(0:Int),(0:Int))) (x,y,z,c) with
   |true=>exact .inl ⟨(),rfl,trivial⟩
   |false=>exact .inr ⟨_,rfl,i,by omega,rfl⟩)
  (fun _ _=>⟨_,by simp only[spec_l3Put_l2,lt_f,cond_false],l.length,Nat.le_refl _,rfl⟩)
  () trivial
 subst g2;have g1:loopF spec_l3Put_l2 (l,(x,y,z,c,()),(0:Int),())=some (l,(x,y,z,c,()),(j:Int),()):=g1;have e1:List.take ((Int.toNat (j:Int))-0) (List.drop 0 l)=l.take j:=by simp
 have e1l:(l.take j).length=j:=by rw[List.length_take];omega
 have e2:List.take 1 (List.drop 0 [(x,y,z,c)])=[(x,y,z,c)]:=rfl;have tail:∃o,(if(((0:Int)≤(j:Int))∧((j:Int)≤(((List.length l):Nat):Int))) then
    if(((0+0)=(List.length ([]:List Stp)))∧(((0+(List.length (l.take j)))*40)≤140737488355328)) then
     if(((0+(0+(List.length (l.take j))))=(List.length ((List.drop 0 [])++(l.take j))))∧((((0+(List.length (l.take j)))+(List.length [(x,y,z,c)]))*40)≤140737488355328)) then
      if(((0:Int)≤(j:Int))∧((j:Int)≤(((List.length l):Nat):Int))) then
       if(((0+((0+(List.length (l.take j)))+(List.length [(x,y,z,c)])))=(List.length ((List.drop 0 ((List.drop 0 [])++(l.take j)))++[(x,y,z,c)])))∧(((((0+(List.length (l.take j)))+(List.length [(x,y,z,c)]))+(List.length (List.take ((List.length l)-j) (List.drop j l))))*40)≤140737488355328)) then
        some (List.take (((0+(List.length (l.take j)))+(List.length [(x,y,z,c)]))+(List.length (List.take ((List.length l)-j) (List.drop j l)))) (List.drop 0 ((List.drop 0 ((List.drop 0 ((List.drop 0 [])++(l.take j)))++[(x,y,z,c)]))++(List.take ((List.length l)-j) (List.drop j l)))))
       else none
      else none
     else none
    else none
   else none)=some o∧o.length≤l.length+1:=by
  have hd:(List.take ((List.length l)-j) (List.drop j l)).length=l.length-j:=by rw[List.length_take,List.length_drop];omega
  rw[if_pos ⟨by omega,by omega⟩,if_pos ⟨rfl,by rw[e1l];omega⟩,if_pos ⟨by simp,by rw[e1l];simp only[List.length_cons,List.length_nil];omega⟩,if_pos ⟨by omega,by omega⟩,if_pos ⟨by simp,by rw[e1l,hd];simp only[List.length_cons,List.length_nil];omega⟩];refine⟨_,rfl, ?_⟩;rw[List.length_take,e1l,hd];simp only[List.length_cons,List.length_nil];omega
 unfold spec_l3Put;dsimp only
 rw[g1];simp only[Option.bind_some,e1,e2,Int.toNat_natCast]
 by_cases hlt:j<l.length
 ·rw[lt_t hlt,cond_true,if_pos (in_t hlt)];simp only[spec_l3Before_is,Option.bind_some];cases befB (x,y,z,c) (List.getD l j ((0:Int),(⟨Array.empty⟩:ByteArray),(0:Int),(0:Int))) with
  |false=>
   rw[Bool.not_false,cond_true,if_pos ⟨rfl,by omega⟩,if_pos ⟨by omega,by omega⟩,if_pos ⟨by omega,by omega⟩];refine⟨_,rfl, ?_⟩;rw[List.length_take];omega
  |true=>
   rw[Bool.not_true,cond_false];exact tail
 ·rw[show decide ((j:Int)<((l.length:Nat):Int))=false from decide_eq_false (by omega),cond_false];exact tail
end Go.Proofs.YthkflageghfbgaaGreatDoor

/- Reading an automaton comes to an end, and what is read is small. -/
namespace Go.Proofs.YthkflageghfbgaaGreatDoor
open Go Go.Proofs.YthkflageghfbgaaGreatDoor.Am
def Tiny(a:Aut):Prop:=a.2.1.length≤2000∧a.2.2.1.length≤2000∧a.2.2.2.length≤2000
theorem Tiny.small{a:Aut}(h:Tiny a):Small a:=⟨by have:=h.1;omega,by have:=h.2.1;omega,by have:=h.2.2;omega⟩
theorem Tiny.zero:Tiny ((0:Int),([]:List Int),([]:List Int),([]:List Stp)):=⟨by simp,by simp,by simp⟩
theorem ext_size(s:ByteArray)(i j:Nat):(s.extract i j).size≤s.size:=by
 rw[ByteArray.size_extract];omega
theorem l13Cut_is{s:ByteArray}(hs:s.size≤1000)(c:Int):∃o,spec_l13Cut s c=some o∧o.length≤s.size+1∧∀x∈o,x.size≤s.size:=by
 obtain⟨r,g1,g2⟩:=loop_rel (f:=spec_l13Cut_l4) (s.size+1) (fun i (p:List ByteArray×Nat)=>(s,c,p.1,(p.2:Int),(i:Int),())) (fun p=>(p.1,())) (fun i p=>p.2≤i∧p.1.length≤i∧∀x∈p.1,x.size≤s.size)
  (fun i p hi hp=>by
   obtain⟨o,k⟩:=p;obtain⟨h1,h2,h3⟩:=hp;have h1:k≤i:=h1;have h2:o.length≤i:=h2;obtain⟨a1,a2⟩:=snoc_ok 16 (p:=o) (x:=s.extract k i) (by omega) (by omega);have hw:=w64_succ hi (show s.size+1≤9223372036854775807 by omega);have hd:decide ((i:Int)≤((s.size:Nat):Int))=true:=decide_eq_true (by omega);have hc:(0:Int)≤(k:Int)∧(k:Int)≤(i:Int)∧(i:Int)≤((s.size:Nat):Int):=by omega
   have hnew:(i+1)≤i+1∧(o++[s.extract k i]).length≤i+1∧∀x∈o++[s.extract k i],x.size≤s.size:=by
    refine⟨Nat.le_refl _,by simp;omega,fun x hx=> ?_⟩
    rcases List.mem_append.1 hx with hx|hx
    ·exact h3 x hx
    ·rw[List.mem_singleton.1 hx];exact ext_size _ _ _
   by_cases he:i=s.size
   ·refine⟨(o++[s.extract k i],i+1), ?_,hnew⟩;simp only[spec_l13Cut_l4,hd,cond_true,show((i:Int)==((s.size:Nat):Int))=true by rw[he];simp,if_pos hc,Int.toNat_natCast,hw];rw[if_pos a1,a2]
   ·have hlt:i<s.size:=by omega
    simp only[spec_l13Cut_l4,hd,cond_true,show((i:Int)==((s.size:Nat):Int))=false by rw[beq_eq_false_iff_ne];omega,cond_false,if_pos (in_t hlt),Int.toNat_natCast,hw];cases hb:((((UInt8.toNat (Array.getD (ByteArray.data s) i (0:UInt8))):Nat):Int)==c) with
    |true=>
     refine⟨(o++[s.extract k i],i+1), ?_,hnew⟩;simp only[cond_true,if_pos hc];rw[if_pos a1,a2]
    |false=>
     refine⟨(o,k), ?_,by show k≤i+1;omega,by show o.length≤i+1;omega,h3⟩;simp only[cond_false,tk_id])
  (fun p hp=>by simp only[spec_l13Cut_l4,show decide (((s.size+1:Nat):Int)≤((s.size:Nat):Int))=false from decide_eq_false (by omega),cond_false,tk_id])
  ([],0) ⟨Nat.le_refl _,by simp,fun x hx=>by cases hx⟩
 obtain⟨o,k⟩:=r;have g1:loopF spec_l13Cut_l4 (s,c,[],(0:Int),(0:Int),())=some (o,()):=g1;refine⟨o, ?_,g2.2.1,g2.2.2⟩;simp only[spec_l13Cut,show List.take 0 (List.drop 0 [])=([]:List ByteArray) from rfl,g1,Option.bind_some,tk_id]
theorem num_loop{t:ByteArray}(ht:t.size≤1000)(b:Bool):∃r,loopF spec_l13Num_l8 (t,b,(0:Int),(0:Int),())=some r:=by
 obtain⟨r,g1,_⟩:=loop_tot (f:=spec_l13Num_l8) t.size (fun i (v:Int)=>(t,b,v,(i:Int),())) (fun _ _=>True) (fun _=>True)
  (fun i v hi _=>by
   simp only[spec_l13Num_l8,show decide ((i:Int)<((t.size:Nat):Int))=true from decide_eq_true (by omega),cond_true,if_pos (in_t hi),w64_succ hi (show t.size≤9223372036854775807 by omega)];cases decide ((((UInt8.toNat (Array.getD (ByteArray.data t) (Int.toNat (i:Int)) (0:UInt8))):Nat):Int)<(48:Int)) with
   |true=>exact .inr ⟨_,rfl,trivial⟩
   |false=>
    simp only[cond_false];cases decide ((((UInt8.toNat (Array.getD (ByteArray.data t) (Int.toNat (i:Int)) (0:UInt8))):Nat):Int)>(57:Int)) with
    |true=>exact .inr ⟨_,rfl,trivial⟩
    |false=>exact .inl ⟨_,rfl,trivial⟩)
  (fun v _=>⟨.inr (b,v,()),by simp only[spec_l13Num_l8,show decide (((t.size:Nat):Int)<((t.size:Nat):Int))=false from decide_eq_false (by omega),cond_false],trivial⟩)
  0 trivial
 exact⟨r,g1⟩
theorem num_end{t:ByteArray}(ht:t.size≤1000)(b:Bool):∃v c,(Option.bind (loopF spec_l13Num_l8 (t,b,(0:Int),(0:Int),())) fun r0=>(match r0 with
   |.inl (d1,d2,_)=>some (d1,d2)
   |.inr (d3,d4,_)=>bif d3 then some ((IntKind.wrap .i64 ((0:Int)-d4)),true) else some (d4,true)))=some ((v:Int),(c:Bool)):=by
 obtain⟨r,hr⟩:=num_loop ht b;rw[hr]
 rcases r with⟨d1,d2,_⟩|⟨d3,d4,_⟩
 ·exact⟨_,_,rfl⟩
 ·cases d3<;>exact⟨_,_,rfl⟩
theorem num_head{t:ByteArray}(ht:t.size≤1000)(c b:Bool):∃v u,(bif ((((ByteArray.size t):Nat):Int)==(0:Int)) then some ((0:Int),false)
  else bif (decide ((((ByteArray.size t):Nat):Int)>(17:Int))) then some ((0:Int),false)
   else if(((0:Int)≤(0:Int))∧((0:Int)<(((ByteArray.size t):Nat):Int))) then
     bif ((((UInt8.toNat (Array.getD (ByteArray.data t) (Int.toNat (0:Int)) (0:UInt8))):Nat):Int)==(48:Int)) then
      bif (decide ((((ByteArray.size t):Nat):Int)>(1:Int))) then some ((0:Int),false)
      else bif c then some ((0:Int),false)
       else Option.bind (loopF spec_l13Num_l8 (t,b,(0:Int),(0:Int),())) fun r0=>(match r0 with
        |.inl (d1,d2,_)=>some (d1,d2)
        |.inr (d3,d4,_)=>bif d3 then some ((IntKind.wrap .i64 ((0:Int)-d4)),true) else some (d4,true))
     else Option.bind (loopF spec_l13Num_l8 (t,b,(0:Int),(0:Int),())) fun r0=>(match r0 with
        |.inl (d1,d2,_)=>some (d1,d2)
        |.inr (d3,d4,_)=>bif d3 then some ((IntKind.wrap .i64 ((0:Int)-d4)),true) else some (d4,true))
    else none)=some ((v:Int),(u:Bool)):=by
 have hE:=num_end ht b
 by_cases h0:t.size=0
 ·exact⟨0,false,by rw[show((((ByteArray.size t):Nat):Int)==(0:Int))=true by rw[h0];rfl,cond_true]⟩
 ·rw[show((((ByteArray.size t):Nat):Int)==(0:Int))=false by rw[beq_eq_false_iff_ne];omega,cond_false,if_pos ⟨by omega,by omega⟩];cases decide ((((ByteArray.size t):Nat):Int)>(17:Int)) with
  |true=>exact⟨_,_,rfl⟩
  |false=>
   rw[cond_false];cases((((UInt8.toNat (Array.getD (ByteArray.data t) (Int.toNat (0:Int)) (0:UInt8))):Nat):Int)==(48:Int)) with
   |false=>exact hE
   |true=>
    rw[cond_true];cases decide ((((ByteArray.size t):Nat):Int)>(1:Int)) with
    |true=>exact⟨_,_,rfl⟩
    |false=>
     rw[cond_false];cases c with
     |true=>exact⟨_,_,rfl⟩
     |false=>exact hE
theorem l13Num_is{s:ByteArray}(hs:s.size≤1000):∃v b,spec_l13Num s=some (v,b):=by
 unfold spec_l13Num
 by_cases h0:((s.size:Nat):Int)>0
 ·rw[decide_eq_true h0,cond_true,if_pos ⟨by omega,by omega⟩];have h1:(0:Int)≤1∧(1:Int)≤((s.size:Nat):Int):=by omega
  cases hb:((((UInt8.toNat (Array.getD (ByteArray.data s) (Int.toNat (0:Int)) (0:UInt8))):Nat):Int)==(45:Int)) with
  |true=>
   rw[cond_true,if_pos h1];exact num_head (t:=s.extract (Int.toNat 1) s.size) (by have:=ext_size s (Int.toNat 1) s.size;omega) true true
  |false=>
   rw[cond_false];exact num_head hs false false
 ·rw[decide_eq_false h0,cond_false];have e:((((ByteArray.size s):Nat):Int)==(0:Int))=true:=by
   have:s.size=0:=by omega
   rw[this];rfl
  rw[e,cond_true];exact⟨_,_,rfl⟩
theorem l3Read_is{s:ByteArray}(hs:s.size≤1000):∃o b,spec_l3Read s=some (o,b)∧o.length≤1001:=by
 unfold spec_l3Read;cases(ByteArray.toList s==ByteArray.toList (⟨#[]⟩:ByteArray)) with
 |true=>exact⟨[],true,rfl,by simp⟩
 |false=>
  rw[cond_false];obtain⟨o,g1,g2,g3⟩:=l13Cut_is hs 32;rw[g1];simp only[Option.bind_some,tk_id];obtain⟨r,k1,k2⟩:=loop_tot (f:=spec_l3Read_l5) o.length (fun i (v:List Int)=>(v,o,((o.length:Nat):Int),(i:Int),())) (fun i v=>v.length≤i) (fun r=>match r with|.inl (d2,_,_)=>d2.length≤1001|.inr (d4,_)=>d4.length≤1001)
   (fun i v hi hv=>by
    obtain⟨x,b,n1⟩:=l13Num_is (s:=List.getD o i (⟨Array.empty⟩:ByteArray)) (by
     rw[getD_at0 _ hi];have:=g3 _ (List.getElem_mem hi);omega)
    simp only[spec_l3Read_l5,lt_t hi,cond_true,if_pos (in_t hi),Int.toNat_natCast,Nat.zero_add,n1,Option.bind_some,w64_succ hi (show o.length≤9223372036854775807 by omega),tk_id];cases b with
    |false=>exact .inr ⟨_,rfl,by simp⟩
    |true=>
     obtain⟨a1,a2⟩:=snoc_ok 8 (p:=v) (x:=x) (by omega) (by omega);refine .inl ⟨v++[x], ?_,by simp;omega⟩;simp only[Nat.zero_add] at a1;simp only[Bool.not_true,cond_false];rw[if_pos a1,a2])
   (fun v hv=>⟨.inr (v,()),by simp only[spec_l3Read_l5,lt_f,cond_false,tk_id],by show v.length≤1001;omega⟩)
   [] (by simp)
  have k1:loopF spec_l3Read_l5 (List.take 0 (List.drop 0 []),o,((o.length:Nat):Int),(0:Int),())=some r:=k1;rw[k1]
  rcases r with⟨d2,d3,_⟩|⟨d4,_⟩
  ·exact⟨d2,d3,by simp only[Option.bind_some,tk_id],k2⟩
  ·exact⟨d4,true,by simp only[Option.bind_some,tk_id],k2⟩
theorem parse_loop{L:List ByteArray}(hL:L.length≤1001)(hz:∀x∈L,x.size≤1000)(x:Int){S F:List Int}(b:Bool):∃r,loopF spec_ParseAutomaton_l11 (((0:Int),[],[],[],()),(x,S,F,[],()),b,L,((L.length:Nat):Int),(0:Int),())=some r∧
  match r with
  |.inl ((d9,d10,d11,d12,_),_,_)=>d9=0∧d10=[]∧d11=[]∧d12=[]
  |.inr (_,(d18,d19,d20,d21,_),_,_)=>d18=x∧d19=S∧d20=F∧d21.length≤1001:=by
 obtain⟨r,k1,k2⟩:=loop_tot (f:=spec_ParseAutomaton_l11) L.length (fun i (p:List Stp×Bool)=>(((0:Int),[],[],[],()),(x,S,F,p.1,()),p.2,L,((L.length:Nat):Int),(i:Int),())) (fun i p=>p.1.length≤i)
  (fun r=>match r with
   |.inl ((d9,d10,d11,d12,_),_,_)=>d9=0∧d10=[]∧d11=[]∧d12=[]
   |.inr (_,(d18,d19,d20,d21,_),_,_)=>d18=x∧d19=S∧d20=F∧d21.length≤1001)
  (fun i p hi hp=>by
   obtain⟨l,f⟩:=p;have hl:l.length≤i:=hp;have hsz:(List.getD L i (⟨Array.empty⟩:ByteArray)).size≤1000:=by
    rw[getD_at0 _ hi];exact hz _ (List.getElem_mem hi)
   simp only[spec_ParseAutomaton_l11,lt_t hi,cond_true,if_pos (in_t hi),Int.toNat_natCast,Nat.zero_add,w64_succ hi (show L.length≤9223372036854775807 by omega),tk_id];generalize List.getD L i (⟨Array.empty⟩:ByteArray)=c at*
   by_cases h5:c.size=5
   ·have e5:((((c.size:Nat):Int)) != (5:Int))=false:=by rw[h5];rfl
    rw[e5,cond_false,if_pos ⟨by omega,by omega⟩];cases((((UInt8.toNat (Array.getD (ByteArray.data c) (Int.toNat (3:Int)) (0:UInt8))):Nat):Int) != (58:Int)) with
    |true=>exact .inr ⟨_,rfl,rfl,rfl,rfl,rfl⟩
    |false=>
     obtain⟨v0,b0,n0⟩:=l13Num_is (s:=c.extract 0 (Int.toNat 1)) (by have:=ext_size c 0 (Int.toNat 1);omega);obtain⟨v1,b1,n1⟩:=l13Num_is (s:=c.extract (Int.toNat 2) (Int.toNat 3)) (by have:=ext_size c (Int.toNat 2) (Int.toNat 3);omega);obtain⟨v2,b2,n2⟩:=l13Num_is (s:=c.extract (Int.toNat 4) c.size) (by have:=ext_size c (Int.toNat 4) c.size;omega);rw[cond_false,if_pos ⟨by omega,by omega⟩,n0];simp only[Option.bind_some];rw[if_pos ⟨by omega,by omega,by omega⟩,n1];simp only[Option.bind_some];rw[if_pos ⟨by omega,by omega⟩,n2];simp only[Option.bind_some];have hin:(0:Int)≤1∧(1:Int)≤2∧(2:Int)≤((c.size:Nat):Int):=by omega
     obtain⟨a1,a2⟩:=snoc_ok 40 (p:=l) (x:=(v0,c.extract (Int.toNat 1) (Int.toNat 2),v1,v2)) (by omega) (by omega);simp only[Nat.zero_add] at a1;simp only[if_pos hin,if_pos a1,a2];have hlen:(l++[(v0,c.extract (Int.toNat 1) (Int.toNat 2),v1,v2)]).length≤i+1:=by simp;omega
     refine .inl ⟨(l++[(v0,c.extract (Int.toNat 1) (Int.toNat 2),v1,v2)],bif f then bif b0 then bif b1 then b2 else false else false else false), ?_,hlen⟩;cases f<;>cases b0<;>cases b1<;>rfl
   ·have e5:((((c.size:Nat):Int)) != (5:Int))=true:=by rw[bne_iff_ne];omega
    rw[e5,cond_true];exact .inr ⟨_,rfl,rfl,rfl,rfl,rfl⟩)
  (fun p hp=>⟨.inr (((0:Int),[],[],[],()),(x,S,F,p.1,()),p.2,()),by simp only[spec_ParseAutomaton_l11,lt_f,cond_false,tk_id],rfl,rfl,rfl,by
   have:p.1.length≤L.length:=hp;show p.1.length≤1001;omega⟩)
  ([],b) (by simp)
 exact⟨r,k1,k2⟩
end Go.Proofs.YthkflageghfbgaaGreatDoor

/- Draws of automata and of words come to an end, and what is drawn is small. -/
namespace Go.Proofs.YthkflageghfbgaaGreatDoor
open Go Go.Proofs.YthkflageghfbgaaGreatDoor.Am
theorem parse_is{s:ByteArray}(hs:s.size≤1000):∃a b,spec_ParseAutomaton s=some (a,b)∧Tiny a:=by
 obtain⟨o,g1,g2,g3⟩:=l13Cut_is hs 59;unfold spec_ParseAutomaton;rw[g1];simp only[Option.bind_some]
 by_cases h4:o.length=4
 ·have e4:((((o.length:Nat):Int)) != (4:Int))=false:=by rw[h4];rfl
  rw[e4,cond_false];have hp:∀i,i<4→(List.getD o (0+i) (⟨Array.empty⟩:ByteArray)).size≤1000:=by
   intro i hi;rw[getD_at0 _ (by omega)];have:=g3 _ (List.getElem_mem (show 0+i<o.length by omega));omega
  have hc:∀(i:Int),0≤i→i<4→(0:Int)≤i∧i<((o.length:Nat):Int):=fun i h1 h2=>by omega
  have i0:=hc 0 (by omega) (by omega);have i1:=hc 1 (by omega) (by omega);have i2:=hc 2 (by omega) (by omega);have i3:=hc 3 (by omega) (by omega);obtain⟨x,b0,n0⟩:=l13Num_is (hp 0 (by omega));obtain⟨S,b1,n1,lS⟩:=l3Read_is (hp 1 (by omega));obtain⟨F,b2,n2,lF⟩:=l3Read_is (hp 2 (by omega));obtain⟨q,k1,k2,k3⟩:=l13Cut_is (hp 3 (by omega)) 32;have hp3:=hp 3 (by omega);have ql:q.length≤1001:=by omega
  have qz:∀y∈q,y.size≤1000:=fun y hy=>by have:=k3 y hy;omega
  simp only[if_pos i0,if_pos i1,if_pos i2,if_pos i3,show Int.toNat 0=0 from rfl,show Int.toNat 1=1 from rfl,show Int.toNat 2=2 from rfl,show Int.toNat 3=3 from rfl,n0,n1,n2,k1,Option.bind_some,tk_id];have hT:∀l:List Stp,l.length≤1001→Tiny (x,S,F,l):=fun l hl=>⟨by show S.length≤2000;omega,by show F.length≤2000;omega,by show l.length≤2000;omega⟩;have hV:∀l:List Stp,spec_AutomatonValid (x,S,F,l)=some (autOk (x,S,F,l)):=fun l=>spec_AutomatonValid_is _ (by show S.length≤_;omega) (by show F.length≤_;omega);have key:∀f:Bool,∃a b,(Option.bind (loopF spec_ParseAutomaton_l11 (((0:Int),[],[],[],()),(x,S,F,(List.take 0 (List.drop 0 [])),()),f,q,((q.length:Nat):Int),(0:Int),())) fun r8=>(match r8 with
     |.inl ((d9,d10,d11,d12,_),d13,_)=>some ((d9,d10,d11,d12),d13)
     |.inr ((d14,d15,d16,d17,_),(d18,d19,d20,d21,_),d22,_)=>
      bif (!d22) then some (((0:Int),[],[],[]),false)
      else Option.bind (spec_AutomatonValid (d18,d19,d20,d21)) fun r23=>
       bif (!r23) then some (((0:Int),[],[],[]),false)
       else some ((d18,d19,d20,d21),true)))=some ((a:Aut),(b:Bool))∧Tiny a:=by
   intro f;obtain⟨r,p1,p2⟩:=parse_loop ql qz x (S:=S) (F:=F) f;have p1:loopF spec_ParseAutomaton_l11 (((0:Int),[],[],[],()),(x,S,F,List.take 0 (List.drop 0 []),()),f,q,((q.length:Nat):Int),(0:Int),())=some r:=p1;rw[p1]
   rcases r with⟨⟨d9,d10,d11,d12,_⟩,d13,_⟩|⟨⟨d14,d15,d16,d17,_⟩,⟨d18,d19,d20,d21,_⟩,d22,_⟩
   ·obtain⟨rfl,rfl,rfl,rfl⟩:=p2;exact⟨_,_,rfl,Tiny.zero⟩
   ·obtain⟨rfl,rfl,rfl,hl⟩:=p2;simp only[Option.bind_some,tk_id,hV];cases d22 with
    |false=>exact⟨_,_,rfl,Tiny.zero⟩
    |true=>
     cases autOk (d18,d19,d20,d21) with
     |false=>exact⟨_,_,rfl,Tiny.zero⟩
     |true=>exact⟨_,_,rfl,hT _ hl⟩
  cases b0 with
  |false=>
   simp only[cond_false];cases(ByteArray.toList (List.getD o (0+3) (⟨Array.empty⟩:ByteArray))==ByteArray.toList (⟨#[]⟩:ByteArray)) with
   |true=>exact⟨_,_,rfl,Tiny.zero⟩
   |false=>simp only[Bool.not_false,cond_true];exact key false
  |true=>
   cases b1 with
   |false=>
    simp only[cond_true,cond_false];cases(ByteArray.toList (List.getD o (0+3) (⟨Array.empty⟩:ByteArray))==ByteArray.toList (⟨#[]⟩:ByteArray)) with
    |true=>exact⟨_,_,rfl,Tiny.zero⟩
    |false=>simp only[Bool.not_false,cond_true];exact key false
   |true=>
    simp only[cond_true];cases(ByteArray.toList (List.getD o (0+3) (⟨Array.empty⟩:ByteArray))==ByteArray.toList (⟨#[]⟩:ByteArray)) with
    |false=>simp only[Bool.not_false,cond_true];exact key b2
    |true=>
     simp only[Bool.not_true,cond_false];cases b2 with
     |false=>exact⟨_,_,rfl,Tiny.zero⟩
     |true=>
      have e0:(List.take 0 (List.drop 0 []):List Stp)=[]:=rfl;simp only[Bool.not_true,cond_false,e0,hV,Option.bind_some];cases autOk (x,S,F,[]) with
      |false=>exact⟨_,_,rfl,Tiny.zero⟩
      |true=>exact⟨_,_,rfl,hT _ (by simp)⟩
 ·have e4:((((o.length:Nat):Int)) != (4:Int))=true:=by rw[bne_iff_ne];omega
  rw[e4,cond_true];exact⟨_,_,rfl,Tiny.zero⟩
theorem known_pick{L:List ByteArray}(hL:L.all (fun x=>decide (x.size≤1000))=true)(j:Nat):(List.getD L j (⟨Array.empty⟩:ByteArray)).size≤1000:=by
 by_cases hj:j<L.length
 ·rw[getD_at0 _ hj];exact of_decide_eq_true (List.all_eq_true.1 hL _ (List.getElem_mem hj))
 ·rw[List.getD_eq_getElem?_getD,List.getElem?_eq_none (by omega)];show(0:Nat)≤1000;omega
theorem l3Known_is{k:Int}(h0:0≤k):∃a,spec_l3Known k=some a∧Tiny a:=by
 have t:=tmod_in h0 (show 1≤((9:Nat):Int) by omega);unfold spec_l3Known;rw[if_neg (by omega),if_pos t];obtain⟨⟨x,S,F,l⟩,b,p1,p2⟩:=parse_is (known_pick (L:=[(⟨#[(49:UInt8),(59:UInt8),(48:UInt8),(59:UInt8),(48:UInt8),(59:UInt8),(48:UInt8),(97:UInt8),(48:UInt8),(58:UInt8),(49:UInt8),(32:UInt8),(48:UInt8),(98:UInt8),(48:UInt8),(58:UInt8),(48:UInt8)]⟩:ByteArray),(⟨#[(50:UInt8),(59:UInt8),(48:UInt8),(59:UInt8),(49:UInt8),(59:UInt8),(48:UInt8),(97:UInt8),(48:UInt8),(58:UInt8),(48:UInt8),(32:UInt8),(48:UInt8),(97:UInt8),(49:UInt8),(58:UInt8),(49:UInt8),(32:UInt8),(49:UInt8),(98:UInt8),(49:UInt8),(58:UInt8),(48:UInt8)]⟩:ByteArray),(⟨#[(50:UInt8),(59:UInt8),(48:UInt8),(32:UInt8),(49:UInt8),(59:UInt8),(48:UInt8),(32:UInt8),(49:UInt8),(59:UInt8),(48:UInt8),(97:UInt8),(48:UInt8),(58:UInt8),(49:UInt8),(32:UInt8),(48:UInt8),(98:UInt8),(48:UInt8),(58:UInt8),(48:UInt8),(32:UInt8),(49:UInt8),(97:UInt8),(49:UInt8),(58:UInt8),(48:UInt8),(32:UInt8),(49:UInt8),(98:UInt8),(49:UInt8),(58:UInt8),(49:UInt8)]⟩:ByteArray),(⟨#[(51:UInt8),(59:UInt8),(48:UInt8),(59:UInt8),(48:UInt8),(32:UInt8),(50:UInt8),(59:UInt8),(48:UInt8),(97:UInt8),(48:UInt8),(58:UInt8),(48:UInt8),(32:UInt8),(48:UInt8),(97:UInt8),(49:UInt8),(58:UInt8),(48:UInt8),(32:UInt8),(48:UInt8),(98:UInt8),(48:UInt8),(58:UInt8),(49:UInt8),(32:UInt8),(49:UInt8),(97:UInt8),(49:UInt8),(58:UInt8),(49:UInt8),(32:UInt8),(49:UInt8),(98:UInt8),(50:UInt8),(58:UInt8),(48:UInt8),(32:UInt8),(50:UInt8),(97:UInt8),(50:UInt8),(58:UInt8),(48:UInt8),(32:UInt8),(50:UInt8),(98:UInt8),(50:UInt8),(58:UInt8),(48:UInt8)]⟩:ByteArray),(⟨#[(50:UInt8),(59:UInt8),(48:UInt8),(59:UInt8),(48:UInt8),(59:UInt8),(48:UInt8),(97:UInt8),(49:UInt8),(58:UInt8),(49:UInt8),(32:UInt8),(49:UInt8),(98:UInt8),(48:UInt8),(58:UInt8),(48:UInt8)]⟩:ByteArray),(⟨#[(51:UInt8),(59:UInt8),(48:UInt8),(59:UInt8),(50:UInt8),(59:UInt8),(48:UInt8),(97:UInt8),(48:UInt8),(58:UInt8),(48:UInt8),(32:UInt8),(48:UInt8),(98:UInt8),(48:UInt8),(58:UInt8),(48:UInt8),(32:UInt8),(48:UInt8),(98:UInt8),(49:UInt8),(58:UInt8),(48:UInt8),(32:UInt8),(49:UInt8),(97:UInt8),(49:UInt8),(58:UInt8),(49:UInt8),(32:UInt8),(49:UInt8),(98:UInt8),(50:UInt8),(58:UInt8),(48:UInt8),(32:UInt8),(50:UInt8),(97:UInt8),(50:UInt8),(58:UInt8),(48:UInt8),(32:UInt8),(50:UInt8),(98:UInt8),(50:UInt8),(58:UInt8),(48:UInt8)]⟩:ByteArray),(⟨#[(49:UInt8),(59:UInt8),(48:UInt8),(59:UInt8),(48:UInt8),(59:UInt8),(48:UInt8),(97:UInt8),(48:UInt8),(58:UInt8),(48:UInt8)]⟩:ByteArray),(⟨#[(50:UInt8),(59:UInt8),(48:UInt8),(59:UInt8),(48:UInt8),(32:UInt8),(49:UInt8),(59:UInt8),(48:UInt8),(97:UInt8),(48:UInt8),(58:UInt8),(48:UInt8),(32:UInt8),(48:UInt8),(98:UInt8),(49:UInt8),(58:UInt8),(49:UInt8),(32:UInt8),(49:UInt8),(97:UInt8),(48:UInt8),(58:UInt8),(48:UInt8),(32:UInt8),(49:UInt8),(98:UInt8),(49:UInt8),(58:UInt8),(48:UInt8)]⟩:ByteArray),(⟨#[(50:UInt8),(59:UInt8),(48:UInt8),(59:UInt8),(49:UInt8),(59:UInt8),(48:UInt8),(97:UInt8),(49:UInt8),(58:UInt8),(50:UInt8),(32:UInt8),(49:UInt8),(97:UInt8),(49:UInt8),(58:UInt8),(48:UInt8),(32:UInt8),(49:UInt8),(98:UInt8),(48:UInt8),(58:UInt8),(49:UInt8)]⟩:ByteArray)]) (by decide) (0+(Int.toNat (Int.tmod k ((9:Nat):Int)))));rw[p1];exact⟨(x,S,F,l),by simp only[Option.bind_some,tk_id],p2⟩
theorem draw_loop{N:Int}{d:Dr}(h:DrOk N d)(hN:N≤80000){n m:Int}(h1:1≤n)(h3:n≤100)(hm:0≤m)(hm2:m≤1000)(S F:List Int):∃d' l,loopF spec_l3Draw_l8 ((d.1,d.2,()),((0:Int),[],[],[],()),n,(n,S,F,[],()),m,(0:Int),())=some ((d'.1,d'.2,()),((0:Int),[],[],[],()),(n,S,F,l,()),())∧l.length≤1000∧DrOk (N+4000) d':=by
 obtain⟨r,g1,g2⟩:=loop_rel (f:=spec_l3Draw_l8) m.toNat (fun i (s:Dr×List Stp)=>((s.1.1,s.1.2,()),((0:Int),[],[],[],()),n,(n,S,F,s.2,()),m,(i:Int),())) (fun s=>((s.1.1,s.1.2,()),((0:Int),[],[],[],()),(n,S,F,s.2,()),())) (fun i s=>DrOk (N+4*i) s.1∧s.2.length≤i)
  (fun i s hi hs=>by
   obtain⟨⟨b,k⟩,l⟩:=s;obtain⟨hs,hl⟩:=hs;have hs:DrOk (N+4*i) (b,k):=hs;have hl:l.length≤i:=hl;obtain⟨r0,p0,_,_,_⟩:=pick_is hs (by omega) (n:=n) (by omega);have s1:=hs.next;obtain⟨r1,_,p1⟩:=of_is s1 (by omega) (l:=List.take 2 (List.drop 0 [(⟨#[(97:UInt8)]⟩:ByteArray),(⟨#[(98:UInt8)]⟩:ByteArray)])) (by decide) (by decide);have s2:=s1.next;obtain⟨r2,p2,_,_,_⟩:=pick_is s2 (by omega) (n:=n) (by omega);have s3:=s2.next;obtain⟨r3,_,p3⟩:=num_is s3 (by omega) (l:=List.take 6 (List.drop 0 [(0:Int),(1:Int),(0:Int),(1:Int),(2:Int),(0:Int)])) (by decide) (by decide);have s4:=s3.next;obtain⟨o,p4,p5⟩:=l3Put_is (l:=l) (by omega) (r0,r1,r2,r3);refine⟨((b,k+1+1+1+1),o), ?_,s4.mono (by omega),by show o.length≤i+1;omega⟩;simp only[spec_l3Draw_l8,show decide ((i:Int)<m)=true from decide_eq_true (by omega),cond_true,p0,p1,p2,p3,p4,Option.bind_some,tk_id,w64_succ hi (show m.toNat≤9223372036854775807 by omega)])
  (fun s hs=>by simp only[spec_l3Draw_l8,show decide (((m.toNat:Nat):Int)<m)=false from decide_eq_false (by omega),cond_false,tk_id])
  (d,[]) ⟨h.mono (by omega),by simp⟩
 obtain⟨d',l⟩:=r;exact⟨d',l,g1,by have:=g2.2;show l.length≤1000;have:l.length≤m.toNat:=this;omega,g2.1.mono (by omega)⟩
theorem draw_tail{N:Int}{d:Dr}(h:DrOk N d)(hN:N≤60000){q:Int}(q1:1≤q)(q3:q≤3):∃a d',(Option.bind (spec_l13Rd_pick (d.1,d.2) q) fun(r32,(r33,r34),_)=>
    Option.bind (spec_l3Some (r33,r34) (IntKind.wrap .i64 ((1:Int)+r32))) fun(r35,(r36,r37),_)=>
     Option.bind (spec_l3Some (r36,r37) (IntKind.wrap .i64 ((1:Int)+r32))) fun(r38,(r39,r40),_)=>
      Option.bind (spec_l13Rd_pick (r39,r40) (IntKind.wrap .i64 ((IntKind.wrap .i64 ((2:Int)*(IntKind.wrap .i64 ((1:Int)+r32))))+(1:Int)))) fun(r41,(r42,r43),_)=>
       Option.bind (loopF spec_l3Draw_l8 ((r42,r43,()),((0:Int),[],[],[],()),(IntKind.wrap .i64 ((1:Int)+r32)),((IntKind.wrap .i64 ((1:Int)+r32)),(List.take (List.length r35) (List.drop 0 r35)),(List.take (List.length r38) (List.drop 0 r38)),(List.take 0 (List.drop 0 [])),()),(IntKind.wrap .i64 ((1:Int)+r41)),(0:Int),())) fun((r44,r45,_),(r46,r47,r48,r49,_),(r50,r51,r52,r53,_),_)=>
        some ((r50,(List.take (List.length r51) (List.drop 0 r51)),(List.take (List.length r52) (List.drop 0 r52)),(List.take (List.length r53) (List.drop 0 r53))),(r44,r45),()))=some (a,d',())∧Tiny a∧DrOk (N+5000) d':=by
 obtain⟨r0,p0,a1,a2,_⟩:=pick_is h (by omega) (n:=q) (by omega);have a2:=a2 (by omega);have s1:=h.next;have w1:IntKind.wrap .i64 ((1:Int)+r0)=1+r0:=w64 (by omega) (by omega);obtain⟨S,d1,p1,l1,s2⟩:=l3Some_is s1 (by omega) (n:=1+r0) (by omega) (by omega);obtain⟨F,d2,p2,l2,s3⟩:=l3Some_is s2 (by omega) (n:=1+r0) (by omega) (by omega);have w2:IntKind.wrap .i64 ((2:Int)*(1+r0))=2*(1+r0):=w64 (by omega) (by omega);have w3:IntKind.wrap .i64 (2*(1+r0)+1)=2*(1+r0)+1:=w64 (by omega) (by omega);obtain⟨r4,p4,a3,a4,_⟩:=pick_is s3 (by omega) (n:=2*(1+r0)+1) (by omega);have a4:=a4 (by omega);have s4:=s3.next;have w4:IntKind.wrap .i64 ((1:Int)+r4)=1+r4:=w64 (by omega) (by omega);obtain⟨d',l,p5,l3,s5⟩:=draw_loop s4 (by omega) (n:=1+r0) (m:=1+r4) (by omega) (by omega) (by omega) (by omega) S F;obtain⟨d1b,d1p⟩:=d1;obtain⟨d2b,d2p⟩:=d2;obtain⟨b',p'⟩:=d';have p5:loopF spec_l3Draw_l8 ((d2b,d2p+1,()),((0:Int),[],[],[],()),1+r0,(1+r0,S,F,List.take 0 (List.drop 0 []),()),1+r4,(0:Int),())=some ((b',p',()),((0:Int),[],[],[],()),(1+r0,S,F,l,()),()):=p5;refine⟨(1+r0,S,F,l),(b',p'), ?_,⟨by show S.length≤2000;omega,by show F.length≤2000;omega,by show l.length≤2000;omega⟩,s5.mono (by omega)⟩;simp only[p0,Option.bind_some,w1,p1,p2,w2,w3,p4,w4,tk_id,p5]
theorem l3Draw_is{N:Int}{d:Dr}(h:DrOk N d)(hN:N≤50000){q:Int}(q1:1≤q)(q3:q≤3):∃a d',spec_l3Draw d q=some (a,d',())∧Tiny a∧DrOk (N+5500) d':=by
 obtain⟨b,k⟩:=d;obtain⟨r0,p0,a1,a2,_⟩:=pick_is h (by omega) (n:=3) (by omega);have s1:=h.next;unfold spec_l3Draw;dsimp only
 rw[p0];simp only[Option.bind_some];cases(r0==0) with
 |false=>
  obtain⟨a,d',e1,e2,e3⟩:=draw_tail s1 (by omega) q1 q3;exact⟨a,d',e1,e2,e3.mono (by omega)⟩
 |true=>
  obtain⟨r1,p1,a3,a4,_⟩:=pick_is s1 (by omega) (n:=9) (by omega);have s2:=s1.next;obtain⟨⟨x,S,F,l⟩,p2,t2⟩:=l3Known_is a3;rw[cond_true,p1];simp only[Option.bind_some];rw[p2];simp only[Option.bind_some];cases decide (x≤q) with
  |true=>exact⟨(x,S,F,l),_,by simp only[cond_true,tk_id],t2,s2.mono (by omega)⟩
  |false=>
   rw[cond_false];obtain⟨a,d',e1,e2,e3⟩:=draw_tail s2 (by omega) q1 q3;exact⟨a,d',e1,e2,e3.mono (by omega)⟩
def Tinier(a:Aut):Prop:=a.2.1.length≤3000∧a.2.2.1.length≤3000∧a.2.2.2.length≤3000
theorem Tinier.small{a:Aut}(h:Tinier a):Small a:=⟨by have:=h.1;omega,by have:=h.2.1;omega,by have:=h.2.2;omega⟩
theorem l3Bad_is{N:Int}{d:Dr}(h:DrOk N d)(hN:N≤80000){a:Aut}(ha:Tiny a):∃a' d',spec_l3Bad d a=some (a',d',())∧Tinier a'∧DrOk (N+10) d':=by
 obtain⟨b,k⟩:=d;obtain⟨x,S,F,l⟩:=a;obtain⟨t1,t2,t3⟩:=ha;have t1:S.length≤2000:=t1;have t2:F.length≤2000:=t2;have t3:l.length≤2000:=t3;obtain⟨r0,p0,_,_,_⟩:=pick_is h (by omega) (n:=36) (by omega);have s1:=h.next;unfold spec_l3Bad;dsimp only
 rw[p0];simp only[Option.bind_some];have n3:(0<(List.take 3 (List.drop 0 [(0:Int),(4:Int),(-1:Int)])).length)∧(List.take 3 (List.drop 0 [(0:Int),(4:Int),(-1:Int)])).length≤1000:=by decide
 cases(r0==0) with
 |true=>
  obtain⟨r1,_,p1⟩:=num_is s1 (by omega) (l:=List.take 5 (List.drop 0 [(0:Int),(5:Int),(-1:Int),(1:Int),(9223372036854775807:Int)])) (by decide) (by decide);rw[cond_true,p1];exact⟨_,_,rfl,⟨by show S.length≤3000;omega,by show F.length≤3000;omega,by show l.length≤3000;omega⟩,s1.next.mono (by omega)⟩
 |false=>
  rw[cond_false];cases(r0==1) with
  |true=>
   obtain⟨r1,p1,_,_,_⟩:=pick_is s1 (by omega) (n:=2) (by omega);have s2:=s1.next;obtain⟨r2,_,p2⟩:=of_is s2 (by omega) (l:=List.take 3 (List.drop 0 [(⟨#[(97:UInt8)]⟩:ByteArray),(⟨#[(99:UInt8)]⟩:ByteArray),(⟨#[]⟩:ByteArray)])) (by decide) (by decide);have s3:=s2.next;obtain⟨r3,_,p3⟩:=num_is s3 (by omega) n3.1 n3.2;have s4:=s3.next;obtain⟨r4,_,p4⟩:=num_is s4 (by omega) n3.1 n3.2;have s5:=s4.next;obtain⟨a1,a2⟩:=snoc_ok 40 (p:=l) (x:=(r1,r2,r3,r4)) (by omega) (by omega);rw[cond_true,if_pos ⟨rfl,by omega⟩,p1];simp only[Option.bind_some];rw[p2];simp only[Option.bind_some];rw[p3];simp only[Option.bind_some];rw[p4];simp only[Option.bind_some,List.drop_zero,List.nil_append,Nat.zero_add];simp only[Nat.zero_add,List.drop_zero] at a1 a2;rw[if_pos a1,a2];exact⟨_,_,rfl,⟨by show S.length≤3000;omega,by show F.length≤3000;omega,by show(l++_).length≤3000;simp;omega⟩,s5.mono (by omega)⟩
  |false=>
   rw[cond_false];cases(r0==2) with
   |true=>
    obtain⟨r1,_,p1⟩:=num_is s1 (by omega) n3.1 n3.2;obtain⟨a1,a2⟩:=snoc_ok 8 (p:=S) (x:=r1) (by omega) (by omega);rw[cond_true,if_pos ⟨rfl,by omega⟩,p1];simp only[Option.bind_some,List.drop_zero,List.nil_append,Nat.zero_add];simp only[Nat.zero_add,List.drop_zero] at a1 a2;rw[if_pos a1,a2];exact⟨_,_,rfl,⟨by show(S++_).length≤3000;simp;omega,by show F.length≤3000;omega,by show l.length≤3000;omega⟩,s1.next.mono (by omega)⟩
   |false=>exact⟨_,_,rfl,⟨by show S.length≤3000;omega,by show F.length≤3000;omega,by show l.length≤3000;omega⟩,s1.mono (by omega)⟩
theorem l3Any_is{N:Int}{d:Dr}(h:DrOk N d)(hN:N≤50000):∃a d',spec_l3Any d=some (a,d',())∧Tinier a∧DrOk (N+5510) d':=by
 obtain⟨⟨x,S,F,l⟩,⟨b1,k1⟩,p1,t1,s1⟩:=l3Draw_is h hN (q:=3) (by omega) (by omega);obtain⟨⟨x',S',F',l'⟩,⟨b2,k2⟩,p2,t2,s2⟩:=l3Bad_is s1 (by omega) t1;obtain⟨b,k⟩:=d;refine⟨(x',S',F',l'),(b2,k2), ?_,t2,s2.mono (by omega)⟩;simp only[spec_l3Any,p1,Option.bind_some,tk_id,p2]
theorem l13Open_is{c:List Int}(hc:∀x∈c,0≤x∧x≤255):∃d,spec_l13Open c=some d∧DrOk 0 d:=by
 unfold spec_l13Open
 by_cases h:((c.length:Nat):Int)>2000
 ·rw[decide_eq_true h,cond_true,if_pos ⟨by omega,by omega⟩];refine⟨_,rfl,fun x hx=>hc x (List.mem_of_mem_drop (List.mem_of_mem_take hx)), ?_,Int.le_refl _,Int.le_refl _⟩;show(List.take _ (List.drop 0 c)).length≤2000;rw[List.length_take];have:(Int.toNat 2000-0)=2000:=rfl;omega
 ·rw[decide_eq_false h,cond_false];exact⟨_,rfl,hc,by show c.length≤2000;omega,Int.le_refl _,Int.le_refl _⟩
theorem bytes_of{c:List Int}(f:Fits (.sl (.int .u8)) c):∀x∈c,0≤x∧x≤255:=by
 intro x hx;have h:(Lit.int .u8 x).wf=true:=f.2 x hx;have h:=Bool.and_eq_true_iff.1 h;exact⟨of_decide_eq_true h.1,of_decide_eq_true h.2⟩
end Go.Proofs.YthkflageghfbgaaGreatDoor
