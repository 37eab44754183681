import Derived.Test.YtafognnoibjjeaaGreatDoorP69
import Derived.Test.YtafognnoibjjeaaGreatDoorP71
import Derived.Test.YtafognnoibjjeaaGreatDoorP52
set_option linter.unusedVariables false
set_option linter.unusedSimpArgs false
/- What an expansion of an expression costs: at least as often as repeated parts stand, divided by one more than the states. -/
namespace Go.Proofs.YtafognnoibjjeaaGreatDoor
open Go Go.Proofs.YtafognnoibjjeaaGreatDoor.Am
/-- a word so many times -/
def rep(m:Nat)(w:List UInt8):List UInt8:=(List.replicate m w).flatten
theorem y7i(m:Nat)(w:List UInt8):rep (m+1) w=w++rep m w:=by simp[rep,List.replicate_succ]
theorem kw4(p q:Nat)(w:List UInt8):rep (p+q) w=rep p w++rep q w:=by
 induction p with
 |zero=>simp[rep]
 |succ p ih=>rw[Nat.succ_add,y7i,y7i,ih,List.append_assoc]
theorem rep_len(m:Nat)(w:List UInt8):(rep m w).length=m*w.length:=by
 induction m with
 |zero=>simp[rep]
 |succ m ih=>rw[y7i,List.length_append,ih,Nat.succ_mul,Nat.add_comm]
def In(n:Nat)(i:Int):Prop:=0≤i∧i≤(n:Int)-1
def en(n:Nat)(A:List Int)(i k:Int):Int:=A.getD (i.toNat*n+k.toNat) 0
/-- costs whose parts are such costs too -/
def Dn(K:Int→Prop):Prop:=∀x y:Int,0≤x→0≤y→K (x+y)→K x∧K y
section
variable {n : Nat} {l : List Stp} (hl : ∀ s ∈ l, StepIs (n : Int) s)
include hl
omit hl in
theorem z8o{i k c:Int}{w:List UInt8}(h:Run l (rep 0 w) i k c):i=k∧c=0:=h
/-- the states that a run over a repeated word goes through -/
theorem z1m{w:List UInt8}{R:Int→Int→Prop}{K:Int→Prop}(hK:Dn K)(hR:∀i k c,In n i→In n k→Run l w i k c→K c→R i k):∀(p:Nat) (i k c:Int),In n i→Run l (rep p w) i k c→K c→
  ∃f:Nat→Int,f 0=i∧f p=k∧(∀j,j≤p→In n (f j))∧∀j,j<p→R (f j) (f (j+1))
 |0,i,k,c,hi,h,_=>by
  obtain⟨rfl,rfl⟩:=h;exact⟨fun _=>i,rfl,rfl,fun j _=>hi,fun j hj=>absurd hj (by omega)⟩
 |p+1,i,k,c,hi,h,hc=>by
  rw[y7i] at h;obtain⟨j,c1,c2,h1,h2,rfl⟩:=run_app.1 h;have n1:=Run.nonneg hl h1;have n2:=Run.nonneg hl h2;obtain⟨k1,k2⟩:=hK _ _ n1 n2 hc;have hj:In n j:=zr8 hl h1 hi;obtain⟨f,f0,fp,fi,fs⟩:=z1m hK hR p j k c2 hj h2 k2;refine⟨fun t=>if t=0 then i else f (t-1),rfl, ?_,fun t ht=> ?_,fun t ht=> ?_⟩
  ·show(if p+1=0 then i else f (p+1-1))=k;rw[if_neg (by omega)];exact fp
  ·show In n (if t=0 then i else f (t-1));split
   ·exact hi
   ·exact fi _ (by omega)
  ·show R (if t=0 then i else f (t-1)) (if t+1=0 then i else f (t+1-1));rw[if_neg (show ¬t+1=0 by omega)]
   by_cases e:t=0
   ·subst e;rw[if_pos rfl,show 0+1-1=0 from rfl,f0];exact hR _ _ _ hi hj h1 k1
   ·rw[if_neg e];have:=fs (t-1) (by omega);rw[show t-1+1=t+1-1 by omega] at this;exact this
end
section
variable {n : Nat} {E : List Int} (hE : gmul n E E = E) {z : Int} (hz : z ≤ 2)
include hE hz
theorem z4i{i j k:Int}(hi:In n i)(hj:In n j)(hk:In n k)(h1:en n E i j≤z)(h2:en n E j k≤z):en n E i k≤z:=by
 unfold In at hi hj hk;have:=(z1l (A:=E) (B:=E) (show i.toNat<n by omega) (show k.toNat<n by omega) hz).2 ⟨j.toNat,by omega,h1,h2⟩;rw[hE] at this;exact this
theorem zr9{f:Nat→Int}{p:Nat}(hf:∀j,j≤p→In n (f j))(hs:∀j,j<p→en n E (f j) (f (j+1))≤z):∀(d a:Nat),a+(d+1)≤p→en n E (f a) (f (a+(d+1)))≤z
 |0,a,h=>hs a (by omega)
 |d+1,a,h=>by
  have h1:=zr9 hf hs d a (by omega);have h2:=hs (a+(d+1)) (by omega);exact z4i hE hz (hf _ (by omega)) (hf _ (by omega)) (hf _ (by omega)) h1 h2
/-- a long path goes through a state twice -/
theorem k19{f:Nat→Int}{p:Nat}(hp:n+1≤p)(hf:∀j,j≤p→In n (f j))(hs:∀j,j<p→en n E (f j) (f (j+1))≤z):∃q,In n q∧en n E (f 0) q≤z∧en n E q q≤z∧en n E q (f p)≤z:=by
 obtain⟨a,b,h1,h2,h3⟩:=kv3 ((List.range n).map fun j:Nat=>(j:Int)) f (n+1) (fun k hk=>by
  have:=hf k (by omega);unfold In at this;exact List.mem_map.2 ⟨(f k).toNat,List.mem_range.2 (by omega),by omega⟩) (by simp)
 refine⟨f a,hf a (by omega), ?_, ?_, ?_⟩
 ·have:=zr9 hE hz hf hs (b-1) 0 (by omega);rw[show 0+(b-1+1)=b by omega,←h3] at this;exact this
 ·have:=zr9 hE hz hf hs (b-a-1) a (by omega);rw[show a+(b-a-1+1)=b by omega,←h3] at this;exact this
 ·have:=zr9 hE hz hf hs (p-a-1) a (by omega);rw[show a+(p-a-1+1)=p by omega] at this;exact this
end
theorem zi0{n:Nat}{E:List Int}{i k:Int}(hi:In n i)(hk:In n k){z:Int}(hz:z≤2):en n (y0r n E) i k≤z↔∃q,In n q∧en n E i q≤z∧ag (en n E q q)≤z∧en n E q k≤z:=by
 unfold In at hi hk;have h:=k12 (A:=E) (show i.toNat<n by omega) (show k.toNat<n by omega) (z+1);constructor
 ·intro h1;apply Classical.byContradiction;intro hno;have h1:(y0r n E).getD (i.toNat*n+k.toNat) 0≤z:=h1;have:=h.2 ⟨by omega,fun q hq=>by
   apply Classical.byContradiction;intro hc;refine hno ⟨(q:Int),⟨by omega,by omega⟩, ?_, ?_, ?_⟩<;>unfold en<;>simp only[Int.toNat_natCast]<;>omega⟩
  omega
 ·rintro⟨q,hq,h1,h2,h3⟩;apply Classical.byContradiction;intro hno;have hno:¬(y0r n E).getD (i.toNat*n+k.toNat) 0≤z:=hno;unfold In at hq;unfold en at h1 h2 h3
  rcases(h.1 (by omega)).2 q.toNat (by omega) with h4|h4|h4<;>omega
/-- what grades tell of the runs of a word, by the least cost that many times tell -/
structure GX (n:Nat) (l:List Stp) (Q:Int) (w:List UInt8) (A:List Int):Prop where
 ok:GOk n A
 p0:∀i k c,In n i→In n k→Run l w i k c→c≤0→en n A i k≤0
 p1:∀i k c,In n i→In n k→Run l w i k c→c<Q→en n A i k≤1
 p2:∀i k c,In n i→In n k→Run l w i k c→True→en n A i k≤2
 ex:∀i k,In n i→In n k→en n A i k≤2→∃c,Run l w i k c
theorem dn0:Dn fun c=>c≤0:=fun x y hx hy h=>by show x≤0∧y≤0;have h:x+y≤0:=h;omega
theorem dnQ(Q:Int):Dn fun c=>c<Q:=fun x y hx hy h=>by show x<Q∧y<Q;have h:x+y<Q:=h;omega
theorem dnT:Dn fun _=>True:=fun _ _ _ _ _=>⟨trivial,trivial⟩
theorem gr_not2(x:Int):gr x≤2→gr x≤1:=by
 unfold gr;split
 ·intro _;decide
 ·split
  ·intro h;exact absurd h (by decide)
  ·intro _;decide
theorem kw5{n:Nat}{l:List Stp}(hl:∀s∈l,StepIs (n:Int) s){b:UInt8}{M:List Int}(hM:ProdIs n l [b] M)(Q:Int):GX n l Q [b] (M.map gr):=by
 have hG:=kw1 hl hM;have at_:∀i k,In n i→In n k→(en n (M.map gr) i k≤2↔∃c,Run l [b] i k c)∧(en n (M.map gr) i k≤0↔Run l [b] i k 0):=by
  intro i k hi hk;unfold In at hi hk;have:=hG.2 i.toNat k.toNat (by omega) (by omega);rw[show((i.toNat:Nat):Int)=i by omega,show((k.toNat:Nat):Int)=k by omega] at this;exact this
 refine⟨hG.1,fun i k c hi hk h hc=> ?_,fun i k c hi hk h _=> ?_,fun i k c hi hk h _=>((at_ i k hi hk).1).2 ⟨c,h⟩,fun i k hi hk h=>((at_ i k hi hk).1).1 h⟩
 ·have:=Run.nonneg hl h;obtain rfl:c=0:=by omega
  exact((at_ i k hi hk).2).2 h
 ·have h2:=((at_ i k hi hk).1).2 ⟨c,h⟩;unfold In at hi hk;unfold en at h2⊢;rw[map_at (by rw[hM.1.1];exact yw1 (by omega) (by omega))] at h2⊢;exact gr_not2 _ h2
section
variable {n : Nat} {l : List Stp} (hl : ∀ s ∈ l, StepIs (n : Int) s) {Q : Int}
include hl
theorem gx_mul{w v:List UInt8}{A B:List Int}(hA:GX n l Q w A)(hB:GX n l Q v B):GX n l Q (w++v) (gmul n A B):=by
 have up:∀{K:Int→Prop} {z:Int},z≤2→Dn K→(∀i k c,In n i→In n k→Run l w i k c→K c→en n A i k≤z)→(∀i k c,In n i→In n k→Run l v i k c→K c→en n B i k≤z)→
   ∀i k c,In n i→In n k→Run l (w++v) i k c→K c→en n (gmul n A B) i k≤z:=by
  intro K z hz hK h1 h2 i k c hi hk h hc;obtain⟨j,c1,c2,r1,r2,rfl⟩:=run_app.1 h;obtain⟨k1,k2⟩:=hK _ _ (Run.nonneg hl r1) (Run.nonneg hl r2) hc;have hj:In n j:=zr8 hl r1 hi;have e1:=h1 _ _ _ hi hj r1 k1;have e2:=h2 _ _ _ hj hk r2 k2;unfold In at hi hj hk;exact(z1l (show i.toNat<n by omega) (show k.toNat<n by omega) hz).2 ⟨j.toNat,by omega,e1,e2⟩
 refine⟨yy8 hA.ok hB.ok,up (by omega) dn0 hA.p0 hB.p0,up (by omega) (dnQ Q) hA.p1 hB.p1,up (by omega) dnT hA.p2 hB.p2,fun i k hi hk h=> ?_⟩;unfold In at hi hk;obtain⟨j,hj,h1,h2⟩:=(z1l (show i.toNat<n by omega) (show k.toNat<n by omega) (by omega)).1 h;obtain⟨c1,r1⟩:=hA.ex i (j:Int) hi ⟨by omega,by omega⟩ (by unfold en;rw[Int.toNat_natCast];exact h1);obtain⟨c2,r2⟩:=hB.ex (j:Int) k ⟨by omega,by omega⟩ hk (by unfold en;rw[Int.toNat_natCast];exact h2);exact⟨_,run_app.2 ⟨_,c1,c2,r1,r2,rfl⟩⟩
theorem z6k{w:List UInt8}{E:List Int}(hE:gmul n E E=E){K:Int→Prop}{z:Int}(hz:z≤2)(hK:Dn K)(h1:∀i k c,In n i→In n k→Run l w i k c→K c→en n E i k≤z){p:Nat}(hp:0<p){i k c:Int}(hi:In n i)(hr:Run l (rep p w) i k c)(hc:K c):en n E i k≤z:=by
 obtain⟨f,f0,fp,fi,fs⟩:=z1m hl hK h1 p i k c hi hr hc;have:=zr9 hE hz fi fs (p-1) 0 (by omega);rw[show 0+(p-1+1)=p by omega,f0,fp] at this;exact this
theorem z6l{w:List UInt8}{E:List Int}(hE:gmul n E E=E){K:Int→Prop}{z:Int}(hz:z≤2)(hK:Dn K)(h1:∀i k c,In n i→In n k→Run l w i k c→K c→en n E i k≤z){p:Nat}(hp:n+1≤p){i k c:Int}(hi:In n i)(hr:Run l (rep p w) i k c)(hc:K c):
  ∃q,In n q∧en n E i q≤z∧en n E q q≤z∧en n E q k≤z:=by
 obtain⟨f,f0,fp,fi,fs⟩:=z1m hl hK h1 p i k c hi hr hc;have:=k19 hE hz hp fi fs;rw[f0,fp] at this;exact this
/-- a run that costs less than there are long y35 goes through one for nothing -/
theorem z8p{w:List UInt8}{E:List Int}(hE:gmul n E E=E)(h:GX n l Q w E):∀(q:Nat) (i k c:Int),In n i→In n k→Run l (rep (q*(n+1)) w) i k c→c<(q:Int)→c<Q→∃x,In n x∧en n E i x≤1∧en n E x x≤0∧en n E x k≤1
 |0,i,k,c,hi,hk,hr,hc,_=>by
  have:=Run.nonneg hl hr;omega
 |q+1,i,k,c,hi,hk,hr,hc,hQ=>by
  rw[Nat.succ_mul,Nat.add_comm,kw4] at hr;obtain⟨j,c1,c2,r1,r2,rfl⟩:=run_app.1 hr;have n1:=Run.nonneg hl r1;have n2:=Run.nonneg hl r2;have hj:In n j:=zr8 hl r1 hi;have rest:∀{x:Int},In n x→en n E x j≤1→en n E x k≤1:=by
   intro x hx h1
   rcases Nat.eq_zero_or_pos (q*(n+1)) with h0|h0
   ·rw[h0] at r2;obtain⟨rfl,_⟩:=z8o r2;exact h1
   ·exact z4i hE (by omega) hx hj hk h1 (z6k hl hE (by omega) (dnQ Q) h.p1 h0 hj r2 (by show c2<Q;omega))
  by_cases e:c1=0
  ·subst e;obtain⟨x,hx,h1,h2,h3⟩:=z6l hl hE (by omega) dn0 h.p0 (Nat.le_refl _) hi r1 (Int.le_refl 0);exact⟨x,hx,by omega,h2,rest hx (by omega)⟩
  ·obtain⟨x,hx,h1,h2,h3⟩:=z8p hE h q j k c2 hj hk r2 (by omega) (by omega);have h4:=z6k hl hE (show(1:Int)≤2 by omega) (dnQ Q) h.p1 (Nat.succ_pos n) hi r1 (by show c1<Q;omega);exact⟨x,hx,z4i hE (by omega) hi hj hx h4 h1,h2,h3⟩
omit hl in
theorem kw6{w:List UInt8}{E:List Int}(hE:gmul n E E=E)(h:GX n l Q w E):∀m:Nat,1≤m→∀i k,In n i→In n k→en n E i k≤2→∃c,Run l (rep m w) i k c
 |0,hm,_,_,_,_,_=>absurd hm (by omega)
 |m+1,_,i,k,hi,hk,h1=>by
  rcases Nat.eq_zero_or_pos m with h0|h0
  ·subst h0;obtain⟨c,hc⟩:=h.ex i k hi hk h1;refine⟨c, ?_⟩;rw[y7i,show rep 0 w=[] from rfl,List.append_nil];exact hc
  ·have hi':=hi;have hk':=hk;unfold In at hi' hk';have h2:(gmul n E E).getD (i.toNat*n+k.toNat) 0≤2:=by rw[hE];exact h1
   obtain⟨j,hj,h3,h4⟩:=(z1l (show i.toNat<n by omega) (show k.toNat<n by omega) (by omega)).1 h2;have hj':In n (j:Int):=⟨by omega,by omega⟩;obtain⟨c1,r1⟩:=h.ex i (j:Int) hi hj' (by unfold en;rw[Int.toNat_natCast];exact h3);obtain⟨c2,r2⟩:=kw6 hE h m h0 (j:Int) k hj' hk (by unfold en;rw[Int.toNat_natCast];exact h4);rw[y7i];exact⟨_,run_app.2 ⟨_,c1,c2,r1,r2,rfl⟩⟩
theorem gx_stab{w:List UInt8}{E:List Int}(hE:gmul n E E=E)(h:GX n l Q w E){m:Nat}(hm:n+1≤m)(hQ:Q=((m/(n+1):Nat):Int)):GX n l Q (rep m w) (y0r n E):=by
 refine⟨y5h h.ok,fun i k c hi hk hr hc=> ?_,fun i k c hi hk hr hc=> ?_,fun i k c hi hk hr _=> ?_,fun i k hi hk h1=> ?_⟩
 ·obtain⟨q,hq,h1,h2,h3⟩:=z6l hl hE (by omega) dn0 h.p0 hm hi hr hc;exact(zi0 hi hk (by omega)).2 ⟨q,hq,h1,by unfold ag;split<;>omega,h3⟩
 ·have hmq:m=m/(n+1)*(n+1)+m%(n+1):=by rw[Nat.mul_comm];exact(Nat.div_add_mod m (n+1)).symm
  rw[hmq,kw4] at hr;obtain⟨j,c1,c2,r1,r2,rfl⟩:=run_app.1 hr;have n1:=Run.nonneg hl r1;have n2:=Run.nonneg hl r2;have hj:In n j:=zr8 hl r1 hi;obtain⟨x,hx,h1,h2,h3⟩:=z8p hl hE h (m/(n+1)) i j c1 hi hj r1 (by rw[←hQ];omega) (by omega);refine(zi0 hi hk (by omega)).2 ⟨x,hx,h1,by unfold ag;split<;>omega, ?_⟩
  rcases Nat.eq_zero_or_pos (m%(n+1)) with h0|h0
  ·rw[h0] at r2;obtain⟨rfl,_⟩:=z8o r2;exact h3
  ·exact z4i hE (by omega) hx hj hk h3 (z6k hl hE (by omega) (dnQ Q) h.p1 h0 hj r2 (by show c2<Q;omega))
 ·obtain⟨q,hq,h1,h2,h3⟩:=z6l hl hE (by omega) dnT h.p2 hm hi hr trivial;exact(zi0 hi hk (by omega)).2 ⟨q,hq,h1,by unfold ag;split<;>omega,h3⟩
 ·obtain⟨q,hq,h2,h3,h4⟩:=(zi0 hi hk (by omega)).1 h1;have h5:=z4i hE (by omega) hi hq hk h2 h4;exact kw6 hE h m (by omega) i k hi hk h5
end
end Go.Proofs.YtafognnoibjjeaaGreatDoor

/- Expansions of expressions: the word in which repeated parts stand so many times. -/
namespace Go.Proofs.YtafognnoibjjeaaGreatDoor
open Go Go.Proofs.YtafognnoibjjeaaGreatDoor.Am
/-- a text, its parts, and the word in which repeated parts stand m times -/
inductive Xo (m:Nat):List UInt8→Pts→List UInt8→Prop
 |nil:Xo m [] [] []
 |lt {c:UInt8} {t w:List UInt8} {l:Pts}:(c=97∨c=98)→Xo m t l w→Xo m (c::t) ((B [c],PT.mk [])::l) (c::w)
 |rp {t1 t2 w1 w2:List UInt8} {l1 l2:Pts}:Xo m t1 l1 w1→l1≠[]→Xo m t2 l2 w2→Xo m (40::(t1++41::35::t2)) ((B [],PT.mk l1)::l2) (rep m w1++w2)
theorem Xo.app{m:Nat}{t t' w w':List UInt8}{l l':Pts}(h:Xo m t l w)(h':Xo m t' l' w'):Xo m (t++t') (l++l') (w++w'):=by
 induction h with
 |nil=>exact h'
 |lt hc _ ih=>exact .lt hc ih
 |rp h1 hn _ _ ih=>
  have:=Xo.rp h1 hn ih;simpa using this
theorem Xo.ne{m:Nat}(hm:1≤m){t w:List UInt8}{l:Pts}(h:Xo m t l w):l≠[]→w≠[]:=by
 induction h with
 |nil=>intro h;exact absurd rfl h
 |lt _ _ _=>intro _;simp
 |@rp t1 t2 w1 w2 l1 l2 h1 hn _ ih1 _=>
  intro _ hw;have h3:=(List.append_eq_nil_iff.1 hw).1;have h4:(rep m w1).length=0:=by rw[h3];rfl
  rw[rep_len] at h4
  rcases Nat.mul_eq_zero.1 h4 with h5|h5
  ·omega
  ·exact ih1 hn (List.length_eq_zero_iff.1 h5)
/-- the value of a text tells what its expansions cost -/
theorem vo_gx{a:Aut}{n:Nat}(ha:AutIs a n){m:Nat}(hm:n+1≤m){t:List UInt8}{l:Pts}{A:List Int}(h:Vo n a.2.2.2 t l A):∃w,Xo m t l w∧GX n a.2.2.2 ((m/(n+1):Nat):Int) w A:=by
 induction h with
 |@lt c hc=>
  refine⟨[c],.lt hc .nil, ?_⟩;obtain⟨M,h1,h2⟩:=zq3 (c:=B [c]) ha.st ha.n1 ha.n4 ha.len ha.ok;have h3:=y31 ha (B [c]);rw[h1] at h3;have h3:M=ym7 (B [c]) n a.2.2.2 a.2.2.2.length:=(Prod.mk.inj (Option.some.inj h3)).2;subst h3;rw[y7h] at h2;exact kw5 ha.steps (k18 ha.steps h2) _
 |rp h1 h2 ih=>
  obtain⟨w,hw,hg⟩:=ih;refine⟨rep m w++[], ?_, ?_⟩
  ·exact .rp hw (h1.ok ha).2.1 .nil
  ·rw[List.append_nil];exact gx_stab ha.steps h2 hg hm rfl
 |cat h1 h2 ih1 ih2=>
  obtain⟨w1,hw1,hg1⟩:=ih1;obtain⟨w2,hw2,hg2⟩:=ih2;exact⟨w1++w2,hw1.app hw2,gx_mul ha.steps hg1 hg2⟩
/-- runs of short words cost little -/
theorem z4j{n:Int}{l:List Stp}(hl:∀s∈l,StepIs n s):∀{w:List UInt8} {i k c:Int},Run l w i k c→c≤3*w.length
 |[],i,k,c,h=>by simp only[Run] at h;simp;omega
 |b::w,i,k,c,h=>by
  simp only[Run] at h;obtain⟨s,h1,_,_,c',h3,rfl⟩:=h;have:=z4j hl h3;have:=(hl s h1).c1;simp only[List.length_cons];omega
/-- a growing text's expansions are had, and cost much -/
theorem kw7{a:Aut}{n:Nat}(ha:AutIs a n){A:List Int}(hA:btw n A a.2.1 a.2.2.1=2){w:List UInt8}(hw:w.length≤1000){c:Int}(hc:CostIs a w c):
  ((∀i k,In n i→In n k→en n A i k≤2→∃c,Run a.2.2.2 w i k c)→c<Nv)∧(∀Q:Int,(∀i k c,In n i→In n k→Run a.2.2.2 w i k c→c<Q→en n A i k≤1)→Q≤Nv→Q≤c):=by
 constructor
 ·intro hex;obtain⟨i,hi,k,hk,h1⟩:∃i∈a.2.1,∃k∈a.2.2.1,A.getD (i.toNat*n+k.toNat) 0≤2:=by
   apply Classical.byContradiction;intro hno;have:=(btw_le (n:=n) (A:=A) a.2.1 a.2.2.1 3).2 ⟨by omega,fun i hi k hk=>by
    by_cases c:3≤A.getD (i.toNat*n+k.toNat) 0
    ·exact c
    ·exact absurd ⟨i,hi,k,hk,by omega⟩ hno⟩
   omega
  obtain⟨x,hx⟩:=hex i k (ha.S i hi) (ha.F k hk) h1;have h2:=z4j ha.steps hx;have h3:=((hc.2 c).1 (Int.le_refl _)).2 i hi k hk x hx;show c<1000000;omega
 ·intro Q hQ hQN;refine(hc.2 Q).2 ⟨hQN,fun i hi k hk x hx=> ?_⟩
  by_cases h:Q≤x
  ·exact h
  ·have h1:=hQ i k x (ha.S i hi) (ha.F k hk) hx (by omega);have h2:=((btw_le (n:=n) (A:=A) a.2.1 a.2.2.1 2).1 (by omega)).2 i hi k hk;unfold en at h1;omega
end Go.Proofs.YtafognnoibjjeaaGreatDoor
