/- Library functions that turn the elements of a row; comparisons that may serve a sort. -/
import Derived.Test.YtafognnoibjjeaaGreatDoorAm3
import Derived.Lib.Bytealg
import Derived.Shelf.GgSortFunc.InsertionK
import Derived.Sort.Statements
set_option linter.unusedVariables false
set_option linter.unusedSimpArgs false
/- A library function that turns the elements of a row: what is told of it. -/
namespace Go.Proofs.YtafognnoibjjeaaGreatDoor.Am
open Go Go.RowKit
section
variable {P : Pg} {g : Nat} {k : Kd} [Inhabited k.T] {fa : Option Nat} {F : List k.T → Option (List k.T)} {en : k.T → List Value}
theorem zn6{w:World}{b N lo:Nat}(h:NoFz w b N lo)(hb:b<w.heap.size)(n off:Nat)(d:Array Value)(os:Array Obj):NoFz (Sort.grow (Sort.putRow id (Sort.ahead w n) b off d) os) b N lo:=by
 obtain⟨arr,elem,fz,e1,e2,e3⟩:=h;refine⟨Sort.putCells id off d arr,elem,fz, ?_,by simp[Sort.putCells,e2],e3⟩;rw[Sort.heap_grow_old _ _ (by simpa using hb)];show(w.heap.modify b _)[b]?=_;rw[Array.getElem?_modify,if_pos rfl,e1];rfl
theorem y8e{w:World}{b n off:Nat}{d:Array Value}{os:Array Obj}{k:Nat}(hk:k<w.heap.size)(hb:k≠b):(Sort.grow (Sort.putRow id (Sort.ahead w n) b off d) os).heap[k]?=w.heap[k]?:=by
 rw[Sort.heap_grow_old _ _ (by simpa using hk)];show(w.heap.modify b _)[k]?=_;rw[Array.getElem?_modify,if_neg (Ne.symm hb)]
theorem ki9(hk:∀x,(en x).length=k.size)(henc:∀w Wr cs x,RepC w Wr k cs x↔cs=en x)(hlen:∀xs ys,F xs=some ys→ys.length=xs.length)
  (hnil:∀A cap w,Calls P g (.slice A 0 cap::faV fa).toArray w fun e w'=>e=.returned (.tuple #[])∧w'=w)
  (hrun:∀xs ys,F xs=some ys→∀w b off cap,Sort.HoldsK en k.size w b off xs.toArray→b<w.heap.size→TabW P w∧¬TabB P b→
   Calls P g (.slice (some ⟨b,off,none⟩) xs.length cap::faV fa).toArray w fun e w'=>e=.returned (.tuple #[])∧∃n os,w'=Proofs.sortWorldK en k.size w b off n ys.toArray os):
  y5t P g ⟨[.io (.sl k)],false,[],fa,fun x=>(F x.1).map fun ys=>((),(ys,()))⟩:=by
 rintro⟨xs,_⟩ ⟨_,ys,_⟩ hF w Wr J vs hi;have hF:F xs=some ys:=by
  cases h:F xs with
  |none=>simp[h] at hF
  |some z=>simp[h] at hF;rw[hF]
 have hl:=hlen xs ys hF;have hrows:∀x:List k.T,yj4 12500 [.io (.sl k)] (x,())=[(200000,.arr k x false)]:=fun x=>rfl;have hvals:=hi.vals;have hr:=hi.rows;have hfresh:=hi.fresh;have htab:=hi.tab.2;change ∀q∈yj4 12500 [.io (.sl k)] (xs,()),_ at htab;change ∀q∈yj4 12500 [.io (.sl k)] (xs,()),_ at hr;change ∀q∈yj4 12500 [.io (.sl k)] (xs,()),_ at hfresh;rw[hrows] at hr hfresh htab;obtain⟨i,hJ,hrep⟩:=hr _ (List.mem_singleton.2 rfl);have hfresh:=hfresh _ (List.mem_singleton.2 rfl);change RepL P w _ J [.ref k 200000 0 (List.length (α:=k.T) xs)] vs at hvals
 match vs,hvals with
 |[],hv=>simp[RepL] at hv
 |_::_::_,hv=>simp[RepL] at hv
 |[v],hv=>
 have hv:=hv.1;simp only[Rep] at hv;change J 200000=some i at hJ;rw[hJ] at hv;cases i with
 |box b n=>exact hv.elim
 |arr k' n loc N=>
 obtain⟨rfl,hn,A,cap,rfl,hcap,hA⟩:=hv;obtain⟨_,hn',hrep⟩:=hrep;have hown:∀c,ownB J (yj4 12500 [.io (.sl k)] (xs,())) c→∃l,loc=some l∧c=l.1:=by
  rintro c ⟨q,hq,i,h1,h2⟩;rw[hrows,List.mem_singleton] at hq;subst hq;have h1:J 200000=some i:=h1;rw[hJ] at h1;obtain rfl:=Option.some.inj h1;cases loc with
  |none=>cases h2
  |some l=>exact⟨l,rfl,(Option.some.inj h2).symm⟩
 have fin:∀w',BelowM P.s (fun b=>w.heap.size≤b∨ownB J (yj4 12500 [.io (.sl k)] (xs,())) b) w w'→RowRep P w' (y52 (wrM Wr J (yj4 12500 [.io (.sl k)] (xs,()))) []) J (.arr k ys false) (.arr k n loc N)→
   ∃us bs,Ending.returned (.tuple #[])=Ending.returned (retV us)∧BelowM P.s (fun b=>w.heap.size≤b∨ownB J (yj4 12500 [.io (.sl k)] (xs,())) b) w w'∧
    (∀q∈yj4 12500 [.io (.sl k)] (yz4 [.io (.sl k)] (xs,()) (ys,())),∃i,J q.1=some i∧RowRep P w' (y52 (wrM Wr J (yj4 12500 [.io (.sl k)] (xs,()))) bs) J q.2 i)∧
    OutsM w w' (wrM Wr J (yj4 12500 [.io (.sl k)] (xs,()))) false [] () us bs:=by
  intro w' hB hR;refine⟨[],[],rfl,hB, ?_,rfl, ?_⟩
  ·change ∀q∈yj4 12500 [.io (.sl k)] (ys,()),_;rw[hrows];intro q hq;rw[List.mem_singleton] at hq;subst hq;exact⟨_,hJ,hR⟩
  ·simp only[yx5]
 cases xs with
 |nil=>
  obtain rfl:ys=[]:=List.length_eq_zero_iff.1 hl;refine(hnil A cap w).mono ?_;rintro e w' ⟨rfl,rfl⟩;refine fin w' (BelowM.refl _ _) ⟨rfl,hn', ?_⟩;cases loc with
  |none=>exact hrep
  |some l=>exact⟨hrep.1,hrep.2.1,fun i hi=>absurd hi (by simp)⟩
 |cons x0 xs0=>
  generalize hxs:x0::xs0=xs at*
  have hpos:0<xs.length:=by rw[←hxs];simp
  rcases hA with⟨h0,_⟩|⟨b,base,rfl,rfl,hN⟩
  ·have h0:xs.length=0:=h0;omega
  obtain⟨r1,r2,r3⟩:=hrep;simp only[Nat.zero_mul,Nat.add_zero,Nat.zero_add] at hN;obtain⟨hbs,_⟩:=hfresh _ b hJ rfl;have hn'':n=xs.length:=hn';subst hn'';have hflat:∀(d:List k.T) t,t<d.length*k.size→(Sort.flatK en k.size d.toArray)[t]! =(en d.toArray[t/k.size]!)[t%k.size]!:=fun d t ht=>Sort.get_flatK en k.size d.toArray t (by simpa using ht);have hH:Sort.HoldsK en k.size w b base xs.toArray:=by
   intro t ht;have ht':t<xs.length*k.size:=by simpa using ht
   have hkp:0<k.size:=by
    rcases Nat.eq_zero_or_pos k.size with h|h
    ·rw[h] at ht';simp at ht'
    ·exact h
   have hq:t/k.size<xs.length:=Nat.div_lt_of_lt_mul (by rwa [Nat.mul_comm] at ht');have hm:t%k.size<k.size:=Nat.mod_lt _ hkp;obtain⟨cs,c1,c2⟩:=r3 (t/k.size) hq;obtain rfl:=(henc _ _ _ _).1 c1;have e1:base+t/k.size*k.size+t%k.size=base+t:=by
    have:=Nat.div_add_mod t k.size;rw[Nat.mul_comm] at this;omega
   have hc:=c2 (t%k.size) (by rw[hk];exact hm);rw[e1] at hc;refine⟨?_,r2.free (Nat.le_add_right _ _) ?_⟩
   ·rw[hc,hflat xs t ht'];have e2:xs.toArray[t/k.size]! =xs.get ⟨t/k.size,hq⟩:=by
     rw[getElem!_pos xs.toArray _ (by simpa using hq)];rfl
    rw[e2,getElem!_pos (en (xs.get ⟨t/k.size,hq⟩)) (t%k.size) (by rw[hk];exact hm)];rfl
   ·have:xs.length*k.size≤N-base:=by omega
    omega
  have hadr:(some (⟨b,base+0*k.size,none⟩:Addr))=some ⟨b,base,none⟩:=by simp
  show Calls P g (Value.slice _ xs.length cap::faV fa).toArray w _;rw[hadr];refine(hrun xs ys hF w b base cap hH hbs ⟨hi.tab.1,htab _ (List.mem_singleton.2 rfl) _ b hJ rfl⟩).mono ?_;rintro e w' ⟨rfl,m,os,rfl⟩;have hHs:Sort.HoldsK en k.size (Proofs.sortWorldK en k.size w b base m ys.toArray os) b base ys.toArray:=by
   unfold Proofs.sortWorldK;exact Sort.holdsK_grow en k.size _ os b base _ (by show b<(Sort.putRow id _ _ _ _).heap.size;simpa using hbs) (Sort.holdsK_putRowK en k.size _ b base xs.toArray ys.toArray (Sort.holdsK_ahead en k.size w m b base _ hH) (by simp[hl]))
  refine fin _ ⟨rfl,rfl,rfl, ?_, ?_,fun _=>Nat.le_add_right _ _⟩ ⟨rfl,hl.symm, ?_⟩
  ·show w.heap.size≤(Sort.grow (Sort.putRow id (Sort.ahead w m) b base _) os).heap.size;simp
  ·intro c hc hM;refine y8e hc ?_;rintro rfl;exact hM (.inr ⟨_,by rw[hrows];exact List.mem_singleton.2 rfl,_,hJ,rfl⟩)
  ·refine⟨r1,zn6 r2 hbs m base _ os,fun i hi=> ?_⟩;have hi:i<ys.length:=hi;refine⟨en (ys.get ⟨i,hi⟩),(henc _ _ _ _).2 rfl,fun j hj=> ?_⟩;have hj':j<k.size:=by rw[hk] at hj;exact hj
   have hc:=(hHs.cell (i:=i) (c:=j) (by simpa using hi) hj').1;rw[hc];have e2:ys.toArray[i]! =ys.get ⟨i,hi⟩:=by
    rw[getElem!_pos ys.toArray _ (by simpa using hi)];rfl
   rw[e2,getElem!_pos (en (ys.get ⟨i,hi⟩)) j hj]
theorem zn7{w w':World}(h:BelowD true w.heap.size w w'):∃q os',w'=Sort.grow (w.drewN q) os':=by
 refine⟨w'.drawn-w.drawn,w'.heap.extract w.heap.size w'.heap.size, ?_⟩;obtain⟨heap',tape',drawn',os',output'⟩:=w';have e1:os'=w.os:=h.os;have e2:tape'=w.tape:=h.tape;have e3:output'=w.output:=h.output;have hs:w.heap.size≤heap'.size:=h.size;have hb:∀k,k<w.heap.size→heap'[k]?=w.heap[k]?:=h.block;have hd:w.drawn≤drawn':=h.drawn rfl;subst e1 e2 e3;have eh:heap'=w.heap++heap'.extract w.heap.size heap'.size:=by
  apply Array.ext_getElem?;intro k
  by_cases hk:k<w.heap.size
  ·rw[Array.getElem?_append_left hk];exact hb k hk
  ·rw[Array.getElem?_append_right (by omega),Array.getElem?_extract]
   by_cases hk2:k<heap'.size
   ·rw[if_pos (by omega)];congr 1;omega
   ·rw[if_neg (by omega),Array.getElem?_eq_none (by omega)]
 have ed:drawn'=w.drawn+(drawn'-w.drawn):=by omega
 show(⟨heap',w.tape,drawn',w.os,w.output⟩:World)=⟨w.heap++heap'.extract w.heap.size heap'.size,w.tape,w.drawn+(drawn'-w.drawn),w.os,w.output⟩;rw[←ed,←eh]
end
section
variable {P : Pg} {g : Nat} {k : Kd}
/-- a comparison of two values, told, as the sort asks for it -/
theorem kj0{own:Bool}{G:y4r [.v k,.v k]→Option (yu2 [.int .i64])}(hok:FnOk ⟨P.p,true⟩ g ⟨[.v k,.v k],own,[.int .i64],G⟩){x y:k.T}{c:Int}(hG:G (x,y,())=some c)
  (W:World) (hT:TabW P W) {v1 v2:Value} (h1:RepV W noWr k x v1) (h2:RepV W noWr k y v2):
  Calls P g #[v1,v2] W fun e w'=>e=.returned (.int .i64 c)∧∃q os',w'=Sort.grow (W.drewN q) os':=by
 refine(hok (x,y,()) c hG W noWr [v1,v2] ⟨fun _ _ h=>h.elim,hT⟩ (by simp only[yt2];exact⟨v1,_,rfl,h1,v2,_,rfl,h2,rfl⟩)).mono ?_;rintro e w' ⟨us,rfl,hB,hO⟩;refine⟨?_,zn7 hB⟩;cases own with
 |false=>
  have hO:yx5 w' noWr [.int .i64] us c:=hO;simp only[yx5] at hO;obtain⟨v,rfl,cs,h3,rfl⟩:=hO;simp only[RepC] at h3;subst h3;rfl
 |true=>
  obtain⟨bs,hO,_⟩:=hO;simp only[OwnOuts] at hO;obtain⟨v,rfl,cs,⟨h3,_⟩,rfl⟩:=hO;simp only[RepC] at h3;subst h3;rfl
end
end Go.Proofs.YtafognnoibjjeaaGreatDoor.Am
/- Comparisons in order: when a comparison may serve a sort. -/
namespace Go.Proofs.YtafognnoibjjeaaGreatDoor.Am
open Go Go.RowKit
structure CmpG {α:Type} (c:α→α→Int):Prop where
 anti:∀x y,c y x=-c x y
 le:∀x y z,c x y≤0→c y z≤0→c x z≤0
 eq:∀x y z,c x y≤0→c y z≤0→c x z=0→c x y=0∧c y z=0
theorem CmpG.zero{α:Type}{c:α→α→Int}(h:CmpG c)(x y z:α)(h1:c x y=0)(h2:c y z=0):c x z=0:=by
 have a1:=h.anti x y;have a2:=h.anti y z;have a3:=h.anti x z;have b1:=h.le x y z (by omega) (by omega);have b2:=h.le z y x (by omega) (by omega);omega
def lexC{α:Type}(c d:α→α→Int)(x y:α):Int:=if c x y≠0 then c x y else d x y
theorem CmpG.lex{α:Type}{c d:α→α→Int}(h:CmpG c)(k:CmpG d):CmpG (lexC c d):=by
 refine⟨fun x y=> ?_,fun x y z=> ?_,fun x y z=> ?_⟩
 ·have a1:=h.anti x y;have a2:=k.anti x y;unfold lexC;split<;>split<;>omega
 ·have b1:=h.le x y z;have b2:=h.eq x y z;have b3:=h.zero x y z;have b4:=k.le x y z;unfold lexC;split<;>split<;>split<;>intro g1 g2
  ·exact b1 g1 g2
  ·have:=b2 g1 g2 (by omega);omega
  ·exact b1 g1 (by omega)
  ·have:=b2 g1 (by omega) (by omega);omega
  ·exact b1 (by omega) g2
  ·have:=b2 (by omega) g2 (by omega);omega
  ·have:=b3 (by omega) (by omega);omega
  ·exact b4 g1 g2
 ·have b2:=h.eq x y z;have b3:=h.zero x y z;have b4:=k.eq x y z;unfold lexC;split<;>split<;>split<;>intro g1 g2 g3
  ·have:=b2 g1 g2 (by omega);omega
  ·have:=b2 g1 g2 (by omega);omega
  ·have:=b2 g1 (by omega) (by omega);omega
  ·have:=b2 g1 (by omega) (by omega);omega
  ·have:=b2 (by omega) g2 (by omega);omega
  ·have:=b2 (by omega) g2 (by omega);omega
  ·have:=b3 (by omega) (by omega);omega
  ·exact b4 g1 g2 g3
theorem CmpG.pull{α β:Type}{c:α→α→Int}(h:CmpG c)(f:β→α):CmpG fun x y=>c (f x) (f y):=
 ⟨fun x y=>h.anti _ _,fun x y z=>h.le _ _ _,fun x y z=>h.eq _ _ _⟩
def cInt(a b:Int):Int:=if a<b then-1 else if a>b then 1 else 0
theorem good_int:CmpG cInt:=by
 refine⟨fun x y=> ?_,fun x y z=> ?_,fun x y z=> ?_⟩<;>unfold cInt
 ·by_cases h1:x<y<;>by_cases h2:y<x<;>simp[h1,h2]<;>omega
 ·by_cases h1:x<y<;>by_cases h2:x>y<;>by_cases h3:y<z<;>by_cases h4:y>z<;>by_cases h5:x<z<;>by_cases h6:x>z<;>simp[h1,h2,h3,h4,h5,h6]<;>omega
 ·by_cases h1:x<y<;>by_cases h2:x>y<;>by_cases h3:y<z<;>by_cases h4:y>z<;>by_cases h5:x<z<;>by_cases h6:x>z<;>simp[h1,h2,h3,h4,h5,h6]<;>omega
theorem kj1:∀a b:List UInt8,Lib.compareBytes b a=-Lib.compareBytes a b
 |[],[]=>rfl
 |[],_::_=>rfl
 |_::_,[]=>rfl
 |a::u,b::v=>by
  have ih:=kj1 u v;simp only[Lib.compareBytes,UInt8.lt_iff_toNat_lt]
  by_cases h1:a.toNat<b.toNat<;>by_cases h2:b.toNat<a.toNat<;>simp[h1,h2,ih]<;>omega
theorem cb_le:∀a b c:List UInt8,Lib.compareBytes a b≤0→Lib.compareBytes b c≤0→Lib.compareBytes a c≤0∧(Lib.compareBytes a c=0→Lib.compareBytes a b=0∧Lib.compareBytes b c=0)
 |[],[],[]=>by simp[Lib.compareBytes]
 |[],[],_::_=>by simp[Lib.compareBytes]
 |[],_::_,[]=>by simp[Lib.compareBytes]
 |[],_::_,_::_=>by simp[Lib.compareBytes]
 |_::_,[],_=>by simp[Lib.compareBytes]
 |_::_,_::_,[]=>by simp[Lib.compareBytes]
 |a::u,b::v,c::t=>by
  have ih:=cb_le u v t;simp only[Lib.compareBytes,UInt8.lt_iff_toNat_lt]
  by_cases h1:a.toNat<b.toNat<;>by_cases h2:b.toNat<a.toNat<;>by_cases h3:b.toNat<c.toNat<;>by_cases h4:c.toNat<b.toNat<;>by_cases h5:a.toNat<c.toNat<;>by_cases h6:c.toNat<a.toNat<;>
   simp only[h1,h2,h3,h4,h5,h6,if_true,if_false]<;>first|omega|exact ih
theorem good_bytes:CmpG Lib.compareBytes:=⟨fun x y=>kj1 x y,fun x y z h k=>(cb_le x y z h k).1,fun x y z h k e=>(cb_le x y z h k).2 e⟩
theorem CmpG.swo{α:Type}{c:α→α→Int}(h:CmpG c):Sort.SWO fun x y=>decide (c x y<0):=by
 refine⟨fun x=> ?_,fun x y z h1 h2=> ?_,fun x y z h1 h2=> ?_⟩
 ·have:=h.anti x x;exact decide_eq_false (by omega)
 ·have h1:=of_decide_eq_true h1;have h2:=of_decide_eq_true h2;have a:=h.le x y z (by omega) (by omega);have b:=h.eq x y z (by omega) (by omega);exact decide_eq_true (by omega)
 ·have h1:=of_decide_eq_false h1;have h2:=of_decide_eq_false h2;have a1:=h.anti x y;have a2:=h.anti y z;have a3:=h.anti x z;have a:=h.le z y x (by omega) (by omega);exact decide_eq_false (by omega)
theorem z3c{α:Type}[Inhabited α](e:α→Value)(d:Array α):Sort.flatK (fun x=>[e x]) 1 d=d.map e:=by
 apply Array.ext
 ·simp
 ·intro i h1 h2;have hi:i<d.size:=by simpa using h2
  have:=Sort.get_flatK (fun x=>[e x]) 1 d i (by simpa using hi);rw[getElem!_pos _ i h1] at this;rw[this,Array.getElem_map];simp[Nat.mod_one,getElem!_pos d i hi]
theorem ze3{α:Type}[Inhabited α]{e:α→Value}{w:World}{b off:Nat}{d:Array α}(h:Sort.HoldsK (fun x=>[e x]) 1 w b off d):Sort.Holds e w b off d:=by
 intro j hj;have:=h j (by simpa using hj);rw[z3c,getElem!_pos (d.map e) j (by simpa using hj),Array.getElem_map] at this;rw[getElem!_pos d j hj];exact this
theorem zx0{α:Type}[Inhabited α](e:α→Value)(w:World)(b off:Nat)(d:Array α):Sort.putRowK (fun x=>[e x]) 1 w b off d=Sort.putRow e w b off d:=by
 unfold Sort.putRowK Sort.putRow;rw[z3c];refine Sort.mapBlock_congr _ _ _ _ fun c _ _ _=> ?_;unfold Sort.putCells;apply Array.ext
 ·simp
 ·intro k h1 h2;simp only[Array.getElem_mapIdx,Array.size_map]
  by_cases hk:off≤k∧k<off+d.size
  ·rw[if_pos hk,if_pos hk,getElem!_pos (d.map e) (k-off) (by simp;omega),Array.getElem_map,getElem!_pos d (k-off) (by omega)];rfl
  ·rw[if_neg hk,if_neg hk]
end Go.Proofs.YtafognnoibjjeaaGreatDoor.Am
/- A library function that turns a row in place and hands back its beginning: its call, run in place. -/
namespace Go.Proofs.YtafognnoibjjeaaGreatDoor.Am
open Go Go.RowKit
section
variable {P : Pg} {g : Nat} {k : Kd} [Inhabited k.T]
omit [Inhabited k.T] in
theorem k0m{m t0:Nat}{rest:List Fm}(s:FmsT (.cell (.own k t0 false)::rest)):
  (∃tl,(embS (m+1) (.cell (.own k t0 false)::rest) s).slots=.ref k t0 0 (List.length (α:=k.T) s.1)::tl)∧(embS (m+1) (.cell (.own k t0 false)::rest) s).heap t0=some (.arr k s.1 false):=by
 refine⟨⟨_,rfl⟩, ?_⟩;show yz3 ((t0,Row.arr k s.1 false)::_) t0=_;simp[yz3,ifEq,ifT]
theorem z9n{d n ne t0:Nat}{rest xsh:List Fm}{F:List k.T→Option (List k.T×Nat)}{en:k.T→List Value}{fn:Func}{f:FmsT (.cell (.own k t0 false)::rest)→Option (FmsT xsh)}
  (hf:P.p.funcs[g]?=some fn) (hname:(fn.name== "runtime.NumGoroutine")=false) (hb:fn.body.isSome=true) (hnt:fn.ntmps=n+1)
  (hsh:yt3 (yy6 (.cell (.own k t0 false)::rest))=true) (hxs:yt3 (yy6 xsh)=true)
  (hk:∀x,(en x).length=k.size) (henc:∀w Wr cs x,RepC w Wr k cs x↔cs=en x) (hlen:∀xs r,F xs=some r→r.1.length=xs.length∧r.2≤xs.length)
  (hnil:∀A cap w,Calls P g #[.slice A 0 cap] w fun e w'=>e=.returned (.slice A 0 cap)∧w'=w)
  (hrun:∀xs r,F xs=some r→∀w b off cap,Sort.HoldsK en k.size w b off xs.toArray→b<w.heap.size→xs.length≤cap→
   Calls P g #[.slice (some ⟨b,off,none⟩) xs.length cap] w fun e w'=>e=.returned (.slice (some ⟨b,off,none⟩) r.2 cap)∧∃n os,w'=Proofs.sortWorldK en k.size w b off n r.1.toArray os)
  (hst:y8x (n+1) ne d t0 k rest xsh F=f):y5u P d g ⟨n+1,.cell (.own k t0 false)::rest,ne,xsh,f,1⟩:=by
 subst hst;refine⟨hsh,fn,hf,hname,hb,hnt,fun(s:FmsT (.cell (.own k t0 false)::rest)) (y:FmsT xsh) hy Wr0 w0 I a w us hdf hsz har hsim=> ?_⟩;have hsz:a.tmps.size=ne:=hsz;have har:us.length=1:=har (show(1:Nat)≠0 by decide);obtain⟨u,rfl⟩:∃u,us=[u]:=by
  match us,har with
  |[u],_=>exact⟨u,rfl⟩
 have hy:y8x (n+1) ne d t0 k rest xsh F s=some y:=hy;unfold y8x at hy;obtain⟨r,hF,hy⟩:=Option.bind_eq_some_iff.1 hy;obtain⟨hl1,hl2⟩:=hlen _ _ hF;obtain⟨⟨tl,e1⟩,e2⟩:=k0m (m:=n) s;generalize hS:embS (n+1) (.cell (.own k t0 false)::rest) s=S at hy hsim e1 e2;have hxs':(s.1:List k.T)=s.1:=rfl;generalize hx:(s.1:List k.T)=xs at hF hl1 hl2 e1 e2;have hv:=hsim.slots;rw[e1] at hv;have hv:Rep P w (WrOf {Wr0 with gh:=a.tmps.toList++Wr0.gh} S.heap I) I (.ref k t0 0 (List.length (α:=k.T) xs)) u:=by
  have:([u].toArray++Array.replicate (n+1-[u].length) Go.undef).toList=u::(List.replicate (n+1-[u].length) Go.undef):=by simp
  rw[this] at hv;exact hv.1
 obtain⟨i,hI,hrep⟩:=hsim.rows _ _ e2;have hfresh:=hsim.fresh t0 (.arr k xs false) i;simp only[Rep] at hv;rw[hI] at hv;cases i with
 |box b n=>exact hv.elim
 |arr k' nn loc N=>
 obtain⟨rfl,hn,A,cap,rfl,hcap,hA⟩:=hv;obtain⟨_,hn',hrep⟩:=hrep
 let M:Nat→Prop:=fun b=>∃l,loc=some l∧b=l.1
 let H:Nat→Option Row:=fun p=>ifEq p t0 (some (.arr k r.1 false)) (S.heap p)
 have H0:H t0=some (.arr k r.1 false):=by simp[H,ifEq,ifT]
 have H1:∀p,p≠t0→H p=S.heap p:=fun p hp=>ya4 hp _ _;have fin:∀e w',e=Ending.returned (.slice A r.2 cap)→BelowM P.s (fun b=>w.heap.size≤b∨M b) w w'→(∀Wr,RowRep P w' Wr I (.arr k r.1 false) (.arr k nn loc N))→
   ∃v,e=.returned v∧∃I',Sim P Wr0 w0 (embS ne xsh y) I' (a.put (some d) v) w':=by
  rintro e w' rfl hB hR;refine⟨_,rfl, ?_⟩;obtain⟨hS2,hK,hI2⟩:=hsim.newsM (H:=H) (J:=I) hB (M:=M) (by
   rintro b ⟨l,hl,rfl⟩;subst hl;exact⟨t0,_,_,e2,hI,rfl,fun o=>⟨rfl,fun h=>by cases h⟩⟩) (by
   intro p q hp
   by_cases e:p=t0
   ·subst e;rw[e2] at hp;obtain rfl:=Option.some.inj hp;refine⟨_,H0,rfl,.inr ⟨by simp,by simp,fun i b o h1 h2=> ?_,_,hI,hR _⟩⟩;rw[hI] at h1;obtain rfl:=Option.some.inj h1;cases loc with
    |none=>exact h2.elim
    |some l=>exact⟨h2.1,fun h=>by cases h⟩
   ·refine⟨q,by rw[H1 p e];exact hp,rfl,.inl ⟨rfl,fun i b h1 h2 h3 h4=> ?_⟩⟩;obtain⟨l,hl,rfl⟩:=h4;subst hl;exact e (hsim.inj p t0 q _ i _ l.1 hp h2 e2 (by simp) h1 hI h3 rfl))
   (by
    intro p hp
    by_cases e:p=t0
    ·subst e;rw[H0] at hp;cases hp
    ·rw[H1 p e] at hp;exact hsim.free p hp)
   (by
    intro p q h1 h2
    by_cases e:p=t0
    ·subst e;rw[e2] at h1;cases h1
    ·rw[H1 p e,h1] at h2;cases h2)
   (by
    intro p p' i i' b h1 h2 h3;rw[hsim.free p h1] at h3;cases h3)
   (by
    intro p q h1 h2
    by_cases e:p=t0
    ·subst e;rw[e2] at h1;cases h1
    ·rw[H1 p e,h1] at h2;cases h2)
  have hg:RepL P w' (WrOf Wr0 H I) I S.gh (a.tmps.toList++Wr0.gh):=hS2.gh;have g1:=hg.take ne;have g2:=hg.drop ne;have hsz2:ne=a.tmps.toList.length:=by rw[Array.length_toList];exact hsz.symm
  rw[hsz2,take_left,←hsz2] at g1;rw[hsz2,drop_left,←hsz2] at g2;have hback:Sim P Wr0 w0 {slots:=ys6 ne S.gh,heap:=H,gh:=yu1 ne S.gh} I a w':=
   ⟨hdf,g1,g2,hS2.free,hS2.rows,hS2.inj,hS2.fresh,hS2.wr0,hS2.new,hS2.nm,hS2.nmt,hS2.below⟩
  have hval:Rep P w' (WrOf Wr0 H I) I (.ref k t0 0 r.2) (.slice A r.2 cap):=by
   simp only[Rep];rw[hI];refine⟨rfl,by omega,A,cap,rfl,by omega, ?_⟩
   rcases hA with⟨h0,h1⟩|hA
   ·exact .inl ⟨by omega,h1⟩
   ·exact .inr hA
  rw[y4u] at hy;obtain⟨z,hz,hy⟩:=Option.bind_eq_some_iff.1 hy;obtain rfl:=Option.some.inj hy;obtain⟨J,hJ⟩:=y79 (hback.put hval (some d)) hxs hz;exact⟨J,hJ⟩
 rcases Nat.eq_zero_or_pos xs.length with h0|hpos
 ·obtain rfl:xs=[]:=List.length_eq_zero_iff.1 h0;have h1:r.1=[]:=List.length_eq_zero_iff.1 hl1;have h2:r.2=0:=by simpa using hl2
  refine(hnil A cap w).mono fun e w' h=> ?_;obtain⟨rfl,rfl⟩:=h;refine fin _ _ (by rw[h2]) (BelowM.refl _ _) fun Wr=>⟨rfl,by rw[h1];exact hn', ?_⟩;cases loc with
  |none=>exact hrep
  |some l=>exact⟨hrep.1,hrep.2.1,fun i hi=>absurd hi (by rw[h1];simp)⟩
 ·rcases hA with⟨h0,_⟩|⟨b,base,rfl,rfl,hN⟩
  ·have h0:xs.length=0:=h0;omega
  obtain⟨r1,r2,r3⟩:=hrep;simp only[Nat.zero_mul,Nat.add_zero,Nat.zero_add] at hN;obtain⟨_,hbs⟩:=hfresh b e2 (by simp) hI rfl;have hn'':nn=xs.length:=hn';subst hn'';have hflat:∀(d:List k.T) t,t<d.length*k.size→(Sort.flatK en k.size d.toArray)[t]! =(en d.toArray[t/k.size]!)[t%k.size]!:=fun d t ht=>Sort.get_flatK en k.size d.toArray t (by simpa using ht);have hH:Sort.HoldsK en k.size w b base xs.toArray:=by
   intro t ht;have ht':t<xs.length*k.size:=by simpa using ht
   have hkp:0<k.size:=by
    rcases Nat.eq_zero_or_pos k.size with h|h
    ·rw[h] at ht';simp at ht'
    ·exact h
   have hq:t/k.size<xs.length:=Nat.div_lt_of_lt_mul (by rwa [Nat.mul_comm] at ht');have hm:t%k.size<k.size:=Nat.mod_lt _ hkp;obtain⟨cs,c1,c2⟩:=r3 (t/k.size) hq;obtain rfl:=(henc _ _ _ _).1 c1;have e1:base+t/k.size*k.size+t%k.size=base+t:=by
    have:=Nat.div_add_mod t k.size;rw[Nat.mul_comm] at this;omega
   have hc:=c2 (t%k.size) (by rw[hk];exact hm);rw[e1] at hc;refine⟨?_,r2.free (Nat.le_add_right _ _) ?_⟩
   ·rw[hc,hflat xs t ht'];have e2:xs.toArray[t/k.size]! =xs.get ⟨t/k.size,hq⟩:=by
     rw[getElem!_pos xs.toArray _ (by simpa using hq)];rfl
    rw[e2,getElem!_pos (en (xs.get ⟨t/k.size,hq⟩)) (t%k.size) (by rw[hk];exact hm)];rfl
   ·have:xs.length*k.size≤N-base:=by omega
    omega
  have hadr:(some (⟨b,base+0*k.size,none⟩:Addr))=some ⟨b,base,none⟩:=by simp
  show Calls P g #[Value.slice _ xs.length cap] w _;rw[hadr] at fin⊢;refine(hrun xs r hF w b base cap hH hbs hcap).mono ?_;rintro e w' ⟨rfl,m,os,rfl⟩;have hHs:Sort.HoldsK en k.size (Proofs.sortWorldK en k.size w b base m r.1.toArray os) b base r.1.toArray:=by
   unfold Proofs.sortWorldK;exact Sort.holdsK_grow en k.size _ os b base _ (by show b<(Sort.putRow id _ _ _ _).heap.size;simpa using hbs) (Sort.holdsK_putRowK en k.size _ b base xs.toArray r.1.toArray (Sort.holdsK_ahead en k.size w m b base _ hH) (by simp[hl1]))
  refine fin _ _ rfl ⟨rfl,rfl,rfl, ?_, ?_,fun _=>Nat.le_add_right _ _⟩ fun Wr=>⟨rfl,hl1.symm, ?_⟩
  ·show w.heap.size≤(Sort.grow (Sort.putRow id (Sort.ahead w m) b base _) os).heap.size;simp
  ·intro c hc hM;refine y8e hc ?_;rintro rfl;exact hM (.inr ⟨_,rfl,rfl⟩)
  ·refine⟨r1,zn6 r2 hbs m base _ os,fun i hi=> ?_⟩;have hi:i<r.1.length:=hi;refine⟨en (r.1.get ⟨i,hi⟩),(henc _ _ _ _).2 rfl,fun j hj=> ?_⟩;have hj':j<k.size:=by rw[hk] at hj;exact hj
   have hc:=(hHs.cell (i:=i) (c:=j) (by simpa using hi) hj').1;rw[hc];have e2:r.1.toArray[i]! =r.1.get ⟨i,hi⟩:=by
    rw[getElem!_pos r.1.toArray _ (by simpa using hi)];rfl
   rw[e2,getElem!_pos (en (r.1.get ⟨i,hi⟩)) j hj]
end
end Go.Proofs.YtafognnoibjjeaaGreatDoor.Am
