/- Code, functions and their results, shapes, loops, the table of types. -/
import Derived.Test.YthkflageghfbgaaGreatDoorAm1
import Derived.Laws.Sem
import Derived.LoopN
import Derived.Tactics
set_option linter.unusedVariables false
set_option linter.unusedSimpArgs false
/- Small laws. -/
namespace Go.Proofs.YthkflageghfbgaaGreatDoor.Am
open Go Go.RowKit
theorem memN_spec{t:Nat}:∀{l:List Nat},memN t l=false→t∉l
 |[],_=>by simp
 |u::l,h=>by
  simp only[memN] at h
  by_cases e:t=u
  ·rw[ifEq_pos e] at h;cases h
  ·rw[ifEq_neg e] at h;rw[List.mem_cons,not_or];exact⟨e,memN_spec h⟩
theorem ifT_none{α:Type}{b:Bool}{x:Option α}{y:α}(h:ifT b none x=some y):b=false∧x=some y:=by
 cases b with
 |true=>cases h
 |false=>exact⟨rfl,h⟩
end Go.Proofs.YthkflageghfbgaaGreatDoor.Am
/- Shapes: a state is brought to a canonical form that is told by data. -/
namespace Go.Proofs.YthkflageghfbgaaGreatDoor.Am
open Go Go.RowKit

section
variable {P : Pg} {Wr0 : Base} {w0 : World} {S : St} {I : Info} {a : Act} {w : World}
/-- a part of a state, and what is told of it -/
structure Emb (P:Pg) (w:World) (S:St) (I:Info) (Wr:WrP) (avs:List AVal) (vs:List Value) (rws:List (Nat×Row)) (used used':List Nat) (qs:List (Nat×Nat)) (infos:List (Nat×TokI)):Prop where
 toks:infos.map (·.1)=rws.map (·.1)
 len:avs.length=vs.length
 vals:∀J:Info,(∀p∈infos,J p.1=some p.2)→∀Wr',Keep w Wr w Wr'→RepL P w Wr' J avs vs
 reps:∀J:Info,(∀p∈infos,J p.1=some p.2)→∀Wr',Keep w Wr w Wr'→∀p∈rws,∃i,(p.1,i)∈infos∧RowRep P w Wr' J p.2 i
 alive:∀p∈rws,p.2≠ .dead
 blk:blocks infos=qs.map (·.2)
 valid:∀q∈qs,∃r0 i0,S.heap q.1=some r0∧r0≠ .dead∧I q.1=some i0∧i0.block=some q.2
 owns:∀p∈rws,∃i,(p.1,i)∈infos∧∀b o,Owns p.2 i b o→∃t0 r0 i0,S.heap t0=some r0∧I t0=some i0∧Owns r0 i0 b o
 nodup:(qs.map (·.1)).Nodup
 new:∀q∈qs,q.1∉used
 sub:∀t,t∈used→t∈used'
 all:∀q∈qs,q.1∈used'
 nmd:∀p∈infos,200000≤p.1→I p.1=some p.2
theorem Emb.flat{Wr:WrP}{avs:List AVal}{vs:List Value}{used:List Nat}(h:∀J Wr',Keep w Wr w Wr'→RepL P w Wr' J avs vs):Emb P w S I Wr avs vs [] used used [] []:=
 ⟨rfl,(h I Wr (Keep.refl _ _)).length,fun J _ Wr' hk=>h J Wr' hk,by simp,by simp,rfl,by simp,by simp,by simp,by simp,fun _ h=>h,by simp,by simp⟩
theorem Emb.app{Wr:WrP}{a1 a2:List AVal}{v1 v2:List Value}{r1 r2:List (Nat×Row)}{u0 u1 u2:List Nat}{q1 q2:List (Nat×Nat)}{i1 i2:List (Nat×TokI)}
  (h:Emb P w S I Wr a1 v1 r1 u0 u1 q1 i1) (k:Emb P w S I Wr a2 v2 r2 u1 u2 q2 i2):Emb P w S I Wr (appA a1 a2) (v1++v2) (appA r1 r2) u0 u2 (q1++q2) (i1++i2):=by
 refine⟨by rw[appA_eq,List.map_append,List.map_append,h.toks,k.toks],by rw[appA_eq,List.length_append,List.length_append,h.len,k.len], ?_, ?_, ?_, ?_, ?_, ?_, ?_, ?_,fun t ht=>k.sub t (h.sub t ht), ?_, ?_⟩
 ·intro J hJ Wr' hk;exact(h.vals J (fun p hp=>hJ p (List.mem_append_left _ hp)) Wr' hk).app (k.vals J (fun p hp=>hJ p (List.mem_append_right _ hp)) Wr' hk)
 ·intro J hJ Wr' hk p hp;rw[appA_eq] at hp
  rcases List.mem_append.1 hp with hp|hp
  ·obtain⟨i,g1,g2⟩:=h.reps J (fun p hp=>hJ p (List.mem_append_left _ hp)) Wr' hk p hp;exact⟨i,List.mem_append_left _ g1,g2⟩
  ·obtain⟨i,g1,g2⟩:=k.reps J (fun p hp=>hJ p (List.mem_append_right _ hp)) Wr' hk p hp;exact⟨i,List.mem_append_right _ g1,g2⟩
 ·intro p hp;rw[appA_eq] at hp
  rcases List.mem_append.1 hp with hp|hp
  ·exact h.alive p hp
  ·exact k.alive p hp
 ·unfold blocks;rw[List.filterMap_append,List.map_append,←h.blk,←k.blk];rfl
 ·intro q hq
  rcases List.mem_append.1 hq with hq|hq
  ·exact h.valid q hq
  ·exact k.valid q hq
 ·intro p hp;rw[appA_eq] at hp
  rcases List.mem_append.1 hp with hp|hp
  ·obtain⟨i,g1,g2⟩:=h.owns p hp;exact⟨i,List.mem_append_left _ g1,g2⟩
  ·obtain⟨i,g1,g2⟩:=k.owns p hp;exact⟨i,List.mem_append_right _ g1,g2⟩
 ·rw[List.map_append,List.nodup_append];refine⟨h.nodup,k.nodup, ?_⟩;intro x hx y hy e;obtain⟨p,hp,rfl⟩:=List.mem_map.1 hx;obtain⟨q,hq,rfl⟩:=List.mem_map.1 hy;exact k.new q hq (by rw[←e];exact h.all p hp)
 ·intro q hq
  rcases List.mem_append.1 hq with hq|hq
  ·exact h.new q hq
  ·exact fun hu=>k.new q hq (h.sub _ hu)
 ·intro q hq
  rcases List.mem_append.1 hq with hq|hq
  ·exact k.sub _ (h.all q hq)
  ·exact k.all q hq
 ·intro p hp
  rcases List.mem_append.1 hp with hp|hp
  ·exact h.nmd p hp
  ·exact k.nmd p hp
theorem nameB_spec{t0 t:Nat}(h:nameB t0 t=true):t0=t∨(t<200000∧t0<200000):=by
 unfold nameB at h;cases e:Nat.blt t 200000 with
 |true=>
  rw[e] at h;have h:Nat.blt t0 200000=true:=h;rw[Nat.blt_eq] at e h;exact .inr ⟨e,h⟩
 |false=>
  rw[e] at h;exact .inl (Nat.eq_of_beq_eq_true h)
theorem one_val{Wr:WrP}{k:Kd}{y:k.T}{v:Value}(h:RepV w Wr k y v):∀(J:Info) Wr',Keep w Wr w Wr'→RepL P w Wr' J [.v k y] [v]:=by
 intro J Wr' hk;simp only[RepL,Rep];exact⟨h.keep hk,trivial⟩
theorem getC_ok(hS:Sim P Wr0 w0 S I a w){used:List Nat}{c:Cf}{x:AVal}{y:c.T}{u:List Nat}{v:Value}(h:getC S.heap used c x=some (y,u))(hx:Rep P w (WrOf Wr0 S.heap I) I x v):
  ∃qs infos,Emb P w S I (WrOf Wr0 S.heap I) [(embC c y).1] [v] (embC c y).2 used u qs infos:=by
 cases c with
 |drop=>
  simp only[getC] at h;obtain⟨rfl,rfl⟩:=Prod.mk.inj (Option.some.inj h);exact⟨[],[],Emb.flat fun J Wr' hk=>by simp[embC,RepL,Rep]⟩
 |val k=>
  simp only[getC] at h;split at h
  ·rename_i z hz;obtain⟨rfl,rfl⟩:=Prod.mk.inj (Option.some.inj h);exact⟨[],[],Emb.flat (one_val (hS.toT (st:=true) hz hx))⟩
  ·cases h
 |own k t ao=>
  simp only[getC] at h;split at h
  ·obtain⟨htl,h⟩:=ifT_some h;rw[Nat.blt_eq] at htl;obtain⟨rfl,rfl⟩:=Prod.mk.inj (Option.some.inj h);simp only[Rep] at hx;refine⟨[],[(t,.arr k 0 none 0)],rfl,rfl, ?_, ?_, ?_,rfl,by simp, ?_,by simp,by simp,fun _ h=>h,by simp, ?_⟩
   ·intro J hJ Wr' hk;have:=hJ _ (List.mem_singleton.2 rfl);simp only at this;simp only[embC,RepL,Rep,this];exact⟨⟨trivial,by simp,none,0,by rw[hx];rfl,Nat.le_refl _,.inl ⟨rfl,rfl⟩⟩,trivial⟩
   ·intro J hJ Wr' hk p hp;obtain rfl:=List.mem_singleton.1 hp;exact⟨_,List.mem_singleton.2 rfl,rfl,rfl,rfl⟩
   ·intro p hp;obtain rfl:=List.mem_singleton.1 hp;simp
   ·intro p hp;obtain rfl:=List.mem_singleton.1 hp;exact⟨_,List.mem_singleton.2 rfl,fun b o ho=>ho.elim⟩
   ·intro p hp hle;obtain rfl:=List.mem_singleton.1 hp;simp only at hle;omega
  ·rename_i k2 t0 off len;obtain⟨hm,h⟩:=ifT_none h;have hm:=memN_spec hm;obtain⟨hnb,h⟩:=ifT_some h;have hnb:=nameB_spec hnb;split at h
   ·rename_i k' xs ao' hH;split at h
    ·rename_i xs' hc;obtain⟨e2,h2⟩:=castK_self hc;subst e2;subst h2;clear hc;have main:∀(ys:List k'.T),ys.length=len→(∀i (hi:i<ys.length) (hi':off+i<xs.length),ys.get ⟨i,hi⟩=xs.get ⟨off+i,hi'⟩)→(ao=false→ao'=false)→(ao=true→off+len=xs.length)→(200000≤t→t0=t∧off=0∧len=xs.length)→
       ∃qs infos,Emb P w S I (WrOf Wr0 S.heap I) [.ref k' t 0 ys.length] [v] [(t,.arr k' ys ao)] used (t0::used) qs infos:=by
      intro ys hlen hget hao1 hao2 hnamed;obtain⟨inf,hinf,hrow⟩:=hS.rows t0 _ hH;simp only[Rep,hinf] at hx;cases inf with
      |box=>exact hx.elim
      |arr k3 n loc N=>
       obtain⟨rfl,rfl,hrow⟩:=hrow;obtain⟨rfl,hle,A,cap,rfl,hcap,hm2⟩:=hx
       by_cases htn:200000≤t
       ·obtain⟨rfl,rfl,hlx⟩:=hnamed htn;have hyx:ys.length=xs.length:=by omega
        refine⟨(match loc with|some l=>[(t0,l.1)]|none=>[]),[(t0,.arr k2 xs.length loc N)],rfl,rfl, ?_, ?_, ?_, ?_, ?_, ?_, ?_, ?_,fun t ht=>List.mem_cons_of_mem _ ht, ?_, ?_⟩
        ·intro J hJ Wr' hk;have:=hJ _ (List.mem_singleton.2 rfl);simp only at this;simp only[RepL,Rep,this];refine⟨⟨trivial,by omega,A,cap,by rw[hlen],by omega, ?_⟩,trivial⟩
         rcases hm2 with⟨hl0,hc0⟩|h3
         ·exact .inl ⟨by omega,hc0⟩
         ·exact .inr h3
        ·intro J hJ Wr' hk p hp;obtain rfl:=List.mem_singleton.1 hp;refine⟨_,List.mem_singleton.2 rfl,rfl,hyx.symm, ?_⟩;cases loc with
         |none=>exact hrow
         |some l=>
          obtain⟨g1,g2,g3⟩:=hrow;refine⟨g1,g2,fun i hi=> ?_⟩;have hi:i<ys.length:=hi;obtain⟨cs',g4,g5⟩:=g3 i (by omega);refine⟨cs', ?_,g5⟩;have:=hget i hi (by omega);rw[this];have e:xs.get ⟨0+i,by omega⟩=xs.get ⟨i,by omega⟩:=by congr 1;simp
          rw[e];exact g4.keep hk
        ·intro p hp;obtain rfl:=List.mem_singleton.1 hp;simp
        ·cases loc<;>rfl
        ·intro q hq;cases loc with
         |none=>cases hq
         |some l=>
          obtain rfl:=List.mem_singleton.1 hq;exact⟨_,_,hH,by simp,hinf,rfl⟩
        ·intro p hp;obtain rfl:=List.mem_singleton.1 hp;refine⟨_,List.mem_singleton.2 rfl,fun b' o ho=>⟨t0,_,_,hH,hinf, ?_⟩⟩;cases loc with
         |none=>exact ho.elim
         |some l=>
          obtain⟨e1,e2⟩:=ho;refine⟨e1,fun e3=> ?_⟩;cases ao with
          |false=>rw[hao1 rfl] at e3;cases e3
          |true=>
           have:=e2 rfl;have this:l.2+ys.length*k2.size≤o:=this;show l.2+xs.length*k2.size≤o;rw[←hyx];exact this
        ·cases loc<;>simp
        ·intro q hq;cases loc with
         |none=>cases hq
         |some l=>
          obtain rfl:=List.mem_singleton.1 hq;exact hm
        ·intro q hq;cases loc with
         |none=>cases hq
         |some l=>
          obtain rfl:=List.mem_singleton.1 hq;exact List.mem_cons_self
        ·intro p hp _;obtain rfl:=List.mem_singleton.1 hp;exact hinf
       ·have nolast:∀(x:TokI),∀p∈[(t,x)],200000≤p.1→I p.1=some p.2:=by
         intro x p hp hle';obtain rfl:=List.mem_singleton.1 hp;exact absurd hle' htn
        rcases hm2 with⟨hl0,hc0⟩|⟨b,base,rfl,rfl,hN⟩
        ·refine⟨[],[(t,.arr k2 ys.length none 0)],rfl,rfl, ?_, ?_, ?_,rfl,by simp, ?_,by simp,by simp,fun t ht=>List.mem_cons_of_mem _ ht,by simp,nolast _⟩
         ·intro J hJ Wr' hk;have:=hJ _ (List.mem_singleton.2 rfl);simp only at this;simp only[RepL,Rep,this];exact⟨⟨trivial,by omega,A,cap,by rw[hlen],by omega,.inl ⟨by omega,hc0⟩⟩,trivial⟩
         ·intro J hJ Wr' hk p hp;obtain rfl:=List.mem_singleton.1 hp;exact⟨_,List.mem_singleton.2 rfl,rfl,rfl,by show ys.length=0;omega⟩
         ·intro p hp;obtain rfl:=List.mem_singleton.1 hp;simp
         ·intro p hp;obtain rfl:=List.mem_singleton.1 hp;exact⟨_,List.mem_singleton.2 rfl,fun b o ho=>ho.elim⟩
        ·obtain⟨g1,g2,g3⟩:=hrow;have g1:base+xs.length*k2.size≤N:=g1;refine⟨[(t0,b)],[(t,.arr k2 ys.length (some (b,base+off*k2.size)) N)],rfl,rfl, ?_, ?_, ?_,rfl, ?_, ?_,by simp, ?_,fun t ht=>List.mem_cons_of_mem _ ht, ?_,nolast _⟩
         ·intro J hJ Wr' hk;have:=hJ _ (List.mem_singleton.2 rfl);simp only at this;simp only[RepL,Rep,this];refine⟨⟨trivial,by omega,_,cap,by rw[hlen],by omega,.inr ⟨b,_,rfl,by simp, ?_⟩⟩,trivial⟩;rw[Nat.add_mul] at hN;rw[Nat.zero_add];omega
         ·intro J hJ Wr' hk p hp;obtain rfl:=List.mem_singleton.1 hp;refine⟨_,List.mem_singleton.2 rfl,rfl,rfl, ?_,g2.mono (Nat.le_add_right _ _), ?_⟩
          ·show base+off*k2.size+ys.length*k2.size≤N;have:(off+ys.length)*k2.size≤xs.length*k2.size:=Nat.mul_le_mul_right _ (by omega);rw[Nat.add_mul] at this;omega
          ·intro i hi;have hi:i<ys.length:=hi;obtain⟨cs',g4,g5⟩:=g3 (off+i) (by omega);refine⟨cs', ?_,fun j hj=> ?_⟩
           ·have:=hget i hi (by omega);rw[this];exact g4.keep hk
           ·have:=g5 j hj;rw[Nat.add_mul,←Nat.add_assoc] at this;exact this
         ·intro p hp;obtain rfl:=List.mem_singleton.1 hp;simp
         ·intro q hq;obtain rfl:=List.mem_singleton.1 hq;exact⟨_,_,hH,by simp,hinf,rfl⟩
         ·intro p hp;obtain rfl:=List.mem_singleton.1 hp;refine⟨_,List.mem_singleton.2 rfl,fun b' o ho=>⟨t0,_,_,hH,hinf, ?_⟩⟩;obtain⟨e1,e2⟩:=ho;refine⟨e1,fun e3=> ?_⟩;cases ao with
          |false=>rw[hao1 rfl] at e3;cases e3
          |true=>
           have:=e2 rfl;have e5:=hao2 rfl;have this:base+off*k2.size+ys.length*k2.size≤o:=this;show base+xs.length*k2.size≤o;rw[←e5,Nat.add_mul,←hlen];omega
         ·intro q hq;obtain rfl:=List.mem_singleton.1 hq;exact hm
         ·intro q hq;obtain rfl:=List.mem_singleton.1 hq;exact List.mem_cons_self
     have hle:off+len≤xs.length:=by
      obtain⟨inf,hinf,hrow⟩:=hS.rows t0 _ hH;simp only[Rep,hinf] at hx;cases inf with
      |box=>exact hx.elim
      |arr k3 n loc N=>
       obtain⟨rfl,rfl,hrow⟩:=hrow;exact hx.2.1
     split at h
     ·cases htl:Nat.blt t 200000 with
      |true=>
       rw[htl] at h;rw[Nat.blt_eq] at htl;obtain⟨rfl,rfl⟩:=Prod.mk.inj (Option.some.inj h);refine main (List.take len (List.drop off xs)) (by rw[List.length_take,List.length_drop];omega) ?_ (fun _=>rfl) (fun e=>by cases e) (fun h=>by omega);intro i hi hi';exact get_drop_take xs off len i hi hi'
      |false=>
       rw[htl] at h;obtain⟨h0,h⟩:=ifEq_some (show ifEq off 0 _ none=_ from h);split at h
       ·rename_i hlx0;have hlx:len=xs.length:=hlx0;obtain⟨rfl,rfl⟩:=Prod.mk.inj (Option.some.inj h);subst h0;refine main xs hlx.symm ?_ (fun _=>rfl) (fun e=>by cases e) (fun hh=>⟨?_,rfl,hlx⟩)
        ·intro i hi hi';congr 1;simp
        ·rcases hnb with hnb|hnb
         ·exact hnb
         ·omega
       ·cases h
     ·obtain⟨htl,h⟩:=ifT_some h;rw[Nat.blt_eq] at htl;split at h
      ·rename_i hl0;have hl:off+len=xs.length:=hl0;obtain⟨rfl,rfl⟩:=Prod.mk.inj (Option.some.inj h);refine main (List.drop off xs) (by rw[List.length_drop];omega) ?_ (fun e=>by cases e) (fun _=>hl) (fun h=>by omega);intro i hi hi';simp
      ·cases h
     ·cases h
    ·cases h
   ·cases h
  ·cases h
end
end Go.Proofs.YthkflageghfbgaaGreatDoor.Am
/- Shapes, second part: a state brought to its shape. -/
namespace Go.Proofs.YthkflageghfbgaaGreatDoor.Am
open Go Go.RowKit
section
variable {P : Pg} {Wr0 : Base} {w0 : World} {S : St} {I : Info} {a : Act} {w : World}
theorem Emb.cons{Wr:WrP}{x:AVal}{v:Value}{a2:List AVal}{v2:List Value}{r1 r2:List (Nat×Row)}{u0 u1 u2:List Nat}{q1 q2:List (Nat×Nat)}{i1 i2:List (Nat×TokI)}
  (h:Emb P w S I Wr [x] [v] r1 u0 u1 q1 i1) (k:Emb P w S I Wr a2 v2 r2 u1 u2 q2 i2):Emb P w S I Wr (x::a2) (v::v2) (appA r1 r2) u0 u2 (q1++q2) (i1++i2):=h.app k
theorem Emb.skip{Wr:WrP}{v:Value}{a2:List AVal}{v2:List Value}{r2:List (Nat×Row)}{u1 u2:List Nat}{q2:List (Nat×Nat)}{i2:List (Nat×TokI)}
  (k:Emb P w S I Wr a2 v2 r2 u1 u2 q2 i2):Emb P w S I Wr (.undef::a2) (v::v2) r2 u1 u2 q2 i2:=
 (Emb.flat (avs:=[.undef]) (vs:=[v]) (fun J Wr' _=>by simp[RepL,Rep])).app k
theorem getCs_ok(hS:Sim P Wr0 w0 S I a w):∀{cs:List Cf} {xs:List AVal} {used:List Nat} {y:CfsT cs} {u:List Nat} {vs:List Value},getCs S.heap cs xs used=some (y,u)→RepL P w (WrOf Wr0 S.heap I) I xs vs→
  ∃qs infos,Emb P w S I (WrOf Wr0 S.heap I) (embCs cs y).1 vs (embCs cs y).2 used u qs infos
 |[],[],_,_,_,vs,h,hL=>by
  simp only[getCs] at h;obtain⟨rfl,rfl⟩:=Prod.mk.inj (Option.some.inj h);have:vs=[]:=List.length_eq_zero_iff.1 hL.length.symm;subst this;exact⟨[],[],Emb.flat fun J Wr' hk=>by simp[embCs,RepL]⟩
 |[],_::_,_,_,_,_,h,_=>by simp[getCs] at h
 |.drop::cs,[],_,_,_,_,h,_=>by simp[getCs] at h
 |.val k::cs,[],_,_,_,_,h,_=>by simp[getCs] at h
 |.own k t ao::cs,[],_,_,_,_,h,_=>by simp[getCs] at h
 |_::_,_::_,_,_,_,[],_,hL=>by simp only[RepL] at hL
 |.drop::cs,x::xs,used,y,u,v::vs,h,hL=>by
  simp only[RepL] at hL;simp only[getCs] at h;obtain⟨qs,infos,hh⟩:=getCs_ok hS h hL.2;exact⟨qs,infos,hh.skip⟩
 |.val k::cs,x::xs,used,y,u,v::vs,h,hL=>by
  simp only[RepL] at hL;simp only[getCs] at h;split at h
  ·rename_i p hp;split at h
   ·rename_i q hq;obtain⟨e1,e2⟩:=Prod.mk.inj (Option.some.inj h);subst e1 e2;obtain⟨q1,i1,h1⟩:=getC_ok hS (y:=p.1) (u:=p.2) hp hL.1;obtain⟨q2,i2,h2⟩:=getCs_ok hS (y:=q.1) (u:=q.2) hq hL.2;exact⟨_,_,h1.cons h2⟩
   ·cases h
  ·cases h
 |.own k t ao::cs,x::xs,used,y,u,v::vs,h,hL=>by
  simp only[RepL] at hL;simp only[getCs] at h;split at h
  ·rename_i p hp;split at h
   ·rename_i q hq;obtain⟨e1,e2⟩:=Prod.mk.inj (Option.some.inj h);subst e1 e2;obtain⟨q1,i1,h1⟩:=getC_ok hS (y:=p.1) (u:=p.2) hp hL.1;obtain⟨q2,i2,h2⟩:=getCs_ok hS (y:=q.1) (u:=q.2) hq hL.2;exact⟨_,_,h1.cons h2⟩
   ·cases h
  ·cases h
theorem getF_ok(hS:Sim P Wr0 w0 S I a w){f:Fm}{used:List Nat}{x:AVal}{y:f.T}{u:List Nat}{v:Value}(h:getF S.heap used f x=some (y,u))(hx:Rep P w (WrOf Wr0 S.heap I) I x v):
  ∃qs infos,Emb P w S I (WrOf Wr0 S.heap I) [(embF f y).1] [v] (embF f y).2 used u qs infos:=by
 cases f with
 |cell c=>exact getC_ok hS h hx
 |ali t p=>
  simp only[getF] at h;obtain⟨rfl,rfl⟩:=Prod.mk.inj (Option.some.inj h);exact⟨[],[],Emb.flat fun J Wr' hk=>by simp only[embF,RepL,Rep];trivial⟩
 |fnv g ts=>
  simp only[getF] at h;obtain⟨rfl,rfl⟩:=Prod.mk.inj (Option.some.inj h);exact⟨[],[],Emb.flat fun J Wr' hk=>by simp only[embF,RepL,Rep];trivial⟩
 |box t cs=>
  simp only[getF] at h;split at h
  ·rename_i t0 c0;obtain⟨rfl,h⟩:=ifEq_some h;obtain⟨hm,h⟩:=ifT_none h;have hm:=memN_spec hm;obtain⟨hnb,h⟩:=ifT_some h;have hnb:=nameB_spec hnb;split at h
   ·rename_i xs hH;obtain⟨i,hi,hr⟩:=hS.rows t0 _ hH;simp only[Rep,hi] at hx;cases i with
    |arr=>exact hr.elim
    |box b n=>
     obtain⟨h1,h2,vs,h3,h4⟩:=hr;obtain⟨qs,infos,hh⟩:=getCs_ok hS h h3;have hx:v=.pointer (some ⟨b,0,none⟩):=hx;have hlen:(embCs cs y).1.length=vs.length:=hh.len;refine⟨(t0,b)::qs,(t,.box b n)::infos, ?_,rfl, ?_, ?_, ?_, ?_, ?_, ?_, ?_, ?_, ?_, ?_, ?_⟩
     ·simp only[embF,List.map_cons,hh.toks]
     ·intro J hJ Wr' hk;have:=hJ _ List.mem_cons_self;simp only at this;simp only[embF,RepL,Rep,this];exact⟨hx,trivial⟩
     ·intro J hJ Wr' hk p hp;have hJ':∀p∈infos,J p.1=some p.2:=fun p hp=>hJ p (List.mem_cons_of_mem _ hp)
      rcases List.mem_cons.1 hp with rfl|hp
      ·exact⟨_,List.mem_cons_self,by rw[h1,hlen,←h3.length],h2,vs,hh.vals J hJ' Wr' hk,h4⟩
      ·obtain⟨i,g1,g2⟩:=hh.reps J hJ' Wr' hk p hp;exact⟨i,List.mem_cons_of_mem _ g1,g2⟩
     ·intro p hp
      rcases List.mem_cons.1 hp with rfl|hp
      ·simp
      ·exact hh.alive p hp
     ·unfold blocks;simp only[List.filterMap_cons,TokI.block,List.map_cons];rw[←hh.blk];rfl
     ·intro q hq
      rcases List.mem_cons.1 hq with rfl|hq
      ·exact⟨_,_,hH,by simp,hi,rfl⟩
      ·exact hh.valid q hq
     ·intro p hp
      rcases List.mem_cons.1 hp with rfl|hp
      ·exact⟨_,List.mem_cons_self,fun b' o ho=>⟨t0,_,_,hH,hi,ho⟩⟩
      ·obtain⟨i,g1,g2⟩:=hh.owns p hp;exact⟨i,List.mem_cons_of_mem _ g1,g2⟩
     ·rw[List.map_cons,List.nodup_cons];refine⟨fun hc=> ?_,hh.nodup⟩;obtain⟨q,hq,e⟩:=List.mem_map.1 hc;exact hh.new q hq (by rw[e];exact List.mem_cons_self)
     ·intro q hq
      rcases List.mem_cons.1 hq with rfl|hq
      ·exact hm
      ·exact fun hu=>hh.new q hq (List.mem_cons_of_mem _ hu)
     ·exact fun t ht=>hh.sub t (List.mem_cons_of_mem _ ht)
     ·intro q hq
      rcases List.mem_cons.1 hq with rfl|hq
      ·exact hh.sub _ List.mem_cons_self
      ·exact hh.all q hq
     ·intro p hp hle
      rcases List.mem_cons.1 hp with rfl|hp
      ·rcases hnb with rfl|hnb
       ·exact hi
       ·simp only at hle;omega
      ·exact hh.nmd p hp hle
   ·cases h
  ·cases h
 |agg cs=>
  simp only[getF] at h;split at h
  ·rename_i xs;simp only[Rep] at hx;obtain⟨vs,rfl,hL⟩:=hx;obtain⟨qs,infos,hh⟩:=getCs_ok hS h hL;refine⟨qs,infos,hh.toks,rfl, ?_,hh.reps,hh.alive,hh.blk,hh.valid,hh.owns,hh.nodup,hh.new,hh.sub,hh.all,hh.nmd⟩;intro J hJ Wr' hk;simp only[embF,RepL,Rep];exact⟨⟨vs,rfl,hh.vals J hJ Wr' hk⟩,trivial⟩
  ·cases h
 |tup cs=>
  simp only[getF] at h;split at h
  ·rename_i xs;simp only[Rep] at hx;obtain⟨vs,rfl,hL⟩:=hx;obtain⟨qs,infos,hh⟩:=getCs_ok hS h hL;refine⟨qs,infos,hh.toks,rfl, ?_,hh.reps,hh.alive,hh.blk,hh.valid,hh.owns,hh.nodup,hh.new,hh.sub,hh.all,hh.nmd⟩;intro J hJ Wr' hk;simp only[embF,RepL,Rep];exact⟨⟨vs,rfl,hh.vals J hJ Wr' hk⟩,trivial⟩
  ·cases h
 |clo ki ko=>
  simp only[getF] at h;split at h
  ·rename_i ki' ko' φ;split at h
   ·rename_i he;obtain⟨e1,e2⟩:=he;subst e1 e2;obtain⟨rfl,rfl⟩:=Prod.mk.inj (Option.some.inj h);refine⟨[],[],Emb.flat fun J Wr' hk=> ?_⟩;have h9:=Rep.keep hk (InfoLe.refl I) hx;simp only[Rep] at h9;simp only[embF,RepL,Rep];exact⟨h9,trivial⟩
   ·cases h
  ·cases h
 |fp k=>
  simp only[getF] at h;split at h
  ·rename_i k' y';split at h
   ·rename_i y2 hc;obtain⟨rfl,rfl⟩:=castK_some hc;obtain⟨rfl,rfl⟩:=Prod.mk.inj (Option.some.inj h);refine⟨[],[],Emb.flat fun J Wr' hk=> ?_⟩;have h9:=Rep.keep hk (InfoLe.refl I) hx;simp only[Rep] at h9;simp only[embF,RepL,Rep];exact⟨h9,trivial⟩
   ·cases h
  ·cases h
theorem getFs_ok(hS:Sim P Wr0 w0 S I a w):∀{fs:List Fm} {xs:List AVal} {used:List Nat} {y:FmsT fs} {u:List Nat} {vs:List Value},getFs S.heap fs xs used=some (y,u)→RepL P w (WrOf Wr0 S.heap I) I xs vs→
  ∃qs infos,Emb P w S I (WrOf Wr0 S.heap I) (embFs fs y).1 vs (embFs fs y).2 used u qs infos
 |[],[],_,_,_,vs,h,hL=>by
  simp only[getFs] at h;obtain⟨rfl,rfl⟩:=Prod.mk.inj (Option.some.inj h);have:vs=[]:=List.length_eq_zero_iff.1 hL.length.symm;subst this;exact⟨[],[],Emb.flat fun J Wr' hk=>by simp[embFs,RepL]⟩
 |[],_::_,_,_,_,_,h,_=>by simp[getFs] at h
 |.cell .drop::fs,[],_,_,_,_,h,_=>by simp[getFs] at h
 |.cell (.val k)::fs,[],_,_,_,_,h,_=>by simp[getFs] at h
 |.cell (.own k t ao)::fs,[],_,_,_,_,h,_=>by simp[getFs] at h
 |.box t cs::fs,[],_,_,_,_,h,_=>by simp[getFs] at h
 |.agg cs::fs,[],_,_,_,_,h,_=>by simp[getFs] at h
 |.tup cs::fs,[],_,_,_,_,h,_=>by simp[getFs] at h
 |.clo ki ko::fs,[],_,_,_,_,h,_=>by simp[getFs] at h
 |.fp k::fs,[],_,_,_,_,h,_=>by simp[getFs] at h
 |.ali _ _::fs,[],_,_,_,_,h,_=>by simp[getFs] at h
 |.fnv _ _::fs,[],_,_,_,_,h,_=>by simp[getFs] at h
 |_::_,_::_,_,_,_,[],_,hL=>by simp only[RepL] at hL
 |.cell .drop::fs,x::xs,used,y,u,v::vs,h,hL=>by
  simp only[RepL] at hL;simp only[getFs] at h;obtain⟨qs,infos,hh⟩:=getFs_ok hS h hL.2;exact⟨qs,infos,hh.skip⟩
 |.ali _ _::fs,x::xs,used,y,u,v::vs,h,hL=>by
  simp only[RepL] at hL;simp only[getFs] at h;obtain⟨qs,infos,hh⟩:=getFs_ok hS h hL.2;exact⟨qs,infos,hh.skip⟩
 |.fnv _ _::fs,x::xs,used,y,u,v::vs,h,hL=>by
  simp only[RepL] at hL;simp only[getFs] at h;obtain⟨qs,infos,hh⟩:=getFs_ok hS h hL.2;exact⟨qs,infos,hh.skip⟩
 |.cell (.val k)::fs,x::xs,used,y,u,v::vs,h,hL=>by
  simp only[RepL] at hL;simp only[getFs] at h;split at h
  ·rename_i p hp;split at h
   ·rename_i q hq;obtain⟨e1,e2⟩:=Prod.mk.inj (Option.some.inj h);subst e1 e2;obtain⟨q1,i1,h1⟩:=getF_ok hS (y:=p.1) (u:=p.2) hp hL.1;obtain⟨q2,i2,h2⟩:=getFs_ok hS (y:=q.1) (u:=q.2) hq hL.2;exact⟨_,_,h1.cons h2⟩
   ·cases h
  ·cases h
 |.cell (.own k t ao)::fs,x::xs,used,y,u,v::vs,h,hL=>by
  simp only[RepL] at hL;simp only[getFs] at h;split at h
  ·rename_i p hp;split at h
   ·rename_i q hq;obtain⟨e1,e2⟩:=Prod.mk.inj (Option.some.inj h);subst e1 e2;obtain⟨q1,i1,h1⟩:=getF_ok hS (y:=p.1) (u:=p.2) hp hL.1;obtain⟨q2,i2,h2⟩:=getFs_ok hS (y:=q.1) (u:=q.2) hq hL.2;exact⟨_,_,h1.cons h2⟩
   ·cases h
  ·cases h
 |.box t cs::fs,x::xs,used,y,u,v::vs,h,hL=>by
  simp only[RepL] at hL;simp only[getFs] at h;split at h
  ·rename_i p hp;split at h
   ·rename_i q hq;obtain⟨e1,e2⟩:=Prod.mk.inj (Option.some.inj h);subst e1 e2;obtain⟨q1,i1,h1⟩:=getF_ok hS (y:=p.1) (u:=p.2) hp hL.1;obtain⟨q2,i2,h2⟩:=getFs_ok hS (y:=q.1) (u:=q.2) hq hL.2;exact⟨_,_,h1.cons h2⟩
   ·cases h
  ·cases h
 |.agg cs::fs,x::xs,used,y,u,v::vs,h,hL=>by
  simp only[RepL] at hL;simp only[getFs] at h;split at h
  ·rename_i p hp;split at h
   ·rename_i q hq;obtain⟨e1,e2⟩:=Prod.mk.inj (Option.some.inj h);subst e1 e2;obtain⟨q1,i1,h1⟩:=getF_ok hS (y:=p.1) (u:=p.2) hp hL.1;obtain⟨q2,i2,h2⟩:=getFs_ok hS (y:=q.1) (u:=q.2) hq hL.2;exact⟨_,_,h1.cons h2⟩
   ·cases h
  ·cases h
 |.tup cs::fs,x::xs,used,y,u,v::vs,h,hL=>by
  simp only[RepL] at hL;simp only[getFs] at h;split at h
  ·rename_i p hp;split at h
   ·rename_i q hq;obtain⟨e1,e2⟩:=Prod.mk.inj (Option.some.inj h);subst e1 e2;obtain⟨q1,i1,h1⟩:=getF_ok hS (y:=p.1) (u:=p.2) hp hL.1;obtain⟨q2,i2,h2⟩:=getFs_ok hS (y:=q.1) (u:=q.2) hq hL.2;exact⟨_,_,h1.cons h2⟩
   ·cases h
  ·cases h
 |.clo ki ko::fs,x::xs,used,y,u,v::vs,h,hL=>by
  simp only[RepL] at hL;simp only[getFs] at h;split at h
  ·rename_i p hp;split at h
   ·rename_i q hq;obtain⟨e1,e2⟩:=Prod.mk.inj (Option.some.inj h);subst e1 e2;obtain⟨q1,i1,h1⟩:=getF_ok hS (y:=p.1) (u:=p.2) hp hL.1;obtain⟨q2,i2,h2⟩:=getFs_ok hS (y:=q.1) (u:=q.2) hq hL.2;exact⟨_,_,h1.cons h2⟩
   ·cases h
  ·cases h
 |.fp k::fs,x::xs,used,y,u,v::vs,h,hL=>by
  simp only[RepL] at hL;simp only[getFs] at h;split at h
  ·rename_i p hp;split at h
   ·rename_i q hq;obtain⟨e1,e2⟩:=Prod.mk.inj (Option.some.inj h);subst e1 e2;obtain⟨q1,i1,h1⟩:=getF_ok hS (y:=p.1) (u:=p.2) hp hL.1;obtain⟨q2,i2,h2⟩:=getFs_ok hS (y:=q.1) (u:=q.2) hq hL.2;exact⟨_,_,h1.cons h2⟩
   ·cases h
  ·cases h
theorem assoc_mem{α:Type}:∀{l:List (Nat×α)} {p:Nat} {x:α},assoc l p=some x→(p,x)∈l
 |[],_,_,h=>by simp[assoc] at h
 |q::l,p,x,h=>by
  simp only[assoc] at h
  by_cases e:q.1=p
  ·rw[ifEq_pos e] at h;obtain rfl:=Option.some.inj h;rw[←e];exact List.mem_cons_self
  ·rw[ifEq_neg e] at h;exact List.mem_cons_of_mem _ (assoc_mem h)
theorem assoc_none{α:Type}:∀{l:List (Nat×α)} {p:Nat},assoc l p=none→p∉l.map (·.1)
 |[],_,_=>by simp
 |q::l,p,h=>by
  simp only[assoc] at h
  by_cases e:q.1=p
  ·rw[ifEq_pos e] at h;cases h
  ·rw[ifEq_neg e] at h;rw[List.map_cons,List.mem_cons,not_or];exact⟨fun e'=>e e'.symm,assoc_none h⟩
theorem nodupN_spec:∀{l:List Nat},nodupN l=true→l.Nodup
 |[],_=>List.nodup_nil
 |t::l,h=>by
  simp only[nodupN] at h;cases e:memN t l with
  |true=>rw[e] at h;cases h
  |false=>
   rw[e] at h;exact List.nodup_cons.2 ⟨memN_spec e,nodupN_spec h⟩
/-- the tokens of an embedded state are those of its shape -/
theorem embCs_toks:∀{cs:List Cf} {y:CfsT cs},(embCs cs y).2.map (·.1)=toksC cs
 |[],_=>rfl
 |.drop::cs,y=>by simp only[embCs,toksC];exact embCs_toks
 |.val k::cs,y=>by simp only[embCs,toksC,embC,appA];exact embCs_toks
 |.own k t ao::cs,y=>by simp only[embCs,toksC,embC,appA,List.map_cons];rw[embCs_toks]
theorem embFs_toks:∀{fs:List Fm} {y:FmsT fs},(embFs fs y).2.map (·.1)=toksF fs
 |[],_=>rfl
 |.cell .drop::fs,y=>by simp only[embFs,toksF];exact embFs_toks
 |.ali _ _::fs,y=>by simp only[embFs,toksF];exact embFs_toks
 |.fnv _ _::fs,y=>by simp only[embFs,toksF];exact embFs_toks
 |.cell (.val k)::fs,y=>by simp only[embFs,embF,embC,toksF,appA];exact embFs_toks
 |.cell (.own k t ao)::fs,y=>by simp only[embFs,embF,embC,toksF,appA,List.map_cons];rw[embFs_toks]
 |.box t cs::fs,y=>by simp only[embFs,embF,toksF,List.map_cons,appA_eq,List.map_append,List.cons_append];rw[embCs_toks,embFs_toks]
 |.agg cs::fs,y=>by simp only[embFs,embF,toksF,appA_eq,List.map_append];rw[embCs_toks,embFs_toks]
 |.tup cs::fs,y=>by simp only[embFs,embF,toksF,appA_eq,List.map_append];rw[embCs_toks,embFs_toks]
 |.clo ki ko::fs,y=>by simp only[embFs,embF,toksF,appA];exact embFs_toks
 |.fp k::fs,y=>by simp only[embFs,embF,toksF,appA];exact embFs_toks
theorem ownN_spec(hS:Sim P Wr0 w0 S I a w){n:Nat}(h:ownN n S=true):(a.tmps.toList++Wr0.gh).take n=a.tmps.toList∧(a.tmps.toList++Wr0.gh).drop n=Wr0.gh:=by
 have hl:=hS.slots.length;have hg:=hS.gh;unfold ownN at h;split at h
 ·rename_i e;rw[e] at hg;have e2:Wr0.gh=[]:=List.length_eq_zero_iff.1 hg.length.symm;have hle:=Nat.le_of_ble_eq_true h;rw[lenA_eq,hl] at hle;rw[e2,List.append_nil];exact⟨List.take_of_length_le hle,List.drop_eq_nil_of_le hle⟩
 ·have e:=Nat.eq_of_beq_eq_true h;rw[lenA_eq,hl] at e;subst e;simp
theorem embFs_box:∀{fs:List Fm} {y:FmsT fs} {p t:Nat} {cs:List Cf},getA none (mapA some fs) p=some (.box t cs)→getA .undef (embFs fs y).1 p=.ptr t 0
 |[],_,_,_,_,h=>by simp[mapA,getA] at h
 |.cell .drop::fs,y,0,_,_,h=>by simp[mapA,getA] at h
 |.cell .drop::fs,y,p+1,_,_,h=>by simp only[mapA,getA] at h;simp only[embFs,getA];exact embFs_box h
 |.ali _ _::fs,y,0,_,_,h=>by simp[mapA,getA] at h
 |.fnv _ _::fs,y,0,_,_,h=>by simp[mapA,getA] at h
 |.ali _ _::fs,y,p+1,_,_,h=>by simp only[mapA,getA] at h;simp only[embFs,getA];exact embFs_box h
 |.fnv _ _::fs,y,p+1,_,_,h=>by simp only[mapA,getA] at h;simp only[embFs,getA];exact embFs_box h
 |.cell (.val k)::fs,y,0,_,_,h=>by simp[mapA,getA] at h
 |.cell (.val k)::fs,y,p+1,_,_,h=>by simp only[mapA,getA] at h;simp only[embFs,getA];exact embFs_box h
 |.cell (.own k t ao)::fs,y,0,_,_,h=>by simp[mapA,getA] at h
 |.cell (.own k t ao)::fs,y,p+1,_,_,h=>by simp only[mapA,getA] at h;simp only[embFs,getA];exact embFs_box h
 |.box t' cs'::fs,y,0,_,_,h=>by
  simp only[mapA,getA] at h;injection h with h;injection h with h1 h2;subst h1;simp only[embFs,embF,getA]
 |.box t' cs'::fs,y,p+1,_,_,h=>by simp only[mapA,getA] at h;simp only[embFs,getA];exact embFs_box h
 |.agg cs'::fs,y,0,_,_,h=>by simp[mapA,getA] at h
 |.tup cs'::fs,y,0,_,_,h=>by simp[mapA,getA] at h
 |.agg cs'::fs,y,p+1,_,_,h=>by simp only[mapA,getA] at h;simp only[embFs,getA];exact embFs_box h
 |.tup cs'::fs,y,p+1,_,_,h=>by simp only[mapA,getA] at h;simp only[embFs,getA];exact embFs_box h
 |.clo ki ko::fs,y,0,_,_,h=>by simp[mapA,getA] at h
 |.clo ki ko::fs,y,p+1,_,_,h=>by simp only[mapA,getA] at h;simp only[embFs,getA];exact embFs_box h
 |.fp k::fs,y,0,_,_,h=>by simp[mapA,getA] at h
 |.fp k::fs,y,p+1,_,_,h=>by simp only[mapA,getA] at h;simp only[embFs,getA];exact embFs_box h
theorem caps_ok{w':World}{Wr Wr':WrP}{J:Info}{fs0:List Fm}{xs0:List AVal}(hG:∀t p x v,aliOne fs0 xs0 t p x=true→Rep P w Wr I x v→Rep P w' Wr' J (.ptr t 0) v):
  ∀{ts:List (Nat×Nat)} {cs:List AVal} {vs:List Value},capsB fs0 xs0 ts cs=true→RepL P w Wr I cs vs→RepL P w' Wr' J (mapA (fun q=>.ptr q.1 0) ts) vs
 |[],[],[],_,_=>by simp only[mapA,RepL]
 |[],[],_::_,_,h=>by simp only[RepL] at h
 |[],_::_,_,h,_=>by cases h
 |_::_,[],_,h,_=>by cases h
 |q::ts,x::cs,vs,h,k=>by
  simp only[capsB] at h;have hB:aliOne fs0 xs0 q.1 q.2 x=true∧capsB fs0 xs0 ts cs=true:=by
   cases e:aliOne fs0 xs0 q.1 q.2 x with
   |true=>rw[e] at h;exact⟨rfl,h⟩
   |false=>rw[e] at h;cases h
  match vs,k with
  |[],k=>simp only[RepL] at k
  |v::vs,k=>
   simp only[RepL] at k;simp only[mapA,RepL];exact⟨hG _ _ _ _ hB.1 k.1,caps_ok hG hB.2 k.2⟩
theorem aliS_ok{w':World}{Wr Wr':WrP}{J:Info}{fs0:List Fm}{xs0:List AVal}(hG:∀t p x v,aliOne fs0 xs0 t p x=true→Rep P w Wr I x v→Rep P w' Wr' J (.ptr t 0) v):
  ∀{fs:List Fm} {xs es:List AVal} {vs:List Value},RepL P w Wr I xs vs→RepL P w' Wr' J es vs→aliB fs0 xs0 fs xs=true→RepL P w' Wr' J (aliS fs es) vs
 |[],_,es,_,_,h,_=>by cases es<;>exact h
 |f::fs,xs,[],vs,_,h,_=>by cases f<;>exact h
 |f::fs,[],e::es,[],_,h,_=>by simp only[RepL] at h
 |f::fs,[],e::es,_::_,h,_,_=>by simp only[RepL] at h
 |f::fs,_::_,e::es,[],h,_,_=>by simp only[RepL] at h
 |f::fs,x::xs,e::es,v::vs,h,k,hB=>by
  simp only[RepL] at h k;cases f with
  |ali t p=>
   simp only[aliB] at hB;have hB1:aliOne fs0 xs0 t p x=true∧aliB fs0 xs0 fs xs=true:=by
    cases e:aliOne fs0 xs0 t p x with
    |true=>rw[e] at hB;exact⟨rfl,hB⟩
    |false=>rw[e] at hB;cases hB
   simp only[aliS,RepL];exact⟨hG _ _ _ _ hB1.1 h.1,aliS_ok hG h.2 k.2 hB1.2⟩
  |fnv g ts=>
   simp only[aliB] at hB;have hB1:fnvOne fs0 xs0 g ts x=true∧aliB fs0 xs0 fs xs=true:=by
    cases e:fnvOne fs0 xs0 g ts x with
    |true=>rw[e] at hB;exact⟨rfl,hB⟩
    |false=>rw[e] at hB;cases hB
   have hx:∃cs,x=.fn g cs∧capsB fs0 xs0 ts cs=true:=by
    have h1:=hB1.1;unfold fnvOne at h1;split at h1
    ·rename_i g' cs;obtain⟨h2,h3⟩:Nat.beq g' g=true∧capsB fs0 xs0 ts cs=true:=by
      cases e:Nat.beq g' g with
      |true=>rw[e] at h1;exact⟨rfl,h1⟩
      |false=>rw[e] at h1;cases h1
     exact⟨cs,by rw[Nat.eq_of_beq_eq_true h2],h3⟩
    ·cases h1
   obtain⟨cs,hx,hcs⟩:=hx;simp only[aliS,RepL];refine⟨?_,aliS_ok hG h.2 k.2 hB1.2⟩;have h1:=h.1;rw[hx] at h1;simp only[Rep] at h1⊢;obtain⟨vs',e1,e2⟩:=h1;exact⟨vs',e1,caps_ok hG hcs e2⟩
  |_=>
   simp only[aliS,RepL];exact⟨k.1,aliS_ok hG h.2 k.2 hB⟩
/-- A STATE IS BROUGHT TO ITS SHAPE -/
theorem getS_ok(hS:Sim P Wr0 w0 S I a w){n:Nat}{fs:List Fm}(hn:nodupN (toksF fs)=true){y:FmsT fs}(h:getS n fs S=some y):∃J,Sim P Wr0 w0 (embS n fs y) J a w:=by
 unfold getS at h;obtain⟨hboth,h⟩:=ifT_some h;have hboth:ownN n S=true∧aliB fs (appA S.slots S.gh) fs (appA S.slots S.gh)=true:=by
  cases e:ownN n S with
  |true=>rw[e] at hboth;exact⟨rfl,hboth⟩
  |false=>rw[e] at hboth;cases hboth
 obtain⟨hown,hali⟩:=hboth;split at h
 ·rename_i q hq;obtain rfl:=Option.some.inj h;have hS1:=hS.sealVs (frozenF S.heap fs (appA S.slots S.gh));obtain⟨qs,infos,hh⟩:=getFs_ok hS1 (y:=q.1) (u:=q.2) (xs:=appA S.slots S.gh) hq (hS1.slots.app hS1.gh);generalize hav:(embFs fs q.1).1=avs at hh;generalize hrw:(embFs fs q.1).2=rws at hh;have hnd:(rws.map (·.1)).Nodup:=by rw[←hrw,embFs_toks];exact nodupN_spec hn
  have hndi:(infos.map (·.1)).Nodup:=by rw[hh.toks];exact hnd
  let H:=assoc rws
  let J:Info:=lookI infos (fun _=>none)
  have hJ:∀p∈infos,J p.1=some p.2:=fun p hp=>lookI_in hndi hp;have hJn:∀p,H p=none→J p=none:=fun p hp=>lookI_out (by rw[hh.toks];exact assoc_none hp);have hJm:∀p i,J p=some i→(p,i)∈infos:=by
   intro p i hi
   by_cases hm:p∈infos.map (·.1)
   ·obtain⟨z,hz,rfl⟩:=List.mem_map.1 hm;have:=hJ z hz;rw[hi] at this;obtain rfl:=Option.some.inj this;exact hz
   ·rw[show J p=none from lookI_out hm] at hi;cases hi
  have hW:∀b o,WrOf Wr0 H J b o→WrOf Wr0 (Am.sealVs S.heap (frozenF S.heap fs (appA S.slots S.gh))) I b o:=by
   rintro b o (h1|⟨p,r,i,h1,h2,h3⟩)
   ·exact .inl h1
   ·obtain⟨i',g1,g2⟩:=hh.owns (p,r) (assoc_mem h1);have:=hJ _ g1;rw[show J p=some i from h2] at this;obtain rfl:=Option.some.inj this;obtain⟨t0,r0,i0,g3,g4,g5⟩:=g2 b o h3;exact .inr ⟨t0,r0,i0,g3,g4,g5⟩
  have hk:Keep w (WrOf Wr0 (Am.sealVs S.heap (frozenF S.heap fs (appA S.slots S.gh))) I) w (WrOf Wr0 H J):=⟨fun b o v h1 h2=>⟨h1,fun h3=>h2 (hW b o h3)⟩⟩;have hqn:(qs.map (·.2)).Nodup:=by
   have:∀(l:List (Nat×Nat)),(∀p∈l,p∈qs)→(l.map (·.1)).Nodup→(l.map (·.2)).Nodup:=by
    intro l
    induction l with
    |nil=>intro _ _;exact List.nodup_nil
    |cons p l ih=>
     intro hm hn;rw[List.map_cons,List.nodup_cons] at hn⊢;refine⟨fun hc=> ?_,ih (fun q hq=>hm q (List.mem_cons_of_mem _ hq)) hn.2⟩;obtain⟨z,hz,e⟩:=List.mem_map.1 hc;obtain⟨r1,i,e1,d1,e2,e3⟩:=hh.valid p (hm p List.mem_cons_self);obtain⟨r2,i',e4,d2,e5,e6⟩:=hh.valid z (hm z (List.mem_cons_of_mem _ hz));have:=hS1.inj p.1 z.1 _ _ i i' p.2 e1 d1 e4 d2 e2 e5 e3 (by rw[e6,e]);exact hn.1 (by rw[this];exact List.mem_map.2 ⟨z,hz,rfl⟩)
   exact this qs (fun _ h=>h) hh.nodup
  have hall0:RepL P w (WrOf Wr0 (assoc (embFs fs q.1).2) J) J (embFs fs q.1).1 (a.tmps.toList++Wr0.gh):=by
   rw[hav,hrw];exact hh.vals J hJ _ hk
  have hall:RepL P w (WrOf Wr0 (assoc (embFs fs q.1).2) J) J (aliS fs (embFs fs q.1).1) (a.tmps.toList++Wr0.gh):=by
   have hor:=hS1.slots.app hS1.gh;refine aliS_ok (fun t p x v hone hx=> ?_) hor hall0 hali;unfold aliOne at hone;split at hone
   case h_2=>cases hone
   rename_i t0 c0;split at hone
   case h_2=>cases hone
   rename_i t1 c1 hp;split at hone
   case h_2=>cases hone
   rename_i t' cs' hf;simp only[Bool.and_eq_true] at hone;obtain⟨e1,e2,e3,e4⟩:=hone;obtain rfl:=Nat.eq_of_beq_eq_true e1;obtain rfl:=Nat.eq_of_beq_eq_true e2;obtain rfl:=Nat.eq_of_beq_eq_true e3;obtain rfl:=Nat.eq_of_beq_eq_true e4;have g1:=hor.get p;rw[hp] at g1;have g2:=hall0.get p;rw[embFs_box hf] at g2;have e5:v=(a.tmps.toList++Wr0.gh).getD p undef:=by
    simp only[Rep] at hx g1;split at hx
    ·rename_i b n hb;rw[hb] at g1;exact hx.trans (Eq.symm g1)
    ·exact hx.elim
   rw[e5];exact g2
  have hcut:=ownN_spec hS hown;refine⟨J,hS.defers, ?_, ?_, ?_, ?_, ?_, ?_,hS.wr0,hS.new,fun p i hp hne=> ?_,hS.nmt,hS.below⟩
  rotate_left 6
  ·have hne:assoc rws p≠none:=by rw[←hrw];exact hne
   have hm:p∈infos.map (·.1):=by
    rw[hh.toks];cases hq:assoc rws p with
    |none=>exact absurd hq hne
    |some r=>exact List.mem_map.2 ⟨_,assoc_mem hq,rfl⟩
   obtain⟨z,hz,rfl⟩:=List.mem_map.1 hm;have h1:=hh.nmd z hz (hS.nmt _ _ hp);have h2:S.heap z.1≠none:=fun hzz=>by
    have:=hS.free _ hzz;rw[this] at h1;cases h1
   rw[hS.nm _ _ hp h2] at h1;obtain rfl:=Option.some.inj h1;exact hJ z hz
  ·show RepL P w (WrOf Wr0 (assoc (embFs fs q.1).2) J) J (takeA n (aliS fs (embFs fs q.1).1)) _;have:=hall.take n;rw[hcut.1] at this;exact this
  ·show RepL P w (WrOf Wr0 (assoc (embFs fs q.1).2) J) J (dropA n (aliS fs (embFs fs q.1).1)) _;have:=hall.drop n;rw[hcut.2] at this;exact this
  ·intro p hp;refine hJn p ?_;show assoc rws p=none;rw[←hrw];exact hp
  ·intro p r hr;have hr:H p=some r:=by show assoc rws p=some r;rw[←hrw];exact hr
   obtain⟨i,g1,g2⟩:=hh.reps J hJ _ hk (p,r) (assoc_mem hr);refine⟨i,hJ _ g1, ?_⟩;show RowRep P w (WrOf Wr0 (assoc (embFs fs q.1).2) J) J r i;rw[hrw];exact g2
  ·intro p p' r r' i i' b h1 h2 h3 h4 h5 h6 h7 h8;have:=blocks_inj (by rw[hh.blk];exact hqn) (hJm p i h5) (hJm p' i' h6) h7 h8;exact congrArg Prod.fst this
  ·intro p r i b h1 h2 h3 h4;have hb:b∈blocks infos:=List.mem_filterMap.2 ⟨(p,i),hJm p i h3,h4⟩;rw[hh.blk] at hb;obtain⟨z,hz,rfl⟩:=List.mem_map.1 hb;obtain⟨r0,i0,e1,d1,e2,e3⟩:=hh.valid z hz;exact hS1.fresh _ _ _ _ e1 d1 e2 e3
 ·cases h
end
end Go.Proofs.YthkflageghfbgaaGreatDoor.Am
/- What a function's code hands back; a call whose code is run in place. -/
namespace Go.Proofs.YthkflageghfbgaaGreatDoor.Am
open Go Go.RowKit
section
variable {P : Pg} {Wr0 : Base} {w0 : World} {S S' : St} {I : Info} {a : Act} {w : World} {E : Env} {o : Oper} {R : Type} {K : St → Option R} {r : R}
theorem resA_ok(hE:TysOk P E)(hS:Sim P Wr0 w0 S I a w){x:ResultVar}{y:AVal}(h:resA E S x=some y):
  ∃v,(match x with|.tmp t=>(pure (a.tmps.getD t Go.undef):Sem Value)|.cell p t=>(do loadVar t (←asAddr (a.tmps.getD p Go.undef)))).run P w=.ok v w∧Rep P w (WrOf Wr0 S.heap I) I y v:=by
 cases x with
 |tmp t=>
  simp only[resA] at h;obtain rfl:=Option.some.inj h;exact⟨_,rfl,hS.eval (.tmp t)⟩
 |cell p t=>
  simp only[resA] at h;split at h
  ·cases h
  ·rename_i k' hk';have hvar:=kd_var hE hk';split at h
   ·rename_i t' c hxe;have hx:Rep P w (WrOf Wr0 S.heap I) I (getA .undef S.slots p) (a.tmps.getD p Go.undef):=hS.eval (.tmp p);rw[hxe] at hx;split at h
    ·rename_i cs hH;obtain⟨i,hi,hr⟩:=hS.rows t' _ hH;simp only[Rep,hi] at hx;cases i with
     |arr=>exact hr.elim
     |box b n=>
      obtain⟨h1,h2,vs,h3,h4⟩:=hr;have hx:a.tmps.getD p Go.undef=.pointer (some ⟨b,c,none⟩):=hx;have hlen:=h3.length;show ∃v,((do loadVar t (←asAddr (a.tmps.getD p Go.undef))):Sem Value).run P w=.ok v w∧Rep P w (WrOf Wr0 S.heap I) I y v;rw[hx];have leaf:k'.isAgg=false→getA none (mapA some cs) c=some y→∃v,(loadVar t ⟨b,c,none⟩).run P w=.ok v w∧Rep P w (WrOf Wr0 S.heap I) I y v:=by
       intro hna h;obtain⟨u,hu,hru⟩:=h3.at h;obtain⟨hlt,hu⟩:=List.getElem?_eq_some_iff.1 hu;have hc:=h4 c hlt;rw[hu] at hc;exact⟨u,run_loadVar_leaf hvar hna hc,hru⟩
      have out:(∃v,(loadVar t ⟨b,c,none⟩).run P w=.ok v w∧Rep P w (WrOf Wr0 S.heap I) I y v)→∃v,((do loadVar t (←asAddr (.pointer (some ⟨b,c,none⟩)))):Sem Value).run P w=.ok v w∧Rep P w (WrOf Wr0 S.heap I) I y v:=by
       rintro⟨v,h5,h6⟩;exact⟨v,by rw[Sem.run_bind];exact h5,h6⟩
      refine out ?_;cases k' with
      |pair p q=>
       obtain⟨hb,h⟩:=ifT_some h;obtain rfl:=Option.some.inj h;have hb:=Nat.le_of_ble_eq_true hb;rw[lenA_eq,hlen] at hb;refine⟨_,run_loadVar_agg hvar rfl (cs:=(vs.drop c).take (Kd.pair p q).size) ?_ ?_, ?_⟩
       ·rw[List.length_take,List.length_drop];omega
       ·intro j hj;rw[List.length_take,List.length_drop] at hj;have:=h4 (c+j) (by omega);rw[this];simp
       ·simp only[Rep];exact⟨_,rfl,(h3.drop c).take _⟩
      |unit=>cases h
      |_=>exact leaf rfl h
    ·cases h
   ·cases h
theorem resAs_ok(hE:TysOk P E)(hS:Sim P Wr0 w0 S I a w):∀{l:List ResultVar} {ys:List AVal},resAs E S l=some ys→
  ∃vs,(l.mapM fun(x:ResultVar)=>(match x with|.tmp t=>(pure (a.tmps.getD t Go.undef):Sem Value)|.cell p t=>(do loadVar t (←asAddr (a.tmps.getD p Go.undef))))).run P w=.ok vs w∧RepL P w (WrOf Wr0 S.heap I) I ys vs
 |[],_,h=>by
  simp only[resAs] at h;obtain rfl:=Option.some.inj h;exact⟨[],rfl,by simp[RepL]⟩
 |x::l,_,h=>by
  simp only[resAs] at h;split at h
  ·rename_i y hy;split at h
   ·rename_i ys hys;obtain rfl:=Option.some.inj h;obtain⟨v,h1,h2⟩:=resA_ok hE hS hy;obtain⟨vs,h3,h4⟩:=resAs_ok hE hS hys;refine⟨v::vs, ?_,by simp only[RepL];exact⟨h2,h4⟩⟩;rw[List.mapM_cons,Sem.run_bind,h1];simp only[Result.andThen_ok];rw[Sem.run_bind,h3];rfl
   ·cases h
  ·cases h
theorem results_ok(hE:TysOk P E)(hS:Sim P Wr0 w0 S I a w){fn:Func}{ys:List AVal}(h:resAs E S fn.results.toList=some ys):
  ∃vs,(results fn a.tmps).run P w=.ok (retV vs) w∧RepL P w (WrOf Wr0 S.heap I) I ys vs:=by
 obtain⟨vs,h1,h2⟩:=resAs_ok hE hS h;refine⟨vs, ?_,h2⟩;unfold results;rw[Sem.run_bind,Array.mapM_eq_mapM_toList,map_eq_pure_bind,Sem.run_bind];refine Eq.trans (congrArg (fun z:Result (List Value)=>(z.andThen _).andThen _) h1) ?_
 match vs with
 |[]=>rfl
 |[v]=>rfl
 |v::u::vs=>rfl
theorem take_left{α:Type}(l k:List α):(l++k).take l.length=l:=by simp
theorem drop_left{α:Type}(l k:List α):(l++k).drop l.length=k:=by simp
theorem arOk_len{a n:Nat}(h:a≠0)(k:arOk a n=true):n=a:=by
 cases a with
 |zero=>exact absurd rfl h
 |succ a=>exact Nat.eq_of_beq_eq_true k
theorem callI_run{d g:Nat}{c:CallD}(hi:InlOk P d g c)(hd:o.dst=some d){vs:List AVal}{us:List Value}(hS:Sim P Wr0 w0 S I a w)(hv:RepL P w (WrOf Wr0 S.heap I) I vs us)
  (h:callI c S vs K=some r):∃S',K S'=some r∧∀next:Act→World→Prop,(∀I' a' w',Sim P Wr0 w0 S' I' a' w'→next a' w')→
  ∃fn,P.p.funcs[g]?=some fn∧(fn.name== "runtime.NumGoroutine")=false∧fn.body.isSome=true∧Calls P g us.toArray w fun e w'=>∃v,e=.returned v∧next (a.put o.dst v) w':=by
 obtain⟨hnd,fn,hf,hname,hb,hnt,hrun⟩:=hi;unfold callI at h;obtain⟨har,h⟩:=ifT_some h;obtain⟨hne,h⟩:=ifEq_yes h;rw[getSK_eq] at h;obtain⟨s,hs,h⟩:=Option.bind_eq_some_iff.1 h;obtain⟨y,hy,h⟩:=Option.bind_eq_some_iff.1 h;refine⟨_,h,fun next hn=>⟨fn,hf,hname,hb, ?_⟩⟩;have hlen:=hv.length;have hsl:=hS.slots.length;have hsim:Sim P {Wr0 with gh:=a.tmps.toList++Wr0.gh} w0 {slots:=appA vs (repA (c.n-lenA vs) .undef),heap:=S.heap,gh:=appA S.slots S.gh} I {tmps:=us.toArray++Array.replicate (c.n-us.length) Go.undef,defers:=[]} w:=by
  refine⟨rfl, ?_,hS.slots.app hS.gh,hS.free,hS.rows,hS.inj,hS.fresh,hS.wr0,hS.new,hS.nm,hS.nmt,hS.below⟩;have:(us.toArray++Array.replicate (c.n-us.length) Go.undef).toList=us++List.replicate (c.n-lenA vs) Go.undef:=by
   rw[Array.toList_append,Array.toList_replicate,lenA_eq,hlen]
  show RepL P w _ _ (appA _ _) _;rw[this];exact hv.app (RepL.rep _ _ (by simp[Rep]) _)
 obtain⟨J,hJ⟩:=getS_ok hsim hnd hs;refine(hrun s y hy Wr0 w0 J a w us hS.defers (by rw[←hne,lenA_eq,hsl,Array.length_toList]) (fun h0=>by rw[←hlen];exact arOk_len h0 (by rw[←lenA_eq];exact har)) hJ).mono fun e w' he=> ?_;obtain⟨v,e1,I',h2⟩:=he;exact⟨v,e1,hn _ _ _ (by rw[hd];exact h2)⟩
theorem inl_step(hF:FnsOk P E){iv:CallD×List AVal}(hm:inlOf E S o.dst o.op=some iv)(h:callI iv.1 S iv.2 K=some r):StepSim P Wr0 w0 o S K r:=by
 intro I a w hS;unfold inlOf at hm;split at hm
 ·cases hm
 rename_i gc hgc;obtain⟨d,hd,hi⟩:∃d,o.dst=some d∧E.il d=some gc:=by
  unfold ilOf at hgc;split at hgc
  ·rename_i d hd;exact⟨d,hd,hgc⟩
  ·cases hgc
 have hok:=hF.il d gc hi;split at hm
 ·rename_i g args tys ho;split at hm
  ·rename_i hg;have hg:=Nat.eq_of_beq_eq_true hg;obtain rfl:=Option.some.inj hm;rw[←hg] at hok;obtain⟨S',k1,k2⟩:=callI_run hok hd hS (evals_rep hS args.toList) h;refine⟨S',k1,fun next Q hn=> ?_⟩;obtain⟨fn,h1,h2,h3,h4⟩:=k2 next hn
   refine wp_enter h1 h2 h3 ho ?_;rw[show args.map a.eval=(args.toList.map a.eval).toArray from Array.ext' (by simp)];exact h4
  ·cases hm
 ·rename_i p args tys ho;split at hm
  ·rename_i g caps hp;split at hm
   ·rename_i hg;have hg:=Nat.eq_of_beq_eq_true hg;obtain rfl:=Option.some.inj hm;rw[←hg] at hok;have hv:=hS.eval (.tmp p);rw[hp] at hv;simp only[Rep] at hv;obtain⟨cs,hv,hcs⟩:=hv;obtain⟨S',k1,k2⟩:=callI_run hok hd hS ((evals_rep hS args.toList).app hcs) h;refine⟨S',k1,fun next Q hn=> ?_⟩;obtain⟨fn,h1,h2,h3,h4⟩:=k2 next hn
    refine wp_enterV h1 h2 h3 ho hv ?_;rw[show args.map a.eval++cs.toArray=(args.toList.map a.eval++cs).toArray from Array.ext' (by simp)];exact h4
   ·cases hm
  ·cases hm
 ·cases hm
theorem stepM_ok(hE:TysOk P E)(hF:FnsOk P E)(h:stepM E o S K=some r):StepSim P Wr0 w0 o S K r:=by
 unfold stepM at h;split at h
 ·rename_i iv hiv;exact inl_step hF hiv h
 ·exact stepM0_ok hE hF h
end
end Go.Proofs.YthkflageghfbgaaGreatDoor.Am
/- Code does what the abstract machine tells (regions in the text's order). -/
namespace Go.Proofs.YthkflageghfbgaaGreatDoor.Am
open Go Go.RowKit
section
variable {P : Pg} {Wr0 : Base} {w0 : World} {S S' : St} {I : Info} {a : Act} {w : World} {E : Env} {o : Oper} {R : Type} {K : St → Option R} {r : R} {x y : Operand} {Q : Exit → Act → World → Prop}
theorem setA_getA:∀{xs:List AVal} {n:Nat},setA xs n (getA .undef xs n)=xs
 |[],_=>rfl
 |x::xs,0=>rfl
 |x::xs,n+1=>by simp only[setA,getA];rw[setA_getA]
/-- a slot is written anew with what it holds -/
theorem Sim.reput(hS:Sim P Wr0 w0 S I a w){d:Nat}{y:AVal}(h:getA .undef S.slots d=y):S.put (some d) y=S:=by
 subst h;unfold St.put;simp only[setA_getA]
theorem getA_map{α:Type}:∀{l:List α} {j:Nat} {x:α},getA none (mapA some l) j=some x→l[j]?=some x
 |[],_,_,h=>by simp[mapA,getA] at h
 |y::l,0,x,h=>by simp only[mapA,getA] at h;obtain rfl:=Option.some.inj h;rfl
 |y::l,n+1,x,h=>by simp only[mapA,getA] at h;simpa using getA_map h
theorem guarded_ok(hS:Sim P Wr0 w0 S I a w){ops:Array Oper}{yes no:St→Option R}(h:guarded ops.toList o S yes no=some r):
  (Region.wanted o (yielded ops a.tmps)=true∧∃S',S'=S∧yes S'=some r)∨(Region.wanted o (yielded ops a.tmps)=false∧∃S',S'=S∧no S'=some r):=by
 unfold guarded at h;split at h
 ·rename_i hg;exact .inl ⟨by unfold Region.wanted;rw[hg],S,rfl,h⟩
 ·rename_i jw hg;obtain⟨j,want⟩:=jw;split at h
  ·rename_i d hd;have hy:∀b,getA .undef S.slots d=.v .bool b→yielded ops a.tmps j=some b:=by
    intro b hb;have hrep:=hS.slots.get d;rw[hb] at hrep;have hv:=rep_bool.1 hrep;unfold dstOf at hd;split at hd
    ·rename_i oj hoj;have h1:=getA_map hoj;rw[Array.getElem?_toList] at h1;unfold yielded;rw[h1];simp only[Option.bind_some,hd];have h2:a.tmps[d]?=some (.bool b):=by
      rw[←Array.getElem?_toList];cases e:a.tmps.toList[d]? with
      |none=>rw[List.getD_eq_getElem?_getD,e] at hv;cases hv
      |some u=>rw[List.getD_eq_getElem?_getD,e] at hv;exact congrArg some hv
     rw[h2]
    ·cases hd
   split at h
   ·rename_i b hb;have e1:=hy b hb;cases b with
    |true=>
     rw[show S.put (some d) (.v .bool true)=S from hS.reput hb] at h;cases want with
     |true=>exact .inl ⟨by unfold Region.wanted;rw[hg];simp[e1],S,rfl,h⟩
     |false=>exact .inr ⟨by unfold Region.wanted;rw[hg];simp[e1],S,rfl,h⟩
    |false=>
     rw[show S.put (some d) (.v .bool false)=S from hS.reput hb] at h;cases want with
     |true=>exact .inr ⟨by unfold Region.wanted;rw[hg];simp[e1],S,rfl,h⟩
     |false=>exact .inl ⟨by unfold Region.wanted;rw[hg];simp[e1],S,rfl,h⟩
   ·rename_i hb;refine .inr ⟨?_,S,rfl,h⟩;have hrep:=hS.slots.get d;rw[hb] at hrep;simp only[Rep] at hrep;obtain⟨vs,hv,hvs⟩:=hrep;have hy:yielded ops a.tmps j=none:=by
     unfold dstOf at hd;split at hd
     ·rename_i oj hoj;have h1:=getA_map hoj;rw[Array.getElem?_toList] at h1;unfold yielded;rw[h1];simp only[Option.bind_some,hd];rw[←Array.getElem?_toList];cases e:a.tmps.toList[d]? with
      |none=>rfl
      |some u=>
       rw[List.getD_eq_getElem?_getD,e] at hv;have hv:u=.tuple vs.toArray:=hv;subst hv;rfl
     ·cases hd
    unfold Region.wanted;rw[hg];simp[hy]
   ·cases h
  ·cases h
theorem Sim.undef(hS:Sim P Wr0 w0 S I a w)(d:Option Nat):Sim P Wr0 w0 (S.put d (.tup [])) I (a.put d Go.undef) w:=hS.put (by simp only[Rep];exact⟨[],rfl,by simp only[RepL]⟩) d
theorem runOps_ok(hE:TysOk P E)(hF:FnsOk P E){ops:Array Oper}:∀(os:List Oper) {S:St} {I:Info} {a:Act} {w:World},runOps E ops.toList os S K=some r→Sim P Wr0 w0 S I a w→
  (∀S' I' a' w',K S'=some r→Sim P Wr0 w0 S' I' a' w'→Q .normal a' w')→wpList P ops Q os a w
 |[],S,I,a,w,h,hS,hQ=>hQ S I a w h hS
 |o::os,S,I,a,w,h,hS,hQ=>by
  unfold wpList;simp only[runOps] at h
  rcases guarded_ok hS h with⟨hw,S1,e1,h1⟩|⟨hw,S1,e1,h1⟩<;>subst e1
  ·rw[if_pos hw];refine .inl ?_;obtain⟨S2,h2,h3⟩:=stepM_ok hE hF h1 I a w hS;exact h3 _ _ fun I' a' w' hS'=>runOps_ok hE hF os h2 hS' hQ
  ·rw[if_neg (by rw[hw];simp)];exact runOps_ok hE hF os h1 (hS.undef o.dst) hQ

/-! ### code -/
/-- a loop does what the table tells -/
def LoopOk(P:Pg)(L:Nat→Option LoopD)(b:Code):Prop:=
 ∀(d:LoopD),L (firstId b)=some d→∀(R:Type) (K:Ex→St→Option R) (r:R) Wr0 w0 S s x,getS d.n d.sh S=some s→loopF d.f s=some x→withX d.n d.xs x K=some r→∀I a w,Sim P Wr0 w0 S I a w→
  ∀Q:Exit→Act→World→Prop,(∀e S' I' a' w',K e S'=some r→Sim P Wr0 w0 S' I' a' w'→Q (toExit e) a' w')→(Code.loop b).wp P Q a w
/-- a region that draws its order does what its text's order does -/
def DrawOk0(P:Pg)(E:Env)(id:Nat)(ops:Array Oper):Prop:=
 ∀(R:Type) (K:St→Option R) (r:R) Wr0 w0 S,runOps E ops.toList ops.toList S K=some r→∀I a w,Sim P Wr0 w0 S I a w→∀Q:Exit→Act→World→Prop,
  (∀S' I' a' w',K S'=some r→Sim P Wr0 w0 S' I' a' w'→Q .normal a' w')→(Code.region id ops true).wp P Q a w
def DrawOk(P:Pg)(E:Env)(id:Nat)(ops:Array Oper):Prop:=
 ∀(R:Type) (K:St→Option R) (r:R) Wr0 w0 S,regRun E ops.toList true S K=some r→∀I a w,Sim P Wr0 w0 S I a w→∀Q:Exit→Act→World→Prop,
  (∀S' I' a' w',K S'=some r→Sim P Wr0 w0 S' I' a' w'→Q .normal a' w')→(Code.region id ops true).wp P Q a w
theorem DrawOk0.to{P:Pg}{E:Env}{id:Nat}{ops:Array Oper}(h:DrawOk0 P E id ops)(hl:openR E ops.toList=false):DrawOk P E id ops:=by
 intro R K r Wr0 w0 S hr;have hr:ifT (openR E ops.toList) (runOpsL E (basesOf E ops.toList) ops.toList ops.toList S K) (runOps E ops.toList ops.toList S K)=some r:=hr;rw[hl] at hr;exact h R K r Wr0 w0 S hr
def CodeOk(P:Pg)(E:Env)(L:Nat→Option LoopD):Code→Prop
 |.seq a b=>CodeOk P E L a∧CodeOk P E L b
 |.cond _ a b=>CodeOk P E L a∧CodeOk P E L b
 |.block _ b=>CodeOk P E L b
 |.loop b=>LoopOk P L b
 |.region id ops true=>DrawOk P E id ops
 |_=>True
theorem run_ok(hE:TysOk P E)(hF:FnsOk P E){L:Nat→Option LoopD}:∀{c:Code},CodeOk P E L c→∀{R:Type} {K:Ex→St→Option R} {r:R} {S:St},run E L c S K=some r→
  ∀{I:Info} {a:Act} {w:World},Sim P Wr0 w0 S I a w→∀{Q:Exit→Act→World→Prop},(∀e S' I' a' w',K e S'=some r→Sim P Wr0 w0 S' I' a' w'→Q (toExit e) a' w')→c.wp P Q a w
 |.skip,_,_,_,_,_,h,_,_,_,hS,_,hQ=>wp_skip (hQ _ _ _ _ _ h hS)
 |.label _,_,_,_,_,_,h,_,_,_,hS,_,hQ=>wp_label (hQ _ _ _ _ _ h hS)
 |.region _ ops false,_,_,_,_,_,h,_,_,_,hS,_,hQ=>wp_region_list (runOps_ok hE hF ops.toList h hS fun S' I' a' w' h1 h2=>hQ .normal S' I' a' w' h1 h2)
 |.region _ ops true,hc,_,_,_,_,h,_,_,_,hS,_,hQ=>hc _ _ _ _ _ _ h _ _ _ hS _ fun S' I' a' w' h1 h2=>hQ .normal S' I' a' w' h1 h2
 |.seq x y,hc,_,K,r,_,h,_,_,_,hS,Q,hQ=>by
  simp only[run] at h;refine wp_seq (run_ok hE hF hc.1 h hS fun e S' I' a' w' h1 h2=> ?_);cases e with
  |normal=>exact run_ok hE hF hc.2 h1 h2 hQ
  |ret=>exact hQ _ _ _ _ _ h1 h2
  |exit id=>exact hQ _ _ _ _ _ h1 h2
 |.cond c x y,hc,_,K,r,S,h,_,a,_,hS,Q,hQ=>by
  simp only[run] at h;split at h
  ·rename_i t ht;have hv:=hS.eval c;rw[ht] at hv;have hv:=rep_bool.1 hv;cases t with
   |true=>exact wp_cond_true hv (run_ok hE hF hc.1 h hS hQ)
   |false=>exact wp_cond_false hv (run_ok hE hF hc.2 h hS hQ)
  ·cases h
 |.block id b,hc,_,K,r,_,h,_,_,_,hS,Q,hQ=>by
  simp only[run] at h;refine wp_block (run_ok hE hF (c:=b) hc h hS fun e S' I' a' w' h1 h2=> ?_);cases e with
  |normal=>exact hQ _ _ _ _ _ h1 h2
  |ret=>exact hQ _ _ _ _ _ h1 h2
  |exit j=>
   simp only[toExit,Exit.inBlock];simp only at h1
   by_cases e:j=id
   ·rw[ifEq_pos e] at h1;rw[if_pos e];exact hQ .normal _ _ _ _ h1 h2
   ·rw[ifEq_neg e] at h1;rw[if_neg e];exact hQ _ _ _ _ _ h1 h2
 |.loop b,hc,_,K,r,_,h,_,_,_,hS,Q,hQ=>by
  simp only[run] at h;split at h
  ·rename_i d hd;rw[getSK_eq] at h;obtain⟨s,hs,h⟩:=Option.bind_eq_some_iff.1 h;obtain⟨x,h1,h2⟩:=Option.bind_eq_some_iff.1 h;exact hc d hd _ _ _ _ _ _ _ _ hs h1 h2 _ _ _ hS _ hQ
  ·cases h
 |.exit id,_,_,_,_,_,h,_,_,_,hS,_,hQ=>wp_exit (hQ (.exit id) _ _ _ _ h hS)
 |.ret,_,_,_,_,_,h,_,_,_,hS,_,hQ=>wp_ret (hQ .ret _ _ _ _ h hS)
 |.rangeFunc ..,_,_,_,_,_,h,_,_,_,_,_,_=>by simp[run] at h
 |.scope _,_,_,_,_,_,h,_,_,_,_,_,_=>by simp[run] at h
 |.goto _,_,_,_,_,_,h,_,_,_,_,_,_=>by simp[run] at h
 |.refuse _,_,_,_,_,_,h,_,_,_,_,_,_=>by simp[run] at h
end
end Go.Proofs.YthkflageghfbgaaGreatDoor.Am
/- A function: what it gives back, and that it does what its run tells. -/
namespace Go.Proofs.YthkflageghfbgaaGreatDoor.Am
open Go Go.RowKit

/-! ### results -/
def toOuts(H:Nat→Option Row):(ks:List Kd)→List AVal→Option (OutsT ks)
 |[],[]=>some ()
 |[k],[v]=>toT true H k v
 |k::k'::ks,v::vs=>match toT true H k v with
  |some x=>match toOuts H (k'::ks) vs with|some y=>some (x,y)|none=>none
  |none=>none
 |_,_=>none
def ownLeaf(H:Nat→Option Row)(used:List Nat):(k:Kd)→AVal→Option (k.T×List Nat)
 |.sl _,.nil=>some ([],used)
 |.sl k,.ref _ t off len=>ifT (memN t used) none (match H t with
  |some (.arr k' xs false)=>match castK (k:=.sl k') (k':=.sl k) xs with
   |some xs=>some ((List.drop (α:=k.T) off xs).take len,t::used)
   |none=>none
  |_=>none)
 |k,.v k' x=>ifT k.flat (match castK (k:=k') (k':=k) x with|some y=>some (y,used)|none=>none) none
 |_,_=>none
def ownL(H:Nat→Option Row):(k:Kd)→List AVal→List Nat→Option (k.T×List AVal×List Nat)
 |.unit,cs,used=>some ((),cs,used)
 |.pair a b,cs,used=>match ownL H a cs used with
  |some r=>match ownL H b r.2.1 r.2.2 with
   |some q=>some ((r.1,q.1),q.2)
   |none=>none
  |none=>none
 |k,c::cs,used=>match ownLeaf H used k c with|some x=>some (x.1,cs,x.2)|none=>none
 |_,[],_=>none
def ownV(H:Nat→Option Row)(used:List Nat)(k:Kd):AVal→Option (k.T×List Nat)
 |.agg cs=>ifT k.isAgg (match ownL H k cs used with|some (x,[],u)=>some (x,u)|_=>none) none
 |x=>ownLeaf H used k x
def ownOuts(H:Nat→Option Row):(ks:List Kd)→List AVal→List Nat→Option (OutsT ks)
 |[],[],_=>some ()
 |[k],[v],used=>match ownV H used k v with|some x=>some x.1|none=>none
 |k::k'::ks,v::vs,used=>match ownV H used k v with
  |some x=>match ownOuts H (k'::ks) vs x.2 with|some y=>some (x.1,y)|none=>none
  |none=>none
 |_,_,_=>none
def fin(E:Env)(own:Bool)(outs:List Kd)(rvs:List ResultVar)(e:Ex)(S:St):Option (OutsT outs):=
 match e with
 |.exit _=>none
 |_=>match resAs E S rvs with
  |none=>none
  |some vs=>match own with
   |false=>toOuts (sealVs S.heap vs) outs vs
   |true=>ownOuts S.heap outs vs []
def initS:(ps:List Prm)→PrmsT ps→List AVal
 |[],_=>[]
 |.v k::ps,x=>.v k x.1::initS ps x.2
 |.clo ki ko::ps,x=>.clo ki ko x.1::initS ps x.2
 |.cap k::ps,x=>.fp k x.1::initS ps x.2
def init(ps:List Prm)(xs:PrmsT ps)(n:Nat):St:={slots:=appA (initS ps xs) (repA (n-lenA ps) .undef),heap:=fun _=>none}
def finM(E:Env)(own:Bool)(outs:List Kd)(rvs:List ResultVar)(ps:List Ar)(xs:ArsT ps)(e:Ex)(S:St):Option (OutsT outs×IosT ps):=
 match e with
 |.exit _=>none
 |_=>match resAs E S rvs with
  |none=>none
  |some vs=>match ioBack (sealVs S.heap (appA (bxCells S.heap 12500 ps) (ifT own [] vs))) 12500 ps xs with
   |none=>none
   |some y=>match(match own with
    |false=>toOuts (sealVs S.heap (appA (bxCells S.heap 12500 ps) (ifT own [] vs))) outs vs
    |true=>ownOuts (sealVs S.heap (appA (bxCells S.heap 12500 ps) (ifT own [] vs))) outs vs (toksM 12500 ps)) with
    |none=>none
    |some x=>some (x,y)
def finB(E:Env)(rvs:List ResultVar)(k:Kd)(e:Ex)(S:St):Option k.T:=
 match e with
 |.exit _=>none
 |_=>match resAs E S rvs with
  |some [.ptr t c]=>ifEq c 0 (match S.heap t with
   |some (.box cs)=>match toTs true (sealVs S.heap cs) k cs with|some (x,[])=>some x|_=>none
   |_=>none) none
  |_=>none
noncomputable def fnBF(E:Env)(L:Nat→Option LoopD)(ps:List Prm)(k:Kd)(n:Nat)(rvs:List ResultVar)(c:Code)(xs:PrmsT ps):Option k.T:=
 run E L c (init ps xs n) (finB E rvs k)
noncomputable def fnMF(E:Env)(L:Nat→Option LoopD)(ps:List Ar)(own:Bool)(outs:List Kd)(n:Nat)(rvs:List ResultVar)(c:Code)(xs:ArsT ps):Option (OutsT outs×IosT ps):=
 run E L c (initM ps xs n) (finM E own outs rvs ps xs)
noncomputable def fnF(E:Env)(L:Nat→Option LoopD)(ps:List Prm)(own:Bool)(outs:List Kd)(n:Nat)(rvs:List ResultVar)(c:Code)(xs:PrmsT ps):Option (OutsT outs):=
 run E L c (init ps xs n) (fin E own outs rvs)

section
variable {P : Pg} {Wr0 : Base} {w0 : World} {S S' : St} {I : Info} {a : Act} {w : World} {E : Env}
theorem OwnC.keep{w:World}{Wr Wr':WrP}(hk:Keep w Wr w Wr'):∀{k:Kd} {cs:List Value} {x:k.T} {bs:List Nat},OwnC w Wr k cs x bs→OwnC w Wr' k cs x bs
 |.int _,_,_,_,h=>h
 |.bool,_,_,_,h=>h
 |.str,_,_,_,h=>h
 |.err,_,_,_,h=>h
 |.unit,_,_,_,h=>h
 |.pair a b,_,_,_,h=>by
  simp only[OwnC] at h⊢;obtain⟨c1,c2,b1,b2,rfl,rfl,h1,h2⟩:=h;exact⟨c1,c2,b1,b2,rfl,rfl,h1.keep hk,h2.keep hk⟩
 |.pt,_,_,_,h=>⟨h.1.keep hk,h.2⟩
 |.sl k,_,_,_,h=>by
  simp only[OwnC] at h⊢;obtain⟨A,cap,rfl,hc,h⟩:=h;refine⟨A,cap,rfl,hc,h.imp id ?_⟩;rintro⟨b,base,N,h1,h2,h3,h4,h5⟩;refine⟨b,base,N,h1,h2,h3,h4,fun i hi=> ?_⟩;obtain⟨cs',h6,h7⟩:=h5 i hi;exact⟨cs',h6.keep hk,h7⟩
theorem OwnOuts.keep{w:World}{Wr Wr':WrP}(hk:Keep w Wr w Wr'):∀{ks:List Kd} {vs:List Value} {x:OutsT ks} {bs:List Nat},OwnOuts w Wr ks vs x bs→OwnOuts w Wr' ks vs x bs
 |[],_,_,_,h=>h
 |[k],_,_,_,h=>by
  simp only[OwnOuts] at h⊢;obtain⟨v,rfl,cs,h1,h2⟩:=h;exact⟨v,rfl,cs,h1.keep hk,h2⟩
 |k::k'::ks,_,_,_,h=>by
  simp only[OwnOuts] at h⊢;obtain⟨v,us,b1,b2,rfl,rfl,⟨cs,h1,h2⟩,h3⟩:=h;exact⟨v,us,b1,b2,rfl,rfl,⟨cs,h1.keep hk,h2⟩,h3.keep hk⟩
theorem flat_own{w:World}{Wr:WrP}:∀{k:Kd} {cs:List Value} {x:k.T},k.flat=true→RepC w Wr k cs x→OwnC w Wr k cs x []
 |.int _,_,_,_,h=>⟨h,rfl⟩
 |.bool,_,_,_,h=>⟨h,rfl⟩
 |.str,_,_,_,h=>⟨h,rfl⟩
 |.err,_,_,_,h=>⟨h,rfl⟩
 |.unit,_,_,_,h=>⟨h,rfl⟩
 |.pair a b,_,_,hf,h=>by
  simp only[Kd.flat] at hf;have hab:a.flat=true∧b.flat=true:=by
   cases e:a.flat with
   |true=>rw[e] at hf;exact⟨rfl,hf⟩
   |false=>rw[e] at hf;cases hf
  simp only[RepC] at h;simp only[OwnC];obtain⟨c1,c2,rfl,h1,h2⟩:=h;exact⟨c1,c2,[],[],rfl,rfl,flat_own hab.1 h1,flat_own hab.2 h2⟩
structure Used (S:St) (I:Info) (used used':List Nat) (ps:List (Nat×Nat)):Prop where
 valid:∀p∈ps,∃k xs i,S.heap p.1=some (.arr k xs false)∧I p.1=some i∧i.block=some p.2
 nodup:(ps.map (·.1)).Nodup
 new:∀p∈ps,p.1∉used
 sub:∀t,t∈used→t∈used'
 all:∀p∈ps,p.1∈used'
theorem Used.nil(S:St)(I:Info)(used:List Nat):Used S I used used []:=⟨by simp,by simp,by simp,fun _ h=>h,by simp⟩
theorem Used.app{u u' u'':List Nat}{ps qs:List (Nat×Nat)}(h:Used S I u u' ps)(k:Used S I u' u'' qs):Used S I u u'' (ps++qs):=by
 refine⟨?_, ?_, ?_,fun t ht=>k.sub t (h.sub t ht), ?_⟩
 ·intro p hp
  rcases List.mem_append.1 hp with hp|hp
  ·exact h.valid p hp
  ·exact k.valid p hp
 ·rw[List.map_append,List.nodup_append];refine⟨h.nodup,k.nodup, ?_⟩;intro x hx y hy e;obtain⟨p,hp,rfl⟩:=List.mem_map.1 hx;obtain⟨q,hq,rfl⟩:=List.mem_map.1 hy;exact k.new q hq (by rw[←e];exact h.all p hp)
 ·intro p hp
  rcases List.mem_append.1 hp with hp|hp
  ·exact h.new p hp
  ·exact fun hu=>k.new p hp (h.sub _ hu)
 ·intro p hp
  rcases List.mem_append.1 hp with hp|hp
  ·exact k.sub _ (h.all p hp)
  ·exact k.all p hp
theorem own_sl(hS:Sim P Wr0 w0 S I a w){used:List Nat}{k:Kd}{x:AVal}{y:(Kd.sl k).T}{u:List Nat}{v:Value}(h:ownLeaf S.heap used (.sl k) x=some (y,u))(hx:Rep P w (WrOf Wr0 S.heap I) I x v):
  ∃ps,Used S I used u ps∧OwnC w (WrOf Wr0 S.heap I) (.sl k) [v] y (ps.map (·.2)):=by
 cases x
 case nil=>
  simp only[ownLeaf] at h;simp only[Rep] at hx;subst hx;obtain⟨rfl,rfl⟩:=Prod.mk.inj (Option.some.inj h);refine⟨[],Used.nil _ _ _, ?_⟩;simp only[OwnC];exact⟨none,0,rfl,Nat.le_refl _,.inl ⟨rfl,rfl,rfl⟩⟩
 case ref k2 t off len=>
  simp only[ownLeaf] at h;obtain⟨hm,h⟩:=ifT_none h;have hm:=memN_spec hm;split at h
  ·rename_i k' xs hH;split at h
   ·rename_i xs' hc;obtain⟨e2,h2⟩:=castK_self hc;subst e2;subst h2;obtain⟨rfl,rfl⟩:=Prod.mk.inj (Option.some.inj h);obtain⟨inf,hinf,hrow⟩:=hS.rows t _ hH;simp only[Rep,hinf] at hx;cases inf with
    |box=>exact hx.elim
    |arr k3 n loc N=>
     obtain⟨rfl,rfl,hrow⟩:=hrow;obtain⟨rfl,hle,A,cap,rfl,hcap,hm2⟩:=hx;have hlen:(List.take len (List.drop off xs)).length=len:=by rw[List.length_take,List.length_drop];omega
     rcases hm2 with⟨hl0,hc0⟩|⟨b,base,rfl,rfl,hN⟩
     ·refine⟨[],⟨by simp,by simp,by simp,fun t ht=>List.mem_cons_of_mem _ ht,by simp⟩, ?_⟩;simp only[OwnC];exact⟨A,cap,by rw[hlen],by rw[hlen];exact hcap,.inl ⟨by rw[hlen];exact hl0,hc0,rfl⟩⟩
     ·obtain⟨g1,g2,g3⟩:=hrow;refine⟨[(t,b)],⟨?_,by simp, ?_,fun t ht=>List.mem_cons_of_mem _ ht, ?_⟩, ?_⟩
      ·intro p hp;obtain rfl:=List.mem_singleton.1 hp;exact⟨_,xs,_,hH,hinf,rfl⟩
      ·intro p hp;obtain rfl:=List.mem_singleton.1 hp;exact hm
      ·intro p hp;obtain rfl:=List.mem_singleton.1 hp;exact List.mem_cons_self
      ·simp only[OwnC];refine⟨_,cap,by rw[hlen],by rw[hlen];exact hcap,.inr ⟨b,base+off*k2.size,N,rfl,rfl, ?_,g2.mono (Nat.le_add_right _ _), ?_⟩⟩
       ·rw[Nat.add_mul] at hN;omega
       ·intro i hi;rw[hlen] at hi;obtain⟨cs',g4,g5⟩:=g3 (off+i) (by omega);refine⟨cs', ?_,fun j hj=> ?_⟩
        ·rw[get_drop_take xs off len i (by rw[hlen];exact hi) (by omega)];exact g4
        ·have:=g5 j hj;rw[Nat.add_mul,←Nat.add_assoc] at this;exact this
   ·cases h
  ·cases h
 case v k' x=>
  simp only[ownLeaf] at h;obtain⟨hf,_⟩:=ifT_some h;cases hf
 all_goals (simp only[ownLeaf] at h;cases h)
theorem own_val(hS:Sim P Wr0 w0 S I a w){used:List Nat}{k:Kd}(hk:∀k',k≠ .sl k'){x:AVal}{y:k.T}{u:List Nat}{v:Value}(h:ownLeaf S.heap used k x=some (y,u))(hx:Rep P w (WrOf Wr0 S.heap I) I x v):
  u=used∧k.flat=true∧RepV w (WrOf Wr0 S.heap I) k y v:=by
 unfold ownLeaf at h;split at h
 ·exact absurd rfl (hk _)
 ·exact absurd rfl (hk _)
 ·obtain⟨hf,h⟩:=ifT_some h;split at h
  ·rename_i y' hc;obtain⟨rfl,rfl⟩:=castK_some hc;obtain⟨rfl,rfl⟩:=Prod.mk.inj (Option.some.inj h);simp only[Rep] at hx;exact⟨rfl,hf,hx⟩
  ·cases h
 ·cases h
theorem ownL_ok(hS:Sim P Wr0 w0 S I a w):∀{k:Kd} {cs:List AVal} {used:List Nat} {y:k.T} {rest:List AVal} {u:List Nat} {vs:List Value},ownL S.heap k cs used=some (y,rest,u)→RepL P w (WrOf Wr0 S.heap I) I cs vs→
  ∃v1 v2 ps,vs=v1++v2∧Used S I used u ps∧OwnC w (WrOf Wr0 S.heap I) k v1 y (ps.map (·.2))∧RepL P w (WrOf Wr0 S.heap I) I rest v2:=by
 intro k;have leaf:∀{k:Kd} (hk:k.isAgg=false) (hs:∀k',k≠ .sl k') {c:AVal} {cs:List AVal} {used:List Nat} {y:k.T} {rest:List AVal} {u:List Nat} {vs:List Value},
   (match ownLeaf S.heap used k c with|some x=>some (x.1,cs,x.2)|none=>none)=some (y,rest,u)→RepL P w (WrOf Wr0 S.heap I) I (c::cs) vs→
   ∃v1 v2 ps,vs=v1++v2∧Used S I used u ps∧OwnC w (WrOf Wr0 S.heap I) k v1 y (ps.map (·.2))∧RepL P w (WrOf Wr0 S.heap I) I rest v2:=by
  intro k hk hs c cs used y rest u vs h hL;split at h
  ·rename_i z hz;obtain⟨e7,e8⟩:=Prod.mk.inj (Option.some.inj h);obtain⟨e9,e10⟩:=Prod.mk.inj e8;subst e7 e9 e10
   match vs,hL with
   |[],hL=>simp only[RepL] at hL
   |v::vs,hL=>
    simp only[RepL] at hL;obtain⟨e1,e2,cs1,h3,h4⟩:=own_val hS hs (u:=z.2) (y:=z.1) hz hL.1;have hl1:cs1.length=1:=by
     rw[h3.length];cases k<;>first|rfl|cases hk
    obtain⟨v',rfl⟩:=List.length_eq_one_iff.1 hl1;have:v=v':=by rw[h4];simp[mkV,hk]
    subst this;exact⟨[v],vs,[],rfl,by rw[e1];exact Used.nil _ _ _,flat_own e2 h3,hL.2⟩
  ·cases h
 induction k with
 |unit=>
  intro cs used y rest u vs h hL;simp only[ownL] at h;obtain⟨e7,e8⟩:=Prod.mk.inj (Option.some.inj h);obtain⟨e9,e10⟩:=Prod.mk.inj e8;subst e9 e10;exact⟨[],vs,[],rfl,Used.nil _ _ _,by simp[OwnC,RepC],hL⟩
 |pair p q ih1 ih2=>
  intro cs used y rest u vs h hL;simp only[ownL] at h;split at h
  ·rename_i r1 h1;split at h
   ·rename_i r2 h2;obtain⟨e7,e8⟩:=Prod.mk.inj (Option.some.inj h);subst e7;obtain⟨v1,v2,ps,rfl,g1,g2,g3⟩:=ih1 (y:=r1.1) (rest:=r1.2.1) (u:=r1.2.2) h1 hL;obtain⟨v3,v4,qs,rfl,g4,g5,g6⟩:=ih2 (y:=r2.1) (rest:=r2.2.1) (u:=r2.2.2) h2 g3;obtain⟨e9,e10⟩:=Prod.mk.inj (show(r2.2.1,r2.2.2)=(rest,u) from e8);subst e9 e10;refine⟨v1++v3,v4,ps++qs,by simp,g1.app g4, ?_,g6⟩;simp only[OwnC];exact⟨v1,v3,_,_,rfl,List.map_append,g2,g5⟩
   ·cases h
  ·cases h
 |sl k _=>
  intro cs used y rest u vs h hL
  match cs,vs,hL with
  |[],_,_=>simp[ownL] at h
  |c::cs,[],hL=>simp only[RepL] at hL
  |c::cs,v::vs,hL=>
   simp only[ownL] at h;simp only[RepL] at hL;split at h
   ·rename_i z hz;obtain⟨e7,e8⟩:=Prod.mk.inj (Option.some.inj h);obtain⟨e9,e10⟩:=Prod.mk.inj e8;subst e7 e9 e10;obtain⟨ps,g1,g2⟩:=own_sl hS (y:=z.1) (u:=z.2) hz hL.1;exact⟨[v],vs,ps,rfl,g1,g2,hL.2⟩
   ·cases h
 |int ik=>
  intro cs used y rest u vs h hL;cases cs with
  |nil=>simp[ownL] at h
  |cons c cs=>exact leaf rfl (fun _ e=>by cases e) h hL
 |bool=>
  intro cs used y rest u vs h hL;cases cs with
  |nil=>simp[ownL] at h
  |cons c cs=>exact leaf rfl (fun _ e=>by cases e) h hL
 |str=>
  intro cs used y rest u vs h hL;cases cs with
  |nil=>simp[ownL] at h
  |cons c cs=>exact leaf rfl (fun _ e=>by cases e) h hL
 |err=>
  intro cs used y rest u vs h hL;cases cs with
  |nil=>simp[ownL] at h
  |cons c cs=>exact leaf rfl (fun _ e=>by cases e) h hL
 |pt=>
  intro cs used y rest u vs h hL;cases cs with
  |nil=>simp[ownL] at h
  |cons c cs=>exact leaf rfl (fun _ e=>by cases e) h hL
theorem ownV_ok(hS:Sim P Wr0 w0 S I a w){used:List Nat}{k:Kd}{x:AVal}{y:k.T}{u:List Nat}{v:Value}(h:ownV S.heap used k x=some (y,u))(hx:Rep P w (WrOf Wr0 S.heap I) I x v):
  ∃ps,Used S I used u ps∧OwnV w (WrOf Wr0 S.heap I) k y v (ps.map (·.2)):=by
 unfold ownV at h;split at h
 ·rename_i cs;obtain⟨hk,h⟩:=ifT_some h;split at h
  ·rename_i y' u' h1;obtain⟨rfl,rfl⟩:=Prod.mk.inj (Option.some.inj h);simp only[Rep] at hx;obtain⟨vs,rfl,hL⟩:=hx;obtain⟨v1,v2,ps,rfl,g1,g2,g3⟩:=ownL_ok hS h1 hL;have:v2=[]:=List.length_eq_zero_iff.1 g3.length.symm;subst this;rw[List.append_nil];exact⟨ps,g1,v1,g2,by simp[mkV,hk]⟩
  ·cases h
 ·by_cases hs:∃k',k=.sl k'
  ·obtain⟨k',rfl⟩:=hs;obtain⟨ps,g1,g2⟩:=own_sl hS h hx;exact⟨ps,g1,[v],g2,by simp[mkV,Kd.isAgg]⟩
  ·obtain⟨e1,e2,cs,h3,h4⟩:=own_val hS (fun k' e=>hs ⟨k',e⟩) h hx;exact⟨[],by rw[e1];exact Used.nil _ _ _,cs,flat_own e2 h3,h4⟩
theorem ownOuts_ok(hS:Sim P Wr0 w0 S I a w):∀{ks:List Kd} {xs:List AVal} {used:List Nat} {y:OutsT ks} {vs:List Value},ownOuts S.heap ks xs used=some y→RepL P w (WrOf Wr0 S.heap I) I xs vs→
  ∃ps u,Used S I used u ps∧OwnOuts w (WrOf Wr0 S.heap I) ks vs y (ps.map (·.2))
 |[],[],used,_,vs,h,hL=>by
  have:vs=[]:=List.length_eq_zero_iff.1 hL.length.symm;exact⟨[],used,Used.nil _ _ _,this,rfl⟩
 |[],_::_,_,_,_,h,_=>by simp[ownOuts] at h
 |[k],[],_,_,_,h,_=>by simp[ownOuts] at h
 |[k],_::_::_,_,_,_,h,_=>by simp[ownOuts] at h
 |[k],[x],used,y,vs,h,hL=>by
  match vs,hL with
  |[],hL=>simp only[RepL] at hL
  |v::vs,hL=>
   have hl:=hL.length;simp only[RepL] at hL;simp only[ownOuts] at h;split at h
   ·rename_i z hz;obtain rfl:=Option.some.inj h;obtain⟨ps,g1,g2⟩:=ownV_ok hS (y:=z.1) (u:=z.2) hz hL.1;have:vs=[]:=List.length_eq_zero_iff.1 (by simpa using hl.symm);subst this;exact⟨ps,_,g1,v,rfl,g2⟩
   ·cases h
 |k::k'::ks,[],_,_,_,h,_=>by simp[ownOuts] at h
 |k::k'::ks,x::xs,used,y,vs,h,hL=>by
  match vs,hL with
  |[],hL=>simp only[RepL] at hL
  |v::vs,hL=>
   simp only[RepL] at hL;simp only[ownOuts] at h;split at h
   ·rename_i z hz;split at h
    ·rename_i q hq;obtain rfl:=Option.some.inj h;obtain⟨ps,g1,g2⟩:=ownV_ok hS (y:=z.1) (u:=z.2) hz hL.1;obtain⟨qs,u,g3,g4⟩:=ownOuts_ok hS hq hL.2;refine⟨ps++qs,u,g1.app g3, ?_⟩;simp only[OwnOuts];exact⟨v,vs,_,_,rfl,List.map_append,g2,g4⟩
    ·cases h
   ·cases h
theorem toOuts_ok(hS:Sim P Wr0 w0 S I a w):∀{ks:List Kd} {xs:List AVal} {y:OutsT ks} {vs:List Value},toOuts S.heap ks xs=some y→RepL P w (WrOf Wr0 S.heap I) I xs vs→RepOuts w (WrOf Wr0 S.heap I) ks vs y
 |[],[],_,vs,h,hL=>by
  have:vs=[]:=List.length_eq_zero_iff.1 hL.length.symm;exact this
 |[],_::_,_,_,h,_=>by simp[toOuts] at h
 |[k],[],_,_,h,_=>by simp[toOuts] at h
 |[k],_::_::_,_,_,h,_=>by simp[toOuts] at h
 |[k],[x],y,vs,h,hL=>by
  match vs,hL with
  |[],hL=>simp only[RepL] at hL
  |v::vs,hL=>
   have hl:=hL.length;simp only[RepL] at hL;have:vs=[]:=List.length_eq_zero_iff.1 (by simpa using hl.symm);subst this;exact⟨v,rfl,hS.toT (st:=true) h hL.1⟩
 |k::k'::ks,[],_,_,h,_=>by simp[toOuts] at h
 |k::k'::ks,x::xs,y,vs,h,hL=>by
  match vs,hL with
  |[],hL=>simp only[RepL] at hL
  |v::vs,hL=>
   simp only[RepL] at hL;simp only[toOuts] at h;split at h
   ·rename_i z hz;split at h
    ·rename_i q hq;obtain rfl:=Option.some.inj h;exact⟨v,vs,rfl,hS.toT (st:=true) hz hL.1,toOuts_ok hS hq hL.2⟩
    ·cases h
   ·cases h
end
end Go.Proofs.YthkflageghfbgaaGreatDoor.Am
/- A function does what its run tells. -/
namespace Go.Proofs.YthkflageghfbgaaGreatDoor.Am
open Go Go.RowKit
section
variable {P : Pg} {Wr0 : Base} {w0 : World} {S S' : St} {I : Info} {a : Act} {w : World} {E : Env}
theorem sealR_box{H:Nat→Option Row}{t t':Nat}{cs:List AVal}(h:H t=some (.box cs)):Am.sealR H t' t=some (.box cs):=by
 rcases sealR_cases H t' with e|⟨k,xs,e1,e2⟩
 ·rw[e];exact h
 ·rw[e2]
  by_cases e:t=t'
  ·subst e;rw[h] at e1;cases e1
  ·show ifEq t t' _ _=_;rw[ifEq_neg e];exact h
theorem sealL_box{t:Nat}{cs:List AVal}:∀(l:List AVal) {H:Nat→Option Row},H t=some (.box cs)→Am.sealL H l t=some (.box cs)
 |[],_,h=>h
 |x::l,H,h=>by
  unfold Am.sealL;split
  ·exact sealL_box l (sealR_box h)
  ·exact sealL_box l h
theorem sealVs_box{t:Nat}{cs:List AVal}:∀(l:List AVal) {H:Nat→Option Row},H t=some (.box cs)→Am.sealVs H l t=some (.box cs)
 |[],_,h=>h
 |x::l,H,h=>by
  unfold Am.sealVs;exact sealVs_box l (sealL_box x.cells h)
theorem resA_seal{x:ResultVar}{y:AVal}{vs:List AVal}(h:resA E S x=some y):resA E {S with heap:=Am.sealVs S.heap vs} x=some y:=by
 cases x with
 |tmp t=>exact h
 |cell p t=>
  simp only[resA] at h⊢;split at h
  ·cases h
  ·split at h
   ·split at h
    ·rename_i hH;simp only[sealVs_box vs hH];exact h
    ·cases h
   ·cases h
theorem resAs_seal{vs:List AVal}:∀{l:List ResultVar} {ys:List AVal},resAs E S l=some ys→resAs E {S with heap:=Am.sealVs S.heap vs} l=some ys
 |[],_,h=>h
 |x::l,_,h=>by
  simp only[resAs] at h⊢;split at h
  ·rename_i y hy;split at h
   ·rename_i ys hys;simp only[resA_seal hy,resAs_seal hys];exact h
   ·cases h
  ·cases h
theorem initS_rep(I:Info):∀{ps:List Prm} {vs:List Value} {xs:PrmsT ps} {Wr:WrP},RepPs P w Wr ps vs xs→RepL P w Wr I (initS ps xs) vs
 |[],vs,_,_,h=>by
  simp only[RepPs] at h;subst h;simp[initS,RepL]
 |.v k::ps,_,xs,_,h=>by
  simp only[RepPs] at h;obtain⟨v,us,rfl,h1,h2⟩:=h;simp only[initS,RepL,Rep];exact⟨h1,initS_rep I h2⟩
 |.clo ki ko::ps,_,xs,_,h=>by
  simp only[RepPs] at h;obtain⟨v,us,rfl,h1,h2⟩:=h;simp only[initS,RepL,Rep];exact⟨h1,initS_rep I h2⟩
 |.cap k::ps,_,xs,_,h=>by
  simp only[RepPs] at h;obtain⟨v,us,rfl,h1,h2⟩:=h;simp only[initS,RepL,Rep];exact⟨h1,initS_rep I h2⟩
theorem initS_len:∀{ps:List Prm} {xs:PrmsT ps},(initS ps xs).length=ps.length
 |[],_=>rfl
 |.v _::ps,_=>by simp[initS,initS_len]
 |.clo _ _::ps,_=>by simp[initS,initS_len]
 |.cap _::ps,_=>by simp[initS,initS_len]
/-- A FUNCTION WHOSE RUN IS TOLD. -/
theorem fnOk_of_run(hE:TysOk P E)(hF:FnsOk P E){L:Nat→Option LoopD}{g:Nat}{fn:Func}{c:Code}{ps:List Prm}{own:Bool}{outs:List Kd}
  (hf:P.p.funcs[g]?=some fn) (hb:fn.body=some c) (hc:CodeOk P E L c):
  FnOk P g {ps:=ps,own:=own,outs:=outs,F:=fnF E L ps own outs fn.ntmps fn.results.toList c}:=by
 intro xs r h w Wr vs hWr hps
 let B:Base:=⟨Wr,fun b=>w.heap.size≤b,fun _=>none,[]⟩
 have hWr':∀(b o:Nat),WrOf B (fun _=>none) (fun _=>none) b o→Wr b o:=by
  rintro b o (h|⟨t,q,i,h1,_⟩)
  ·exact h
  ·cases h1
 have hk0:Keep w Wr w (WrOf B (fun _=>none) (fun _=>none)):=⟨fun b o v h1 h2=>⟨h1,fun h3=>h2 (hWr' b o h3)⟩⟩;have hrep:=initS_rep (P:=P) (fun _=>none) hps;have hlen:=hrep.length;rw[initS_len] at hlen;have hsim:Sim P B w (init ps xs fn.ntmps) (fun _=>none) {tmps:=vs.toArray++Array.replicate (fn.ntmps-vs.toArray.size) Go.undef,defers:=[]} w:=by
  refine⟨rfl, ?_,(by show RepL P w _ _ [] [];simp only[RepL]),fun _ _=>rfl,(fun t q hq=>by cases hq),(fun t t' q q' i i' b hq=>by cases hq),(fun t q i b hq=>by cases hq),⟨fun b o hb'=>⟨hWr.1 b o hb',fun hm=>by have:=hWr.1 b o hb';have hm:w.heap.size≤b:=hm;omega⟩,hWr.2,fun b hb hm=>by have:=hWr.2.lt hb;have hm:w.heap.size≤b:=hm;omega⟩,fun b hb'=>hb',(fun t i ht=>by cases ht),(fun t i ht=>by cases ht),BelowM.refl _ _⟩;have:(vs.toArray++Array.replicate (fn.ntmps-vs.toArray.size) Go.undef).toList=vs++List.replicate (fn.ntmps-lenA ps) Go.undef:=by
   rw[Array.toList_append,Array.toList_replicate,lenA_eq,hlen];rfl
  show RepL P w _ _ (appA _ _) _;rw[this];exact(hrep.keep hk0 (InfoLe.refl _)).app (RepL.rep _ _ (by simp[Rep]) _)
 refine calls_of_wp hf hb (run_ok hE hF hc h hsim fun e S' I' a' w' h1 h2=> ?_);unfold fin at h1;have key:(match resAs E S' fn.results.toList with
   |none=>none
   |some vs=>match(generalizing:=false) own with
    |false=>toOuts (sealVs S'.heap vs) outs vs
    |true=>ownOuts S'.heap outs vs [])=some r→∃v,(results fn a'.tmps).run P w'=.ok v w'∧∃us,Ending.returned v=.returned (retV us)∧BelowD P.s w.heap.size w w'∧Outs w w' Wr own outs r us:=by
  intro h1;split at h1
  ·cases h1
  ·rename_i ys hys;cases own with
   |false=>
    have h3:=h2.sealVs ys;obtain⟨us,h4,h5⟩:=results_ok hE h3 (show resAs E {S' with heap:=sealVs S'.heap ys} fn.results.toList=some ys from resAs_seal hys)
    ·refine⟨_,h4,us,rfl,h2.below.below, ?_⟩;have h6:=toOuts_ok h3 h1 h5;show RepOuts w' Wr outs us r;have hk:Keep w' (WrOf B (sealVs S'.heap ys) I') w' Wr:=⟨fun b o v g1 g2=>⟨g1,fun g3=>g2 (.inl g3)⟩⟩;have:∀{ks:List Kd} {vs:List Value} {x:OutsT ks},RepOuts w' (WrOf B (sealVs S'.heap ys) I') ks vs x→RepOuts w' Wr ks vs x:=by
      intro ks
      induction ks with
      |nil=>intro vs x h;exact h
      |cons k ks ih=>
       intro vs x h;cases ks with
       |nil=>
        obtain⟨v,g1,g2⟩:=h;exact⟨v,g1,g2.keep hk⟩
       |cons k' ks=>
        obtain⟨v,us,g1,g2,g3⟩:=h;exact⟨v,us,g1,g2.keep hk,ih g3⟩
     exact this h6
   |true=>
    obtain⟨us,h4,h5⟩:=results_ok hE h2 hys;refine⟨_,h4,us,rfl,h2.below.below, ?_⟩;obtain⟨pb,u,hU,hO⟩:=ownOuts_ok h2 h1 h5;refine⟨pb.map (·.2),hO.keep ⟨fun b o v g1 g2=>⟨g1,fun g3=> ?_⟩⟩, ?_, ?_⟩
    ·rcases g3 with g3|g3
     ·exact g2 (.inl g3)
     ·obtain⟨p,hp,rfl⟩:=List.mem_map.1 g3;obtain⟨k,ys',i,e1,e2,e3⟩:=hU.valid p hp;refine g2 (.inr ⟨p.1,_,i,e1,e2, ?_⟩);cases i with
      |box b n=>obtain⟨i',e4,e5⟩:=h2.rows _ _ e1;rw[e2] at e4;obtain rfl:=Option.some.inj e4;exact e5.elim
      |arr k2 n loc N=>
       cases loc with
       |none=>cases e3
       |some l=>exact⟨(Option.some.inj e3).symm,fun e=>by cases e⟩
    ·have:∀(l:List (Nat×Nat)),(∀p∈l,p∈pb)→(l.map (·.1)).Nodup→(l.map (·.2)).Nodup:=by
      intro l
      induction l with
      |nil=>intro _ _;exact List.nodup_nil
      |cons p l ih=>
       intro hm hn;rw[List.map_cons,List.nodup_cons] at hn⊢;refine⟨fun hc=> ?_,ih (fun q hq=>hm q (List.mem_cons_of_mem _ hq)) hn.2⟩;obtain⟨q,hq,e⟩:=List.mem_map.1 hc;obtain⟨k,xs1,i,e1,e2,e3⟩:=hU.valid p (hm p List.mem_cons_self);obtain⟨k',xs2,i',e4,e5,e6⟩:=hU.valid q (hm q (List.mem_cons_of_mem _ hq));have:=h2.inj p.1 q.1 _ _ i i' p.2 e1 (by simp) e4 (by simp) e2 e5 e3 (by rw[e6,e]);exact hn.1 (by rw[this];exact List.mem_map.2 ⟨q,hq,rfl⟩)
     exact this pb (fun _ h=>h) hU.nodup
    ·intro b hb';obtain⟨p,hp,rfl⟩:=List.mem_map.1 hb';obtain⟨k,ys',i,e1,e2,e3⟩:=hU.valid p hp;exact h2.fresh _ _ _ _ e1 (by simp) e2 e3
 cases e with
 |exit id=>cases h1
 |normal=>
  obtain⟨v,h3,h4⟩:=key h1;exact⟨h2.defers,v,h3,h4⟩
 |ret=>
  obtain⟨v,h3,h4⟩:=key h1;exact⟨h2.defers,v,h3,h4⟩
end
end Go.Proofs.YthkflageghfbgaaGreatDoor.Am
/- A function that writes into what is handed in does what its run tells. -/
namespace Go.Proofs.YthkflageghfbgaaGreatDoor.Am
open Go Go.RowKit
section
variable {P : Pg} {Wr0 : Base} {w0 : World} {S S' : St} {I : Info} {a : Act} {w : World} {E : Env}
/-- what the named rows hold in the end -/
theorem ioBackL_spec{H:Nat→Option Row}(d:Nat):∀{k:Kd} {x y:k.T} {j j':Nat},ioBackL H d k x j=some (y,j')→j'=(thawL d k y j).2.2∧∀q∈(thawL d k y j).2.1,H q.1=some q.2
 |.unit,_,_,_,_,h=>by
  simp only[ioBackL] at h;obtain⟨_,rfl⟩:=Prod.mk.inj (Option.some.inj h);exact⟨rfl,fun q hq=>by cases hq⟩
 |.pair p r,x,y,j,j',h=>by
  simp only[ioBackL] at h;split at h
  ·rename_i z hz;split at h
   ·rename_i u hu;obtain⟨e1,e2⟩:=Prod.mk.inj (Option.some.inj h);subst e1;subst e2;obtain⟨h1,h2⟩:=ioBackL_spec d (y:=z.1) (j':=z.2) hz;obtain⟨h3,h4⟩:=ioBackL_spec d (y:=u.1) (j':=u.2) hu;rw[h1] at h3 h4;refine⟨h3,fun q hq=> ?_⟩;simp only[thawL,appA_eq] at hq
    rcases List.mem_append.1 hq with hq|hq
    ·exact h2 q hq
    ·exact h4 q hq
   ·cases h
  ·cases h
 |.sl k,x,y,j,j',h=>by
  simp only[ioBackL] at h;split at h
  ·rename_i k' xs hH;split at h
   ·rename_i xs' hc;obtain⟨e,e2⟩:=castK_self hc;subst e;subst e2;obtain⟨rfl,rfl⟩:=Prod.mk.inj (Option.some.inj h);refine⟨rfl,fun q hq=> ?_⟩;obtain rfl:=List.mem_singleton.1 hq;exact hH
   ·cases h
  ·cases h
 |.int _,_,_,_,_,h=>by
  simp only[ioBackL] at h;obtain⟨_,rfl⟩:=Prod.mk.inj (Option.some.inj h);exact⟨rfl,fun q hq=>by cases hq⟩
 |.bool,_,_,_,_,h=>by
  simp only[ioBackL] at h;obtain⟨_,rfl⟩:=Prod.mk.inj (Option.some.inj h);exact⟨rfl,fun q hq=>by cases hq⟩
 |.str,_,_,_,_,h=>by
  simp only[ioBackL] at h;obtain⟨_,rfl⟩:=Prod.mk.inj (Option.some.inj h);exact⟨rfl,fun q hq=>by cases hq⟩
 |.err,_,_,_,_,h=>by
  simp only[ioBackL] at h;obtain⟨_,rfl⟩:=Prod.mk.inj (Option.some.inj h);exact⟨rfl,fun q hq=>by cases hq⟩
 |.pt,_,_,_,_,h=>by
  simp only[ioBackL] at h;obtain⟨_,rfl⟩:=Prod.mk.inj (Option.some.inj h);exact⟨rfl,fun q hq=>by cases hq⟩
theorem ioBack_spec(hS:Sim P Wr0 w0 S I a w):∀(d:Nat) (ps:List Ar) (xs:ArsT ps) {y:IosT ps},ioBack S.heap d ps xs=some y→
  ∀q∈rowsM d ps (mergeM ps xs y),∃r,S.heap q.1=some r∧Whole r∧∀J i,RowRep P w (WrOf Wr0 S.heap I) I r i→RowRep P w (WrOf Wr0 S.heap I) J q.2 i
 |_,[],_,_,_=>fun q hq=>by cases hq
 |d,.v _::ps,xs,y,h=>ioBack_spec hS (d+1) ps xs.2 h
 |d,.io k::ps,xs,y,h=>by
  simp only[ioBack] at h;split at h
  ·rename_i z hz;split at h
   ·rename_i u hu;obtain rfl:=Option.some.inj h;intro q hq;simp only[mergeM,rowsM,appA_eq] at hq
    rcases List.mem_append.1 hq with hq|hq
    ·have hq2:q∈(thawL d k z.1 0).2.1:=by
      cases k with
      |pair _ _=>exact hq
      |sl _=>exact hq
      |_=>cases hq
     have:=(ioBackL_spec d (y:=z.1) (j':=z.2) hz).2 q hq2;exact⟨q.2,this,thawL_whole d k z.1 0 q hq2,fun J i hi=>thawL_any d k z.1 0 q hq2 i hi⟩
    ·exact ioBack_spec hS (d+1) ps xs.2 hu q hq
   ·cases h
  ·cases h
 |d,.bx k::ps,xs,y,h=>by
  simp only[ioBack] at h;split at h
  ·rename_i cs hH;split at h
   ·rename_i z hz;split at h
    ·rename_i u hu;obtain rfl:=Option.some.inj h;intro q hq;simp only[mergeM,rowsM] at hq
     rcases List.mem_cons.1 hq with rfl|hq
     ·refine⟨_,hH,trivial,fun J i hi=> ?_⟩;cases i with
      |arr=>exact hi.elim
      |box b n=>
       obtain⟨e1,e2,us,e3,e4⟩:=hi;obtain⟨v1,v2,rfl,f1,f2⟩:=hS.toTs hz e3;have:v2=[]:=List.length_eq_zero_iff.1 f2.length.symm;subst this;rw[List.append_nil] at e3 e4;refine⟨?_,e2,v1,leaves_rep f1,e4⟩;rw[e1,e3.length,(leaves_rep (P:=P) (I:=J) f1).length]
     ·exact ioBack_spec hS (d+1) ps xs.2 hu q hq
    ·cases h
   ·cases h
  ·cases h
theorem initMV_len:∀(d:Nat) (ps:List Ar) (xs:ArsT ps),(initMV d ps xs).length=ps.length
 |_,[],_=>rfl
 |d,.v _::ps,xs=>by simp[initMV,initMV_len (d+1) ps]
 |d,.io _::ps,xs=>by simp[initMV,initMV_len (d+1) ps]
 |d,.bx _::ps,xs=>by simp[initMV,initMV_len (d+1) ps]
theorem toksL_lo(d:Nat):∀(k:Kd) (j:Nat),∀t∈(toksL d k j).1,d*16≤t
 |.pair p q,j=>by
  intro t ht;simp only[toksL,appA_eq] at ht
  rcases List.mem_append.1 ht with ht|ht
  ·exact toksL_lo d p _ t ht
  ·exact toksL_lo d q _ t ht
 |.sl _,j=>fun t ht=>by
  obtain rfl:=List.mem_singleton.1 ht;exact Nat.le_add_right _ _
 |.unit,_=>fun t ht=>by cases ht
 |.int _,_=>fun t ht=>by cases ht
 |.bool,_=>fun t ht=>by cases ht
 |.str,_=>fun t ht=>by cases ht
 |.err,_=>fun t ht=>by cases ht
 |.pt,_=>fun t ht=>by cases ht
theorem toksM_lo:∀(d:Nat) (ps:List Ar),∀t∈toksM d ps,d*16≤t
 |_,[]=>fun t ht=>by cases ht
 |d,.v _::ps=>fun t ht=>by have:=toksM_lo (d+1) ps t ht;omega
 |d,.io k::ps=>fun t ht=>by
  simp only[toksM,appA_eq] at ht
  rcases List.mem_append.1 ht with ht|ht
  ·exact toksL_lo d k 0 t ht
  ·have:=toksM_lo (d+1) ps t ht;omega
 |d,.bx _::ps=>fun t ht=>by
  simp only[toksM] at ht
  rcases List.mem_cons.1 ht with rfl|ht
  ·exact Nat.le_refl _
  ·have:=toksM_lo (d+1) ps t ht;omega
/-- A FUNCTION THAT WRITES INTO WHAT IS HANDED IN, WHOSE RUN IS TOLD. -/
theorem fnMOk_of_run(hE:TysOk P E)(hF:FnsOk P E){L:Nat→Option LoopD}{g:Nat}{fn:Func}{c:Code}{ps:List Ar}{own:Bool}{outs:List Kd}
  (hf:P.p.funcs[g]?=some fn) (hb:fn.body=some c) (hc:CodeOk P E L c) (hnd:nodupN (toksM 12500 ps)=true):
  FnMOk P g {ps:=ps,own:=own,outs:=outs,F:=fnMF E L ps own outs fn.ntmps fn.results.toList c}:=by
 intro xs r h w Wr J vs hi;show Calls P g (vs++[]).toArray w _;rw[List.append_nil];have hi:IniM P w Wr J ps xs vs:=hi;have htoks:=rowsM_toks 12500 ps xs;have hnodup:((rowsM 12500 ps xs).map (·.1)).Nodup:=by rw[htoks];exact nodupN_nd hnd
 generalize hrows:rowsM 12500 ps xs=rows at htoks hnodup;have hvals:=hi.vals;have hrw:=hi.rows;have honly:=hi.only;have hinj:=hi.inj;have hfresh:=hi.fresh;rw[hrows] at hvals hrw honly hinj hfresh;have hwhole:∀q∈rows,Whole q.2:=fun q hq=>rowsM_whole 12500 ps xs q (by rw[hrows];exact hq);have hassoc:∀q∈rows,assoc rows q.1=some q.2:=by
  have:∀(l:List (Nat×Row)),(l.map (·.1)).Nodup→∀q∈l,assoc l q.1=some q.2:=by
   intro l
   induction l with
   |nil=>intro _ q hq;cases hq
   |cons x l ih=>
    intro hn q hq;rw[List.map_cons,List.nodup_cons] at hn;simp only[assoc]
    rcases List.mem_cons.1 hq with rfl|hq
    ·exact ifEq_pos rfl _ _
    ·rw[ifEq_neg]
     ·exact ih hn.2 q hq
     ·intro e;exact hn.1 (by rw[e];exact List.mem_map.2 ⟨q,hq,rfl⟩)
  exact this rows hnodup
 let B:Base:=⟨Wr,fun b=>w.heap.size≤b∨ownB J rows b,J,[]⟩
 have hWr:∀(b o:Nat),WrOf B (assoc rows) J b o↔wrM Wr J rows b o:=by
  intro b o;constructor
  ·rintro(g|⟨t,q,i,g1,g2,g3⟩)
   ·exact .inl g
   ·exact .inr ⟨(t,q),assoc_mem g1,i,g2,g3.block⟩
  ·rintro(g|⟨q,hq,i,g1,g2⟩)
   ·exact .inl g
   ·obtain⟨i',k1,k2⟩:=hrw q hq;rw[g1] at k1;obtain rfl:=Option.some.inj k1;exact .inr ⟨q.1,q.2,i,hassoc q hq,g1,(hwhole q hq).owns k2 g2 o⟩
 have hk0:Keep w (wrM Wr J rows) w (WrOf B (assoc rows) J):=⟨fun b o v h1 h2=>⟨h1,fun h3=>h2 ((hWr b o).1 h3)⟩⟩;have hlen:=hvals.length;rw[initMV_len] at hlen;have hsim:Sim P B w (initM ps xs fn.ntmps) J {tmps:=vs.toArray++Array.replicate (fn.ntmps-vs.toArray.size) Go.undef,defers:=[]} w:=by
  have hin:initM ps xs fn.ntmps={slots:=appA (initMV 12500 ps xs) (repA (fn.ntmps-lenA ps) .undef),heap:=assoc rows}:=by unfold initM;rw[hrows]
  rw[hin];refine⟨rfl, ?_,(by show RepL P w _ _ [] [];simp only[RepL]), ?_, ?_, ?_, ?_, ?_,fun b hb'=>.inl hb',fun t i ht _=>ht, ?_,BelowM.refl _ _⟩
  ·have:(vs.toArray++Array.replicate (fn.ntmps-vs.toArray.size) Go.undef).toList=vs++List.replicate (fn.ntmps-lenA ps) Go.undef:=by
    rw[Array.toList_append,Array.toList_replicate,lenA_eq,hlen];rfl
   show RepL P w _ _ (appA _ _) _;rw[this];exact(hvals.keep hk0 (InfoLe.refl _)).app (RepL.rep _ _ (by simp[Rep]) _)
  ·intro t ht;exact honly t (assoc_none ht)
  ·intro t q hq;obtain⟨i,g1,g2⟩:=hrw _ (assoc_mem hq);exact⟨i,g1,g2.keep hk0 (InfoLe.refl _) fun _ _ _=>rfl⟩
  ·intro t t' q q' i i' b g1 _ g2 _ g3 g4 g5 g6;exact hinj _ (assoc_mem g1) _ (assoc_mem g2) i i' b g3 g4 g5 g6
  ·intro t q i b g1 _ g2 g3;exact⟨.inr ⟨(t,q),assoc_mem g1,i,g2,g3⟩,(hfresh _ (assoc_mem g1) i b g2 g3).1⟩
  ·refine⟨fun b o hb'=> ?_,hi.tab.1,fun b hb hm=> ?_⟩
   ·have hlt:=hi.wr b o hb';refine⟨hlt, ?_⟩;rintro(g|⟨q,hq,i,g1,g2⟩)
    ·omega
    ·exact(hfresh q hq i b g1 g2).2 o hb'
   ·have hlt:=hi.tab.1.lt hb
    rcases hm with g|⟨q,hq,i,g1,g2⟩
    ·omega
    ·exact hi.tab.2 q (by rw[hrows];exact hq) i b g1 g2 hb
  ·intro t i ht;have:t∈rows.map (·.1):=by
    by_cases hm:t∈rows.map (·.1)
    ·exact hm
    ·have ht:J t=some i:=ht;rw[honly t hm] at ht;cases ht
   rw[htoks] at this;exact toksM_lo 12500 ps t this
 refine calls_of_wp hf hb (run_ok hE hF hc h hsim fun e S' I' a' w' h1 h2=> ?_);unfold finM at h1;have key:(match resAs E S' fn.results.toList with
   |none=>none
   |some vs=>match ioBack (sealVs S'.heap (appA (bxCells S'.heap 12500 ps) (ifT own [] vs))) 12500 ps xs with
    |none=>none
    |some y=>match(match(generalizing:=false) own with
     |false=>toOuts (sealVs S'.heap (appA (bxCells S'.heap 12500 ps) (ifT own [] vs))) outs vs
     |true=>ownOuts (sealVs S'.heap (appA (bxCells S'.heap 12500 ps) (ifT own [] vs))) outs vs (toksM 12500 ps)) with
     |none=>none
     |some x=>some (x,y))=some r→∃v,(results fn a'.tmps).run P w'=.ok v w'∧∃us bs,Ending.returned v=.returned (retV us)∧BelowM P.s (fun b=>w.heap.size≤b∨ownB J rows b) w w'∧
   (∀q∈rowsM 12500 ps (mergeM ps xs r.2),∃i,J q.1=some i∧RowRep P w' (withB (wrM Wr J rows) bs) J q.2 i)∧
   OutsM w w' (wrM Wr J rows) own outs r.1 us bs:=by
  intro h1;split at h1
  ·cases h1
  ·rename_i ys hys;generalize hH:sealVs S'.heap (appA (bxCells S'.heap 12500 ps) (ifT own [] ys))=H at h1;have h3:Sim P B w {S' with heap:=H} I' a' w':=by rw[←hH];exact h2.sealVs _
   split at h1
   ·cases h1
   ·rename_i y hy;obtain⟨us,h4,h5⟩:=results_ok hE h3 (show resAs E {S' with heap:=H} fn.results.toList=some ys from by rw[←hH];exact resAs_seal hys);have hio:=ioBack_spec h3 12500 ps xs hy;have hkeys:∀{z:ArsT ps},(rowsM 12500 ps z).map (·.1)=rows.map (·.1):=by intro z;rw[rowsM_toks,htoks]
    -- a named row in the end
    have named:∀q∈rowsM 12500 ps (mergeM ps xs y),∃r i,H q.1=some r∧Whole r∧J q.1=some i∧I' q.1=some i∧RowRep P w' (WrOf B H I') I' r i∧∀J',RowRep P w' (WrOf B H I') J' q.2 i:=by
     intro q hq;obtain⟨r0,g1,g2,g3⟩:=hio q hq;have hm:q.1∈rows.map (·.1):=by rw[←hkeys];exact List.mem_map.2 ⟨q,hq,rfl⟩
     obtain⟨q0,hq0,e0⟩:=List.mem_map.1 hm;obtain⟨i,k1,_⟩:=hrw q0 hq0;rw[e0] at k1;have k2:I' q.1=some i:=h3.nm q.1 i k1 (by rw[g1];simp);obtain⟨i',k3,k4⟩:=h3.rows q.1 r0 g1;rw[k2] at k3;obtain rfl:=Option.some.inj k3;exact⟨r0,i,g1,g2,k1,k2,k4,fun J'=>g3 J' i k4⟩
    have hownH:∀b o,ownB J rows b→WrOf B H I' b o:=by
     rintro b o ⟨q,hq,i,g1,g2⟩;have hm:q.1∈(rowsM 12500 ps (mergeM ps xs y)).map (·.1):=by rw[hkeys];exact List.mem_map.2 ⟨q,hq,rfl⟩
     obtain⟨q',hq',e⟩:=List.mem_map.1 hm;obtain⟨r0,i',k1,k2,k3,k4,k5,_⟩:=named q' hq';rw[e] at k1 k3 k4;rw[g1] at k3;obtain rfl:=Option.some.inj k3;exact .inr ⟨q.1,r0,i,k1,k4,k2.owns k5 g2 o⟩
    have hsub:∀b o,wrM Wr J rows b o→WrOf B H I' b o:=by
     rintro b o (g|g)
     ·exact .inl g
     ·exact hownH b o g
    cases own with
    |false=>
     simp only at h1;split at h1
     ·cases h1
     ·rename_i z hz;obtain rfl:=Option.some.inj h1;refine⟨_,h4,us,[],rfl,h3.below, ?_,rfl, ?_⟩
      ·intro q hq;obtain⟨r0,i,k1,k2,k3,k4,k5,k6⟩:=named q hq;refine⟨i,k3,(k6 J).keep ⟨fun b o v g1 g2=>⟨g1,fun g3=>g2 ?_⟩⟩ (InfoLe.refl _) fun _ _ _=>rfl⟩
       rcases g3 with g3|g3
       ·exact hsub b o g3
       ·cases g3
      ·have h6:=toOuts_ok h3 hz h5;have hk:Keep w' (WrOf B H I') w' (wrM Wr J rows):=⟨fun b o v g1 g2=>⟨g1,fun g3=>g2 (hsub b o g3)⟩⟩;have:∀{ks:List Kd} {vs:List Value} {x:OutsT ks},RepOuts w' (WrOf B H I') ks vs x→RepOuts w' (wrM Wr J rows) ks vs x:=by
        intro ks
        induction ks with
        |nil=>intro vs x h;exact h
        |cons k ks ih=>
         intro vs x h;cases ks with
         |nil=>
          obtain⟨v,g1,g2⟩:=h;exact⟨v,g1,g2.keep hk⟩
         |cons k' ks=>
          obtain⟨v,us,g1,g2,g3⟩:=h;exact⟨v,us,g1,g2.keep hk,ih g3⟩
       exact this h6
    |true=>
     simp only at h1;split at h1
     ·cases h1
     ·rename_i z hz;obtain rfl:=Option.some.inj h1;obtain⟨pb,u,hU,hO⟩:=ownOuts_ok h3 hz h5;have hpb:∀p∈pb,p.1∉rows.map (·.1):=by
       intro p hp;rw[htoks];exact hU.new p hp
      have hbs:∀b∈pb.map (·.2),∀o,WrOf B H I' b o:=by
       intro b hb' o;obtain⟨p,hp,rfl⟩:=List.mem_map.1 hb';obtain⟨k,ys',i,e1,e2,e3⟩:=hU.valid p hp;refine .inr ⟨p.1,_,i,e1,e2, ?_⟩;obtain⟨i',e4,e5⟩:=h3.rows _ _ e1;rw[e2] at e4;obtain rfl:=Option.some.inj e4;exact Whole.owns (r:=.arr k ys' false) trivial e5 e3 o
      have hk:Keep w' (WrOf B H I') w' (withB (wrM Wr J rows) (pb.map (·.2))):=⟨fun b o v g1 g2=>⟨g1,fun g3=>g2 (by
       rcases g3 with g3|g3
       ·exact hsub b o g3
       ·exact hbs b g3 o)⟩⟩
      refine⟨_,h4,us,pb.map (·.2),rfl,h3.below, ?_,hO.keep hk, ?_, ?_⟩
      ·intro q hq;obtain⟨r0,i,k1,k2,k3,k4,k5,k6⟩:=named q hq;exact⟨i,k3,(k6 J).keep hk (InfoLe.refl _) fun _ _ _=>rfl⟩
      ·have:∀(l:List (Nat×Nat)),(∀p∈l,p∈pb)→(l.map (·.1)).Nodup→(l.map (·.2)).Nodup:=by
        intro l
        induction l with
        |nil=>intro _ _;exact List.nodup_nil
        |cons p l ih=>
         intro hm hn;rw[List.map_cons,List.nodup_cons] at hn⊢;refine⟨fun hc=> ?_,ih (fun q hq=>hm q (List.mem_cons_of_mem _ hq)) hn.2⟩;obtain⟨q,hq,e⟩:=List.mem_map.1 hc;obtain⟨k,xs1,i,e1,e2,e3⟩:=hU.valid p (hm p List.mem_cons_self);obtain⟨k',xs2,i',e4,e5,e6⟩:=hU.valid q (hm q (List.mem_cons_of_mem _ hq));have:=h3.inj p.1 q.1 _ _ i i' p.2 e1 (by simp) e4 (by simp) e2 e5 e3 (by rw[e6,e]);exact hn.1 (by rw[this];exact List.mem_map.2 ⟨q,hq,rfl⟩)
       exact this pb (fun _ h=>h) hU.nodup
      ·intro b hb';obtain⟨p,hp,rfl⟩:=List.mem_map.1 hb';obtain⟨k,ys',i,e1,e2,e3⟩:=hU.valid p hp;obtain⟨g1,g2⟩:=h3.fresh _ _ _ _ e1 (by simp) e2 e3;refine⟨?_,g2⟩
       rcases g1 with g1|⟨q,hq,j,k1,k2⟩
       ·exact g1
       ·exfalso;have hm:q.1∈(rowsM 12500 ps (mergeM ps xs y)).map (·.1):=by rw[hkeys];exact List.mem_map.2 ⟨q,hq,rfl⟩
        obtain⟨q',hq',e⟩:=List.mem_map.1 hm;obtain⟨r0,i',m1,m2,m3,m4,m5,_⟩:=named q' hq';rw[e] at m1 m3 m4;rw[k1] at m3;obtain rfl:=Option.some.inj m3;have:=h3.inj p.1 q.1 _ _ i j p.2 e1 (by simp) m1 m2.alive e2 m4 e3 k2;exact hpb p hp (by rw[this];exact List.mem_map.2 ⟨q,hq,rfl⟩)
 cases e with
 |exit id=>cases h1
 |normal=>
  obtain⟨v,h3,h4⟩:=key h1;exact⟨h2.defers,v,h3,h4⟩
 |ret=>
  obtain⟨v,h3,h4⟩:=key h1;exact⟨h2.defers,v,h3,h4⟩
end
end Go.Proofs.YthkflageghfbgaaGreatDoor.Am
/- A function that hands back a new box. -/
namespace Go.Proofs.YthkflageghfbgaaGreatDoor.Am
open Go Go.RowKit
section
variable {P : Pg} {E : Env}
/-- A FUNCTION THAT HANDS BACK A NEW BOX, WHOSE RUN IS TOLD. -/
theorem fnBOk_of_run(hE:TysOk P E)(hF:FnsOk P E){L:Nat→Option LoopD}{g:Nat}{fn:Func}{c:Code}{ps:List Prm}{k:Kd}
  (hf:P.p.funcs[g]?=some fn) (hb:fn.body=some c) (hc:CodeOk P E L c):
  FnBOk P g {ps:=ps,k:=k,F:=fnBF E L ps k fn.ntmps fn.results.toList c}:=by
 intro xs r h w Wr vs hWr hps
 let B:Base:=⟨Wr,fun b=>w.heap.size≤b,fun _=>none,[]⟩
 have hWr':∀(b o:Nat),WrOf B (fun _=>none) (fun _=>none) b o→Wr b o:=by
  rintro b o (h|⟨t,q,i,h1,_⟩)
  ·exact h
  ·cases h1
 have hk0:Keep w Wr w (WrOf B (fun _=>none) (fun _=>none)):=⟨fun b o v h1 h2=>⟨h1,fun h3=>h2 (hWr' b o h3)⟩⟩;have hrep:=initS_rep (P:=P) (fun _=>none) hps;have hlen:=hrep.length;rw[initS_len] at hlen;have hsim:Sim P B w (init ps xs fn.ntmps) (fun _=>none) {tmps:=vs.toArray++Array.replicate (fn.ntmps-vs.toArray.size) Go.undef,defers:=[]} w:=by
  refine⟨rfl, ?_,(by show RepL P w _ _ [] [];simp only[RepL]),fun _ _=>rfl,(fun t q hq=>by cases hq),(fun t t' q q' i i' b hq=>by cases hq),(fun t q i b hq=>by cases hq),⟨fun b o hb'=>⟨hWr.1 b o hb',fun hm=>by have:=hWr.1 b o hb';have hm:w.heap.size≤b:=hm;omega⟩,hWr.2,fun b hb hm=>by have:=hWr.2.lt hb;have hm:w.heap.size≤b:=hm;omega⟩,fun b hb'=>hb',(fun t i ht=>by cases ht),(fun t i ht=>by cases ht),BelowM.refl _ _⟩;have:(vs.toArray++Array.replicate (fn.ntmps-vs.toArray.size) Go.undef).toList=vs++List.replicate (fn.ntmps-lenA ps) Go.undef:=by
   rw[Array.toList_append,Array.toList_replicate,lenA_eq,hlen];rfl
  show RepL P w _ _ (appA _ _) _;rw[this];exact(hrep.keep hk0 (InfoLe.refl _)).app (RepL.rep _ _ (by simp[Rep]) _)
 refine calls_of_wp hf hb (run_ok hE hF hc h hsim fun e S' I' a' w' h1 h2=> ?_);unfold finB at h1;have key:(match resAs E S' fn.results.toList with
   |some [.ptr t c]=>ifEq c 0 (match S'.heap t with
    |some (.box cs)=>match toTs true (sealVs S'.heap cs) k cs with|some (x,[])=>some x|_=>none
    |_=>none) none
   |_=>none)=some r→∃v,(results fn a'.tmps).run P w'=.ok v w'∧∃b cs,Ending.returned v=.returned (.pointer (some ⟨b,0,none⟩))∧BelowD P.s w.heap.size w w'∧(w.heap.size≤b∧b<w'.heap.size)∧NoFz w' b k.size 0∧
   RepC w' (withB Wr [b]) k cs r∧∀j (h:j<cs.length),w'.cell? ⟨b,j,none⟩=some cs[j]:=by
  intro h1;split at h1
  ·rename_i t c' hys;obtain⟨rfl,h1⟩:=ifEq_yes h1;split at h1
   ·rename_i cs hH;split at h1
    ·rename_i x hx;obtain rfl:=Option.some.inj h1;have h3:=h2.sealVs cs;have hH':Am.sealVs S'.heap cs t=some (.box cs):=sealVs_box cs hH;obtain⟨us,h4,h5⟩:=results_ok hE h2 hys
     match us,h5 with
     |[],h5=>simp only[RepL] at h5
     |_::_::_,h5=>simp only[RepL] at h5;exact h5.2.elim
     |[u],h5=>
      simp only[RepL] at h5;have hu:=h5.1;obtain⟨i,hi,hrow⟩:=h3.rows t _ hH';simp only[Rep,hi] at hu;cases i with
      |arr=>exact hrow.elim
      |box b n=>
       have hu:u=.pointer (some ⟨b,0,none⟩):=hu;obtain⟨e1,e2,vs',e3,e4⟩:=hrow;obtain⟨v1,v2,rfl,f1,f2⟩:=h3.toTs (st:=true) hx e3;have:v2=[]:=List.length_eq_zero_iff.1 f2.length.symm;subst this;rw[List.append_nil] at e3 e4;have hfr:=h3.fresh t _ _ b hH' (by simp) hi rfl;have hn:n=k.size:=by rw[e1,e3.length,f1.length]
       refine⟨_,h4,b,v1,by rw[hu];rfl,h2.below.below,⟨hfr.1,hfr.2⟩,by rw[←hn];exact e2, ?_,e4⟩;refine f1.keep ⟨fun b' o' v g1 g2=>⟨g1,fun g3=>g2 ?_⟩⟩
       rcases g3 with g3|g3
       ·exact .inl g3
       ·rw[List.mem_singleton] at g3;subst g3;exact .inr ⟨t,_,_,hH',hi,rfl⟩
    ·cases h1
   ·cases h1
  ·cases h1
 cases e with
 |exit id=>cases h1
 |normal=>
  obtain⟨v,h3,h4⟩:=key h1;exact⟨h2.defers,v,h3,h4⟩
 |ret=>
  obtain⟨v,h3,h4⟩:=key h1;exact⟨h2.defers,v,h3,h4⟩
end
end Go.Proofs.YthkflageghfbgaaGreatDoor.Am
/- Loops. -/
namespace Go.Proofs.YthkflageghfbgaaGreatDoor.Am
open Go Go.RowKit

section iter
variable {σ ρ : Type}
theorem iter_mono{f:σ→Option (σ⊕ρ)}:∀{n m:Nat} {s:σ} {x:ρ},iter f n s=some x→n≤m→iter f m s=some x
 |0,_,_,_,h,_=>by cases h
 |n+1,0,_,_,_,hm=>by omega
 |n+1,m+1,s,x,h,hm=>by
  simp only[iter] at h⊢;obtain⟨r,h1,h2⟩:=Option.bind_eq_some_iff.1 h;refine Option.bind_eq_some_iff.2 ⟨r,h1, ?_⟩;cases r with
  |inl s'=>exact iter_mono (n:=n) h2 (by omega)
  |inr y=>exact h2
theorem loopF_some{f:σ→Option (σ⊕ρ)}{s:σ}{x:ρ}:loopF f s=some x↔∃n,iter f n s=some x:=by
 unfold loopF;constructor
 ·intro h;split at h
  ·rename_i hh;obtain rfl:=Option.some.inj h;exact Classical.choose_spec hh
  ·cases h
 ·rintro⟨n,hn⟩;have hh:∃x n,iter f n s=some x:=⟨x,n,hn⟩;rw[dif_pos hh];obtain⟨m,hm⟩:=Classical.choose_spec hh;have h1:=iter_mono hm (Nat.le_max_left m n);have h2:=iter_mono hn (Nat.le_max_right m n);rw[h1] at h2;exact h2
/-- a loop is its first round and the loop -/
theorem loopF_eq(f:σ→Option (σ⊕ρ))(s:σ):loopF f s=(f s).bind fun r=>match r with|.inl s'=>loopF f s'|.inr x=>some x:=by
 apply Option.ext;intro x;constructor
 ·intro h;obtain⟨n,hn⟩:=loopF_some.1 h;cases n with
  |zero=>cases hn
  |succ n=>
   simp only[iter] at hn;obtain⟨r,h1,h2⟩:=Option.bind_eq_some_iff.1 hn;refine Option.bind_eq_some_iff.2 ⟨r,h1, ?_⟩;cases r with
   |inl s'=>exact loopF_some.2 ⟨n,h2⟩
   |inr y=>exact h2
 ·intro h;obtain⟨r,h1,h2⟩:=Option.bind_eq_some_iff.1 h;cases r with
  |inl s'=>
   obtain⟨n,hn⟩:=loopF_some.1 h2;exact loopF_some.2 ⟨n+1,by simp only[iter];exact Option.bind_eq_some_iff.2 ⟨_,h1,hn⟩⟩
  |inr y=>exact loopF_some.2 ⟨1,by simp only[iter];exact Option.bind_eq_some_iff.2 ⟨_,h1,h2⟩⟩
end iter

/-! ### exits -/
noncomputable def loopStep(n:Nat)(E:Env)(L:Nat→Option LoopD)(b:Code)(sh:List Fm)(xs:List (Ex×List Fm))(s:FmsT sh):Option (FmsT sh⊕XsT xs):=
 run E L b (embS n sh s) fun e S'=>match e with
  |.normal=>getSK n sh S' fun s'=>some (.inl s')
  |e=>getXK n xs e S' fun x=>some (.inr x)
section
variable {P : Pg} {Wr0 : Base} {w0 : World} {S : St} {I : Info} {a : Act} {w : World} {E : Env}
theorem exEq_spec:∀{e e':Ex},exEq e e'=true→e=e'
 |.normal,.normal,_=>rfl
 |.ret,.ret,_=>rfl
 |.exit a,.exit b,h=>by rw[Nat.eq_of_beq_eq_true h]
 |.normal,.ret,h=>by cases h
 |.normal,.exit _,h=>by cases h
 |.ret,.normal,h=>by cases h
 |.ret,.exit _,h=>by cases h
 |.exit _,.normal,h=>by cases h
 |.exit _,.ret,h=>by cases h
theorem getX_ok(hS:Sim P Wr0 w0 S I a w){e:Ex}{R:Type}{K:Ex→St→Option R}{r:R}{n:Nat}:∀{xs:List (Ex×List Fm)} (_:okXs xs=true) {d:XsT xs},getX n xs e S=some d→withX n xs d K=some r→∃S' J,K e S'=some r∧Sim P Wr0 w0 S' J a w
 |[],_,_,h,_=>by simp[getX] at h
 |[x],hx,d,h,hK=>by
  simp only[okXs] at hx;simp only[getX] at h;obtain⟨h1,h2⟩:=ifT_some h;have hx1:nodupN (toksF x.2)=true:=by
   cases e:nodupN (toksF x.2) with
   |true=>rfl
   |false=>rw[e] at hx;cases hx
  obtain⟨J,hJ⟩:=getS_ok hS hx1 h2;exact⟨_,J,by rw[exEq_spec h1];exact hK,hJ⟩
 |x::y::xs,hx,d,h,hK=>by
  have hx1:nodupN (toksF x.2)=true∧okXs (y::xs)=true:=by
   rw[okXs] at hx;cases e:nodupN (toksF x.2) with
   |true=>rw[e] at hx;exact⟨rfl,hx⟩
   |false=>rw[e] at hx;cases hx
  simp only[getX] at h;cases he:exEq e x.1 with
  |true=>
   rw[he] at h;simp only[ifT] at h;split at h
   ·rename_i d' hd;obtain rfl:=Option.some.inj h;obtain⟨J,hJ⟩:=getS_ok hS hx1.1 hd;exact⟨_,J,by rw[exEq_spec he];exact hK,hJ⟩
   ·cases h
  |false=>
   rw[he] at h;simp only[ifT] at h;split at h
   ·rename_i d' hd;obtain rfl:=Option.some.inj h;exact getX_ok hS hx1.2 hd hK
   ·cases h
theorem loopOk(hE:TysOk P E)(hF:FnsOk P E){L L':Nat→Option LoopD}{n:Nat}{b:Code}{sh:List Fm}{xs:List (Ex×List Fm)}(hc:CodeOk P E L' b)(hsh:nodupN (toksF sh)=true)(hxs:okXs xs=true)
  {f:FmsT sh→Option (FmsT sh⊕XsT xs)} (hf:loopStep n E L' b sh xs=f) (hL:L (firstId b)=some ⟨n,sh,xs,f⟩):LoopOk P L b:=by
 subst hf;intro d hd R K r Wr0 w0 S s x hs h1 h2 I a w hS Q hQ;rw[hL] at hd;obtain rfl:=Option.some.inj hd;obtain⟨m,hn⟩:=loopF_some.1 h1;obtain⟨J,hJ⟩:=getS_ok hS hsh hs;refine wp_loop_rounds m ?_;clear h1 hs hS
 induction m generalizing s J a w with
 |zero=>cases hn
 |succ m ih=>
  simp only[iter] at hn;obtain⟨r',h3,h4⟩:=Option.bind_eq_some_iff.1 hn;rw[rounds_succ];refine run_ok hE hF hc h3 hJ fun e' S2 I2 a2 w2 h5 h6=> ?_;have out:(getXK n xs e' S2 fun x=>some (Sum.inr x:FmsT sh⊕XsT xs))=some r'→Q (toExit e') a2 w2:=by
   intro h5;rw[getXK_eq] at h5;obtain⟨d,hd,h5⟩:=Option.bind_eq_some_iff.1 h5;obtain rfl:=Option.some.inj h5;obtain rfl:=Option.some.inj h4;obtain⟨S3,J2,g1,g2⟩:=getX_ok h6 hxs hd h2;exact hQ _ _ _ _ _ g1 g2
  cases e' with
  |normal=>
   simp only at h5;rw[getSK_eq] at h5;obtain⟨s2,hs2,h5⟩:=Option.bind_eq_some_iff.1 h5;obtain rfl:=Option.some.inj h5;obtain⟨J2,g2⟩:=getS_ok h6 hsh hs2;exact ih a2 w2 s2 h4 J2 g2
  |ret=>exact out h5
  |exit id=>exact out h5
end
end Go.Proofs.YthkflageghfbgaaGreatDoor.Am
/- Boolean checks: the table of types; the loops and the drawn regions of a code. -/
namespace Go.Proofs.YthkflageghfbgaaGreatDoor.Am
open Go Go.RowKit
def ikB(a b:IntKind):Bool:=decide (a=b)
/-- a zero value's cell -/
def zB:Value→Value→Bool
 |.int k x,.int k' y=>ifT (ikB k k') (decide (x=y)) false
 |.bool a,.bool b=>match a,b with|true,true=>true|false,false=>true|_,_=>false
 |.string a,.string b=>Nat.beq a.size 0&&Nat.beq b.size 0
 |.nilIface,.nilIface=>true
 |.slice none a b,.slice none c d=>Nat.beq a c&&Nat.beq b d
 |_,_=>false
def zsB:List Value→List Value→Bool
 |[],[]=>true
 |x::l,y::k=>ifT (zB x y) (zsB l k) false
 |_,_=>false
def notAgg:Value→Bool
 |.agg _=>false
 |_=>true
def eqB:Bool→Bool→Bool
 |true,true=>true
 |false,false=>true
 |_,_=>false
def varOkB(P:Pg)(t:TypeId)(k:Kd):Bool:=
 match P.p.info? t,P.p.underlying t with
 |some i,some ut=>match i.zero with
  |some z=>ifT (Nat.beq i.size k.size) (ifT (zsB z.cells.toList k.zc) (ifT (ifT k.isAgg true (notAgg z)) (eqB (aggD ut) k.isAgg) false) false) false
  |none=>false
 |_,_=>false
def kdB(a b:Kd):Bool:=decide (a=b)
def nilB:List (Nat×Kd)→Bool
 |[]=>true
 |_=>false
def fldsB(P:Pg)(fs:Array Field):Nat→List (Nat×Kd)→Bool
 |_,[]=>true
 |n,ck::l=>match fs[n]? with
  |some fld=>ifT (Nat.beq fld.offset ck.1) (ifT (varOkB P fld.type ck.2) (ifT (Nat.blt 0 ck.2.size) (fldsB P fs (n+1) l) false) false) false
  |none=>false
def eltB(P:Pg)(e:TypeId):Kd→Bool
 |.int k=>match P.p.underlying e with
  |some (.int k')=>ikB k k'
  |_=>false
 |_=>true
theorem eltB_spec{P:Pg}{e:TypeId}{q:Kd}(h:eltB P e q=true):∀k,q=.int k→P.p.underlying e=some (.int k):=by
 intro k hk;subst hk;simp only[eltB] at h;split at h
 ·rename_i k' hu;rw[hu,of_decide_eq_true h]
 ·cases h
def utOkB(P:Pg)(d:TyD):TypeDesc→Bool
 |.int k=>ifT (nilB d.flds) (kdB d.kd (.int k)) false
 |.bool=>ifT (nilB d.flds) (kdB d.kd .bool) false
 |.string=>ifT (nilB d.flds) (kdB d.kd .str) false
 |.interface _=>ifT (nilB d.flds) (kdB d.kd .err) false
 |.slice e=>ifT (nilB d.flds) (ifT (kdB d.kd (.sl d.elt)) (ifT (varOkB P e d.elt) (match P.p.info? e with
  |some i=>ifT (Nat.beq i.bytes d.bytes) (ifT (Nat.blt 0 d.elt.size) (ifT (Nat.blt 0 d.bytes) (eltB P e d.elt) false) false) false
  |none=>false) false) false) false
 |.struct fs=>ifT d.kd.isAgg (ifT (Nat.beq fs.size d.flds.length) (fldsB P fs 0 d.flds) false) false
 |.array _ _=>ifT (nilB d.flds) (ifT d.kd.isAgg (!Nat.beq d.arr 0) false) false
 |_=>false
def arB(P:Pg)(t:TypeId)(d:TyD):Bool:=
 ifT (Nat.beq d.arr 0) true (match P.p.underlying t with
  |some (.array n e)=>ifT (Nat.beq n d.arr) (ifT (varOkB P e d.elt) (ifT (Nat.beq d.elt.size 1) (!d.elt.isAgg) false) false) false
  |_=>false)
def eqFB(P:Pg):Nat→List (Nat×Kd)→List Field→Bool
 |_,[],[]=>true
 |i,p::ps,f::fs=>ifT (ifT (!(f.name== "_")) (ifT (Nat.beq f.offset i) (ifT (varOkB P f.type p.2) (match p.2,P.p.underlying f.type with
  |.int _,some (.int _)=>true
  |.str,some .string=>true
  |.bool,some .bool=>true
  |_,_=>false) false) false) false) (eqFB P (i+1) ps fs) false
 |_,_,_=>false
def eqB'(P:Pg)(t:TypeId)(d:TyD):Bool:=match d.eq with
 |false=>true
 |true=>ifT (!P.p.stoodInHeld t) (ifT (!P.p.eqGuardType P.p.depth t) (match P.p.underlying t with|some (.struct fs)=>eqFB P 0 d.flds fs.toList|_=>false) false) false
def tyOkB(P:Pg)(t:TypeId)(d:TyD):Bool:=
 ifT (varOkB P t d.kd) (ifT (arB P t d) (ifT (eqB' P t d) (match P.p.underlying t with|some u=>utOkB P d u|none=>false) false) false) false
def tysOkB(P:Pg):List (Nat×TyD)→Bool
 |[]=>true
 |p::l=>ifT (tyOkB P p.1 p.2) (tysOkB P l) false
theorem ifT_both{a b:Bool}(h:ifT a b false=true):a=true∧b=true:=by
 cases a with
 |true=>exact⟨rfl,h⟩
 |false=>cases h
theorem size0{a:ByteArray}(h:Nat.beq a.size 0=true):a=ByteArray.empty:=by
 have h:=Nat.eq_of_beq_eq_true h;exact ByteArray.ext (Array.eq_empty_of_size_eq_zero h)
theorem zB_spec{x y:Value}(h:zB x y=true):x=y:=by
 unfold zB at h;split at h
 ·obtain⟨h1,h2⟩:=ifT_both h;rw[of_decide_eq_true h1,of_decide_eq_true h2]
 ·split at h<;>first|rfl|cases h
 ·rw[Bool.and_eq_true] at h;rw[size0 h.1,size0 h.2]
 ·rfl
 ·rw[Bool.and_eq_true] at h;rw[Nat.eq_of_beq_eq_true h.1,Nat.eq_of_beq_eq_true h.2]
 ·cases h
theorem zsB_spec:∀{l k:List Value},zsB l k=true→l=k
 |[],[],_=>rfl
 |x::l,y::k,h=>by
  simp only[zsB] at h;obtain⟨h1,h2⟩:=ifT_both h;rw[zB_spec h1,zsB_spec h2]
 |[],_::_,h=>by simp[zsB] at h
 |_::_,[],h=>by simp[zsB] at h
theorem eqB_spec{a b:Bool}(h:eqB a b=true):a=b:=by
 cases a<;>cases b<;>first|rfl|cases h
theorem varOkB_spec{P:Pg}{t:TypeId}{k:Kd}(h:varOkB P t k=true):VarOk P t k:=by
 unfold varOkB at h;split at h
 ·rename_i i ut hi hu;split at h
  ·rename_i z hz;obtain⟨h1,h⟩:=ifT_both h;obtain⟨h2,h⟩:=ifT_both h;obtain⟨h3,h4⟩:=ifT_both h;refine⟨⟨i,hi,Nat.eq_of_beq_eq_true h1,z,hz,zsB_spec h2,fun hk=> ?_⟩,ut,hu,eqB_spec h4⟩;rw[hk] at h3;have h3:notAgg z=true:=h3;cases z<;>first|rfl|cases h3
  ·cases h
 ·cases h
theorem fldsB_spec{P:Pg}{fs:Array Field}:∀{l:List (Nat×Kd)} {n:Nat},fldsB P fs n l=true→∀f ck,getA none (mapA some l) f=some ck→∃fld,fs[n+f]?=some fld∧fld.offset=ck.1∧VarOk P fld.type ck.2∧0<ck.2.size
 |[],_,_,f,ck,h=>by simp[mapA,getA] at h
 |c::l,n,h,f,ck,hf=>by
  simp only[fldsB] at h;split at h
  ·rename_i fld hfld;obtain⟨h1,h⟩:=ifT_both h;obtain⟨h2,h⟩:=ifT_both h;obtain⟨h3,h4⟩:=ifT_both h;cases f with
   |zero=>
    simp only[mapA,getA] at hf;obtain rfl:=Option.some.inj hf;exact⟨fld,hfld,Nat.eq_of_beq_eq_true h1,varOkB_spec h2,Nat.le_of_ble_eq_true h3⟩
   |succ f=>
    simp only[mapA,getA] at hf;obtain⟨g,hg⟩:=fldsB_spec h4 f ck hf;exact⟨g,by rw[←Nat.add_assoc,Nat.add_right_comm];exact hg.1,hg.2⟩
  ·cases h
theorem nilB_spec{l:List (Nat×Kd)}(h:nilB l=true):l=[]:=by
 cases l with
 |nil=>rfl
 |cons=>cases h
theorem utOkB_spec{P:Pg}{d:TyD}{u:TypeDesc}(h:utOkB P d u=true):UtOk P d u:=by
 cases u<;>simp only[utOkB] at h
 case int k=>obtain⟨h1,h2⟩:=ifT_both h;exact⟨nilB_spec h1,of_decide_eq_true h2⟩
 case bool=>obtain⟨h1,h2⟩:=ifT_both h;exact⟨nilB_spec h1,of_decide_eq_true h2⟩
 case string=>obtain⟨h1,h2⟩:=ifT_both h;exact⟨nilB_spec h1,of_decide_eq_true h2⟩
 case interface=>obtain⟨h1,h2⟩:=ifT_both h;exact⟨nilB_spec h1,of_decide_eq_true h2⟩
 case slice e=>
  obtain⟨h1,h⟩:=ifT_both h;obtain⟨h2,h⟩:=ifT_both h;obtain⟨h3,h⟩:=ifT_both h;split at h
  ·rename_i i hi;obtain⟨h4,h⟩:=ifT_both h;obtain⟨h5,h⟩:=ifT_both h;obtain⟨h6,h7⟩:=ifT_both h;exact⟨nilB_spec h1,of_decide_eq_true h2,varOkB_spec h3,by rw[hi];exact congrArg some (Nat.eq_of_beq_eq_true h4),Nat.le_of_ble_eq_true h5,Nat.le_of_ble_eq_true h6,eltB_spec h7⟩
  ·cases h
 case struct fs=>
  obtain⟨h1,h⟩:=ifT_both h;obtain⟨h3,h2⟩:=ifT_both h;exact⟨h1,Nat.eq_of_beq_eq_true h3,fun f ck hf=>by have:=fldsB_spec h2 f ck hf;rwa [Nat.zero_add] at this⟩
 case array n e=>
  obtain⟨h1,h2⟩:=ifT_both h;obtain⟨h2,h3⟩:=ifT_both h2;exact⟨nilB_spec h1,h2,by simpa using h3⟩
 all_goals cases h
theorem arB_spec{P:Pg}{t:TypeId}{d:TyD}(h:arB P t d=true)(h0:d.arr≠0):∃e,P.p.underlying t=some (.array d.arr e)∧VarOk P e d.elt∧d.elt.isAgg=false∧d.elt.size=1:=by
 unfold arB at h;cases hb:Nat.beq d.arr 0 with
 |true=>exact absurd (Nat.eq_of_beq_eq_true hb) h0
 |false=>
  rw[hb] at h;dsimp only[ifT] at h;split at h
  ·rename_i n e hu;obtain⟨h1,h⟩:=ifT_both h;obtain⟨h2,h⟩:=ifT_both h;obtain⟨h3,h4⟩:=ifT_both h;have h1:=Nat.eq_of_beq_eq_true h1;subst h1;exact⟨e,hu,varOkB_spec h2,by simpa using h4,Nat.eq_of_beq_eq_true h3⟩
  ·cases h
theorem eqFB_spec{P:Pg}:∀{i:Nat} {ps:List (Nat×Kd)} {fs:List Field},eqFB P i ps fs=true→EqF P i ps fs
 |_,[],[],_=>by simp only[EqF]
 |i,p::ps,f::fs,h=>by
  simp only[eqFB] at h;obtain⟨h1,h2⟩:=ifT_both h;obtain⟨h3,h1⟩:=ifT_both h1;obtain⟨h4,h1⟩:=ifT_both h1;obtain⟨h5,h1⟩:=ifT_both h1;simp only[EqF];refine⟨⟨by simpa using h3,Nat.eq_of_beq_eq_true h4,varOkB_spec h5, ?_⟩,eqFB_spec h2⟩;generalize p.2=k at h1;split at h1
  ·rename_i hu;exact⟨rfl,_,hu,trivial⟩
  ·rename_i hu;exact⟨rfl,_,hu,trivial⟩
  ·rename_i hu;exact⟨rfl,_,hu,trivial⟩
  ·cases h1
 |_,[],_::_,h=>by simp only[eqFB] at h;cases h
 |_,_::_,[],h=>by simp only[eqFB] at h;cases h
theorem eqB'_spec{P:Pg}{t:TypeId}{d:TyD}(h:eqB' P t d=true):d.eq=true→P.p.stoodInHeld t=false∧P.p.eqGuardType P.p.depth t=false∧∃fs,P.p.underlying t=some (.struct fs)∧EqF P 0 d.flds fs.toList:=by
 intro he;unfold eqB' at h;rw[he] at h;obtain⟨h1,h⟩:=ifT_both h;obtain⟨h2,h⟩:=ifT_both h;split at h
 ·rename_i fs hu;exact⟨by simpa using h1,by simpa using h2,fs,hu,eqFB_spec h⟩
 ·cases h
theorem tyOkB_spec{P:Pg}{t:TypeId}{d:TyD}(h:tyOkB P t d=true):TyOk P t d:=by
 unfold tyOkB at h;obtain⟨h1,h2⟩:=ifT_both h;obtain⟨h3,h2⟩:=ifT_both h2;obtain⟨h4,h2⟩:=ifT_both h2;split at h2
 ·rename_i u hu;exact⟨varOkB_spec h1,⟨u,hu,utOkB_spec h2⟩,arB_spec h3,eqB'_spec h4⟩
 ·cases h2
/-- THE TABLE OF TYPES, CHECKED -/
theorem tysOk_of{P:Pg}{fn:Nat→Option FnA}{ms:Nat→Option FnM}{bs:Nat→Option FnB}{il:Nat→Option (Nat×CallD)}{sp:Nat→Nat}:∀{l:List (Nat×TyD)},tysOkB P l=true→TysOk P ⟨assoc l,fn,ms,bs,il,sp⟩
 |l,h=>by
  intro t d ht;have hm:=assoc_mem (show assoc l t=some d from ht);have:∀{l:List (Nat×TyD)},tysOkB P l=true→∀p∈l,tyOkB P p.1 p.2=true:=by
   intro l
   induction l with
   |nil=>intro _ p hp;cases hp
   |cons q l ih=>
    intro h p hp;simp only[tysOkB] at h;obtain⟨h1,h2⟩:=ifT_both h
    rcases List.mem_cons.1 hp with rfl|hp
    ·exact h1
    ·exact ih h2 p hp
  exact tyOkB_spec (this h _ hm)

/-! ### the loops and the drawn regions of a code -/
def loopsOf:Code→List Code
 |.seq a b=>appA (loopsOf a) (loopsOf b)
 |.cond _ a b=>appA (loopsOf a) (loopsOf b)
 |.block _ b=>loopsOf b
 |.loop b=>[b]
 |_=>[]
def drawsOf:Code→List (Nat×Array Oper)
 |.seq a b=>appA (drawsOf a) (drawsOf b)
 |.cond _ a b=>appA (drawsOf a) (drawsOf b)
 |.block _ b=>drawsOf b
 |.region id ops true=>[(id,ops)]
 |_=>[]
theorem codeOk_of{P:Pg}{E:Env}{L:Nat→Option LoopD}:∀{c:Code},(∀b∈loopsOf c,LoopOk P L b)→(∀p∈drawsOf c,DrawOk P E p.1 p.2)→CodeOk P E L c
 |.seq a b,h,k=>by
  simp only[loopsOf,drawsOf,appA_eq] at h k;exact⟨codeOk_of (fun x hx=>h x (List.mem_append_left _ hx)) (fun x hx=>k x (List.mem_append_left _ hx)),
   codeOk_of (fun x hx=>h x (List.mem_append_right _ hx)) (fun x hx=>k x (List.mem_append_right _ hx))⟩
 |.cond _ a b,h,k=>by
  simp only[loopsOf,drawsOf,appA_eq] at h k;exact⟨codeOk_of (fun x hx=>h x (List.mem_append_left _ hx)) (fun x hx=>k x (List.mem_append_left _ hx)),
   codeOk_of (fun x hx=>h x (List.mem_append_right _ hx)) (fun x hx=>k x (List.mem_append_right _ hx))⟩
 |.block _ b,h,k=>codeOk_of (c:=b) h k
 |.loop b,h,_=>h b (by simp[loopsOf])
 |.region id ops true,_,k=>k (id,ops) (by simp[drawsOf])
 |.region _ _ false,_,_=>trivial
 |.skip,_,_=>trivial
 |.label _,_,_=>trivial
 |.exit _,_,_=>trivial
 |.ret,_,_=>trivial
 |.goto _,_,_=>trivial
 |.scope _,_,_=>trivial
 |.refuse _,_,_=>trivial
 |.rangeFunc ..,_,_=>trivial
end Go.Proofs.YthkflageghfbgaaGreatDoor.Am
