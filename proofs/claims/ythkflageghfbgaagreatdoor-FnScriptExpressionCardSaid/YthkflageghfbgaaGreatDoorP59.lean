/- Draws of texts that are mostly expressions; draws of matrices of grades. -/
import Derived.Test.YthkflageghfbgaaGreatDoorP50
import Derived.Test.YthkflageghfbgaaGreatDoorP58
set_option linter.unusedVariables false
set_option linter.unusedSimpArgs false
namespace Go.Proofs.YthkflageghfbgaaGreatDoor
open Go Go.Proofs.YthkflageghfbgaaGreatDoor.Am
abbrev RecD:=Dr→Int→Option (ByteArray×Dr×Unit)
theorem two_letters{v:ByteArray}(h:v∈List.take 2 (List.drop 0 [(⟨#[(97:UInt8)]⟩:ByteArray),(⟨#[(98:UInt8)]⟩:ByteArray)])):v.size=1:=by
 have h:v∈[(⟨#[(97:UInt8)]⟩:ByteArray),(⟨#[(98:UInt8)]⟩:ByteArray)]:=h
 rcases List.mem_cons.1 h with rfl|h
 ·rfl
 ·rw[List.mem_singleton] at h;subst h;rfl
theorem l7_step{φ:RecD}{D X:Int}{e c:Nat}(he:1≤e)(he2:e≤1000)(hc:1≤c)(hc2:c≤1000)(hX:X≤90000)(hc3:D>0→2≤c)
  (hφ:D>0→∀{M:Int} {d:Dr},DrOk M d→M≤X+4000→∃s d',φ d (IntKind.wrap .i64 (D-1))=some (s,d',())∧s.size+3≤e∧1≤s.size∧DrOk (M+(c:Int)-1) d')
  {M:Int} {d:Dr} (h:DrOk M d) (hM:M≤X):
  ∃s d',spec_l7Draw_step φ d D=some (s,d',())∧s.size≤3*e∧1≤s.size∧DrOk (M+1+3*(c:Int)) d':=by
 obtain⟨b,k⟩:=d;obtain⟨r0,p0,p1,p2,_⟩:=pick_is h (by omega) (n:=3) (by omega);have p2:=p2 (by omega);have s1:=h.next;have hw0:IntKind.wrap .i64 ((1:Int)+r0)=1+r0:=w64 (by omega) (by omega);obtain⟨r,g1,g2⟩:=loop_rel (f:=spec_l7Draw_l3 φ) (1+r0).toNat (fun i (s:Dr×ByteArray)=>((s.1.1,s.1.2,()),D,s.2,1+r0,(i:Int),())) (fun s=>((s.1.1,s.1.2,()),s.2,())) (fun i s=>DrOk (M+1+i*(c:Int)) s.1∧i≤s.2.size∧s.2.size≤i*e)
  (fun i s hi hs=>by
   obtain⟨⟨l,k⟩,o⟩:=s;obtain⟨q1,q2,q3⟩:=hs;have q2:i≤o.size:=q2;have q3:o.size≤i*e:=q3;have hi3:i≤2:=by omega
   have hie:i*e≤2000:=Nat.le_trans (Nat.mul_le_mul hi3 he2) (by omega);have hic:((i:Int))*(c:Int)≤2000:=by
    have:i*c≤2*1000:=Nat.mul_le_mul hi3 hc2;have h2:(((i*c:Nat)):Int)≤2000:=by omega
    rwa [Int.natCast_mul] at h2
   have hic0:0≤((i:Int))*(c:Int):=Int.mul_nonneg (by omega) (by omega);have hsucc:((i+1:Nat):Int)*(c:Int)=(i:Int)*(c:Int)+c:=by rw[Int.natCast_add,Int.add_mul];simp
   have hsuccN:(i+1)*e=i*e+e:=by rw[Nat.add_mul,Nat.one_mul]
   have hw:=w64_succ hi (show(1+r0).toNat≤9223372036854775807 by omega);have hd:decide ((i:Int)<1+r0)=true:=decide_eq_true (by omega);have q1:DrOk (M+1+(i:Int)*(c:Int)) (l,k):=q1;have letter:∀{M':Int} {l':List Int} {k':Int},DrOk M' (l',k')→M'+1≤M+1+((i+1:Nat):Int)*(c:Int)→M'≤100000→∃v,v.size=1∧spec_l13Rd_of (l',k') (List.take 2 (List.drop 0 [(⟨#[(97:UInt8)]⟩:ByteArray),(⟨#[(98:UInt8)]⟩:ByteArray)]))=some (v,(l',k'+1),())∧DrOk (M+1+((i+1:Nat):Int)*(c:Int)) (l',k'+1):=by
    intro M' l' k' hM1 hM2 hM3;obtain⟨v,v1,v2⟩:=of_is hM1 hM3 (l:=List.take 2 (List.drop 0 [(⟨#[(97:UInt8)]⟩:ByteArray),(⟨#[(98:UInt8)]⟩:ByteArray)])) (by decide) (by decide);exact⟨v,two_letters v1,v2,hM1.next.mono hM2⟩
   by_cases hD:D>0
   ·obtain⟨r1,u0,u1,u2,_⟩:=pick_is q1 (by omega) (n:=3) (by omega);have q1n:DrOk (M+1+(i:Int)*(c:Int)+1) (l,k+1):=q1.next
    by_cases hr:r1=0
    ·obtain⟨s',⟨b',k'⟩,v1,v2,v3,v4⟩:=hφ hD q1n (by omega);refine⟨((b',k'),((o++(⟨#[(40:UInt8)]⟩:ByteArray))++s')++(⟨#[(41:UInt8),(35:UInt8)]⟩:ByteArray)), ?_,v4.mono (by omega), ?_, ?_⟩
     ·simp only[spec_l7Draw_l3,hd,cond_true,decide_eq_true hD,u0,Option.bind_some,hr,BEq.rfl,v1,hw];rw[if_pos (by show o.size+1≤_;omega),if_pos (by rw[size_append];show o.size+1+s'.size≤_;omega),if_pos (by rw[size_append,size_append];show o.size+1+s'.size+2≤_;omega)]
     ·show i+1≤(((o++(⟨#[(40:UInt8)]⟩:ByteArray))++s')++(⟨#[(41:UInt8),(35:UInt8)]⟩:ByteArray)).size;rw[size_append,size_append,size_append];show i+1≤o.size+1+s'.size+2;omega
     ·show(((o++(⟨#[(40:UInt8)]⟩:ByteArray))++s')++(⟨#[(41:UInt8),(35:UInt8)]⟩:ByteArray)).size≤(i+1)*e;rw[size_append,size_append,size_append];show o.size+1+s'.size+2≤_;omega
    ·obtain⟨v,v1,v2,v3⟩:=letter (M':=M+1+(i:Int)*(c:Int)+1) q1n (by have:=hc3 hD;omega) (by omega);refine⟨((l,k+1+1),o++v), ?_,v3, ?_, ?_⟩
     ·simp only[spec_l7Draw_l3,hd,cond_true,decide_eq_true hD,u0,Option.bind_some,show(r1==0)=false by simpa using hr,cond_false,v2,hw];rw[if_pos (by omega)]
     ·show i+1≤(o++v).size;rw[size_append];omega
     ·show(o++v).size≤(i+1)*e;rw[size_append];omega
   ·obtain⟨v,v1,v2,v3⟩:=letter q1 (by omega) (by omega);refine⟨((l,k+1),o++v), ?_,v3, ?_, ?_⟩
    ·simp only[spec_l7Draw_l3,hd,cond_true,decide_eq_false hD,cond_false,Option.bind_some,v2,hw];rw[if_pos (by omega)]
    ·show i+1≤(o++v).size;rw[size_append];omega
    ·show(o++v).size≤(i+1)*e;rw[size_append];omega)
  (fun s hs=>by
   simp only[spec_l7Draw_l3,show decide ((((1+r0).toNat:Nat):Int)<1+r0)=false from decide_eq_false (by omega),cond_false])
  ((b,k+1),(⟨#[]⟩:ByteArray)) ⟨by simpa using s1,Nat.zero_le _,by show(0:Nat)≤_;exact Nat.zero_le _⟩
 obtain⟨⟨l',k'⟩,o⟩:=r;have g1:loopF (spec_l7Draw_l3 φ) ((b,k+1,()),D,(⟨#[]⟩:ByteArray),1+r0,(0:Int),())=some ((l',k',()),o,()):=g1;obtain⟨g2,g3,g4⟩:=g2;have g3:(1+r0).toNat≤o.size:=g3;have g4:o.size≤(1+r0).toNat*e:=g4;refine⟨o,(l',k'), ?_, ?_,by omega,g2.mono ?_⟩
 ·unfold spec_l7Draw_step;dsimp only
  rw[p0];simp only[Option.bind_some,hw0,g1]
 ·have:(1+r0).toNat*e≤3*e:=Nat.mul_le_mul_right e (by omega);omega
 ·have:(1+r0).toNat*c≤3*c:=Nat.mul_le_mul_right c (by omega);have h2:(((1+r0).toNat*c:Nat):Int)≤3*(c:Int):=by omega
  rw[Int.natCast_mul] at h2;omega
theorem l7Draw_fuel(N:Nat){D:Int}(hD:D=0∨D=1∨D=2){M:Int}{d:Dr}(h:DrOk M d)(hM:M≤80000):∃s d',spec_l7Draw_fuel (N+3) d D=some (s,d',())∧s.size≤63∧1≤s.size∧DrOk (M+52) d':=by
 have f0:∀(N:Nat) {M:Int} {d:Dr},DrOk M d→M≤90000→∃s d',spec_l7Draw_fuel (N+1) d 0=some (s,d',())∧s.size≤3∧1≤s.size∧DrOk (M+4) d':=by
  intro N M d h hM;obtain⟨s,d',g1,g2,g3,g4⟩:=l7_step (φ:=spec_l7Draw_fuel N) (D:=0) (X:=90000) (e:=1) (c:=1) (by omega) (by omega) (by omega) (by omega) (by omega) (by omega) (fun h=>absurd h (by omega)) h hM;exact⟨s,d',g1,g2,g3,g4.mono (by omega)⟩
 have f1:∀(N:Nat) {M:Int} {d:Dr},DrOk M d→M≤86000→∃s d',spec_l7Draw_fuel (N+2) d 1=some (s,d',())∧s.size≤18∧1≤s.size∧DrOk (M+16) d':=by
  intro N M d h hM;obtain⟨s,d',g1,g2,g3,g4⟩:=l7_step (φ:=spec_l7Draw_fuel (N+1)) (D:=1) (X:=86000) (e:=6) (c:=5) (by omega) (by omega) (by omega) (by omega) (by omega) (by omega) (fun _ {M d} h1 h2=>by
   obtain⟨s,d',k1,k2,k3,k4⟩:=f0 N h1 (by omega);exact⟨s,d',k1,by omega,k3,k4.mono (by omega)⟩) h hM
  exact⟨s,d',g1,g2,g3,g4.mono (by omega)⟩
 rcases hD with rfl|rfl|rfl
 ·obtain⟨s,d',g1,g2,g3,g4⟩:=f0 (N+2) h (by omega);exact⟨s,d',g1,by omega,g3,g4.mono (by omega)⟩
 ·obtain⟨s,d',g1,g2,g3,g4⟩:=f1 (N+1) h (by omega);exact⟨s,d',g1,by omega,g3,g4.mono (by omega)⟩
 ·obtain⟨s,d',g1,g2,g3,g4⟩:=l7_step (φ:=spec_l7Draw_fuel (N+2)) (D:=2) (X:=82000) (e:=21) (c:=17) (by omega) (by omega) (by omega) (by omega) (by omega) (by omega) (fun _ {M d} h1 h2=>by
   obtain⟨s,d',k1,k2,k3,k4⟩:=f1 N h1 (by omega);exact⟨s,d',k1,by omega,k3,k4.mono (by omega)⟩) h (by omega)
  exact⟨s,d',g1,g2,g3,g4.mono (by omega)⟩
theorem l7Text_is{M:Int}{d:Dr}(h:DrOk M d)(hM:M≤70000):∃s d',spec_l7Text d=some (s,d',())∧s.size≤65∧DrOk (M+60) d':=by
 obtain⟨b,k⟩:=d;obtain⟨r0,p0,p1,p2,_⟩:=pick_is h (by omega) (n:=3) (by omega);have p2:=p2 (by omega);obtain⟨s,⟨b1,k1⟩,q1,q2,q3,q4⟩:=l7Draw_fuel 197 (D:=r0) (by omega) h.next (by omega);have q1:spec_l7Draw (b,k+1) r0=some (s,(b1,k1),()):=q1;obtain⟨r6,u0,u1,_,_⟩:=pick_is q4 (by omega) (n:=12) (by omega);have s2:DrOk (M+1+52+1) (b1,k1+1):=q4.next;unfold spec_l7Text;dsimp only
 rw[p0];simp only[Option.bind_some];rw[q1];simp only[Option.bind_some];rw[u0];simp only[Option.bind_some]
 by_cases h6:r6>0
 ·refine⟨s,(b1,k1+1), ?_,by omega,s2.mono (by omega)⟩;rw[decide_eq_true h6,cond_true]
 ·obtain⟨r9,v0,v1,v2,_⟩:=pick_is s2 (by omega) (n:=((s.size:Nat):Int)) (by omega);have v2:=v2 (by omega);have s3:DrOk (M+1+52+1+1) (b1,k1+1+1):=s2.next;obtain⟨x,x1,x2⟩:=of_is s3 (by omega) (l:=List.take 6 (List.drop 0 [(⟨#[]⟩:ByteArray),(⟨#[(40:UInt8)]⟩:ByteArray),(⟨#[(41:UInt8)]⟩:ByteArray),(⟨#[(35:UInt8)]⟩:ByteArray),(⟨#[(41:UInt8),(35:UInt8)]⟩:ByteArray),(⟨#[(99:UInt8)]⟩:ByteArray)])) (by decide) (by decide);have hx:x.size≤2:=by
   have:∀y∈[(⟨#[]⟩:ByteArray),(⟨#[(40:UInt8)]⟩:ByteArray),(⟨#[(41:UInt8)]⟩:ByteArray),(⟨#[(35:UInt8)]⟩:ByteArray),(⟨#[(41:UInt8),(35:UInt8)]⟩:ByteArray),(⟨#[(99:UInt8)]⟩:ByteArray)],y.size≤2:=by decide
   exact this x x1
  have s4:DrOk (M+1+52+1+1+1) (b1,k1+1+1+1):=s3.next;obtain⟨r15,w0,w1,w2,_⟩:=pick_is s4 (by omega) (n:=2) (by omega);have w2:=w2 (by omega);have hw:IntKind.wrap .i64 (r9+r15)=r9+r15:=w64 (by omega) (by omega);have e1:(s.extract 0 r9.toNat).size≤s.size:=by rw[ByteArray.size_extract];omega
  have e2:(s.extract (r9+r15).toNat s.size).size≤s.size:=by rw[ByteArray.size_extract];omega
  have e3:(s.extract 0 r9.toNat).size+(s.extract (r9+r15).toNat s.size).size≤s.size:=by rw[ByteArray.size_extract,ByteArray.size_extract];omega
  refine⟨((s.extract 0 r9.toNat)++x)++(s.extract (r9+r15).toNat s.size),(b1,k1+1+1+1+1), ?_, ?_,s4.next.mono (by omega)⟩
  ·rw[decide_eq_false h6,cond_false,v0];simp only[Option.bind_some];rw[if_pos (by omega),x2];simp only[Option.bind_some];rw[if_pos (by omega),w0];simp only[Option.bind_some,hw];rw[if_pos (by omega),if_pos (by rw[size_append];omega)]
  ·rw[size_append,size_append];omega
end Go.Proofs.YthkflageghfbgaaGreatDoor
