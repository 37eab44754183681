import Derived.Test.YthkflageghfbgaaGreatDoorG2
set_option linter.unusedVariables false
set_option linter.unusedSimpArgs false
/- Plain laws of loops, of numbers and of least values. -/
namespace Go.Proofs.YthkflageghfbgaaGreatDoor
open Go Go.Proofs.YthkflageghfbgaaGreatDoor.Am
theorem w64{n:Int}(h1:-9223372036854775808≤n)(h2:n≤9223372036854775807):IntKind.wrap .i64 n=n:=by
 show(if(true&&decide (n%18446744073709551616≥9223372036854775808))=true then n%18446744073709551616-18446744073709551616 else n%18446744073709551616)=n;rw[Bool.true_and]
 by_cases h:n%18446744073709551616≥9223372036854775808
 ·rw[if_pos (decide_eq_true h)];omega
 ·rw[if_neg (by rw[decide_eq_true_eq];exact h)];omega
theorem w64_succ{i n:Nat}(h:i<n)(hn:n≤9223372036854775807):IntKind.wrap .i64 ((i:Int)+1)=((i+1:Nat):Int):=by
 rw[w64 (by omega) (by omega)];rfl
theorem w64_pred{i n:Nat}(h:i<n)(h0:0<i)(hn:n≤9223372036854775807):IntKind.wrap .i64 ((i:Int)-1)=((i-1:Nat):Int):=by
 rw[w64 (by omega) (by omega)];omega
section loops
variable {σ ρ α β : Type} {f : σ → Option (σ ⊕ ρ)}
/-- a loop that looks at each index till one fails -/
theorem loop_all(st:Nat→σ)(n:Nat)(p:Nat→Bool)(no yes:ρ)(hs:∀i,i<n→f (st i)=some (if p i=true then .inl (st (i+1)) else .inr no))(he:f (st n)=some (.inr yes)):
  loopF f (st 0)=some (if(List.range n).all p then yes else no):=by
 have key:∀k i,i+k=n→loopF f (st i)=some (if(List.range' i k).all p then yes else no):=by
  intro k
  induction k with
  |zero=>
   intro i hi;rw[loopF_eq];obtain rfl:i=n:=by omega
   rw[he];simp
  |succ k ih=>
   intro i hi;rw[loopF_eq,hs i (by omega)];simp only[Option.bind_some,List.range'_succ,List.all_cons];cases hp:p i with
   |true=>simp only[if_true,Bool.true_and];exact ih (i+1) (by omega)
   |false=>simp
 have:=key n 0 (by omega);rw[List.range_eq_range'];exact this
/-- a loop with an invariant over its indices -/
theorem loop_inv(n:Nat)(st:Nat→α→σ)(g:Nat→α→α)(last:α→ρ)(I:Nat→α→Prop)(hI:∀i a,i<n→I i a→I (i+1) (g i a))
  (hs:∀i a,i<n→I i a→f (st i a)=some (.inl (st (i+1) (g i a)))) (he:∀a,I n a→f (st n a)=some (.inr (last a))):
  ∀a,I 0 a→∃r,loopF f (st 0 a)=some (last r)∧I n r:=by
 have key:∀k i a,i+k=n→I i a→∃r,loopF f (st i a)=some (last r)∧I n r:=by
  intro k
  induction k with
  |zero=>
   intro i a hi ha;obtain rfl:i=n:=by omega
   exact⟨a,by rw[loopF_eq,he a ha];rfl,ha⟩
  |succ k ih=>
   intro i a hi ha;rw[loopF_eq,hs i a (by omega) ha];exact ih (i+1) _ (by omega) (hI i a (by omega) ha)
 intro a ha;exact key n 0 a (by omega) ha
/-- the same with rounds that are told by a relation -/
theorem loop_rel(n:Nat)(st:Nat→α→σ)(last:α→ρ)(I:Nat→α→Prop)(hs:∀i a,i<n→I i a→∃a',f (st i a)=some (.inl (st (i+1) a'))∧I (i+1) a')(he:∀a,I n a→f (st n a)=some (.inr (last a))):
  ∀a,I 0 a→∃r,loopF f (st 0 a)=some (last r)∧I n r:=by
 have key:∀k i a,i+k=n→I i a→∃r,loopF f (st i a)=some (last r)∧I n r:=by
  intro k
  induction k with
  |zero=>
   intro i a hi ha;obtain rfl:i=n:=by omega
   exact⟨a,by rw[loopF_eq,he a ha];rfl,ha⟩
  |succ k ih=>
   intro i a hi ha;obtain⟨a',h1,h2⟩:=hs i a (by omega) ha;rw[loopF_eq,h1];exact ih (i+1) _ (by omega) h2
 intro a ha;exact key n 0 a (by omega) ha
end loops
theorem toList_bytes(a:ByteArray):a.toList=a.data.toList:=ByteArray.toList_eq a
theorem compare_less:∀(l m:List UInt8),Lib.compareBytes l m=if Op.bytesLess l m then-1 else if l==m then 0 else 1
 |[],[]=>rfl
 |[],_::_=>rfl
 |_::_,[]=>rfl
 |a::l,b::m=>by
  have ih:=compare_less l m;simp only[Lib.compareBytes,Op.bytesLess,ih]
  by_cases h1:a<b
  ·simp[h1]
  ·by_cases h2:b<a
   ·have:a≠b:=by rintro rfl;exact h1 h2
    simp[h1,h2,this]
   ·have:a=b:=by
     have:=UInt8.le_antisymm (UInt8.not_lt.1 h2) (UInt8.not_lt.1 h1);exact this
    subst this;simp[h1]
theorem eq_of_le_iff{x y:Int}(h:∀z:Int,z≤x↔z≤y):x=y:=by
 have h1:=(h x).1 (Int.le_refl _);have h2:=(h y).2 (Int.le_refl _);omega
end Go.Proofs.YthkflageghfbgaaGreatDoor

/- Valid automata: both sides tell the same. -/
namespace Go.Proofs.YthkflageghfbgaaGreatDoor
open Go Go.Proofs.YthkflageghfbgaaGreatDoor.Am
abbrev Stp:=Int×ByteArray×Int×Int
abbrev Aut:=Int×List Int×List Int×List Stp
abbrev stp0:Stp:=((0:Int),(⟨Array.empty⟩:ByteArray),(0:Int),(0:Int))
abbrev la:ByteArray:=⟨#[(97:UInt8)]⟩
abbrev lb:ByteArray:=⟨#[(98:UInt8)]⟩
/-- a round's tests -/
theorem lt_t{i n:Nat}(h:i<n):decide ((i:Int)<(n:Int))=true:=decide_eq_true (by omega)
theorem in_t{i n:Nat}(h:i<n):(0:Int)≤(i:Int)∧(i:Int)<(n:Int):=⟨by omega,by omega⟩
theorem lt_f(n:Nat):decide ((n:Int)<(n:Int))=false:=decide_eq_false (by omega)
theorem gt_t{i:Nat}(h:0<i):decide ((i:Int)>(0:Int))=true:=decide_eq_true (by omega)
def marksP(n:Int)(l:List Int)(i:Nat):Bool:=decide (0≤l.getD i 0∧l.getD i 0≤n-1)&&(decide (i=0)|| !decide (l.getD (i-1) 0≥l.getD i 0))
def marksOk(n:Int)(l:List Int):Bool:=(List.range l.length).all (marksP n l)
theorem spec_l1In_is(n a b:Int):spec_l1In n a b=some (decide (a≤n∧n≤b)):=by
 unfold spec_l1In
 by_cases h:a≤n<;>simp[h]
theorem spec_l3Marks_is{n:Int}{l:List Int}(h1:1≤n)(h4:n≤4)(hl:l.length≤9223372036854775807):spec_l3Marks n l=some (marksOk n l):=by
 unfold spec_l3Marks;have:=loop_all (f:=spec_l3Marks_l2) (fun i=>(n,l,l,(l.length:Int),(i:Int),())) l.length (marksP n l) (.inl (false,())) (.inr ()) (fun i hi=>by
  simp only[spec_l3Marks_l2,spec_l1In_is,w64 (show-9223372036854775808≤n-1 by omega) (by omega),w64_succ hi hl,marksP,Int.toNat_natCast,Option.bind_some,lt_t hi,cond_true,if_pos (in_t hi)]
  rcases Nat.eq_zero_or_pos i with rfl|h0
  ·rcases Bool.eq_false_or_eq_true (decide (0≤l.getD 0 0∧l.getD 0 0≤n-1)) with b|b<;>simp only[b]<;>rfl
  ·simp only[w64_pred hi h0 hl,gt_t h0,cond_true,if_pos (in_t (show i-1<l.length by omega)),Int.toNat_natCast,decide_eq_false (show ¬i=0 by omega),Bool.false_or]
   rcases Bool.eq_false_or_eq_true (decide (0≤l.getD i 0∧l.getD i 0≤n-1)) with b|b<;>rcases Bool.eq_false_or_eq_true (decide (l.getD (i-1) 0≥l.getD i 0)) with c|c<;>simp only[b,c]<;>rfl) (by simp only[spec_l3Marks_l2,lt_f];rfl)
 rw[show((l,l,(l.length:Int),(0:Int),()):List Int×List Int×Int×Int×Unit)=(l,l,(l.length:Int),((0:Nat):Int),()) from rfl,this];unfold marksOk;cases(List.range l.length).all (marksP n l)<;>rfl
theorem impl_statesOk_is{n:Int}{l:List Int}(h1:1≤n)(h4:n≤4)(hl:l.length≤9223372036854775807):impl_statesOk l n=some (marksOk n l):=by
 unfold impl_statesOk;have:=loop_all (f:=impl_statesOk_l2) (fun i=>(l,n,l,(l.length:Int),(i:Int),())) l.length (marksP n l) (.inl (false,())) (.inr ()) (fun i hi=>by
  have hb:decide (0≤l.getD i 0∧l.getD i 0≤n-1)=(!decide (l.getD i 0<0)&& !decide (l.getD i 0≥n)):=by
   rw[Bool.eq_iff_iff];simp only[decide_eq_true_eq,Bool.and_eq_true,Bool.not_eq_true',decide_eq_false_iff_not];omega
  simp only[impl_statesOk_l2,w64_succ hi hl,marksP,Int.toNat_natCast,Option.bind_some,lt_t hi,cond_true,if_pos (in_t hi),hb]
  rcases Nat.eq_zero_or_pos i with rfl|h0
  ·rcases Bool.eq_false_or_eq_true (decide (l.getD 0 0<0)) with b|b<;>rcases Bool.eq_false_or_eq_true (decide (l.getD 0 0≥n)) with c|c<;>simp only[b,c]<;>rfl
  ·simp only[w64_pred hi h0 hl,gt_t h0,cond_true,if_pos (in_t (show i-1<l.length by omega)),Int.toNat_natCast,decide_eq_false (show ¬i=0 by omega),Bool.false_or]
   rcases Bool.eq_false_or_eq_true (decide (l.getD i 0<0)) with b|b<;>rcases Bool.eq_false_or_eq_true (decide (l.getD i 0≥n)) with c|c<;>rcases Bool.eq_false_or_eq_true (decide (l.getD (i-1) 0≥l.getD i 0)) with d|d<;>simp only[b,c,d]<;>rfl) (by simp only[impl_statesOk_l2,lt_f];rfl)
 rw[show((l,n,l,(l.length:Int),(0:Int),()):List Int×Int×List Int×Int×Int×Unit)=(l,n,l,(l.length:Int),((0:Nat):Int),()) from rfl,this];unfold marksOk;cases(List.range l.length).all (marksP n l)<;>rfl
end Go.Proofs.YthkflageghfbgaaGreatDoor

/- Valid automata, on: steps and their order. -/
namespace Go.Proofs.YthkflageghfbgaaGreatDoor
open Go Go.Proofs.YthkflageghfbgaaGreatDoor.Am
def stepOk(n:Int)(s:Stp):Bool:=decide (0≤s.1∧s.1≤n-1)&&(decide (0≤s.2.2.1∧s.2.2.1≤n-1)&&(decide (0≤s.2.2.2∧s.2.2.2≤3)&&(s.2.1.toList==la.toList||s.2.1.toList==lb.toList)))
def befB(s t:Stp):Bool:=bif s.1 != t.1 then decide (s.1<t.1) else bif !(s.2.1.toList==t.2.1.toList) then Op.bytesLess s.2.1.toList t.2.1.toList else decide (s.2.2.1<t.2.2.1)
theorem spec_l3Step_is{n:Int}(h1:1≤n)(h4:n≤4)(s:Stp):spec_l3Step n s=some (stepOk n s):=by
 obtain⟨a,l,b,c⟩:=s;simp only[spec_l3Step,spec_l1In_is,w64 (show-9223372036854775808≤n-1 by omega) (by omega),Option.bind_some,stepOk]
 rcases Bool.eq_false_or_eq_true (decide (0≤a∧a≤n-1)) with h|h<;>simp only[h,cond_true,cond_false,Bool.true_and,Bool.false_and]
 rcases Bool.eq_false_or_eq_true (decide (0≤b∧b≤n-1)) with h|h<;>simp only[h,cond_true,cond_false,Bool.true_and,Bool.false_and]
 rcases Bool.eq_false_or_eq_true (decide (0≤c∧c≤3)) with h|h<;>simp only[h,cond_true,cond_false,Bool.true_and,Bool.false_and]
 rcases Bool.eq_false_or_eq_true (l.toList==la.toList) with h|h<;>simp only[h,cond_true,cond_false,Bool.true_or,Bool.false_or]
theorem spec_l3Before_is(s t:Stp):spec_l3Before s t=some (befB s t):=by
 obtain⟨a,l,b,c⟩:=s;obtain⟨a',l',b',c'⟩:=t;simp only[spec_l3Before,befB]
 rcases Bool.eq_false_or_eq_true (a != a') with h|h<;>simp only[h,cond_true,cond_false]
 rcases Bool.eq_false_or_eq_true (l.toList==l'.toList) with h|h<;>simp only[h,cond_true,cond_false,Bool.not_true,Bool.not_false]
theorem cmp_Compare_is(a b:Int):cmp_Compare a b=some (if a<b then-1 else if a>b then 1 else 0):=by
 simp only[cmp_Compare,cmp_isNaN,Option.bind_some,bne_self_eq_false,cond_false]
 by_cases h:a<b
 ·simp only[decide_eq_true h,cond_true,if_pos h]
 ·by_cases k:a>b
  ·simp only[decide_eq_true k,decide_eq_false h,cond_true,cond_false,if_pos k,if_neg h]
  ·simp only[decide_eq_false k,decide_eq_false h,cond_false,if_neg k,if_neg h]
theorem cmp_Or_is(a b c:Int):cmp_Or [a,b,c]=some (if a≠0 then a else if b≠0 then b else c):=by
 have step:∀i:Nat,i<3→cmp_Or_l3 (0,[a,b,c],3,(i:Int),())=some (if[a,b,c].getD i 0≠0 then .inr (.inl ([a,b,c].getD i 0,())) else .inl (0,[a,b,c],3,((i+1:Nat):Int),())):=by
  intro i hi;have hd:decide ((i:Int)<(3:Int))=true:=decide_eq_true (by omega);have hc:(0:Int)≤(i:Int)∧(i:Int)<(([a,b,c].length:Nat):Int):=⟨by omega,by simp only[List.length_cons,List.length_nil];omega⟩;simp only[cmp_Or_l3,hd,cond_true,if_pos hc,Int.toNat_natCast,w64_succ hi (by omega)]
  by_cases h:[a,b,c].getD i 0=0
  ·simp only[h,bne_self_eq_false,cond_false];simp
  ·have:([a,b,c].getD i 0 != 0)=true:=by simpa using h
   simp only[this,cond_true];rw[if_pos h]
 have last:cmp_Or_l3 (0,[a,b,c],3,((3:Nat):Int),())=some (.inr (.inr (0,()))):=by
  simp only[cmp_Or_l3];rfl
 simp only[cmp_Or];have e0:((([a,b,c].length:Nat):Int))=3:=rfl;rw[e0,show((0:Int),[a,b,c],(3:Int),(0:Int),())=((0:Int),[a,b,c],(3:Int),((0:Nat):Int),()) from rfl];rw[loopF_eq,step 0 (by omega)]
 by_cases ha:a=0
 ·subst ha;simp only[List.getD_cons_zero,ne_eq,not_true_eq_false,if_false,Option.bind_some];rw[loopF_eq,step 1 (by omega)]
  by_cases hb:b=0
  ·subst hb;simp only[List.getD_cons_zero,List.getD_cons_succ,ne_eq,not_true_eq_false,if_false,Option.bind_some];rw[loopF_eq,step 2 (by omega)]
   by_cases hc:c=0
   ·subst hc;simp only[List.getD_cons_zero,List.getD_cons_succ,ne_eq,not_true_eq_false,if_false,Option.bind_some];rw[loopF_eq,last];rfl
   ·simp only[List.getD_cons_zero,List.getD_cons_succ,ne_eq,hc,not_false_eq_true,if_true,Option.bind_some]
  ·simp only[List.getD_cons_zero,List.getD_cons_succ,ne_eq,hb,not_false_eq_true,if_true,Option.bind_some]
 ·simp only[List.getD_cons_zero,ne_eq,ha,not_false_eq_true,if_true,Option.bind_some]
theorem impl_stepOrder_is(s t:Stp):∃r,impl_stepOrder s t=some r∧decide (r≥0)= !befB s t:=by
 obtain⟨a,l,b,c⟩:=s;obtain⟨a',l',b',c'⟩:=t;simp only[impl_stepOrder,cmp_Compare_is,strings_Compare,Option.bind_some,List.drop_zero];rw[show ∀x y z:Int,List.take 3 [x,y,z]=[x,y,z] from fun _ _ _=>rfl,cmp_Or_is];refine⟨_,rfl, ?_⟩;rw[compare_less,←toList_bytes,←toList_bytes];simp only[befB]
 by_cases h1:a<a'
 ·have:(a != a')=true:=by simp;omega
  simp[h1,this]
 ·by_cases h2:a>a'
  ·have:(a != a')=true:=by simp;omega
   simp[h1,h2,this]
  ·obtain rfl:a=a':=by omega
   simp only[h1,bne_self_eq_false,cond_false,if_false,gt_iff_lt,ne_eq,not_true_eq_false];cases hl:Op.bytesLess l.toList l'.toList with
   |true=>
    have hne:(l.toList==l'.toList)=false:=by
     cases he:l.toList==l'.toList with
     |false=>rfl
     |true=>
      exfalso;rw[eq_of_beq he] at hl;have irr:∀m:List UInt8,Op.bytesLess m m=false:=by
       intro m
       induction m with
       |nil=>rfl
       |cons x m ih=>simp[Op.bytesLess,ih]
      rw[irr] at hl;cases hl
    simp[hl,hne]
   |false=>
    cases he:l.toList==l'.toList with
    |false=>simp[hl,he]
    |true=>
     simp only[he,Bool.false_eq_true,if_false,if_true,not_true_eq_false,Bool.not_true,cond_false]
     by_cases h3:b<b'
     ·simp[h3]
     ·by_cases h4:b'<b
      ·simp[h3,h4]
      ·simp[h3,h4]
def stepsP(n:Int)(l:List Stp)(i:Nat):Bool:=stepOk n (l.getD i stp0)&&(decide (i=0)||befB (l.getD (i-1) stp0) (l.getD i stp0))
def stepsOk(n:Int)(l:List Stp):Bool:=(List.range l.length).all (stepsP n l)
def autOk(a:Aut):Bool:=decide (1≤a.1∧a.1≤4)&&(marksOk a.1 a.2.1&&(marksOk a.1 a.2.2.1&&(decide (a.2.2.2.length≤24)&&stepsOk a.1 a.2.2.2)))
theorem spec_AutomatonValid_is(a:Aut)(hs:a.2.1.length≤9223372036854775807)(hf:a.2.2.1.length≤9223372036854775807):spec_AutomatonValid a=some (autOk a):=by
 obtain⟨n,S,F,l⟩:=a;simp only[spec_AutomatonValid,spec_l1In_is,Option.bind_some,autOk]
 by_cases hn:1≤n∧n≤4
 ·obtain⟨h1,h4⟩:=hn;simp only[decide_eq_true (show 1≤n∧n≤4 from⟨h1,h4⟩),Bool.not_true,cond_false,Bool.true_and];rw[spec_l3Marks_is h1 h4 hs,spec_l3Marks_is h1 h4 hf];simp only[Option.bind_some]
  rcases Bool.eq_false_or_eq_true (marksOk n S) with h|h<;>simp only[h,Bool.not_true,Bool.not_false,cond_true,cond_false,Bool.true_and,Bool.false_and]
  rcases Bool.eq_false_or_eq_true (marksOk n F) with h|h<;>simp only[h,Bool.not_true,Bool.not_false,cond_true,cond_false,Bool.true_and,Bool.false_and]
  by_cases hl:l.length≤24
  ·have hd:decide (((l.length:Nat):Int)>(24:Int))=false:=decide_eq_false (by omega);simp only[hd,cond_false,decide_eq_true hl,Bool.true_and];have:=loop_all (f:=spec_AutomatonValid_l4) (fun i=>((n,S,F,l,()),l,(l.length:Int),(i:Int),())) l.length (stepsP n l) (.inl (false,())) (.inr ()) (fun i hi=>by
    simp only[spec_AutomatonValid_l4,w64_succ hi (show l.length≤9223372036854775807 by omega),Int.toNat_natCast,lt_t hi,cond_true,if_pos (in_t hi),stepsP];rw[show ∀s:Stp,(s.1,s.2.1,s.2.2.1,s.2.2.2)=s from fun _=>rfl,spec_l3Step_is h1 h4];simp only[Option.bind_some]
    rcases Nat.eq_zero_or_pos i with rfl|h0
    ·rcases Bool.eq_false_or_eq_true (stepOk n (l.getD 0 stp0)) with b|b<;>simp only[b]<;>rfl
    ·simp only[w64_pred hi h0 (show l.length≤9223372036854775807 by omega),gt_t h0,cond_true,if_pos (in_t (show i-1<l.length by omega)),Int.toNat_natCast,decide_eq_false (show ¬i=0 by omega),Bool.false_or,spec_l3Before_is,Option.bind_some]
     rcases Bool.eq_false_or_eq_true (stepOk n (l.getD i stp0)) with b|b<;>rcases Bool.eq_false_or_eq_true (befB (l.getD (i-1) stp0) (l.getD i stp0)) with c|c<;>simp only[b,c]<;>rfl) (by simp only[spec_AutomatonValid_l4,lt_f];rfl)
   rw[show((0:Int))=((0:Nat):Int) from rfl,this];unfold stepsOk;cases(List.range l.length).all (stepsP n l)<;>rfl
  ·have hd:decide (((l.length:Nat):Int)>(24:Int))=true:=decide_eq_true (by omega);simp only[hd,cond_true,decide_eq_false hl,Bool.false_and]
 ·simp only[decide_eq_false hn,Bool.not_false,cond_true,Bool.false_and]
theorem impl_AutomatonValid_is(a:Aut)(hs:a.2.1.length≤9223372036854775807)(hf:a.2.2.1.length≤9223372036854775807):impl_AutomatonValid a=some (autOk a):=by
 obtain⟨n,S,F,l⟩:=a;simp only[impl_AutomatonValid,autOk]
 by_cases h1:n<1
 ·simp only[decide_eq_true h1,cond_true,decide_eq_false (show ¬(1≤n∧n≤4) by omega),Bool.false_and]
 ·by_cases h4:n>4
  ·simp only[decide_eq_false h1,cond_false,decide_eq_true h4,cond_true,decide_eq_false (show ¬(1≤n∧n≤4) by omega),Bool.false_and]
  ·simp only[decide_eq_false h1,cond_false,decide_eq_false h4,decide_eq_true (show(1≤n∧n≤4) by omega),Bool.true_and];have h1:1≤n:=by omega
   have h4:n≤4:=by omega
   rw[impl_statesOk_is h1 h4 hs,impl_statesOk_is h1 h4 hf];simp only[Option.bind_some]
   by_cases hl:l.length≤24
   ·have hd:decide (((l.length:Nat):Int)>(24:Int))=false:=decide_eq_false (by omega);simp only[hd,cond_false,decide_eq_true hl,Bool.true_and]
    rcases Bool.eq_false_or_eq_true (marksOk n S) with h|h<;>simp only[h,Bool.not_true,Bool.not_false,cond_true,cond_false,Bool.true_and,Bool.false_and]
    rcases Bool.eq_false_or_eq_true (marksOk n F) with h|h<;>simp only[h,Bool.not_true,Bool.not_false,cond_true,cond_false,Bool.true_and,Bool.false_and];have:=loop_all (f:=impl_AutomatonValid_l4) (fun i=>((n,S,F,l,()),l,(l.length:Int),(i:Int),())) l.length (stepsP n l) (.inl (false,())) (.inr ()) (fun i hi=>by
     simp only[impl_AutomatonValid_l4,w64_succ hi (show l.length≤9223372036854775807 by omega),Int.toNat_natCast,lt_t hi,cond_true,if_pos (in_t hi),stepsP];rw[show ∀s:Stp,(s.1,s.2.1,s.2.2.1,s.2.2.2)=s from fun _=>rfl];have hb:∀s:Stp,stepOk n s=(!decide (s.1<0)&&(!decide (s.1≥n)&&(!decide (s.2.2.1<0)&&(!decide (s.2.2.1≥n)&&((s.2.1.toList==la.toList||s.2.1.toList==lb.toList)&&(!decide (s.2.2.2<0)&& !decide (s.2.2.2>3))))))):=by
      intro s;unfold stepOk;generalize(s.2.1.toList==la.toList||s.2.1.toList==lb.toList)=L;rw[Bool.eq_iff_iff];simp only[decide_eq_true_eq,Bool.and_eq_true,Bool.not_eq_true',decide_eq_false_iff_not];constructor
      ·rintro⟨h1,h2,h3,h4⟩;refine⟨?_, ?_, ?_, ?_,h4, ?_, ?_⟩<;>omega
      ·rintro⟨h1,h2,h3,h4,h5,h6,h7⟩;refine⟨?_, ?_, ?_,h5⟩<;>omega
     simp only[hb];obtain⟨r,hr,hr2⟩:=impl_stepOrder_is (l.getD (i-1) stp0) (l.getD i stp0);have hg:∀i:Nat,(i=0∨0<i):=fun i=>by omega
     rcases Nat.eq_zero_or_pos i with rfl|h0
     ·rcases Bool.eq_false_or_eq_true (decide ((l.getD 0 stp0).1<0)) with b1|b1<;>simp only[b1]<;>try rfl
      rcases Bool.eq_false_or_eq_true (decide ((l.getD 0 stp0).1≥n)) with b2|b2<;>simp only[b2]<;>try rfl
      rcases Bool.eq_false_or_eq_true (decide ((l.getD 0 stp0).2.2.1<0)) with b3|b3<;>simp only[b3]<;>try rfl
      rcases Bool.eq_false_or_eq_true (decide ((l.getD 0 stp0).2.2.1≥n)) with b4|b4<;>simp only[b4]<;>try rfl
      rcases Bool.eq_false_or_eq_true ((l.getD 0 stp0).2.1.toList==la.toList) with b5|b5<;>simp only[b5]<;>(rcases Bool.eq_false_or_eq_true ((l.getD 0 stp0).2.1.toList==lb.toList) with b6|b6<;>simp only[b6]<;>try rfl)<;>
      (rcases Bool.eq_false_or_eq_true (decide ((l.getD 0 stp0).2.2.2<0)) with b7|b7<;>simp only[b7]<;>try rfl)<;>
      (rcases Bool.eq_false_or_eq_true (decide ((l.getD 0 stp0).2.2.2>3)) with b8|b8<;>simp only[b8]<;>rfl)
     ·simp only[w64_pred hi h0 (show l.length≤9223372036854775807 by omega),gt_t h0,cond_true,if_pos (in_t (show i-1<l.length by omega)),Int.toNat_natCast,decide_eq_false (show ¬i=0 by omega),Bool.false_or,hr,hr2,Option.bind_some]
      rcases Bool.eq_false_or_eq_true (decide ((l.getD i stp0).1<0)) with b1|b1<;>simp only[b1]<;>try rfl
      rcases Bool.eq_false_or_eq_true (decide ((l.getD i stp0).1≥n)) with b2|b2<;>simp only[b2]<;>try rfl
      rcases Bool.eq_false_or_eq_true (decide ((l.getD i stp0).2.2.1<0)) with b3|b3<;>simp only[b3]<;>try rfl
      rcases Bool.eq_false_or_eq_true (decide ((l.getD i stp0).2.2.1≥n)) with b4|b4<;>simp only[b4]<;>try rfl
      rcases Bool.eq_false_or_eq_true ((l.getD i stp0).2.1.toList==la.toList) with b5|b5<;>simp only[b5]<;>(rcases Bool.eq_false_or_eq_true ((l.getD i stp0).2.1.toList==lb.toList) with b6|b6<;>simp only[b6]<;>try rfl)<;>
      (rcases Bool.eq_false_or_eq_true (decide ((l.getD i stp0).2.2.2<0)) with b7|b7<;>simp only[b7]<;>try rfl)<;>
      (rcases Bool.eq_false_or_eq_true (decide ((l.getD i stp0).2.2.2>3)) with b8|b8<;>simp only[b8]<;>try rfl)<;>
      (rcases Bool.eq_false_or_eq_true (befB (l.getD (i-1) stp0) (l.getD i stp0)) with c|c<;>simp only[c]<;>rfl)) (by simp only[impl_AutomatonValid_l4,lt_f];rfl)
    rw[show((0:Int))=((0:Nat):Int) from rfl,this];unfold stepsOk;cases(List.range l.length).all (stepsP n l)<;>rfl
   ·have hd:decide (((l.length:Nat):Int)>(24:Int))=true:=decide_eq_true (by omega);simp only[hd,cond_true,decide_eq_false hl,Bool.false_and,Bool.and_false]
end Go.Proofs.YthkflageghfbgaaGreatDoor

/- The laws' own helpers: sizes, copies, comparisons. -/
namespace Go.Proofs.YthkflageghfbgaaGreatDoor
open Go Go.Proofs.YthkflageghfbgaaGreatDoor.Am
theorem loop_tot{σ ρ α:Type}{f:σ→Option (σ⊕ρ)}(n:Nat)(st:Nat→α→σ)(I:Nat→α→Prop)(R:ρ→Prop)
  (hs:∀i a,i<n→I i a→(∃a',f (st i a)=some (.inl (st (i+1) a'))∧I (i+1) a')∨∃r,f (st i a)=some (.inr r)∧R r) (he:∀a,I n a→∃r,f (st n a)=some (.inr r)∧R r):
  ∀a,I 0 a→∃r,loopF f (st 0 a)=some r∧R r:=by
 have key:∀k i a,i+k=n→I i a→∃r,loopF f (st i a)=some r∧R r:=by
  intro k
  induction k with
  |zero=>
   intro i a hi ha;obtain rfl:i=n:=by omega
   obtain⟨r,h1,h2⟩:=he a ha;exact⟨r,by rw[loopF_eq,h1];rfl,h2⟩
  |succ k ih=>
   intro i a hi ha
   rcases hs i a (by omega) ha with⟨a',h1,h2⟩|⟨r,h1,h2⟩
   ·rw[loopF_eq,h1];exact ih (i+1) _ (by omega) h2
   ·exact⟨r,by rw[loopF_eq,h1];rfl,h2⟩
 intro a ha;exact key n 0 a (by omega) ha
/-- what the bound tells -/
def Small(a:Aut):Prop:=a.2.1.length≤1048576∧a.2.2.1.length≤1048576∧a.2.2.2.length≤1048576
end Go.Proofs.YthkflageghfbgaaGreatDoor

/- A repeated number; words. -/
namespace Go.Proofs.YthkflageghfbgaaGreatDoor
open Go Go.Proofs.YthkflageghfbgaaGreatDoor.Am
theorem wu64{n:Int}(h1:0≤n)(h2:n≤18446744073709551615):IntKind.wrap .u64 n=n:=by
 show(if(false&&decide (n%18446744073709551616≥9223372036854775808))=true then n%18446744073709551616-18446744073709551616 else n%18446744073709551616)=n;rw[Bool.false_and];simp only[Bool.false_eq_true,if_false];omega
theorem mask_is{n:Int}(h1:0≤n)(h2:n≤1048577):((BitVec.toNat ((BitVec.ofInt (IntKind.bits .u64) n)&&& (BitVec.ofInt (IntKind.bits .u64) (4294967295:Int)))):Nat)=n.toNat:=by
 show((BitVec.ofInt 64 n)&&& (BitVec.ofInt 64 (4294967295:Int))).toNat=n.toNat;rw[BitVec.toNat_and];have e1:(BitVec.ofInt 64 (4294967295:Int)).toNat=2^32-1:=by decide
 have e2:(BitVec.ofInt 64 n).toNat=n.toNat:=by
  rw[BitVec.toNat_ofInt];omega
 rw[e1,e2,Nat.and_two_pow_sub_one_eq_mod];omega
theorem fdiv_small{n:Int}(h1:0≤n)(h2:n≤1048577):Int.fdiv n ((2:Int)^(Min.min (Int.toNat (32:Int)) (IntKind.bits .u64)))=0:=by
 show Int.fdiv n 4294967296=0;rw[Int.fdiv_eq_ediv_of_nonneg _ (by omega)];omega
theorem Mul64_is{n:Int}(h1:0≤n)(h2:n≤1048577):bits_Mul64 1 n=some (0,n):=by
 have m2:=mask_is h1 h2;have m1:=mask_is (n:=1) (by omega) (by omega);have nb:(Int.natAbs ((2:Int)^(IntKind.bits .u64)))=18446744073709551616:=by decide
 simp only[bits_Mul64,show ¬((32:Int)<0) by omega,if_false,m1,m2,fdiv_small (n:=1) (by omega) (by omega),fdiv_small h1 h2,nb];have a1:(((n.toNat%18446744073709551616:Nat)):Int)=n:=by omega
 have a2:((((1:Int).toNat%18446744073709551616:Nat)):Int)=1:=by decide
 rw[a1,a2];simp only[Int.mul_zero,Int.zero_mul,Int.one_mul,Int.mul_one,Int.add_zero,Int.zero_add];have z:IntKind.wrap .u64 0=0:=by decide
 simp only[wu64 h1 (show n≤18446744073709551615 by omega),z,fdiv_small h1 h2,Int.add_zero,Int.zero_add,fdiv_small (n:=0) (by omega) (by omega)]
 try rfl
theorem repeat_loop(x:Int)(n:Nat)(hn:n≤1048576):∀(k c:Nat),1≤c→c≤n→n-c≤k→loopF slices_Repeat_l8 (List.replicate c x++List.replicate (n-c) 0,(c:Int),())=some (List.replicate n x,()):=by
 intro k
 induction k with
 |zero=>
  intro c h1 h2 h3;obtain rfl:c=n:=by omega
  rw[loopF_eq];simp[slices_Repeat_l8]
 |succ k ih=>
  intro c h1 h2 h3
  by_cases hc:c=n
  ·subst hc;rw[loopF_eq];simp[slices_Repeat_l8]
  ·have hlen:(List.replicate c x++List.replicate (n-c) (0:Int)).length=n:=by simp;omega
   have hT:List.take (n-c) (List.take c (List.replicate c x++List.replicate (n-c) (0:Int)))=List.replicate (min (n-c) c) x:=by
    rw[List.take_append_of_le_length (by simp),List.take_replicate,List.take_replicate];congr 1;omega
   have hstep:slices_Repeat_l8 (List.replicate c x++List.replicate (n-c) 0,(c:Int),())=some (.inl (List.replicate (c+min (n-c) c) x++List.replicate (n-(c+min (n-c) c)) 0,((c+min (n-c) c:Nat):Int),())):=by
    simp only[slices_Repeat_l8,hlen,decide_eq_true (show(c:Int)<(n:Int) by omega),cond_true,if_pos (show(0:Int)≤(c:Int)∧(c:Int)≤(n:Int) by omega),Int.toNat_natCast,Nat.zero_add,Nat.sub_zero,List.drop_zero,hT,List.length_replicate];rw[w64 (by omega) (by omega)];have e:List.take n (List.take c (List.replicate c x++List.replicate (n-c) (0:Int))++(List.replicate (min (n-c) c) x++List.drop (c+min (n-c) c) (List.replicate c x++List.replicate (n-c) (0:Int))))=List.replicate (c+min (n-c) c) x++List.replicate (n-(c+min (n-c) c)) 0:=by
     have hc1:List.take c (List.replicate c x++List.replicate (n-c) (0:Int))=List.replicate c x:=by
      rw[List.take_append_of_le_length (by simp),List.take_replicate,Nat.min_self]
     have hd:List.drop (c+min (n-c) c) (List.replicate c x++List.replicate (n-c) (0:Int))=List.replicate (n-(c+min (n-c) c)) 0:=by
      rw[List.drop_append,List.drop_replicate,List.drop_replicate];simp only[List.length_replicate];rw[show c-(c+min (n-c) c)=0 by omega,List.replicate_zero,List.nil_append];congr 1;omega
     rw[hc1,hd,←List.append_assoc,List.replicate_append_replicate,List.take_of_length_le (by simp;omega)]
    rw[e];congr 5
   rw[loopF_eq,hstep];exact ih _ (by omega) (by omega) (by omega)
theorem Repeat_is(x:Int){n:Int}(h1:1≤n)(h2:n≤1048576):slices_Repeat [x] n=some (List.replicate n.toNat x):=by
 have e1:IntKind.wrap .u64 ((([x]:List Int).length:Nat):Int)=1:=by rw[wu64 (by simp) (by simp)];rfl
 simp only[slices_Repeat,decide_eq_false (show ¬n<0 by omega),cond_false,e1,wu64 (show 0≤n by omega) (show n≤18446744073709551615 by omega),bits_Mul,Mul64_is (show 0≤n by omega) (by omega),Option.bind_some,decide_eq_false (show ¬n>9223372036854775807 by omega),decide_eq_false (show ¬(0:Int)>0 by omega),w64 (show-9223372036854775808≤n by omega) (by omega)];rw[if_pos ⟨by omega,trivial,by omega⟩];have e2:List.take n.toNat [x]=[x]:=List.take_of_length_le (by simp;omega);have e3:List.take n.toNat (List.drop 0 (List.take 0 (List.replicate n.toNat (0:Int))++(List.take n.toNat [x]++List.drop (0+(List.take n.toNat [x]).length) (List.replicate n.toNat 0))))=List.replicate 1 x++List.replicate (n.toNat-1) 0:=by
  rw[e2];simp only[List.take_zero,List.drop_zero,List.nil_append,List.length_singleton,Nat.zero_add,List.drop_replicate];rw[List.take_of_length_le (by simp;omega)];rfl
 rw[e3,e2];have:=repeat_loop x n.toNat (by omega) (n.toNat-1) 1 (by omega) (by omega) (by omega);rw[show((([x]:List Int).length:Nat):Int)=((1:Nat):Int) from rfl,this];simp
end Go.Proofs.YthkflageghfbgaaGreatDoor

/- The short words. -/
namespace Go.Proofs.YthkflageghfbgaaGreatDoor
open Go Go.Proofs.YthkflageghfbgaaGreatDoor.Am
abbrev be0:ByteArray:=⟨Array.empty⟩
abbrev emp:ByteArray:=⟨#[]⟩
def ext(l:List ByteArray):List ByteArray:=l.flatMap fun w=>[w++la,w++lb]
/-- the words that are there, and where those of the last length begin -/
def gen:Nat→List ByteArray×Nat
 |0=>([emp],0)
 |j+1=>((gen j).1++ext ((gen j).1.drop (gen j).2),(gen j).1.length)
def AB(w:ByteArray):Prop:=∀b∈w.data.toList,b=97∨b=98
theorem AB.app{w:ByteArray}(h:AB w):AB (w++la)∧AB (w++lb):=by
 constructor<;>intro b hb<;>rw[ByteArray.data_append,Array.toList_append] at hb<;>rcases List.mem_append.1 hb with hb|hb
 ·exact h b hb
 ·exact .inl (by simpa using hb)
 ·exact h b hb
 ·exact .inr (by simpa using hb)
/-- a word of the two letters -/
def letterP(w:ByteArray)(i:Nat):Bool:=((((w.data.getD i 0).toNat:Nat):Int)==97)||((((w.data.getD i 0).toNat:Nat):Int)==98)
def wordOk(w:ByteArray):Bool:=(List.range w.size).all (letterP w)&&decide (w.size≤1000)
theorem impl_WordValid_is{w:ByteArray}(hw:w.size≤9223372036854775807):impl_WordValid w=some (wordOk w):=by
 simp only[impl_WordValid];have:=loop_all (f:=impl_WordValid_l2) (fun i=>(w,(w.size:Int),(i:Int),())) w.size (letterP w) (.inl (false,())) (.inr (w,())) (fun i hi=>by
  simp only[impl_WordValid_l2,lt_t hi,cond_true,if_pos (in_t hi),Int.toNat_natCast,w64_succ hi hw,letterP,bne]
  rcases Bool.eq_false_or_eq_true ((((w.data.getD i 0).toNat:Nat):Int)==97) with a|a<;>rcases Bool.eq_false_or_eq_true ((((w.data.getD i 0).toNat:Nat):Int)==98) with b|b<;>simp only[a,b]<;>rfl) (by simp only[impl_WordValid_l2,lt_f];rfl)
 rw[show((0:Int))=((0:Nat):Int) from rfl,this];unfold wordOk;cases(List.range w.size).all (letterP w) with
 |true=>
  simp only[if_true,Option.bind_some,Bool.true_and];congr 1;rw[Bool.eq_iff_iff,decide_eq_true_eq,decide_eq_true_eq];omega
 |false=>rfl
theorem AB.ok{w:ByteArray}(h:AB w)(hs:w.size≤1000):wordOk w=true:=by
 unfold wordOk;rw[Bool.and_eq_true];refine⟨List.all_eq_true.2 fun i hi=> ?_,decide_eq_true hs⟩;have hi:=List.mem_range.1 hi;have hb:=h (w.data.getD i 0) (by
  have hi':i<w.data.size:=hi;rw[Array.getD_eq_getD_getElem?,Array.getElem?_eq_getElem hi'];exact Array.getElem_mem_toList hi')
 unfold letterP
 rcases hb with hb|hb<;>rw[hb]<;>rfl
end Go.Proofs.YthkflageghfbgaaGreatDoor

/- Matrices of costs: what their lists hold. -/
namespace Go.Proofs.YthkflageghfbgaaGreatDoor
open Go Go.Proofs.YthkflageghfbgaaGreatDoor.Am
theorem marks_mem{n:Int}{l:List Int}(h:marksOk n l=true):∀q∈l,0≤q∧q≤n-1:=by
 intro q hq;obtain⟨i,hi,rfl⟩:=List.getElem_of_mem hq;have:=List.all_eq_true.1 h i (List.mem_range.2 hi);unfold marksP at this;rw[Bool.and_eq_true,decide_eq_true_eq,List.getD_eq_getElem?_getD,List.getElem?_eq_getElem hi] at this;exact this.1
structure StepIs (n:Int) (s:Stp):Prop where
 f0:0≤s.1
 f1:s.1≤n-1
 t0:0≤s.2.2.1
 t1:s.2.2.1≤n-1
 c0:0≤s.2.2.2
 c1:s.2.2.2≤3
 l:s.2.1.toList=la.toList∨s.2.1.toList=lb.toList
theorem stepOk_is{n:Int}{s:Stp}(h:stepOk n s=true):StepIs n s:=by
 unfold stepOk at h;simp only[Bool.and_eq_true,decide_eq_true_eq,Bool.or_eq_true,beq_iff_eq] at h;obtain⟨⟨a,b⟩,⟨c,d⟩,⟨e,f⟩,g⟩:=h;exact⟨a,b,c,d,e,f,g⟩
def rank(s:Stp):Int:=s.1*8+(if s.2.1.toList=lb.toList then 4 else 0)+s.2.2.1
theorem la_list:la.toList=[97]:=by rw[toList_bytes]
theorem lb_list:lb.toList=[98]:=by rw[toList_bytes]
theorem befB_rank{n:Int}(h4:n≤4){s t:Stp}(hs:StepIs n s)(ht:StepIs n t)(h:befB s t=true):rank s<rank t:=by
 have a1:=hs.t0;have a2:=hs.t1;have a3:=ht.t0;have a4:=ht.t1;unfold befB at h;unfold rank
 by_cases hf:s.1=t.1
 ·rw[hf] at h⊢;simp only[bne_self_eq_false,cond_false] at h
  rcases hs.l with e1|e1<;>rcases ht.l with e2|e2<;>simp only[e1,e2,la_list,lb_list] at h⊢<;>simp[Op.bytesLess] at h⊢<;>omega
 ·have hb:(s.1 != t.1)=true:=by simpa using hf
  simp only[hb,cond_true,decide_eq_true_eq] at h;split<;>split<;>omega
theorem stepsOk_is{n:Int}(h4:n≤4){l:List Stp}(h:stepsOk n l=true):(∀s∈l,StepIs n s)∧∀i j (hi:i<j) (hj:j<l.length),rank (l[i]'(by omega))<rank l[j]:=by
 have hall:∀i (hi:i<l.length),StepIs n l[i]∧(0<i→befB (l[i-1]'(by omega)) l[i]=true):=by
  intro i hi;have:=List.all_eq_true.1 h i (List.mem_range.2 hi);unfold stepsP at this;rw[Bool.and_eq_true,List.getD_eq_getElem?_getD,List.getElem?_eq_getElem hi] at this;refine⟨stepOk_is this.1,fun h0=> ?_⟩;have h2:=this.2;rw[List.getD_eq_getElem?_getD,List.getElem?_eq_getElem (by omega),Bool.or_eq_true,decide_eq_true_eq] at h2
  rcases h2 with h2|h2
  ·omega
  ·exact h2
 refine⟨fun s hs=> ?_, ?_⟩
 ·obtain⟨i,hi,rfl⟩:=List.getElem_of_mem hs;exact(hall i hi).1
 ·intro i j
  induction j with
  |zero=>intro h;omega
  |succ j ih=>
   intro hi hj;have h1:=befB_rank h4 (hall j (by omega)).1 (hall (j+1) hj).1 ((hall (j+1) hj).2 (by omega))
   by_cases e:i=j
   ·subst e;exact h1
   ·have:=ih (by omega) (by omega);omega
abbrev Nv:Int:=1000000
/-- a list of so many costs -/
def Rng(l:List Int)(m:Nat):Prop:=l.length=m∧∀x∈l,0≤x∧x≤Nv
theorem Rng.at{l:List Int}{m i:Nat}(h:Rng l m)(hi:i<m):0≤l.getD i 0∧l.getD i 0≤Nv:=by
 have hi':i<l.length:=by rw[h.1];exact hi
 rw[List.getD_eq_getElem?_getD,List.getElem?_eq_getElem hi'];exact h.2 _ (List.getElem_mem hi')
theorem Rng.set{l:List Int}{m:Nat}(h:Rng l m)(i:Nat){x:Int}(hx:0≤x∧x≤Nv):Rng (l.set i x) m:=by
 refine⟨by rw[List.length_set];exact h.1,fun y hy=> ?_⟩
 rcases List.mem_or_eq_of_mem_set hy with hy|rfl
 ·exact h.2 y hy
 ·exact hx
theorem getD_set{l:List Int}{i j:Nat}{x:Int}(hi:i<l.length):(l.set i x).getD j 0=if i=j then x else l.getD j 0:=by
 simp only[List.getD_eq_getElem?_getD,List.getElem?_set]
 by_cases h:i=j
 ·subst h;simp[hi]
 ·simp[h]
theorem idx_lt{n i k:Nat}(hi:i<n)(hk:k<n):i*n+k<n*n:=by
 have:(i+1)*n≤n*n:=Nat.mul_le_mul_right _ hi;rw[Nat.add_mul] at this;omega
theorem idx_inj{n i k i' k':Nat}(hk:k<n)(hk':k'<n)(h:i*n+k=i'*n+k'):i=i'∧k=k':=by
 have h1:(i*n+k)/n=i:=by rw[Nat.mul_comm,Nat.mul_add_div (by omega),Nat.div_eq_of_lt hk];omega
 have h2:(i'*n+k')/n=i':=by rw[Nat.mul_comm,Nat.mul_add_div (by omega),Nat.div_eq_of_lt hk'];omega
 rw[h,h2] at h1;subst h1;exact⟨rfl,by omega⟩
theorem sq_le{n:Nat}(h:n≤4):n*n≤16:=Nat.mul_le_mul h h
/-- what a letter's matrix holds -/
def MatIs(n:Nat)(l:List Stp)(c:List UInt8)(M:List Int):Prop:=
 Rng M (n*n)∧∀i k,i<n→k<n→∀z,z≤M.getD (i*n+k) 0↔z≤Nv∧∀s∈l,s.2.1.toList=c→s.1=(i:Int)→s.2.2.1=(k:Int)→z≤s.2.2.2
theorem l3Matrix_is{a:Aut}{c:ByteArray}{n:Nat}(hn:a.1=(n:Int))(h1:1≤n)(h4:n≤4)(hl:a.2.2.2.length≤24)(hs:stepsOk a.1 a.2.2.2=true):∃M,spec_l3Matrix a c=some ((n:Int),M)∧MatIs n a.2.2.2 c.toList M:=by
 obtain⟨x,S,F,l⟩:=a;have hn:x=(n:Int):=hn;subst hn;have hl:l.length≤24:=hl;obtain⟨hst,hrk⟩:=stepsOk_is (show(n:Int)≤4 by omega) hs;have hst:∀s∈l,StepIs (n:Int) s:=hst;have hsq:=sq_le h4;have hw:IntKind.wrap .i64 ((n:Int)*(n:Int))=((n*n:Nat):Int):=by
  have e:(n:Int)*(n:Int)=((n*n:Nat):Int):=by simp
  rw[e];exact w64 (by omega) (by omega)
 simp only[spec_l3Matrix,hw];obtain⟨r,g1,g2⟩:=loop_inv (f:=spec_l3Matrix_l3) (n*n) (fun i (o:List Int)=>(c,((n:Int),S,F,l,()),((0:Int),[],()),((n:Int),o,()),((n*n:Nat):Int),(i:Int),())) (fun i o=>o++[Nv]) (fun o=>(c,((n:Int),S,F,l,()),((0:Int),[],()),((n:Int),o,()),())) (fun i o=>o=List.replicate i Nv)
  (fun i o hi ho=>by subst ho;rw[List.replicate_succ'])
  (fun i o hi ho=>by
   have hol:o.length=i:=by subst ho;simp
   simp only[spec_l3Matrix_l3,lt_t hi,cond_true,Nat.zero_add,List.drop_zero,w64_succ hi (show n*n≤9223372036854775807 by omega)];rw[if_pos ⟨trivial,by simp;omega⟩];simp[List.take_of_length_le])
  (fun o ho=>by simp only[spec_l3Matrix_l3,lt_f,cond_false,List.drop_zero,List.take_length])
  [] rfl
 rw[show((0:Int))=((0:Nat):Int) from rfl] at*
 rw[g1];subst g2;simp only[Option.bind_some,List.drop_zero,List.take_length];obtain⟨r,g1,g2⟩:=loop_inv (f:=spec_l3Matrix_l7) l.length (fun i (M:List Int)=>(c,((n:Int),S,F,l,()),((0:Int),[],()),((n:Int),M,()),l,(l.length:Int),(i:Int),())) (fun i M=>bif (l.getD i stp0).2.1.toList==c.toList then M.set ((l.getD i stp0).1.toNat*n+(l.getD i stp0).2.2.1.toNat) (l.getD i stp0).2.2.2 else M)
  (fun M=>(((0:Int),[],()),((n:Int),M,()),())) (fun i M=>MatIs n (l.take i) c.toList M)
  (fun i M hi hM=>by
   have hmem:l.getD i stp0=l[i]:=by rw[List.getD_eq_getElem?_getD,List.getElem?_eq_getElem hi];rfl
   have hsi:=hst _ (List.getElem_mem hi);have e0:=hsi.f0;have e1:=hsi.f1;have e2:=hsi.t0;have e3:=hsi.t1;have e4:=hsi.c0;have e5:=hsi.c1;have htake:l.take (i+1)=l.take i++[l[i]]:=by rw[List.take_add_one,List.getElem?_eq_getElem hi];rfl
   rw[hmem];cases hc:l[i].2.1.toList==c.toList with
   |false=>
    simp only[cond_false];refine⟨hM.1,fun p q hp hq z=> ?_⟩;rw[hM.2 p q hp hq z,htake];refine and_congr Iff.rfl ⟨fun h s hs h1 h2 h3=> ?_,fun h s hs h1 h2 h3=>h s (List.mem_append_left _ hs) h1 h2 h3⟩
    rcases List.mem_append.1 hs with hs|hs
    ·exact h s hs h1 h2 h3
    ·simp only[List.mem_singleton] at hs;subst hs;rw[h1] at hc;simp at hc
   |true=>
    have hc:=eq_of_beq hc;simp only[cond_true];have hlt:l[i].1.toNat*n+l[i].2.2.1.toNat<n*n:=idx_lt (by omega) (by omega);refine⟨hM.1.set _ ⟨e4,by simp only[Nv];omega⟩,fun p q hp hq z=> ?_⟩;rw[getD_set (by rw[hM.1.1];exact hlt)]
    by_cases hpq:l[i].1.toNat*n+l[i].2.2.1.toNat=p*n+q
    ·obtain⟨rfl,rfl⟩:=idx_inj (by omega) hq hpq;rw[if_pos rfl,htake];constructor
     ·intro hz;refine⟨by simp only[Nv];omega,fun s hs h1 h2 h3=> ?_⟩
      rcases List.mem_append.1 hs with hs|hs
      ·exfalso;obtain⟨j,hj,rfl⟩:=List.getElem_of_mem hs;rw[List.getElem_take] at h1 h2 h3;simp only[List.length_take] at hj;have:=hrk j i (by omega) hi;have this:rank l[j]<rank l[i]:=this;unfold rank at this;rw[h1,hc,h2,h3] at this;split at this<;>omega
      ·simp only[List.mem_singleton] at hs;subst hs;exact hz
     ·rintro⟨_,h⟩;exact h l[i] (List.mem_append_right _ (List.mem_singleton.2 rfl)) hc (by omega) (by omega)
    ·rw[if_neg hpq,hM.2 p q hp hq z,htake];refine and_congr Iff.rfl ⟨fun h s hs h1 h2 h3=> ?_,fun h s hs h1 h2 h3=>h s (List.mem_append_left _ hs) h1 h2 h3⟩
     rcases List.mem_append.1 hs with hs|hs
     ·exact h s hs h1 h2 h3
     ·simp only[List.mem_singleton] at hs;subst hs;exact absurd (by rw[h2,h3];rfl) hpq)
  (fun i M hi hM=>by
   have hmem:l.getD i stp0=l[i]:=by rw[List.getD_eq_getElem?_getD,List.getElem?_eq_getElem hi];rfl
   have hsi:=hst _ (List.getElem_mem hi);rw[←hmem] at hsi;have e0:=hsi.f0;have e1:=hsi.f1;have e2:=hsi.t0;have e3:=hsi.t1;have hlt:(l.getD i stp0).1.toNat*n+(l.getD i stp0).2.2.1.toNat<n*n:=idx_lt (by omega) (by omega);have m1:(l.getD i stp0).1*(n:Int)=(((l.getD i stp0).1.toNat*n:Nat):Int):=by
    rw[Int.natCast_mul];congr 1;omega
   have w1:IntKind.wrap .i64 ((l.getD i stp0).1*(n:Int))=(((l.getD i stp0).1.toNat*n:Nat):Int):=by rw[m1];exact w64 (by omega) (by omega)
   have w2:IntKind.wrap .i64 ((((l.getD i stp0).1.toNat*n:Nat):Int)+(l.getD i stp0).2.2.1)=(((l.getD i stp0).1.toNat*n+(l.getD i stp0).2.2.1.toNat:Nat):Int):=by
    rw[w64 (by omega) (by omega)];omega
   simp only[spec_l3Matrix_l7,lt_t hi,cond_true,if_pos (in_t hi),Int.toNat_natCast,List.drop_zero,Nat.zero_add,w64_succ hi (show l.length≤9223372036854775807 by omega),w1,w2];cases hc:(l.getD i stp0).2.1.toList==c.toList with
   |false=>simp only[cond_false,List.take_length]
   |true=>
    simp only[cond_true];rw[if_pos ⟨by omega,by rw[hM.1.1];omega⟩,List.take_length,List.take_of_length_le (by rw[List.length_set];exact Nat.le_refl _)])
  (fun M hM=>by simp only[spec_l3Matrix_l7,lt_f,cond_false,List.drop_zero,List.take_length])
  (List.replicate (n*n) Nv) ⟨⟨by simp,fun x hx=>by rw[List.eq_of_mem_replicate hx];exact⟨by decide,by decide⟩⟩,fun p q hp hq z=>by
   rw[List.getD_eq_getElem?_getD,List.getElem?_eq_getElem (by simp;exact idx_lt hp hq)];simp⟩
 rw[show((0:Int))=((0:Nat):Int) from rfl] at*
 rw[g1];refine⟨r, ?_,by rw[List.take_length] at g2;exact g2⟩;simp only[Option.bind_some,List.drop_zero,List.take_length]
end Go.Proofs.YthkflageghfbgaaGreatDoor

/- Products of matrices: the least costs of runs. -/
namespace Go.Proofs.YthkflageghfbgaaGreatDoor
open Go Go.Proofs.YthkflageghfbgaaGreatDoor.Am
theorem l1Add_is{x y:Int}(hx:0≤x∧x≤Nv)(hy:0≤y∧y≤Nv):∃r,spec_l1Add x y=some r∧0≤r∧r≤Nv∧∀z,z≤r↔z≤Nv∧z≤x+y:=by
 simp only[Nv] at*
 simp only[spec_l1Add,w64 (show-9223372036854775808≤x+y by omega) (by omega)];refine⟨_,rfl, ?_, ?_,fun z=> ?_⟩<;>split<;>omega
theorem min_is(x y z:Int):(z≤if x<y then x else y)↔z≤y∧z≤x:=by split<;>omega
theorem div_is(i n:Nat):Int.tdiv (i:Int) (n:Int)=((i/n:Nat):Int):=rfl
theorem mod_is(i n:Nat):Int.tmod (i:Int) (n:Int)=((i%n:Nat):Int):=rfl
theorem mulw{i n l:Nat}(h:i*n+l≤1000000):IntKind.wrap .i64 (IntKind.wrap .i64 ((i:Int)*(n:Int))+(l:Int))=((i*n+l:Nat):Int):=by
 have e:(i:Int)*(n:Int)=((i*n:Nat):Int):=by simp
 rw[e,w64 (n:=((i*n:Nat):Int)) (by omega) (by omega),w64 (by omega) (by omega)];omega
theorem w64n{q:Nat}(h:q≤1000000):IntKind.wrap .i64 (q:Int)=(q:Int):=w64 (by omega) (by omega)
theorem sqw{n:Nat}(h4:n≤4):IntKind.wrap .i64 ((n:Int)*(n:Int))=((n*n:Nat):Int):=by
 have:=sq_le h4;have e:(n:Int)*(n:Int)=((n*n:Nat):Int):=by simp
 rw[e];exact w64 (by omega) (by omega)
/-- lists in rows and columns -/
theorem row_col{n m:Nat}(h:m<n*n):m/n<n∧m%n<n∧m/n*n+m%n=m:=by
 have hn:0<n:=by
  rcases Nat.eq_zero_or_pos n with rfl|h0
  ·simp at h
  ·exact h0
 refine⟨?_,Nat.mod_lt _ hn, ?_⟩
 ·exact(Nat.div_lt_iff_lt_mul hn).2 h
 ·rw[Nat.mul_comm];exact Nat.div_add_mod m n
theorem col_row{n i k:Nat}(hk:k<n):(i*n+k)/n=i∧(i*n+k)%n=k:=by
 constructor
 ·rw[Nat.mul_comm,Nat.mul_add_div (by omega),Nat.div_eq_of_lt hk];omega
 ·rw[Nat.mul_comm,Nat.mul_add_mod,Nat.mod_eq_of_lt hk]
theorem getD_snoc{o:List Int}{x:Int}{m:Nat}:(o++[x]).getD m 0=if m=o.length then x else o.getD m 0:=by
 simp only[List.getD_eq_getElem?_getD,List.getElem?_append]
 by_cases h:m<o.length
 ·rw[if_pos h,if_neg (by omega)]
 ·by_cases e:m=o.length
  ·subst e;simp
  ·rw[if_neg h,if_neg e];simp only[List.getElem?_eq_none (show o.length≤m by omega)];rw[List.getElem?_eq_none (by simp;omega)]
/-- a product -/
def MulIs(n:Nat)(A B C:List Int):Prop:=Rng C (n*n)∧∀i k,i<n→k<n→∀z,z≤C.getD (i*n+k) 0↔z≤Nv∧∀l,l<n→z≤A.getD (i*n+l) 0+B.getD (l*n+k) 0
theorem l2Mul_in{n:Nat}(h4:n≤4){A B:List Int}(hA:Rng A (n*n))(hB:Rng B (n*n))(o:List Int){i k:Nat}(hi:i<n)(hk:k<n)(u v:Int):
  ∃r:Int,loopF spec_l2Mul_l8 (((n:Int),A,()),((n:Int),B,()),((0:Int),[],()),((n:Int),o,()),(i:Int),(k:Int),(1000000:Int),u,v,(n:Int),(0:Int),())=some (((n:Int),A,()),((n:Int),B,()),((0:Int),[],()),((n:Int),o,()),r,u,v,())∧
   (0≤r∧r≤Nv)∧∀z,z≤r↔z≤Nv∧∀l,l<n→z≤A.getD (i*n+l) 0+B.getD (l*n+k) 0:=by
 have hsq:=sq_le h4;obtain⟨r,g1,g2⟩:=loop_rel (f:=spec_l2Mul_l8) n (fun l (c:Int)=>(((n:Int),A,()),((n:Int),B,()),((0:Int),[],()),((n:Int),o,()),(i:Int),(k:Int),c,u,v,(n:Int),(l:Int),()))
  (fun c=>(((n:Int),A,()),((n:Int),B,()),((0:Int),[],()),((n:Int),o,()),c,u,v,())) (fun l c=>(0≤c∧c≤Nv)∧∀z,z≤c↔z≤Nv∧∀l',l'<l→z≤A.getD (i*n+l') 0+B.getD (l'*n+k) 0)
  (fun l c hl hc=>by
   have e1:=idx_lt hi hl;have e2:=idx_lt hl hk;obtain⟨r,a1,a2,a3,a4⟩:=l1Add_is (hA.at e1) (hB.at e2);refine⟨if r<c then r else c, ?_, ?_,fun z=> ?_⟩
   ·simp only[spec_l2Mul_l8,lt_t hl,cond_true,mulw (show i*n+l≤1000000 by omega),mulw (show l*n+k≤1000000 by omega),Int.toNat_natCast];rw[if_pos ⟨by omega,by rw[hA.1];omega⟩,if_pos ⟨by omega,by rw[hB.1];omega⟩,a1];simp only[Option.bind_some,List.drop_zero,List.take_length,w64_succ hl (show n≤9223372036854775807 by omega)]
   ·have:=hc.1;split<;>omega
   ·rw[min_is,hc.2 z,a4 z];constructor
    ·rintro⟨⟨h1,h2⟩,_,h3⟩;refine⟨h1,fun l' hl'=> ?_⟩
     by_cases e:l'=l
     ·subst e;exact h3
     ·exact h2 l' (by omega)
    ·rintro⟨h1,h2⟩;exact⟨⟨h1,fun l' hl'=>h2 l' (by omega)⟩,h1,h2 l (by omega)⟩)
  (fun c hc=>by simp only[spec_l2Mul_l8,lt_f,cond_false,List.drop_zero,List.take_length])
  1000000 ⟨⟨by decide,by decide⟩,fun z=>⟨fun h=>⟨h,fun l' hl'=>by omega⟩,fun h=>h.1⟩⟩
 exact⟨r,g1,g2.1,g2.2⟩
theorem l2Mul_is{n:Nat}(h1:1≤n)(h4:n≤4){A B:List Int}(hA:Rng A (n*n))(hB:Rng B (n*n)):∃C,spec_l2Mul ((n:Int),A) ((n:Int),B)=some ((n:Int),C)∧MulIs n A B C:=by
 have hsq:=sq_le h4;simp only[spec_l2Mul,sqw h4];obtain⟨r,g1,g2⟩:=loop_rel (f:=spec_l2Mul_l3) (n*n) (fun m (o:List Int)=>(((n:Int),A,()),((n:Int),B,()),((0:Int),[],()),((n:Int),o,()),((n*n:Nat):Int),(m:Int),()))
  (fun o=>(((0:Int),[],()),((n:Int),o,()),())) (fun m o=>Rng o m∧∀j,j<m→∀z,z≤o.getD j 0↔z≤Nv∧∀l,l<n→z≤A.getD (j/n*n+l) 0+B.getD (l*n+j%n) 0)
  (fun m o hm ho=>by
   obtain⟨r1,r2,r3⟩:=row_col hm;obtain⟨r,a1,a2,a3⟩:=l2Mul_in h4 hA hB o r1 r2 ((n*n:Nat):Int) (m:Int);have hol:=ho.1.1;refine⟨o++[r], ?_,⟨by rw[List.length_append,hol];rfl,fun x hx=> ?_⟩,fun j hj z=> ?_⟩
   ·simp only[spec_l2Mul_l3,lt_t hm,cond_true];rw[if_neg (by omega),if_neg (by omega),div_is,mod_is,w64n (show m/n≤1000000 by omega)];simp only[List.drop_zero,List.take_length];rw[a1];simp only[Option.bind_some,List.drop_zero,List.take_length,Nat.zero_add];rw[show List.take 1 [r]=[r] from rfl,if_pos ⟨trivial,by simp;omega⟩,List.take_of_length_le (by simp),w64_succ hm (by omega)]
   ·rcases List.mem_append.1 hx with hx|hx
    ·exact ho.1.2 x hx
    ·rw[List.mem_singleton] at hx;subst hx;exact a2
   ·rw[getD_snoc,hol]
    by_cases e:j=m
    ·subst e;rw[if_pos rfl];exact a3 z
    ·rw[if_neg e];exact ho.2 j (by omega) z)
  (fun o ho=>by simp only[spec_l2Mul_l3,lt_f,cond_false,List.drop_zero,List.take_length])
  [] ⟨⟨rfl,fun x hx=>by cases hx⟩,fun j hj=>by omega⟩
 have g1:loopF spec_l2Mul_l3 (((n:Int),A,()),((n:Int),B,()),((0:Int),[],()),((n:Int),[],()),((n*n:Nat):Int),(0:Int),())=_:=g1;rw[g1];refine⟨r,by simp only[Option.bind_some,List.drop_zero,List.take_length],g2.1,fun i k hi hk z=> ?_⟩;have:=g2.2 (i*n+k) (idx_lt hi hk) z;rw[(col_row (i:=i) hk).1,(col_row (i:=i) hk).2] at this;exact this
/-- runs of steps -/
def Run(l:List Stp):List UInt8→Int→Int→Int→Prop
 |[],i,k,c=>i=k∧c=0
 |b::ws,i,k,c=>∃s∈l,s.2.1.toList=[b]∧s.1=i∧∃c',Run l ws s.2.2.1 k c'∧c=s.2.2.2+c'
theorem Run.snoc{l:List Stp}{b:UInt8}:∀{ws:List UInt8} {i k c:Int},Run l (ws++[b]) i k c↔∃c' s,s∈l∧s.2.1.toList=[b]∧Run l ws i s.1 c'∧s.2.2.1=k∧c=c'+s.2.2.2
 |[],i,k,c=>by
  simp only[List.nil_append,Run];constructor
  ·rintro⟨s,h1,h2,rfl,c',⟨rfl,rfl⟩,rfl⟩;exact⟨0,s,h1,h2,⟨rfl,rfl⟩,rfl,by omega⟩
  ·rintro⟨c',s,h1,h2,⟨rfl,rfl⟩,rfl,rfl⟩;exact⟨s,h1,h2,rfl,0,⟨rfl,rfl⟩,by omega⟩
 |a::ws,i,k,c=>by
  simp only[List.cons_append,Run];constructor
  ·rintro⟨s,h1,h2,rfl,c',h3,rfl⟩;obtain⟨c2,t,g1,g2,g3,g4,rfl⟩:=Run.snoc.1 h3;exact⟨s.2.2.2+c2,t,g1,g2,⟨s,h1,h2,rfl,c2,g3,rfl⟩,g4,by omega⟩
  ·rintro⟨c',t,g1,g2,⟨s,h1,h2,rfl,c2,g3,rfl⟩,g4,rfl⟩;exact⟨s,h1,h2,rfl,c2+t.2.2.2,Run.snoc.2 ⟨c2,t,g1,g2,g3,g4,rfl⟩,by omega⟩
theorem Run.nonneg{n:Int}{l:List Stp}(hl:∀s∈l,StepIs n s):∀{ws:List UInt8} {i k c:Int},Run l ws i k c→0≤c
 |[],i,k,c,h=>by simp only[Run] at h;omega
 |a::ws,i,k,c,h=>by
  simp only[Run] at h;obtain⟨s,h1,_,_,c',h3,rfl⟩:=h;have:=(hl s h1).c0;have:=Run.nonneg hl h3;omega
/-- a matrix tells the least costs of runs -/
def ProdIs(n:Nat)(l:List Stp)(ws:List UInt8)(P:List Int):Prop:=
 Rng P (n*n)∧∀i k,i<n→k<n→∀z,z≤P.getD (i*n+k) 0↔z≤Nv∧∀c,Run l ws (i:Int) (k:Int) c→z≤c
theorem ProdIs.mul{n:Nat}{l:List Stp}(hl:∀s∈l,StepIs (n:Int) s){ws:List UInt8}{b:UInt8}{P M C:List Int}(hP:ProdIs n l ws P)(hM:MatIs n l [b] M)(hC:MulIs n P M C):ProdIs n l (ws++[b]) C:=by
 refine⟨hC.1,fun i k hi hk z=> ?_⟩;rw[hC.2 i k hi hk z];refine and_congr_right fun hz=> ?_;constructor
 ·intro h c hr;obtain⟨c',s,h1,h2,h3,h4,rfl⟩:=Run.snoc.1 hr;have hs:=hl s h1;have q0:=hs.f0;have q1:=hs.f1;have hj:s.1.toNat<n:=by omega
  have hm:=hM.1.at (idx_lt hj hk);have e1:=h s.1.toNat hj;have e2:=(hP.2 i s.1.toNat hi hj (z-M.getD (s.1.toNat*n+k) 0)).1 (by omega);have e3:=e2.2 c' (by rw[show((s.1.toNat:Nat):Int)=s.1 by omega];exact h3);have hc':=Run.nonneg hl h3;have e4:=(hM.2 s.1.toNat k hj hk (z-c')).1 (by omega);have:=e4.2 s h1 h2 (by omega) h4;omega
 ·intro h j hj;have hm:=hM.1.at (idx_lt hj hk);have:z-M.getD (j*n+k) 0≤P.getD (i*n+j) 0:=by
   rw[hP.2 i j hi hj];refine⟨by omega,fun c hr=> ?_⟩;have hc:=Run.nonneg hl hr;have:z-c≤M.getD (j*n+k) 0:=by
    rw[hM.2 j k hj hk];refine⟨by omega,fun s h1 h2 h3 h4=> ?_⟩;have:=h (c+s.2.2.2) (Run.snoc.2 ⟨c,s,h1,h2,by rw[h3];exact hr,h4,rfl⟩);omega
   omega
  omega
theorem l2Unit_is{n:Nat}(h1:1≤n)(h4:n≤4)(l:List Stp):∃U,spec_l2Unit (n:Int)=some ((n:Int),U)∧ProdIs n l [] U:=by
 have hsq:=sq_le h4;simp only[spec_l2Unit,sqw h4];obtain⟨r,g1,g2⟩:=loop_rel (f:=spec_l2Unit_l3) (n*n) (fun m (o:List Int)=>((n:Int),((0:Int),[],()),((n:Int),o,()),((n*n:Nat):Int),(m:Int),()))
  (fun o=>(((0:Int),[],()),((n:Int),o,()),())) (fun m o=>Rng o m∧∀j,j<m→o.getD j 0=if j/n=j%n then 0 else Nv)
  (fun m o hm ho=>by
   obtain⟨r1,r2,r3⟩:=row_col hm;have hol:=ho.1.1;refine⟨o++[if m/n=m%n then 0 else Nv], ?_,⟨by rw[List.length_append,hol];rfl,fun x hx=> ?_⟩,fun j hj=> ?_⟩
   ·simp only[spec_l2Unit_l3,lt_t hm,cond_true];rw[if_neg (by omega),if_neg (by omega),div_is,mod_is,w64n (show m/n≤1000000 by omega)];simp only[List.drop_zero,List.take_length,Nat.zero_add];rw[show List.take 1 [(0:Int)]=[0] from rfl,show List.take 1 [(1000000:Int)]=[1000000] from rfl]
    by_cases e:m/n=m%n
    ·have:((((m/n:Nat)):Int)==((m%n:Nat):Int))=true:=by rw[e];exact BEq.rfl
     rw[this,if_pos e];simp only[cond_true];rw[if_pos ⟨trivial,by simp;omega⟩,List.take_of_length_le (by simp),w64_succ hm (by omega)]
    ·have:((((m/n:Nat)):Int)==((m%n:Nat):Int))=false:=by simp;omega
     rw[this,if_neg e];simp only[cond_false];rw[if_pos ⟨trivial,by simp;omega⟩,List.take_of_length_le (by simp),w64_succ hm (by omega)]
   ·rcases List.mem_append.1 hx with hx|hx
    ·exact ho.1.2 x hx
    ·rw[List.mem_singleton] at hx;subst hx;simp only[Nv];split<;>omega
   ·rw[getD_snoc,hol]
    by_cases e:j=m
    ·subst e;rw[if_pos rfl]
    ·rw[if_neg e];exact ho.2 j (by omega))
  (fun o ho=>by simp only[spec_l2Unit_l3,lt_f,cond_false,List.drop_zero,List.take_length])
  [] ⟨⟨rfl,fun x hx=>by cases hx⟩,fun j hj=>by omega⟩
 have g1:loopF spec_l2Unit_l3 ((n:Int),((0:Int),[],()),((n:Int),[],()),((n*n:Nat):Int),(0:Int),())=_:=g1;rw[g1];refine⟨r,by simp only[Option.bind_some,List.drop_zero,List.take_length],g2.1,fun i k hi hk z=> ?_⟩;have:=g2.2 (i*n+k) (idx_lt hi hk);rw[(col_row (i:=i) hk).1,(col_row (i:=i) hk).2] at this;rw[this];simp only[Run]
 by_cases e:i=k
 ·subst e;rw[if_pos rfl];constructor
  ·intro h;exact⟨by simp only[Nv];omega,fun c hc=>by omega⟩
  ·rintro⟨_,h⟩;exact h 0 ⟨rfl,rfl⟩
 ·rw[if_neg e];exact⟨fun h=>⟨h,fun c hc=>by omega⟩,fun h=>h.1⟩
end Go.Proofs.YthkflageghfbgaaGreatDoor

/- The cost of a word: both sides tell the least cost of a run. -/
namespace Go.Proofs.YthkflageghfbgaaGreatDoor
open Go Go.Proofs.YthkflageghfbgaaGreatDoor.Am
abbrev bytes(w:ByteArray):List UInt8:=w.data.toList
theorem bytes_at{w:ByteArray}{i:Nat}(hi:i<w.size):(bytes w)[i]?=some (w.data.getD i 0):=by
 have hi':i<w.data.size:=hi;rw[Array.getD_eq_getD_getElem?,Array.getElem?_eq_getElem hi',Array.getElem?_toList,Array.getElem?_eq_getElem hi'];rfl
theorem bytes_take{w:ByteArray}{i:Nat}(hi:i<w.size):(bytes w).take (i+1)=(bytes w).take i++[w.data.getD i 0]:=by
 rw[List.take_add_one,bytes_at hi];rfl
theorem bytes_len(w:ByteArray):(bytes w).length=w.size:=Array.length_toList
theorem bytes_drop{w:ByteArray}{i:Nat}(hi:i<w.size):(bytes w).drop i=w.data.getD i 0::(bytes w).drop (i+1):=by
 have h:=bytes_at hi;obtain⟨h1,h2⟩:=List.getElem?_eq_some_iff.1 h;rw[List.drop_eq_getElem_cons h1,h2]
theorem letter_is{w:ByteArray}(h:wordOk w=true){i:Nat}(hi:i<w.size):w.data.getD i 0=97∨w.data.getD i 0=98:=by
 unfold wordOk at h;rw[Bool.and_eq_true] at h;have:=List.all_eq_true.1 h.1 i (List.mem_range.2 hi);unfold letterP at this;rw[Bool.or_eq_true,beq_iff_eq,beq_iff_eq] at this
 rcases this with h|h
 ·left;apply UInt8.toNat_inj.1;show _=97;omega
 ·right;apply UInt8.toNat_inj.1;show _=98;omega
theorem wordOk_size{w:ByteArray}(h:wordOk w=true):w.size≤1000:=by
 unfold wordOk at h;rw[Bool.and_eq_true,decide_eq_true_eq] at h;exact h.2
/-- a valid automaton, in numbers -/
structure AutIs (a:Aut) (n:Nat):Prop where
 st:a.1=(n:Int)
 n1:1≤n
 n4:n≤4
 S:∀q∈a.2.1,0≤q∧q≤(n:Int)-1
 F:∀q∈a.2.2.1,0≤q∧q≤(n:Int)-1
 len:a.2.2.2.length≤24
 ok:stepsOk a.1 a.2.2.2=true
 steps:∀s∈a.2.2.2,StepIs (n:Int) s
theorem autOk_is{a:Aut}(h:autOk a=true):∃n,AutIs a n:=by
 unfold autOk at h;simp only[Bool.and_eq_true,decide_eq_true_eq] at h;obtain⟨⟨h1,h4⟩,hS,hF,hl,hst⟩:=h;have e:a.1=((a.1.toNat:Nat):Int):=by omega
 refine⟨a.1.toNat,e,by omega,by omega, ?_, ?_,hl,hst, ?_⟩
 ·rw[←e];exact marks_mem hS
 ·rw[←e];exact marks_mem hF
 ·rw[←e];exact(stepsOk_is h4 hst).1
theorem l4Matrix_is{a:Aut}{n:Nat}(ha:AutIs a n){w:ByteArray}(hw:wordOk w=true):∃P,spec_l4Matrix a w=some ((n:Int),P)∧ProdIs n a.2.2.2 (bytes w) P:=by
 have hsz:=wordOk_size hw;obtain⟨x,S,F,l⟩:=a;obtain⟨U,u1,u2⟩:=l2Unit_is ha.n1 ha.n4 l;obtain⟨X,x1,x2⟩:=l3Matrix_is (c:=la) ha.st ha.n1 ha.n4 ha.len ha.ok;obtain⟨Y,y1,y2⟩:=l3Matrix_is (c:=lb) ha.st ha.n1 ha.n4 ha.len ha.ok;have hx:x=(n:Int):=ha.st;subst hx;rw[la_list] at x2;rw[lb_list] at y2;simp only[spec_l4Matrix,u1,x1,y1,Option.bind_some,List.drop_zero,List.take_length];obtain⟨r,g1,g2⟩:=loop_rel (f:=spec_l4Matrix_l4) w.size (fun i (P:List Int)=>(w,((0:Int),[],()),((n:Int),P,()),((n:Int),X,()),((n:Int),Y,()),(w.size:Int),(i:Int),()))
  (fun P=>(((0:Int),[],()),((n:Int),P,()),())) (fun i P=>ProdIs n l ((bytes w).take i) P)
  (fun i P hi hP=>by
   obtain⟨C,c1,c2⟩:=l2Mul_is ha.n1 ha.n4 hP.1 x2.1;obtain⟨D,d1,d2⟩:=l2Mul_is ha.n1 ha.n4 hP.1 y2.1;simp only[spec_l4Matrix_l4,lt_t hi,cond_true,if_pos (in_t hi),Int.toNat_natCast,List.drop_zero,List.take_length,w64_succ hi (show w.size≤9223372036854775807 by omega),c1,d1,Option.bind_some]
   rcases letter_is hw hi with e|e
   ·refine⟨C, ?_, ?_⟩
    ·rw[e];rfl
    ·rw[bytes_take hi,e];exact ProdIs.mul ha.steps hP x2 c2
   ·refine⟨D, ?_, ?_⟩
    ·rw[e];rfl
    ·rw[bytes_take hi,e];exact ProdIs.mul ha.steps hP y2 d2)
  (fun P hP=>by simp only[spec_l4Matrix_l4,lt_f,cond_false,List.drop_zero,List.take_length])
  U (by rw[List.take_zero];exact u2)
 have g1:loopF spec_l4Matrix_l4 (w,((0:Int),[],()),((n:Int),U,()),((n:Int),X,()),((n:Int),Y,()),(w.size:Int),(0:Int),())=_:=g1;rw[g1];refine⟨r,by simp only[Option.bind_some,List.drop_zero,List.take_length], ?_⟩;rw[List.take_of_length_le (by rw[bytes_len];omega)] at g2;exact g2
/-- the least cost of a run from a start to a final -/
def CostIs(a:Aut)(ws:List UInt8)(r:Int):Prop:=(0≤r∧r≤Nv)∧∀z,z≤r↔z≤Nv∧∀i∈a.2.1,∀k∈a.2.2.1,∀c,Run a.2.2.2 ws i k c→z≤c
theorem CostIs.same{a:Aut}{ws:List UInt8}{r r':Int}(h:CostIs a ws r)(h':CostIs a ws r'):r=r':=eq_of_le_iff fun z=>(h.2 z).trans (h'.2 z).symm
theorem mulwI{n:Nat}(h4:n≤4){i k:Int}(hi:0≤i∧i≤(n:Int)-1)(hk:0≤k∧k≤(n:Int)-1):IntKind.wrap .i64 (IntKind.wrap .i64 (i*(n:Int))+k)=((i.toNat*n+k.toNat:Nat):Int)∧i.toNat*n+k.toNat<n*n:=by
 have hlt:i.toNat*n+k.toNat<n*n:=idx_lt (by omega) (by omega);have hsq:=sq_le h4;refine⟨?_,hlt⟩;have e1:i*(n:Int)=((i.toNat:Nat):Int)*(n:Int):=by congr 1;omega
 have e2:k=((k.toNat:Nat):Int):=by omega
 rw[e1]
 conv=>lhs;rw[e2]
 exact mulw (by omega)
theorem getD_mem{l:List Int}{i:Nat}(hi:i<l.length):l.getD i 0=l[i]:=by
 rw[List.getD_eq_getElem?_getD,List.getElem?_eq_getElem hi];rfl
theorem take_snoc{α:Type}{l:List α}{i:Nat}(hi:i<l.length):l.take (i+1)=l.take i++[l[i]]:=by
 rw[List.take_add_one,List.getElem?_eq_getElem hi];rfl
theorem l4Least_gen{a:Aut}{n:Nat}(ha:AutIs a n)(hS:a.2.1.length≤1048576)(hF:a.2.2.1.length≤1048576){l':List Stp}{ws:List UInt8}{P:List Int}(hP:ProdIs n l' ws P):
  ∃r,spec_l4Least a ((n:Int),P)=some r∧(0≤r∧r≤Nv)∧∀z,z≤r↔z≤Nv∧∀i∈a.2.1,∀k∈a.2.2.1,∀c,Run l' ws i k c→z≤c:=by
 obtain⟨x,S,F,l⟩:=a;have hx:x=(n:Int):=ha.st;subst hx;have hS:S.length≤1048576:=hS;have hF:F.length≤1048576:=hF;have aS:∀q∈S,0≤q∧q≤(n:Int)-1:=ha.S;have aF:∀q∈F,0≤q∧q≤(n:Int)-1:=ha.F;simp only[spec_l4Least];have inner:∀(i:Int) (hi:0≤i∧i≤(n:Int)-1) (c0 u v:Int) (hc0:0≤c0∧c0≤Nv),∃r,loopF spec_l4Least_l6 (((n:Int),S,F,l,()),((n:Int),P,()),c0,i,S,u,v,F,(F.length:Int),(0:Int),())=some (((n:Int),S,F,l,()),((n:Int),P,()),r,S,u,v,())∧
   (0≤r∧r≤Nv)∧∀z,z≤r↔z≤c0∧∀k∈F,z≤P.getD (i.toNat*n+k.toNat) 0:=by
  intro i hi c0 u v hc0;obtain⟨r,g1,g2⟩:=loop_rel (f:=spec_l4Least_l6) F.length (fun j (c:Int)=>(((n:Int),S,F,l,()),((n:Int),P,()),c,i,S,u,v,F,(F.length:Int),(j:Int),()))
   (fun c=>(((n:Int),S,F,l,()),((n:Int),P,()),c,S,u,v,())) (fun j c=>(0≤c∧c≤Nv)∧∀z,z≤c↔z≤c0∧∀k∈F.take j,z≤P.getD (i.toNat*n+k.toNat) 0)
   (fun j c hj hc=>by
    have hk:=aF _ (List.getElem_mem hj);obtain⟨m1,m2⟩:=mulwI ha.n4 hi hk;have hr:=hP.1.at m2;refine⟨if P.getD (i.toNat*n+F[j].toNat) 0<c then P.getD (i.toNat*n+F[j].toNat) 0 else c, ?_, ?_,fun z=> ?_⟩
    ·simp only[spec_l4Least_l6,lt_t hj,cond_true,if_pos (in_t hj),Int.toNat_natCast,getD_mem hj,m1,w64_succ hj (show F.length≤9223372036854775807 by omega)];rw[if_pos ⟨by omega,by rw[hP.1.1];omega⟩]
    ·have:=hc.1;split<;>omega
    ·rw[min_is,hc.2 z,take_snoc hj];simp only[List.mem_append,List.mem_singleton];constructor
     ·rintro⟨⟨h1,h2⟩,h3⟩;refine⟨h1,fun k hk=> ?_⟩
      rcases hk with hk|rfl
      ·exact h2 k hk
      ·exact h3
     ·rintro⟨h1,h2⟩;exact⟨⟨h1,fun k hk=>h2 k (.inl hk)⟩,h2 _ (.inr rfl)⟩)
   (fun c hc=>by simp only[spec_l4Least_l6,lt_f,cond_false])
   c0 ⟨hc0,fun z=>⟨fun h=>⟨h,fun k hk=>by simp at hk⟩,fun h=>h.1⟩⟩
  refine⟨r,g1,g2.1,fun z=> ?_⟩;rw[g2.2 z,List.take_length]
 obtain⟨r,g1,g2⟩:=loop_rel (f:=spec_l4Least_l3) S.length (fun j (c:Int)=>(((n:Int),S,F,l,()),((n:Int),P,()),c,S,(S.length:Int),(j:Int),()))
  (fun c=>(c,())) (fun j c=>(0≤c∧c≤Nv)∧∀z,z≤c↔z≤Nv∧∀i∈S.take j,∀k∈F,z≤P.getD (i.toNat*n+k.toNat) 0)
  (fun j c hj hc=>by
   obtain⟨r,a1,a2,a3⟩:=inner S[j] (aS _ (List.getElem_mem hj)) c (S.length:Int) (j:Int) hc.1;refine⟨r, ?_,a2,fun z=> ?_⟩
   ·simp only[spec_l4Least_l3,lt_t hj,cond_true,if_pos (in_t hj),Int.toNat_natCast,getD_mem hj,a1,Option.bind_some,w64_succ hj (show S.length≤9223372036854775807 by omega)]
   ·rw[a3 z,hc.2 z,take_snoc hj];simp only[List.mem_append,List.mem_singleton];constructor
    ·rintro⟨⟨h1,h2⟩,h3⟩;refine⟨h1,fun i hi=> ?_⟩
     rcases hi with hi|rfl
     ·exact h2 i hi
     ·exact h3
    ·rintro⟨h1,h2⟩;exact⟨⟨h1,fun i hi=>h2 i (.inl hi)⟩,h2 _ (.inr rfl)⟩)
  (fun c hc=>by simp only[spec_l4Least_l3,lt_f,cond_false])
  1000000 ⟨⟨by decide,by decide⟩,fun z=>⟨fun h=>⟨h,fun k hk=>by simp at hk⟩,fun h=>h.1⟩⟩
 have g1:loopF spec_l4Least_l3 (((n:Int),S,F,l,()),((n:Int),P,()),(1000000:Int),S,(S.length:Int),(0:Int),())=_:=g1;rw[g1];refine⟨r,rfl,g2.1,fun z=> ?_⟩;rw[g2.2 z,List.take_length];refine and_congr_right fun hz=> ?_;constructor
 ·intro h i hi k hk c hr;have q1:=aS i hi;have q2:=aF k hk;have:=(hP.2 i.toNat k.toNat (by omega) (by omega) z).1 (h i hi k hk);exact this.2 c (by rw[show((i.toNat:Nat):Int)=i by omega,show((k.toNat:Nat):Int)=k by omega];exact hr)
 ·intro h i hi k hk;have q1:=aS i hi;have q2:=aF k hk;rw[hP.2 i.toNat k.toNat (by omega) (by omega) z];refine⟨hz,fun c hr=> ?_⟩;rw[show((i.toNat:Nat):Int)=i by omega,show((k.toNat:Nat):Int)=k by omega] at hr;exact h i hi k hk c hr
theorem l4Least_is{a:Aut}{n:Nat}(ha:AutIs a n)(hS:a.2.1.length≤1048576)(hF:a.2.2.1.length≤1048576){ws:List UInt8}{P:List Int}(hP:ProdIs n a.2.2.2 ws P):∃r,spec_l4Least a ((n:Int),P)=some r∧CostIs a ws r:=by
 obtain⟨r,h1,h2,h3⟩:=l4Least_gen ha hS hF hP;exact⟨r,h1,h2,h3⟩
theorem spec_l4Cost_is{a:Aut}(hs:Small a)(ha:autOk a=true){w:ByteArray}(hw:wordOk w=true):∃r,spec_l4Cost a w=some r∧CostIs a (bytes w) r:=by
 obtain⟨n,h⟩:=autOk_is ha;obtain⟨P,p1,p2⟩:=l4Matrix_is h hw;obtain⟨r,r1,r2⟩:=l4Least_is h hs.1 hs.2.1 p2;obtain⟨x,S,F,l⟩:=a;refine⟨r, ?_,r2⟩;simp only[spec_l4Cost,p1,Option.bind_some,List.drop_zero,List.take_length,r1]
end Go.Proofs.YthkflageghfbgaaGreatDoor

/- The cost of a word, the program's way: from the end. -/
namespace Go.Proofs.YthkflageghfbgaaGreatDoor
open Go Go.Proofs.YthkflageghfbgaaGreatDoor.Am
theorem extract_is{w:ByteArray}{i:Nat}(hi:i<w.size):(w.extract i (i+1)).toList=[w.data.getD i 0]:=by
 have hi':i<w.data.size:=hi;rw[toList_bytes,ByteArray.data_extract,Array.toList_extract];have h:=bytes_at hi;obtain⟨h1,h2⟩:=List.getElem?_eq_some_iff.1 h;have h2:w.data.toList[i]'h1=w.data.getD i 0:=h2;have e:List.drop i w.data.toList=w.data.toList[i]'h1::List.drop (i+1) w.data.toList:=List.drop_eq_getElem_cons h1;rw[←h2];simp only[List.extract_eq_take_drop,Nat.add_sub_cancel_left,e,List.take_succ_cons,List.take_zero]
/-- least costs of runs to a final -/
def VecIs(n:Nat)(F:List Int)(l:List Stp)(ws:List UInt8)(v:List Int):Prop:=
 Rng v n∧∀i,i<n→∀z,z≤v.getD i 0↔z≤Nv∧∀k∈F,∀c,Run l ws (i:Int) k c→z≤c
theorem toEnd_last{a:Aut}{n:Nat}(ha:AutIs a n)(hF:a.2.2.1.length≤1048576)(w:ByteArray):
  ∃v,loopF impl_toEnd_l3 (w,((n:Int),a.2.1,a.2.2.1,a.2.2.2,()),List.replicate n Nv,a.2.2.1,(a.2.2.1.length:Int),(0:Int),())=some (w,((n:Int),a.2.1,a.2.2.1,a.2.2.2,()),v,())∧VecIs n a.2.2.1 a.2.2.2 [] v:=by
 obtain⟨x,S,F,l⟩:=a;have hF:F.length≤1048576:=hF;have aF:∀q∈F,0≤q∧q≤(n:Int)-1:=ha.F;obtain⟨v,g1,g2⟩:=loop_rel (f:=impl_toEnd_l3) F.length (fun i (v:List Int)=>(w,((n:Int),S,F,l,()),v,F,(F.length:Int),(i:Int),())) (fun v=>(w,((n:Int),S,F,l,()),v,()))
  (fun i v=>Rng v n∧∀j,j<n→∀z,z≤v.getD j 0↔z≤Nv∧∀k∈F.take i,k=(j:Int)→z≤0)
  (fun i v hi hv=>by
   have hk:=aF _ (List.getElem_mem hi);refine⟨v.set F[i].toNat 0, ?_,hv.1.set _ ⟨by decide,by decide⟩,fun j hj z=> ?_⟩
   ·simp only[impl_toEnd_l3,lt_t hi,cond_true,if_pos (in_t hi),Int.toNat_natCast,getD_mem hi,List.drop_zero,Nat.zero_add,w64_succ hi (show F.length≤9223372036854775807 by omega)];rw[if_pos ⟨by omega,by rw[hv.1.1];omega⟩,List.take_of_length_le (by rw[List.length_set];exact Nat.le_refl _)]
   ·rw[getD_set (by rw[hv.1.1];omega),take_snoc hi];simp only[List.mem_append,List.mem_singleton]
    by_cases e:F[i].toNat=j
    ·rw[if_pos e];constructor
     ·intro h;exact⟨by simp only[Nv];omega,fun _ _ _=>h⟩
     ·rintro⟨_,h⟩;exact h _ (.inr rfl) (by omega)
    ·rw[if_neg e,hv.2 j hj z];refine and_congr_right fun _=>⟨fun h k hk hkj=> ?_,fun h k hk hkj=>h k (.inl hk) hkj⟩
     rcases hk with hk|rfl
     ·exact h k hk hkj
     ·omega)
  (fun v hv=>by simp only[impl_toEnd_l3,lt_f,cond_false,List.drop_zero,List.take_length])
  (List.replicate n Nv) ⟨⟨by simp,fun x hx=>by rw[List.eq_of_mem_replicate hx];exact⟨by decide,by decide⟩⟩,fun j hj z=>by
   rw[List.getD_eq_getElem?_getD,List.getElem?_eq_getElem (by simp;exact hj)];simp⟩
 refine⟨v,g1,g2.1,fun i hi z=> ?_⟩;rw[g2.2 i hi z,List.take_length];simp only[Run];refine and_congr_right fun _=>⟨fun h k hk c hc=> ?_,fun h k hk hki=>h k hk 0 ⟨hki.symm,rfl⟩⟩;have:=h k hk hc.1.symm;omega
theorem toEnd_next{a:Aut}{n:Nat}(ha:AutIs a n){w:ByteArray}(hw:w.size≤1000){i:Nat}(hi:i<w.size){ws:List UInt8}{v:List Int}(hv:VecIs n a.2.2.1 a.2.2.2 ws v)(o:List (List Int)):
  ∃v',loopF impl_toEnd_l13 (w,((n:Int),a.2.1,a.2.2.1,a.2.2.2,()),v,o,(i:Int),List.replicate n Nv,a.2.2.2,(a.2.2.2.length:Int),(0:Int),())=some (w,((n:Int),a.2.1,a.2.2.1,a.2.2.2,()),o,(i:Int),v',())∧VecIs n a.2.2.1 a.2.2.2 (w.data.getD i 0::ws) v':=by
 obtain⟨x,S,F,l⟩:=a;have hl:l.length≤24:=ha.len;have hst:∀s∈l,StepIs (n:Int) s:=ha.steps;have hn4:=ha.n4;obtain⟨v',g1,g2⟩:=loop_rel (f:=impl_toEnd_l13) l.length (fun j (u:List Int)=>(w,((n:Int),S,F,l,()),v,o,(i:Int),u,l,(l.length:Int),(j:Int),())) (fun u=>(w,((n:Int),S,F,l,()),o,(i:Int),u,()))
  (fun j u=>Rng u n∧∀q,q<n→∀z,z≤u.getD q 0↔z≤Nv∧∀s∈l.take j,s.2.1.toList=[w.data.getD i 0]→s.1=(q:Int)→z≤s.2.2.2+v.getD s.2.2.1.toNat 0)
  (fun j u hj hu=>by
   have hmem:l.getD j stp0=l[j]:=by rw[List.getD_eq_getElem?_getD,List.getElem?_eq_getElem hj];rfl
   have hs:=hst _ (List.getElem_mem hj);have e0:=hs.f0;have e1:=hs.f1;have e2:=hs.t0;have e3:=hs.t1;have e4:=hs.c0;have e5:=hs.c1;have hvt:=hv.1.at (show l[j].2.2.1.toNat<n by omega);have hut:=hu.1.at (show l[j].1.toNat<n by omega);simp only[Nv] at hvt hut;cases hc:l[j].2.1.toList==[w.data.getD i 0] with
   |false=>
    refine⟨u, ?_,hu.1,fun q hq z=> ?_⟩
    ·simp only[impl_toEnd_l13,lt_t hj,cond_true,if_pos (in_t hj),Int.toNat_natCast,hmem,w64_succ hi (show w.size≤9223372036854775807 by omega),w64_succ hj (show l.length≤9223372036854775807 by omega),extract_is hi,hc,cond_false,List.drop_zero,List.take_length];rw[if_pos ⟨by omega,by omega,by omega⟩]
    ·rw[hu.2 q hq z,take_snoc hj];simp only[List.mem_append,List.mem_singleton];refine and_congr_right fun _=>⟨fun h s hs h1 h2=> ?_,fun h s hs h1 h2=>h s (.inl hs) h1 h2⟩
     rcases hs with hs|rfl
     ·exact h s hs h1 h2
     ·rw[h1] at hc;simp at hc
   |true=>
    have hcc:=eq_of_beq hc;refine⟨u.set l[j].1.toNat (if l[j].2.2.2+v.getD l[j].2.2.1.toNat 0<u.getD l[j].1.toNat 0 then l[j].2.2.2+v.getD l[j].2.2.1.toNat 0 else u.getD l[j].1.toNat 0), ?_,hu.1.set _ (by simp only[Nv];split<;>omega),fun q hq z=> ?_⟩
    ·simp only[impl_toEnd_l13,lt_t hj,cond_true,if_pos (in_t hj),Int.toNat_natCast,hmem,w64_succ hi (show w.size≤9223372036854775807 by omega),w64_succ hj (show l.length≤9223372036854775807 by omega),extract_is hi,hc,List.drop_zero,List.take_length,Nat.zero_add,w64 (show-9223372036854775808≤l[j].2.2.2+v.getD l[j].2.2.1.toNat 0 by omega) (by omega)];rw[if_pos ⟨by omega,by omega,by omega⟩,if_pos ⟨by omega,by rw[hu.1.1];omega⟩,if_pos ⟨by omega,by rw[hv.1.1];omega⟩,if_pos ⟨by omega,by rw[hu.1.1];omega⟩,List.take_of_length_le (by rw[List.length_set];exact Nat.le_refl _)]
    ·rw[getD_set (by rw[hu.1.1];omega),take_snoc hj];simp only[List.mem_append,List.mem_singleton]
     by_cases e:l[j].1.toNat=q
     ·subst e;rw[if_pos rfl,min_is,hu.2 _ (by omega) z];constructor
      ·rintro⟨⟨h1,h2⟩,h3⟩;refine⟨h1,fun s hs k1 k2=> ?_⟩
       rcases hs with hs|rfl
       ·exact h2 s hs k1 k2
       ·exact h3
      ·rintro⟨h1,h2⟩;exact⟨⟨h1,fun s hs=>h2 s (.inl hs)⟩,h2 _ (.inr rfl) hcc (by omega)⟩
     ·rw[if_neg e,hu.2 q hq z];refine and_congr_right fun _=>⟨fun h s hs h1 h2=> ?_,fun h s hs h1 h2=>h s (.inl hs) h1 h2⟩
      rcases hs with hs|rfl
      ·exact h s hs h1 h2
      ·omega)
  (fun u hu=>by simp only[impl_toEnd_l13,lt_f,cond_false,List.drop_zero,List.take_length])
  (List.replicate n Nv) ⟨⟨by simp,fun x hx=>by rw[List.eq_of_mem_replicate hx];exact⟨by decide,by decide⟩⟩,fun j hj z=>by
   rw[List.getD_eq_getElem?_getD,List.getElem?_eq_getElem (by simp;exact hj)];simp⟩
 refine⟨v',g1,g2.1,fun q hq z=> ?_⟩;rw[g2.2 q hq z,List.take_length];simp only[Run];refine and_congr_right fun hz=> ?_;constructor
 ·rintro h k hk c ⟨s,h1,h2,h3,c',h4,rfl⟩;have hs:=hst s h1;have q1:=hs.t0;have q2:=hs.t1;have q3:=hs.c0;have:=h s h1 h2 h3;have:=(hv.2 s.2.2.1.toNat (by omega) (z-s.2.2.2)).1 (by omega);have:=this.2 k hk c' (by rw[show((s.2.2.1.toNat:Nat):Int)=s.2.2.1 by omega];exact h4);omega
 ·intro h s h1 h2 h3;have hs:=hst s h1;have q1:=hs.t0;have q2:=hs.t1;have q3:=hs.c0;have:z-s.2.2.2≤v.getD s.2.2.1.toNat 0:=by
   rw[hv.2 s.2.2.1.toNat (by omega)];refine⟨by omega,fun k hk c hr=> ?_⟩;rw[show((s.2.2.1.toNat:Nat):Int)=s.2.2.1 by omega] at hr;have:=h k hk _ ⟨s,h1,h2,h3,c,hr,rfl⟩;omega
  omega
theorem toEnd_is{a:Aut}{n:Nat}(ha:AutIs a n)(hF:a.2.2.1.length≤1048576){w:ByteArray}(hw:w.size≤1000):
  ∃o,impl_toEnd a w=some o∧o.length=w.size+1∧∀m,m≤w.size→VecIs n a.2.2.1 a.2.2.2 ((bytes w).drop (w.size-m)) (o.getD m []):=by
 obtain⟨v0,e1,e2⟩:=toEnd_last ha hF w;obtain⟨x,S,F,l⟩:=a;have hx:x=(n:Int):=ha.st;subst hx;have hn1:=ha.n1;have hn4:=ha.n4;have hrep:=Repeat_is (1000000:Int) (n:=(n:Int)) (by omega) (by omega);have e1:loopF impl_toEnd_l3 (w,((n:Int),S,F,l,()),List.replicate n Nv,F,(F.length:Int),(0:Int),())=some (w,((n:Int),S,F,l,()),v0,()):=e1;simp only[impl_toEnd,List.drop_zero,show List.take 1 [(1000000:Int)]=[1000000] from rfl,hrep,Option.bind_some,List.take_length,Int.toNat_natCast];rw[show((1000000:Int))=Nv from rfl,e1];simp only[Option.bind_some,List.take_length];obtain⟨r,g1,g2⟩:=loop_rel (f:=impl_toEnd_l9) w.size (fun j (p:List Int×List (List Int))=>(w,((n:Int),S,F,l,()),p.1,p.2,(w.size:Int)-1-(j:Int),())) (fun p=>(p.2,()))
  (fun j p=>p.2.length=j+1∧VecIs n F l ((bytes w).drop (w.size-j)) p.1∧∀m,m≤j→VecIs n F l ((bytes w).drop (w.size-m)) (p.2.getD m []))
  (fun j p hj hp=>by
   obtain⟨h1,h2,h3⟩:=hp;have hi:w.size-1-j<w.size:=by omega
   have ei:(w.size:Int)-1-(j:Int)=((w.size-1-j:Nat):Int):=by omega
   obtain⟨v',f1,f2⟩:=toEnd_next ha hw hi h2 p.2;have f1:loopF impl_toEnd_l13 (w,((n:Int),S,F,l,()),p.1,p.2,((w.size-1-j:Nat):Int),List.replicate n Nv,l,(l.length:Int),(0:Int),())=some (w,((n:Int),S,F,l,()),p.2,((w.size-1-j:Nat):Int),v',()):=f1;have edrop:(bytes w).drop (w.size-(j+1))=w.data.getD (w.size-1-j) 0::(bytes w).drop (w.size-j):=by
    rw[show w.size-(j+1)=w.size-1-j by omega,bytes_drop hi];congr 2;omega
   have f2:VecIs n F l ((bytes w).drop (w.size-(j+1))) v':=by rw[edrop];exact f2
   refine⟨(v',p.2++[v']), ?_,by simp[h1],f2,fun m hm=> ?_⟩
   ·simp only[impl_toEnd_l9,List.drop_zero,show List.take 1 [(1000000:Int)]=[1000000] from rfl,hrep,Option.bind_some,List.take_length,Int.toNat_natCast];rw[ei,decide_eq_true (by omega)];simp only[cond_true];rw[show((1000000:Int))=Nv from rfl,f1];simp only[Option.bind_some,List.take_length,Nat.zero_add];rw[show List.take 1 [v']=[v'] from rfl,if_pos ⟨trivial,by simp;omega⟩,List.take_of_length_le (by simp),w64 (by omega) (by omega),show(((w.size-1-j:Nat):Int)-1)=(w.size:Int)-1-((j+1:Nat):Int) by omega]
   ·simp only[List.getD_eq_getElem?_getD,List.getElem?_append]
    by_cases e:m<p.2.length
    ·rw[if_pos e];have:=h3 m (by omega);rw[List.getD_eq_getElem?_getD] at this;exact this
    ·obtain rfl:m=j+1:=by omega
     rw[if_neg e,h1];simpa using f2)
  (fun p hp=>by
   simp only[impl_toEnd_l9];rw[decide_eq_false (by omega)];simp only[cond_false,List.drop_zero,List.take_length])
  (v0,[v0]) ⟨rfl,by rw[Nat.sub_zero,List.drop_of_length_le (by rw[bytes_len];omega)];exact e2,fun m hm=>by
   obtain rfl:m=0:=by omega
   rw[Nat.sub_zero,List.drop_of_length_le (by rw[bytes_len];omega)];exact e2⟩
 have g1:loopF impl_toEnd_l9 (w,((n:Int),S,F,l,()),v0,[v0],(w.size:Int)-1-((0:Nat):Int),())=_:=g1;rw[show(w.size:Int)-1-((0:Nat):Int)=(w.size:Int)-1 by omega] at g1;rw[w64 (by omega) (by omega),show List.take 1 [v0]=[v0] from rfl,g1];refine⟨r.2,by simp only[Option.bind_some,List.take_length],g2.1,g2.2.2⟩
theorem impl_CostOf_is{a:Aut}(hs:Small a)(ha:autOk a=true){w:ByteArray}(hw:wordOk w=true):∃r,impl_CostOf a w=some r∧CostIs a (bytes w) r:=by
 obtain⟨n,h⟩:=autOk_is ha;have hsz:=wordOk_size hw;obtain⟨o,o1,o2,o3⟩:=toEnd_is h hs.2.1 hsz;have hval:=impl_AutomatonValid_is a (by have:=hs.1;omega) (by have:=hs.2.1;omega);rw[ha] at hval;obtain⟨x,S,F,l⟩:=a;have hx:x=(n:Int):=h.st;subst hx;have hS:S.length≤1048576:=hs.1;have aS:∀q∈S,0≤q∧q≤(n:Int)-1:=h.S;have hv:=o3 w.size (Nat.le_refl _);rw[Nat.sub_self,List.drop_zero] at hv;have hv:VecIs n F l (bytes w) (o.getD w.size []):=hv;simp only[impl_CostOf,hval,impl_WordValid_is (show w.size≤9223372036854775807 by omega),hw,o1,Option.bind_some,Bool.not_true,cond_false,List.drop_zero,List.take_length];obtain⟨r,g1,g2⟩:=loop_rel (f:=impl_CostOf_l6) S.length (fun j (c:Int)=>(w,o,c,S,(S.length:Int),(j:Int),())) (fun c=>(c,()))
  (fun j c=>(0≤c∧c≤Nv)∧∀z,z≤c↔z≤Nv∧∀i∈S.take j,z≤(o.getD w.size []).getD i.toNat 0)
  (fun j c hj hc=>by
   have hq:=aS _ (List.getElem_mem hj);have hr:=hv.1.at (show S[j].toNat<n by omega);refine⟨if(o.getD w.size []).getD S[j].toNat 0<c then(o.getD w.size []).getD S[j].toNat 0 else c, ?_, ?_,fun z=> ?_⟩
   ·simp only[impl_CostOf_l6,lt_t hj,cond_true,if_pos (in_t hj),Int.toNat_natCast,getD_mem hj,Nat.zero_add,w64_succ hj (show S.length≤9223372036854775807 by omega),List.drop_zero,List.take_length];rw[if_pos ⟨by omega,by rw[o2];omega⟩,if_pos ⟨by omega,by rw[hv.1.1];omega⟩]
   ·have:=hc.1;split<;>omega
   ·rw[min_is,hc.2 z,take_snoc hj];simp only[List.mem_append,List.mem_singleton];constructor
    ·rintro⟨⟨h1,h2⟩,h3⟩;refine⟨h1,fun k hk=> ?_⟩
     rcases hk with hk|rfl
     ·exact h2 k hk
     ·exact h3
    ·rintro⟨h1,h2⟩;exact⟨⟨h1,fun k hk=>h2 k (.inl hk)⟩,h2 _ (.inr rfl)⟩)
  (fun c hc=>by simp only[impl_CostOf_l6,lt_f,cond_false])
  1000000 ⟨⟨by decide,by decide⟩,fun z=>⟨fun h=>⟨h,fun k hk=>by simp at hk⟩,fun h=>h.1⟩⟩
 have g1:loopF impl_CostOf_l6 (w,o,(1000000:Int),S,(S.length:Int),(0:Int),())=_:=g1;rw[g1];refine⟨r,rfl,g2.1,fun z=> ?_⟩;rw[g2.2 z,List.take_length];refine and_congr_right fun hz=> ?_;constructor
 ·intro hh i hi k hk c hr;have q1:=aS i hi;have:=(hv.2 i.toNat (by omega) z).1 (hh i hi);exact this.2 k hk c (by rw[show((i.toNat:Nat):Int)=i by omega];exact hr)
 ·intro hh i hi;have q1:=aS i hi;rw[hv.2 i.toNat (by omega) z];refine⟨hz,fun k hk c hr=> ?_⟩;rw[show((i.toNat:Nat):Int)=i by omega] at hr;exact hh i hi k hk c hr
/-- both sides tell the same cost -/
theorem cost_same{a:Aut}(hs:Small a)(ha:autOk a=true){w:ByteArray}(hw:wordOk w=true):∃r,spec_l4Cost a w=some r∧impl_CostOf a w=some r∧CostIs a (bytes w) r:=by
 obtain⟨r,h1,h2⟩:=spec_l4Cost_is hs ha hw;obtain⟨r',h3,h4⟩:=impl_CostOf_is hs ha hw;obtain rfl:=h2.same h4;exact⟨r,h1,h3,h2⟩
end Go.Proofs.YthkflageghfbgaaGreatDoor
