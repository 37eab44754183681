/- The library's sorts do what its own text does, told as the machine wants it. -/
import Derived.Test.YtafognnoibjjeaaGreatDoorG0
import Derived.Test.YtafognnoibjjeaaGreatDoorAm4
import Derived.Test.YtafognnoibjjeaaGreatDoorProg
import Derived.Test.YtafognnoibjjeaaGreatDoorShelf
import Derived.Shelf.Sort.Plain
import Derived.Shelf.Slices.In.SortNone
import Derived.Shelf.SlSortCmp.NoneTotal
import Derived.Shelf.Slices.CompactI
set_option linter.unusedVariables false
set_option linter.unusedSimpArgs false
namespace Go.Proofs.YtafognnoibjjeaaGreatDoor
open Go Go.RowKit Go.Proofs.YtafognnoibjjeaaGreatDoor.Am
theorem z3d(a b:Int):yu7 a b=some (cInt a b):=by
 simp only[yu7,y4e,Option.bind_some,bne_self_eq_false,cond_false];unfold cInt
 by_cases h:a<b
 ·simp only[decide_eq_true h,cond_true,if_pos h]
 ·by_cases k:a>b
  ·simp only[decide_eq_true k,decide_eq_false h,cond_true,cond_false,if_pos k,if_neg h]
  ·simp only[decide_eq_false k,decide_eq_false h,cond_false,if_neg k,if_neg h]
theorem k0n{i n:Nat}(h:i<n)(hn:n≤9223372036854775807):IntKind.wrap .i64 ((i:Int)+1)=((i+1:Nat):Int):=by
 show(if(true&&decide (((i:Int)+1)%18446744073709551616≥9223372036854775808))=true then((i:Int)+1)%18446744073709551616-18446744073709551616 else((i:Int)+1)%18446744073709551616)=_;rw[Bool.true_and,if_neg (by rw[decide_eq_true_eq];omega)];omega
theorem told_Or(a b c:Int):zn5 [a,b,c]=some (if a≠0 then a else if b≠0 then b else c):=by
 have step:∀i:Nat,i<3→ys8 (0,[a,b,c],3,(i:Int),())=some (if[a,b,c].getD i 0≠0 then .inr (.inl ([a,b,c].getD i 0,())) else .inl (0,[a,b,c],3,((i+1:Nat):Int),())):=by
  intro i hi;have hd:decide ((i:Int)<(3:Int))=true:=decide_eq_true (by omega);have hc:(0:Int)≤(i:Int)∧(i:Int)<(([a,b,c].length:Nat):Int):=⟨by omega,by simp only[List.length_cons,List.length_nil];omega⟩;simp only[ys8,hd,cond_true,if_pos hc,Int.toNat_natCast,k0n hi (by omega)]
  by_cases h:[a,b,c].getD i 0=0
  ·simp only[h,bne_self_eq_false,cond_false];simp
  ·have:([a,b,c].getD i 0 != 0)=true:=by simpa using h
   simp only[this,cond_true];rw[if_pos h]
 have last:ys8 (0,[a,b,c],3,((3:Nat):Int),())=some (.inr (.inr (0,()))):=by
  simp only[ys8];rfl
 simp only[zn5];have e0:((([a,b,c].length:Nat):Int))=3:=rfl;rw[e0,show((0:Int),[a,b,c],(3:Int),(0:Int),())=((0:Int),[a,b,c],(3:Int),((0:Nat):Int),()) from rfl];rw[yb2,step 0 (by omega)]
 by_cases ha:a=0
 ·subst ha;simp only[List.getD_cons_zero,ne_eq,not_true_eq_false,if_false,Option.bind_some];rw[yb2,step 1 (by omega)]
  by_cases hb:b=0
  ·subst hb;simp only[List.getD_cons_zero,List.getD_cons_succ,ne_eq,not_true_eq_false,if_false,Option.bind_some];rw[yb2,step 2 (by omega)]
   by_cases hc:c=0
   ·subst hc;simp only[List.getD_cons_zero,List.getD_cons_succ,ne_eq,not_true_eq_false,if_false,Option.bind_some];rw[yb2,last];rfl
   ·simp only[List.getD_cons_zero,List.getD_cons_succ,ne_eq,hc,not_false_eq_true,if_true,Option.bind_some]
  ·simp only[List.getD_cons_zero,List.getD_cons_succ,ne_eq,hb,not_false_eq_true,if_true,Option.bind_some]
 ·simp only[List.getD_cons_zero,ne_eq,ha,not_false_eq_true,if_true,Option.bind_some]
/-- the order of steps -/
def y49:Int×ByteArray×Int×Int→Int×ByteArray×Int×Int→Int:=
 lexC (fun x y=>cInt x.1 y.1) (lexC (fun x y=>Lib.compareBytes x.2.1.data.toList y.2.1.data.toList) fun x y=>cInt x.2.2.1 y.2.2.1)
theorem y3z(x y:Int×ByteArray×Int×Int):yk1 x y=some (y49 x y):=by
 obtain⟨a,l,b,c⟩:=x;obtain⟨a',l',b',c'⟩:=y;simp only[yk1,z3d,y0e,Option.bind_some,List.drop_zero];rw[show ∀x y z:Int,List.take 3 [x,y,z]=[x,y,z] from fun _ _ _=>rfl,told_Or];rfl
theorem good_step:CmpG y49:=(good_int.pull fun x:Int×ByteArray×Int×Int=>x.1).lex ((good_bytes.pull fun x:Int×ByteArray×Int×Int=>x.2.1.data.toList).lex (good_int.pull fun x:Int×ByteArray×Int×Int=>x.2.2.1))
/-! the sort of numbers -/
def sortI(xs:List Int):Option (List Int):=if xs.length<4611686018427387904 then some (xs.mergeSort fun x y=>decide (x≤y)) else none
noncomputable def yu8(xs:List Int):Option (Unit×List Int×Unit):=(sortI xs).map fun ys=>((),(ys,()))
noncomputable def A55:FnM:=⟨[.io (.sl (.int .i64))],false,[],none,fun x=>yu8 x.1⟩
theorem kj2:y5t Tryz.prog 55 A55:=by
 refine ki9 (k:=.int .i64) (fa:=none) (F:=sortI) (en:=fun x=>[Value.int .i64 x]) (fun _=>rfl) (fun w Wr cs x=>by simp only[RepC]) ?_ ?_ ?_
 ·intro xs ys h;unfold sortI at h;split at h
  ·obtain rfl:=Option.some.inj h;exact List.length_mergeSort _
  ·cases h
 ·exact fun A cap w=>Any.slices_Sort_int_none Tryz.laysSort A cap w
 ·intro xs ys h w b off cap hH hb _;unfold sortI at h;split at h
  case isFalse=>cases h
  rename_i hlen;obtain rfl:=Option.some.inj h;refine(Any.slices_Sort_int Tryz.laysSort b off cap xs w (ze3 (e:=Value.int .i64) hH) hb hlen).mono ?_;rintro e w' ⟨rfl,n,os,rfl⟩;refine⟨rfl,n,os, ?_⟩;show _=Sort.grow (Sort.putRowK (fun x=>[Value.int .i64 x]) 1 _ b off _) os;rw[zx0]
/-! the sort of steps -/
def enS(x:Int×ByteArray×Int×Int):List Value:=[.int .i64 x.1,.string x.2.1,.int .i64 x.2.2.1,.int .i64 x.2.2.2]
abbrev KS:Kd:=.pair (.int .i64) (.pair .str (.pair (.int .i64) (.int .i64)))
theorem z5q(w:World)(Wr:WrP)(cs:List Value)(x:KS.T):RepC w Wr KS cs x↔cs=enS x:=by
 simp only[RepC];constructor
 ·rintro⟨c1,c2,rfl,rfl,c3,c4,rfl,rfl,c5,c6,rfl,rfl,rfl⟩;rfl
 ·rintro rfl;exact⟨_,_,rfl,rfl,_,_,rfl,rfl,_,_,rfl,rfl,rfl⟩
/-- one is before the other -/
def ltS(x y:Int×ByteArray×Int×Int):Bool:=decide (y49 x y<0)
def z3e(xs:List (Int×ByteArray×Int×Int)):Option (List (Int×ByteArray×Int×Int)):=
 if xs.length<4611686018427387904 then some (Sort.pdq ltS xs.toArray 0 xs.length (Lib.bitLen xs.length) true true).toList else none
theorem ltS_eq:ltOf y49=ltS:=by
 funext x y;rfl
theorem zx1{xs ys:List (Int×ByteArray×Int×Int)}(h:z3e xs=some ys):ys.length=xs.length∧Sort.PermIn 0 xs.length xs.toArray ys.toArray∧Sort.SortedIn ltS 0 xs.length ys.toArray:=by
 unfold z3e at h;split at h
 case isFalse=>cases h
 obtain rfl:=Option.some.inj h;have hs:=Sort.pdq_sorts ltS good_step.swo xs.toArray 0 xs.length (Lib.bitLen xs.length) true true (Nat.zero_le _) (by simp) (Or.inl rfl);exact⟨by simpa using hs.1.1,by simpa using hs.1,by simpa using hs.2⟩
noncomputable def y0f(xs:List (Int×ByteArray×Int×Int)):Option (Unit×List (Int×ByteArray×Int×Int)×Unit):=(z3e xs).map fun ys=>((),(ys,()))
noncomputable def A156:FnM:=⟨[.io (.sl KS)],false,[],some 54,fun x=>y0f x.1⟩
theorem A156_ok:y5t Tryz.prog 156 A156:=by
 refine ki9 (k:=KS) (fa:=some 54) (F:=z3e) (en:=enS) (fun _=>rfl) z5q (fun xs ys h=>(zx1 h).1) ?_ ?_
 ·exact fun A cap w=>AnyF.slices_SortFunc_none Tryz.laysStep A cap _ w
 ·intro xs ys h w b off cap hH hb ht;unfold z3e at h;split at h
  case isFalse=>cases h
  rename_i hlen;obtain rfl:=Option.some.inj h;have hcmp:CmpLays Tryz.prog 54 #[] enS 4 y49 b off xs.toArray.size w:=by
   intro m os dk _ x y;exact kj0 (P:=Tryz.prog) (k:=KS) ki8 (x:=x) (y:=y) (y3z x y) _ (TabW.keep ht.1 fun c hc=>y8e (TabW.lt ht.1 hc) (by rintro rfl;exact ht.2 hc)) ⟨enS x,(z5q _ _ _ _).2 rfl,rfl⟩ ⟨enS y,(z5q _ _ _ _).2 rfl,rfl⟩
  have hswo:Sort.SWO (ltOf y49):=good_step.swo;refine(AnyQ.slices_SortFunc_eq Tryz.laysStep 4 Tryz.isAgg74 Tryz.sizeOf74 enS (fun _=>rfl) (fun x v hv=>by simp[enS] at hv;rcases hv with rfl|rfl|rfl|rfl<;>rfl) y49 hswo 54 #[] b off cap xs.toArray w (enters_of Tryz.func54 (by kernel_rfl) rfl) hcmp hH hb (by simpa using hlen)).mono ?_;rintro e w' ⟨rfl,n,os,rfl⟩;exact⟨rfl,n,os,by simp[ltS_eq];rfl⟩
/-! runs of equal numbers -/
def z3f(xs:List Int):Option (List Int×Nat):=if xs.length≤9223372036854775807 then some (Lib.compact xs++List.replicate (xs.length-(Lib.compact xs).length) 0,(Lib.compact xs).length) else none
theorem z9o(xs:List Int):(Lib.compact xs).length≤xs.length:=by
 unfold Lib.compact Lib.compactUpTo;rw[List.length_map];exact Nat.le_trans (List.length_filter_le _ _) (by simp)
theorem z3g{d ne:Nat}{rest xsh:List Fm}{f:FmsT (.cell (.own (.int .i64) 100000 false)::rest)→Option (FmsT xsh)}(hsh:yt3 (yy6 (.cell (.own (.int .i64) 100000 false)::rest))=true)(hxs:yt3 (yy6 xsh)=true)
  (hst:y8x 61 ne d 100000 (.int .i64) rest xsh z3f=f):y5u Tryz.prog d 57 ⟨61,.cell (.own (.int .i64) 100000 false)::rest,ne,xsh,f,1⟩:=by
 refine z9n (n:=60) (k:=.int .i64) (en:=fun x=>[Value.int .i64 x]) (F:=z3f) Tryz.func57 (by kernel_rfl) (by kernel_rfl) (by kernel_rfl) hsh hxs (fun _=>rfl) (fun w Wr cs x=>by simp only[RepC]) ?_ ?_ ?_ hst
 ·intro xs r h;unfold z3f at h;split at h
  ·obtain rfl:=Option.some.inj h;have:=z9o xs;exact⟨by simp;omega,this⟩
  ·cases h
 ·exact fun A cap w=>Any.slices_Compact_int_empty Tryz.laysCompact A cap w
 ·intro xs r h w b off cap hH hb hc;unfold z3f at h;split at h
  case isFalse=>cases h
  rename_i hlen;obtain rfl:=Option.some.inj h;refine(Any.slices_Compact_int Tryz.laysCompact b off cap xs w (ze3 (e:=Value.int .i64) hH) hlen hc).mono ?_;rintro e w' ⟨rfl,q,rfl⟩;refine⟨rfl,q,#[], ?_⟩;show _=Sort.grow (Sort.putRowK (fun x=>[Value.int .i64 x]) 1 _ b off _) #[];rw[zx0];simp[Sort.grow];rfl
end Go.Proofs.YtafognnoibjjeaaGreatDoor
