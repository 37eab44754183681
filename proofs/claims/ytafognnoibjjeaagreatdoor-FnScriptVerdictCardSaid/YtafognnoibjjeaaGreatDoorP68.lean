/- The verdict: both sides tell the same. -/
import Derived.Test.YtafognnoibjjeaaGreatDoorP67
set_option linter.unusedVariables false
set_option linter.unusedSimpArgs false
namespace Go.Proofs.YtafognnoibjjeaaGreatDoor
open Go Go.Proofs.YtafognnoibjjeaaGreatDoor.Am
/-- a start is a final -/
def y4q(a:Aut):Bool:=a.2.1.any fun q=>a.2.2.1.any fun e=>q==e
theorem ka1{a:Aut}(hs:yy1 a):y3j a=some (y4q a):=by
 obtain⟨x,S,F,l⟩:=a;have lS:S.length≤1048576:=hs.1;have lF:F.length≤1048576:=hs.2.1;have g:=yr0 (f:=yo0) (fun i=>((x,S,F,l,()),S,(S.length:Int),(i:Int),())) S.length (fun i=>F.any fun e=>S.getD i 0==e) (fun i=>Sum.inl (true,())) (Sum.inr ())
  (fun i hi=>by
   simp only[yo0,lt_t hi,cond_true,if_pos (in_t hi),Int.toNat_natCast,kv8 (show F.length≤1000000000 by omega),Option.bind_some,ya3 hi (show S.length≤9223372036854775807 by omega)];cases F.any fun e=>S.getD i 0==e<;>rfl)
  (by simp only[yo0,lt_f,cond_false])
 have g:ya2 yo0 ((x,S,F,l,()),S,(S.length:Int),(0:Int),())=_:=g;have ha:=zh9 0 S fun q=>F.any fun e=>q==e;simp only[y3j,g,Option.bind_some];unfold y4q;rw[←ha];cases(List.range S.length).find? fun i=>F.any fun e=>S.getD i 0==e<;>rfl
theorem ka2{a:Aut}{r:Int}(h:CostIs a [] r):decide (r<Nv)=y4q a:=by
 cases he:y4q a with
 |true=>
  obtain⟨q,hq,he⟩:=List.any_eq_true.1 he;obtain⟨e,h1,h2⟩:=List.any_eq_true.1 he;obtain rfl:=eq_of_beq h2;have:=((h.2 r).1 (Int.le_refl _)).2 q hq q h1 0 ⟨rfl,rfl⟩;exact decide_eq_true (by show r<1000000;omega)
 |false=>
  have h0:Nv≤r:=(h.2 Nv).2 ⟨Int.le_refl _,fun i hi k hk c hc=>by
   obtain⟨rfl,rfl⟩:=hc;have:y4q a=true:=List.any_eq_true.2 ⟨i,hi,List.any_eq_true.2 ⟨i,hk,BEq.rfl⟩⟩;rw[this] at he;cases he⟩
  exact decide_eq_false (by omega)
def k2e:ByteArray:=⟨#[117,110,107,110,111,119,110]⟩
def k2f:ByteArray:=⟨#[103,114,111,119,105,110,103]⟩
def k2g:ByteArray:=⟨#[98,111,117,110,100,101,100]⟩
def tFree:ByteArray:=⟨#[102,114,101,101]⟩
def tNone:ByteArray:=⟨#[110,111,110,101]⟩
/-- the verdict of grades -/
def verd(gs:List Int)(ok em:Bool):ByteArray:=
 bif !ok then k2e else bif gs.any fun e=>(2:Int)==e then k2f else bif gs.any fun e=>(1:Int)==e then k2g else bif gs.any fun e=>(0:Int)==e then tFree else bif em then tFree else tNone
theorem z4q{a:Aut}{n:Nat}(ha:AutIs a n)(hv:yo7 a=true)(hs:yy1 a):∃L ok,LOk n L∧yd5 a=some (L,ok)∧ya6 a=some (L,ok)∧(ok=false→L=[])∧
  yj0 a=some (verd (gset (yg5 n a.2.1 a.2.2.1 L)) ok (y4q a))∧yh6 a=some (verd (gset (yg5 n a.2.1 a.2.2.1 L)) ok (y4q a)):=by
 obtain⟨L,ok,hL,e1,e2,e0,g1,g2⟩:=z6j ha hv hs;refine⟨L,ok,hL,e1,e2,e0, ?_⟩;have hA:=yc4 a (yh0 hs).1 (yh0 hs).2;have hSv:=yj5 a (yh0 hs).1 (yh0 hs).2;have hE:=ka1 hs;obtain⟨r,c2,c3⟩:=zu1 hs hv (w:=(⟨#[]⟩:ByteArray)) rfl;have hc:=ka2 c3;have hc:decide (r<1000000)=y4q a:=hc;have hl:=k17 (yg5 n a.2.1 a.2.2.1 L);obtain⟨x,S,F,l⟩:=a;cases ok with
 |false=>
  constructor
  ·simp only[yj0,g1,hSv,hv,Option.bind_some,Bool.not_true,Bool.not_false,cond_false,cond_true];rfl
  ·simp only[yh6,g2,hA,hv,Option.bind_some,Bool.not_true,Bool.not_false,cond_false,cond_true];rfl
 |true=>
  simp only[if_true] at g1 g2;generalize gset (yg5 n S F L)=gs at g1 g2 hl;have k1:=fun q=>kv8 (l:=gs) (by omega) q;have k2:=fun q=>zg2 (l:=gs) (by omega) q;constructor
  ·simp only[yj0,g1,hSv,hv,Option.bind_some,Bool.not_true,cond_false,List.drop_zero,List.take_length,k1,hE];unfold verd;cases gs.any fun e=>(2:Int)==e<;>cases gs.any fun e=>(1:Int)==e<;>cases gs.any fun e=>(0:Int)==e<;>cases y4q (x,S,F,l)<;>rfl
  ·simp only[yh6,g2,hA,hv,Option.bind_some,Bool.not_true,cond_false,List.drop_zero,List.take_length,k2,c2,hc];unfold verd;cases gs.any fun e=>(2:Int)==e<;>cases gs.any fun e=>(1:Int)==e<;>cases gs.any fun e=>(0:Int)==e<;>cases y4q (x,S,F,l)<;>rfl
theorem z6r{a:Aut}(hv:yo7 a=false)(hs:yy1 a):yj0 a=some ⟨#[]⟩∧yh6 a=some ⟨#[]⟩:=by
 obtain⟨e1,e2⟩:=zg0 hv hs;obtain⟨g1,g2⟩:=zz0 e1 e2;have hA:=yc4 a (yh0 hs).1 (yh0 hs).2;have hSv:=yj5 a (yh0 hs).1 (yh0 hs).2;obtain⟨x,S,F,l⟩:=a;constructor
 ·simp only[yj0,g1,hSv,hv,Option.bind_some,Bool.not_false,cond_true]
 ·simp only[yh6,hA,hv,Option.bind_some,Bool.not_false,cond_true]
end Go.Proofs.YtafognnoibjjeaaGreatDoor
