/- What Go functions that the laws reach compute, and that they do: written by a program of this session. -/
import Derived.Test.YthkflageghfbgaaGreatDoorCmp
import Derived.Test.YthkflageghfbgaaGreatDoorRep
import Derived.KernelRfl
set_option linter.unusedVariables false
namespace Go.Proofs.YthkflageghfbgaaGreatDoor
open Go Go.Proofs.YthkflageghfbgaaGreatDoor.Am Go.Proofs.Tryz
set_option maxRecDepth 100000
noncomputable section
def tyl:List (Nat×TyD):=[(3,{kd:=.int .i64}),
 (4,{kd:=.bool}),
 (5,{kd:=.int .u8}),
 (9,{kd:=.str}),
 (22,{kd:=.sl (.int .u8),elt:=.int .u8,bytes:=1}),
 (23,{kd:=.sl (.int .i64),elt:=.int .i64,bytes:=8}),
 (24,{kd:=.sl (.pair (.int .i64) (.pair .str (.pair (.int .i64) (.int .i64)))),elt:=.pair (.int .i64) (.pair .str (.pair (.int .i64) (.int .i64))),bytes:=40}),
 (26,{kd:=.pair (.int .i64) (.pair (.sl (.int .i64)) (.pair (.sl (.int .i64)) (.sl (.pair (.int .i64) (.pair .str (.pair (.int .i64) (.int .i64))))))),flds:=[(0,.int .i64),(1,.sl (.int .i64)),(2,.sl (.int .i64)),(3,.sl (.pair (.int .i64) (.pair .str (.pair (.int .i64) (.int .i64)))))]}),
 (33,{kd:=.pair (.int .i64) (.sl (.int .i64)),flds:=[(0,.int .i64),(1,.sl (.int .i64))]}),
 (54,{kd:=.sl (.pair .str .pt),elt:=.pair .str .pt,bytes:=40}),
 (59,{kd:=.sl .str,elt:=.str,bytes:=16}),
 (61,{kd:=.pair (.int .i64) (.pair .str (.pair (.int .i64) (.int .i64))),flds:=[(0,.int .i64),(1,.str),(2,.int .i64),(3,.int .i64)]}),
 (70,{kd:=.pair (.pair (.int .i64) (.pair (.sl (.int .i64)) (.pair (.sl (.int .i64)) (.sl (.pair (.int .i64) (.pair .str (.pair (.int .i64) (.int .i64)))))))) (.pair (.int .i64) (.pair (.sl (.int .i64)) (.pair (.sl (.int .i64)) (.sl (.pair (.int .i64) (.pair .str (.pair (.int .i64) (.int .i64)))))))),flds:=[(0,.pair (.int .i64) (.pair (.sl (.int .i64)) (.pair (.sl (.int .i64)) (.sl (.pair (.int .i64) (.pair .str (.pair (.int .i64) (.int .i64)))))))),(4,.pair (.int .i64) (.pair (.sl (.int .i64)) (.pair (.sl (.int .i64)) (.sl (.pair (.int .i64) (.pair .str (.pair (.int .i64) (.int .i64))))))))]}),
 (77,{kd:=.pair (.sl (.int .u8)) (.int .i64),flds:=[(0,.sl (.int .u8)),(1,.int .i64)]}),
 (84,{kd:=.sl (.sl (.int .i64)),elt:=.sl (.int .i64),bytes:=24}),
 (96,{kd:=.pair .str .pt,flds:=[(0,.str),(1,.pt)]}),
 (104,{kd:=.err}),
 (153,{kd:=.int .u64}),
 (206,{kd:=.int .u64})]
def ty0:Nat→Option TyD:=assoc tyl
theorem tyl_ok{sb:Bool}:tysOkB (⟨prog,sb⟩:Pg) tyl=true:=by kernel_rfl
theorem mixed:prog.follows .mixedOrders=true:=by kernel_rfl
def D:Nat→List Fm→List Fm
 |0,l=>l
 |n+1,l=>.cell .drop::D n l
theorem oF{sb:Bool}{g:Nat}{f:FnA}{fn:Func}{ty:Nat→Option TyD}{rest:Nat→Option FnA}{ms:Nat→Option FnM}{bs:Nat→Option FnB}{il:Nat→Option (Nat×CallD)}{sp:Nat→Nat}(h:FnOk (⟨prog,sb⟩:Pg) g f)(hf:prog.funcs[g]?=some fn)(hr:FnsOk (⟨prog,sb⟩:Pg) ⟨ty,rest,ms,bs,il,sp⟩)
  (h1:(fn.name== "runtime.NumGoroutine")=false:=by kernel_rfl) (h2:fn.body.isSome=true:=by kernel_rfl):FnsOk (⟨prog,sb⟩:Pg) ⟨ty,fun n=>ifEq n g (some f) (rest n),ms,bs,il,sp⟩:=oneFn h hf h1 h2 hr
theorem tyk{sb:Bool}{E:Env}(h:E.ty=ty0):TysOk (⟨prog,sb⟩:Pg) E:=by
 obtain⟨ty,fn,ms,bs,il,sp⟩:=E;obtain rfl:ty=ty0:=h;exact tysOk_of tyl_ok
theorem fo{sb:Bool}{E:Env}{L:Nat→Option LoopD}{g:Nat}{fn:Func}{ps:List Prm}{own:Bool}{outs:List Kd}{F:PrmsT ps→Option (OutsT outs)}{bs:List Code}(he:fnF E L ps own outs fn.ntmps fn.results.toList (codeOf fn)=F)(hf:prog.funcs[g]?=some fn)(hF:FnsOk (⟨prog,sb⟩:Pg) E)
  (hs:∀b∈bs,LoopOk (⟨prog,sb⟩:Pg) L b) (hb:fn.body=some (codeOf fn):=by kernel_rfl) (hl:loopsOf (codeOf fn)=bs:=by kernel_rfl) (hd:drawsB E (drawsOf (codeOf fn))=true:=by kernel_rfl) (hE:E.ty=ty0:=by rfl):FnOk (⟨prog,sb⟩:Pg) g ⟨ps,own,outs,F⟩:=by
 have h:=fnOk_of_run (P:=⟨prog,sb⟩) (tyk hE) hF (L:=L) (ps:=ps) (own:=own) (outs:=outs) hf hb (codeOk_in (tyk hE) hF mixed hl hs hd);rw[he] at h;exact h
theorem lo{sb:Bool}{E:Env}{L L':Nat→Option LoopD}{n i:Nat}{b:Code}{bs:List Code}{sh:List Fm}{xs:List (Ex×List Fm)}{f:FmsT sh→Option (FmsT sh⊕XsT xs)}(he:loopStep n E L' b sh xs=f)(hF:FnsOk (⟨prog,sb⟩:Pg) E)
  (hs:∀b∈bs,LoopOk (⟨prog,sb⟩:Pg) L' b) (h:L i=some ⟨n,sh,xs,f⟩) (hl:loopsOf b=bs:=by kernel_rfl) (hd:drawsB E (drawsOf b)=true:=by kernel_rfl) (h1:nodupN (toksF sh)=true:=by kernel_rfl) (h2:okXs xs=true:=by kernel_rfl) (hi:firstId b=i:=by kernel_rfl) (hE:E.ty=ty0:=by rfl):LoopOk (⟨prog,sb⟩:Pg) L b:=
 loopOk (tyk hE) hF (codeOk_in (tyk hE) hF mixed hl hs hd) h1 h2 he (by rw[hi];exact h)
def L0:Nat→Option LoopD:=fun _=>none
def E0:Env:=⟨ty0,fun _=>none,fun _=>none,fun _=>none,fun _=>none,fun _=>0⟩
theorem E0_ok{sb:Bool}:FnsOk (⟨prog,sb⟩:Pg) E0:=noFns _ _
def ev(f:Nat→Option FnA):Env:=⟨ty0,f,fun _=>none,fun _=>none,fun _=>none,fun _=>0⟩
abbrev i6:Kd:=.int .i64
abbrev sI:Kd:=.sl i6
abbrev kS:Kd:=.pair i6 (.pair .str (.pair i6 i6))
abbrev sS:Kd:=.sl kS
abbrev kA:Kd:=.pair i6 (.pair sI (.pair sI sS))
abbrev kM:Kd:=.pair i6 sI
abbrev kE:Kd:=.pair kM .str
abbrev sE:Kd:=.sl kE
abbrev kR:Kd:=.pair (.sl (.int .u8)) i6
abbrev LI:=List Int
abbrev TS:=Int×(ByteArray×(Int×Int))
abbrev LS:=List TS
abbrev TA:=Int×(LI×(LI×LS))
abbrev TM:=Int×LI
abbrev TE:=TM×ByteArray
abbrev LE:=List TE
theorem fm{sb:Bool}{E:Env}{L:Nat→Option LoopD}{g:Nat}{fn:Func}{ps:List Ar}{own:Bool}{outs:List Kd}{F:ArsT ps→Option (OutsT outs×IosT ps)}{bs:List Code}(he:fnMF E L ps own outs fn.ntmps fn.results.toList (codeOf fn)=F)(hf:prog.funcs[g]?=some fn)(hF:FnsOk (⟨prog,sb⟩:Pg) E)
  (hs:∀b∈bs,LoopOk (⟨prog,sb⟩:Pg) L b) (hb:fn.body=some (codeOf fn):=by kernel_rfl) (hl:loopsOf (codeOf fn)=bs:=by kernel_rfl) (hd:drawsB E (drawsOf (codeOf fn))=true:=by kernel_rfl) (hE:E.ty=ty0:=by rfl) (hnd:nodupN (toksM 12500 ps)=true:=by kernel_rfl):FnMOk (⟨prog,sb⟩:Pg) g ⟨ps,own,outs,none,F⟩:=by
 have h:=fnMOk_of_run (P:=⟨prog,sb⟩) (tyk hE) hF (L:=L) (ps:=ps) (own:=own) (outs:=outs) hf hb (codeOk_in (tyk hE) hF mixed hl hs hd) hnd;rw[he] at h;exact h
abbrev d:Fm:=.cell .drop
def spec_l13Open:LI→Option ((LI×Int)):=fun a0=>
 bif (decide ((((List.length a0):Nat):Int)>2000)) then
  if(((0:Int)≤2000)∧((2000:Int)≤(((List.length a0):Nat):Int))) then
   some ((List.take ((Int.toNat 2000)-0) (List.drop 0 a0)),0)
  else
   none
 else
  some (a0,0)
def A17:FnB:=⟨[.v (.sl (.int .u8))],.pair (.sl (.int .u8)) i6,fun x=>spec_l13Open x.1⟩
theorem spec_l13Open_eq:fnBF E0 L0 [.v (.sl (.int .u8))] kR f17.ntmps f17.results.toList (codeOf f17)=fun x=>spec_l13Open x.1:=by kernel_rfl
theorem A17_ok:FnBOk prog 17 A17:=by
 have h:=fnBOk_of_run (P:=prog) (E:=E0) (tysOk_of tyl_ok) E0_ok (L:=L0) (ps:=[.v (.sl (.int .u8))]) (k:=.pair (.sl (.int .u8)) i6) func17 (c:=codeOf f17) (by kernel_rfl) (codeOk_in (L:=L0) (tysOk_of tyl_ok) E0_ok mixed (c:=codeOf f17) (bs:=[]) (by kernel_rfl) allNil (by kernel_rfl));rw[spec_l13Open_eq] at h;exact h
def spec_l13Rd_pick:(LI×Int)→Int→Option ((Int)×((LI×Int)×Unit)):=fun(a0_0,a0_1) a1=>
 bif (decide (a1<1)) then
  some ((0:Int),(a0_0,(IntKind.wrap .i64 (a0_1+1))),())
 else
  bif ((((List.length a0_0):Nat):Int)==0) then
   some ((0:Int),(a0_0,(IntKind.wrap .i64 (a0_1+1))),())
  else
   bif (decide ((IntKind.wrap .i64 ((IntKind.wrap .i64 (a0_1+1))-1))<(((List.length a0_0):Nat):Int))) then
    if(((0:Int)≤(IntKind.wrap .i64 ((IntKind.wrap .i64 (a0_1+1))-1)))∧((IntKind.wrap .i64 ((IntKind.wrap .i64 (a0_1+1))-1))<(((List.length a0_0):Nat):Int))) then
     if(a1=0) then
      none
     else
      some ((Int.tmod (IntKind.wrap .i64 (List.getD a0_0 (Int.toNat (IntKind.wrap .i64 ((IntKind.wrap .i64 (a0_1+1))-1))) 0)) a1),(a0_0,(IntKind.wrap .i64 (a0_1+1))),())
    else
     none
   else
    if((((List.length a0_0):Nat):Int)=0) then
     none
    else
     if(((0:Int)≤(Int.tmod (IntKind.wrap .i64 ((IntKind.wrap .i64 (a0_1+1))-1)) (((List.length a0_0):Nat):Int)))∧((Int.tmod (IntKind.wrap .i64 ((IntKind.wrap .i64 (a0_1+1))-1)) (((List.length a0_0):Nat):Int))<(((List.length a0_0):Nat):Int))) then
      if((((List.length a0_0):Nat):Int)=0) then
       none
      else
       if(((0:Int)≤(Int.tmod (IntKind.wrap .i64 ((IntKind.wrap .i64 ((IntKind.wrap .i64 ((IntKind.wrap .i64 (a0_1+1))-1))*7))+3)) (((List.length a0_0):Nat):Int)))∧((Int.tmod (IntKind.wrap .i64 ((IntKind.wrap .i64 ((IntKind.wrap .i64 ((IntKind.wrap .i64 (a0_1+1))-1))*7))+3)) (((List.length a0_0):Nat):Int))<(((List.length a0_0):Nat):Int))) then
        if((((List.length a0_0):Nat):Int)=0) then
         none
        else
         if((64:Int)=0) then
          none
         else
          if(a1=0) then
           none
          else
           some ((Int.tmod (Decidable.rec (fun y0=>((((BitVec.toNat ((BitVec.ofInt (IntKind.bits .i64) (IntKind.wrap .i64 ((IntKind.wrap .i64 ((IntKind.wrap .i64 ((IntKind.wrap .i64 ((IntKind.wrap .i64 (List.getD a0_0 (Int.toNat (Int.tmod (IntKind.wrap .i64 ((IntKind.wrap .i64 (a0_1+1))-1)) (((List.length a0_0):Nat):Int))) 0))*131))+(IntKind.wrap .i64 ((IntKind.wrap .i64 (List.getD a0_0 (Int.toNat (Int.tmod (IntKind.wrap .i64 ((IntKind.wrap .i64 ((IntKind.wrap .i64 ((IntKind.wrap .i64 (a0_1+1))-1))*7))+3)) (((List.length a0_0):Nat):Int))) 0))*1117))))+(IntKind.wrap .i64 ((IntKind.wrap .i64 ((IntKind.wrap .i64 (a0_1+1))-1))*29))))+(IntKind.wrap .i64 ((IntKind.wrap .i64 (Int.tdiv (IntKind.wrap .i64 ((IntKind.wrap .i64 (a0_1+1))-1)) (((List.length a0_0):Nat):Int)))*53)))))^^^(BitVec.ofInt (IntKind.bits .i64) (IntKind.wrap .i64 (Int.tdiv (IntKind.wrap .i64 ((IntKind.wrap .i64 ((IntKind.wrap .i64 ((IntKind.wrap .i64 ((IntKind.wrap .i64 (List.getD a0_0 (Int.toNat (Int.tmod (IntKind.wrap .i64 ((IntKind.wrap .i64 (a0_1+1))-1)) (((List.length a0_0):Nat):Int))) 0))*131))+(IntKind.wrap .i64 ((IntKind.wrap .i64 (List.getD a0_0 (Int.toNat (Int.tmod (IntKind.wrap .i64 ((IntKind.wrap .i64 ((IntKind.wrap .i64 ((IntKind.wrap .i64 (a0_1+1))-1))*7))+3)) (((List.length a0_0):Nat):Int))) 0))*1117))))+(IntKind.wrap .i64 ((IntKind.wrap .i64 ((IntKind.wrap .i64 (a0_1+1))-1))*29))))+(IntKind.wrap .i64 ((IntKind.wrap .i64 (Int.tdiv (IntKind.wrap .i64 ((IntKind.wrap .i64 (a0_1+1))-1)) (((List.length a0_0):Nat):Int)))*53)))) 64))))):Nat):Int)%((2:Int)^(IntKind.bits .i64)))) (fun y1=>(((((BitVec.toNat ((BitVec.ofInt (IntKind.bits .i64) (IntKind.wrap .i64 ((IntKind.wrap .i64 ((IntKind.wrap .i64 ((IntKind.wrap .i64 ((IntKind.wrap .i64 (List.getD a0_0 (Int.toNat (Int.tmod (IntKind.wrap .i64 ((IntKind.wrap .i64 (a0_1+1))-1)) (((List.length a0_0):Nat):Int))) 0))*131))+(IntKind.wrap .i64 ((IntKind.wrap .i64 (List.getD a0_0 (Int.toNat (Int.tmod (IntKind.wrap .i64 ((IntKind.wrap .i64 ((IntKind.wrap .i64 ((IntKind.wrap .i64 (a0_1+1))-1))*7))+3)) (((List.length a0_0):Nat):Int))) 0))*1117))))+(IntKind.wrap .i64 ((IntKind.wrap .i64 ((IntKind.wrap .i64 (a0_1+1))-1))*29))))+(IntKind.wrap .i64 ((IntKind.wrap .i64 (Int.tdiv (IntKind.wrap .i64 ((IntKind.wrap .i64 (a0_1+1))-1)) (((List.length a0_0):Nat):Int)))*53)))))^^^(BitVec.ofInt (IntKind.bits .i64) (IntKind.wrap .i64 (Int.tdiv (IntKind.wrap .i64 ((IntKind.wrap .i64 ((IntKind.wrap .i64 ((IntKind.wrap .i64 ((IntKind.wrap .i64 (List.getD a0_0 (Int.toNat (Int.tmod (IntKind.wrap .i64 ((IntKind.wrap .i64 (a0_1+1))-1)) (((List.length a0_0):Nat):Int))) 0))*131))+(IntKind.wrap .i64 ((IntKind.wrap .i64 (List.getD a0_0 (Int.toNat (Int.tmod (IntKind.wrap .i64 ((IntKind.wrap .i64 ((IntKind.wrap .i64 ((IntKind.wrap .i64 (a0_1+1))-1))*7))+3)) (((List.length a0_0):Nat):Int))) 0))*1117))))+(IntKind.wrap .i64 ((IntKind.wrap .i64 ((IntKind.wrap .i64 (a0_1+1))-1))*29))))+(IntKind.wrap .i64 ((IntKind.wrap .i64 (Int.tdiv (IntKind.wrap .i64 ((IntKind.wrap .i64 (a0_1+1))-1)) (((List.length a0_0):Nat):Int)))*53)))) 64))))):Nat):Int)%((2:Int)^(IntKind.bits .i64)))-((2:Int)^(IntKind.bits .i64)))) (instDecidableEqBool ((IntKind.signed .i64)&&(decide (((((BitVec.toNat ((BitVec.ofInt (IntKind.bits .i64) (IntKind.wrap .i64 ((IntKind.wrap .i64 ((IntKind.wrap .i64 ((IntKind.wrap .i64 ((IntKind.wrap .i64 (List.getD a0_0 (Int.toNat (Int.tmod (IntKind.wrap .i64 ((IntKind.wrap .i64 (a0_1+1))-1)) (((List.length a0_0):Nat):Int))) 0))*131))+(IntKind.wrap .i64 ((IntKind.wrap .i64 (List.getD a0_0 (Int.toNat (Int.tmod (IntKind.wrap .i64 ((IntKind.wrap .i64 ((IntKind.wrap .i64 ((IntKind.wrap .i64 (a0_1+1))-1))*7))+3)) (((List.length a0_0):Nat):Int))) 0))*1117))))+(IntKind.wrap .i64 ((IntKind.wrap .i64 ((IntKind.wrap .i64 (a0_1+1))-1))*29))))+(IntKind.wrap .i64 ((IntKind.wrap .i64 (Int.tdiv (IntKind.wrap .i64 ((IntKind.wrap .i64 (a0_1+1))-1)) (((List.length a0_0):Nat):Int)))*53)))))^^^(BitVec.ofInt (IntKind.bits .i64) (IntKind.wrap .i64 (Int.tdiv (IntKind.wrap .i64 ((IntKind.wrap .i64 ((IntKind.wrap .i64 ((IntKind.wrap .i64 ((IntKind.wrap .i64 (List.getD a0_0 (Int.toNat (Int.tmod (IntKind.wrap .i64 ((IntKind.wrap .i64 (a0_1+1))-1)) (((List.length a0_0):Nat):Int))) 0))*131))+(IntKind.wrap .i64 ((IntKind.wrap .i64 (List.getD a0_0 (Int.toNat (Int.tmod (IntKind.wrap .i64 ((IntKind.wrap .i64 ((IntKind.wrap .i64 ((IntKind.wrap .i64 (a0_1+1))-1))*7))+3)) (((List.length a0_0):Nat):Int))) 0))*1117))))+(IntKind.wrap .i64 ((IntKind.wrap .i64 ((IntKind.wrap .i64 (a0_1+1))-1))*29))))+(IntKind.wrap .i64 ((IntKind.wrap .i64 (Int.tdiv (IntKind.wrap .i64 ((IntKind.wrap .i64 (a0_1+1))-1)) (((List.length a0_0):Nat):Int)))*53)))) 64))))):Nat):Int)%((2:Int)^(IntKind.bits .i64)))≥((2:Int)^((IntKind.bits .i64)-1))))) true)) a1),(a0_0,(IntKind.wrap .i64 (a0_1+1))),())
       else
        none
     else
      none
def A49:FnM:=⟨[.bx kR,.v i6],true,[.int .i64],none,fun x=>spec_l13Rd_pick x.1 x.2.1⟩
theorem A49_ok:FnMOk prog 49 A49:=fm (L:=L0) (by kernel_rfl) func49 E0_ok allNil
def sh274_4:List Fm:=.cell (.val .str)::.cell (.val (.int .u8))::d::d::d::.cell (.own .str 100500 false)::.cell (.val i6)::.cell (.val i6)::D 28 []
def xs274_4:List (Ex×List Fm):=[(.exit 0,(D 5 (.cell (.own .str 100500 false)::D 30 [])))]
def spec_l13Cut_l4:(ByteArray×Int×(List ByteArray)×Int×Int×Unit)→Option ((ByteArray×Int×(List ByteArray)×Int×Int×Unit)⊕(((List ByteArray)×Unit))):=fun(v0,v1,v5,v6,v7,_)=>
 bif (decide (v7≤(((ByteArray.size v0):Nat):Int))) then
  bif (v7==(((ByteArray.size v0):Nat):Int)) then
   if(((0:Int)≤v6)∧((v6≤v7)∧(v7≤(((ByteArray.size v0):Nat):Int)))) then
    if(((0+(List.length v5))=(List.length v5))∧((((List.length v5)+(List.length (List.take 1 (List.drop 0 [(ByteArray.extract v0 (Int.toNat v6) (Int.toNat v7))]))))*16)≤140737488355328)) then
     some (Sum.inl (v0,v1,(List.take ((List.length v5)+(List.length (List.take 1 (List.drop 0 [(ByteArray.extract v0 (Int.toNat v6) (Int.toNat v7))])))) (List.drop 0 ((List.drop 0 v5)++(List.take 1 (List.drop 0 [(ByteArray.extract v0 (Int.toNat v6) (Int.toNat v7))]))))),(IntKind.wrap .i64 (v7+1)),(IntKind.wrap .i64 (v7+1)),()))
    else
     none
   else
    none
  else
   if(((0:Int)≤v7)∧(v7<(((ByteArray.size v0):Nat):Int))) then
    bif ((((UInt8.toNat (Array.getD (ByteArray.data v0) (Int.toNat v7) (0:UInt8))):Nat):Int)==v1) then
     if(((0:Int)≤v6)∧((v6≤v7)∧(v7≤(((ByteArray.size v0):Nat):Int)))) then
      if(((0+(List.length v5))=(List.length v5))∧((((List.length v5)+(List.length (List.take 1 (List.drop 0 [(ByteArray.extract v0 (Int.toNat v6) (Int.toNat v7))]))))*16)≤140737488355328)) then
       some (Sum.inl (v0,v1,(List.take ((List.length v5)+(List.length (List.take 1 (List.drop 0 [(ByteArray.extract v0 (Int.toNat v6) (Int.toNat v7))])))) (List.drop 0 ((List.drop 0 v5)++(List.take 1 (List.drop 0 [(ByteArray.extract v0 (Int.toNat v6) (Int.toNat v7))]))))),(IntKind.wrap .i64 (v7+1)),(IntKind.wrap .i64 (v7+1)),()))
      else
       none
     else
      none
    else
     some (Sum.inl (v0,v1,(List.take (List.length v5) (List.drop 0 v5)),v6,(IntKind.wrap .i64 (v7+1)),()))
   else
    none
 else
  some (Sum.inr ((List.take (List.length v5) (List.drop 0 v5)),()))
theorem loop274_4{L}(h:L 4=some ⟨36,sh274_4,xs274_4,spec_l13Cut_l4⟩):LoopOk prog L (loopOf f274 4):=lo (L':=L0) (by kernel_rfl) E0_ok allNil h
def L274_1:Nat→Option LoopD:=fun n=>ifEq n 4 (some ⟨36,sh274_4,xs274_4,spec_l13Cut_l4⟩) (L0 n)
def spec_l13Cut:ByteArray→Int→Option ((List ByteArray)):=fun a0 a1=>
 Option.bind (loopF spec_l13Cut_l4 (a0,a1,(List.take 0 (List.drop 0 [])),0,0,())) fun(r0,_)=>
  some (List.take (List.length r0) (List.drop 0 r0))
def A274:FnA:=⟨[.v .str,.v (.int .u8)],true,[.sl .str],fun x=>spec_l13Cut x.1 x.2.1⟩
theorem A274_ok:FnOk prog 274 A274:=fo (L:=L274_1) (by kernel_rfl) func274 E0_ok (allCons (loop274_4 rfl) allNil)
def sh275_8:List Fm:=.cell (.val .str)::d::d::d::.cell (.val .bool)::.cell (.val i6)::.cell (.val i6)::D 60 []
def xs275_8:List (Ex×List Fm):=[(.ret,(d::d::.cell (.val i6)::.cell (.val .bool)::D 63 [])),(.exit 0,(D 4 (.cell (.val .bool)::.cell (.val i6)::D 61 [])))]
def spec_l13Num_l8:(ByteArray×Bool×Int×Int×Unit)→Option ((ByteArray×Bool×Int×Int×Unit)⊕((Int×Bool×Unit)⊕(Bool×Int×Unit))):=fun(v0,v4,v5,v6,_)=>
 bif (decide (v6<(((ByteArray.size v0):Nat):Int))) then
  if(((0:Int)≤v6)∧(v6<(((ByteArray.size v0):Nat):Int))) then
   bif (decide ((((UInt8.toNat (Array.getD (ByteArray.data v0) (Int.toNat v6) (0:UInt8))):Nat):Int)<48)) then
    some (Sum.inr (Sum.inl ((0:Int),false,())))
   else
    if(((0:Int)≤v6)∧(v6<(((ByteArray.size v0):Nat):Int))) then
     bif (decide ((((UInt8.toNat (Array.getD (ByteArray.data v0) (Int.toNat v6) (0:UInt8))):Nat):Int)>57)) then
      some (Sum.inr (Sum.inl ((0:Int),false,())))
     else
      if(((0:Int)≤v6)∧(v6<(((ByteArray.size v0):Nat):Int))) then
       some (Sum.inl (v0,v4,(IntKind.wrap .i64 ((IntKind.wrap .i64 (v5*10))+(IntKind.wrap .i64 (IntKind.wrap .u8 ((((UInt8.toNat (Array.getD (ByteArray.data v0) (Int.toNat v6) (0:UInt8))):Nat):Int)-48))))),(IntKind.wrap .i64 (v6+1)),()))
      else
       none
    else
     none
  else
   none
 else
  some (Sum.inr (Sum.inr (v4,v5,())))
theorem loop275_8{L}(h:L 8=some ⟨67,sh275_8,xs275_8,spec_l13Num_l8⟩):LoopOk prog L (loopOf f275 8):=lo (L':=L0) (by kernel_rfl) E0_ok allNil h
def L275_1:Nat→Option LoopD:=fun n=>ifEq n 8 (some ⟨67,sh275_8,xs275_8,spec_l13Num_l8⟩) (L0 n)
def spec_l13Num:ByteArray→Option (Int×Bool):=fun a0=>
 bif (decide ((((ByteArray.size a0):Nat):Int)>0)) then
  if(((0:Int)≤0)∧((0:Int)<(((ByteArray.size a0):Nat):Int))) then
   bif ((((UInt8.toNat (Array.getD (ByteArray.data a0) (Int.toNat 0) (0:UInt8))):Nat):Int)==45) then
    if(((0:Int)≤1)∧((1:Int)≤(((ByteArray.size a0):Nat):Int))) then
     bif ((((ByteArray.size (ByteArray.extract a0 (Int.toNat 1) (ByteArray.size a0))):Nat):Int)==0) then
      some ((0:Int),false)
     else
      bif (decide ((((ByteArray.size (ByteArray.extract a0 (Int.toNat 1) (ByteArray.size a0))):Nat):Int)>17)) then
       some ((0:Int),false)
      else
       if(((0:Int)≤0)∧((0:Int)<(((ByteArray.size (ByteArray.extract a0 (Int.toNat 1) (ByteArray.size a0))):Nat):Int))) then
        bif ((((UInt8.toNat (Array.getD (ByteArray.data (ByteArray.extract a0 (Int.toNat 1) (ByteArray.size a0))) (Int.toNat 0) (0:UInt8))):Nat):Int)==48) then
         bif (decide ((((ByteArray.size (ByteArray.extract a0 (Int.toNat 1) (ByteArray.size a0))):Nat):Int)>1)) then
          some ((0:Int),false)
         else
          bif ((((UInt8.toNat (Array.getD (ByteArray.data a0) (Int.toNat 0) (0:UInt8))):Nat):Int)==45) then
           some ((0:Int),false)
          else
           Option.bind (loopF spec_l13Num_l8 ((ByteArray.extract a0 (Int.toNat 1) (ByteArray.size a0)),((((UInt8.toNat (Array.getD (ByteArray.data a0) (Int.toNat 0) (0:UInt8))):Nat):Int)==45),0,0,())) fun r0=>
            (match r0 with
            |.inl (d1,d2,_)=>
              some (d1,d2)
            |.inr (d3,d4,_)=>
              bif d3 then
               some ((IntKind.wrap .i64 ((0:Int)-d4)),true)
              else
               some (d4,true))
        else
         Option.bind (loopF spec_l13Num_l8 ((ByteArray.extract a0 (Int.toNat 1) (ByteArray.size a0)),((((UInt8.toNat (Array.getD (ByteArray.data a0) (Int.toNat 0) (0:UInt8))):Nat):Int)==45),0,0,())) fun r5=>
          (match r5 with
          |.inl (d6,d7,_)=>
            some (d6,d7)
          |.inr (d8,d9,_)=>
            bif d8 then
             some ((IntKind.wrap .i64 ((0:Int)-d9)),true)
            else
             some (d9,true))
       else
        none
    else
     none
   else
    bif ((((ByteArray.size a0):Nat):Int)==0) then
     some ((0:Int),false)
    else
     bif (decide ((((ByteArray.size a0):Nat):Int)>17)) then
      some ((0:Int),false)
     else
      if(((0:Int)≤0)∧((0:Int)<(((ByteArray.size a0):Nat):Int))) then
       bif ((((UInt8.toNat (Array.getD (ByteArray.data a0) (Int.toNat 0) (0:UInt8))):Nat):Int)==48) then
        bif (decide ((((ByteArray.size a0):Nat):Int)>1)) then
         some ((0:Int),false)
        else
         bif ((((UInt8.toNat (Array.getD (ByteArray.data a0) (Int.toNat 0) (0:UInt8))):Nat):Int)==45) then
          some ((0:Int),false)
         else
          Option.bind (loopF spec_l13Num_l8 (a0,((((UInt8.toNat (Array.getD (ByteArray.data a0) (Int.toNat 0) (0:UInt8))):Nat):Int)==45),0,0,())) fun r10=>
           (match r10 with
           |.inl (d11,d12,_)=>
             some (d11,d12)
           |.inr (d13,d14,_)=>
             bif d13 then
              some ((IntKind.wrap .i64 ((0:Int)-d14)),true)
             else
              some (d14,true))
       else
        Option.bind (loopF spec_l13Num_l8 (a0,((((UInt8.toNat (Array.getD (ByteArray.data a0) (Int.toNat 0) (0:UInt8))):Nat):Int)==45),0,0,())) fun r15=>
         (match r15 with
         |.inl (d16,d17,_)=>
           some (d16,d17)
         |.inr (d18,d19,_)=>
           bif d18 then
            some ((IntKind.wrap .i64 ((0:Int)-d19)),true)
           else
            some (d19,true))
      else
       none
  else
   none
 else
  bif ((((ByteArray.size a0):Nat):Int)==0) then
   some ((0:Int),false)
  else
   bif (decide ((((ByteArray.size a0):Nat):Int)>17)) then
    some ((0:Int),false)
   else
    if(((0:Int)≤0)∧((0:Int)<(((ByteArray.size a0):Nat):Int))) then
     bif ((((UInt8.toNat (Array.getD (ByteArray.data a0) (Int.toNat 0) (0:UInt8))):Nat):Int)==48) then
      bif (decide ((((ByteArray.size a0):Nat):Int)>1)) then
       some ((0:Int),false)
      else
       Option.bind (loopF spec_l13Num_l8 (a0,false,0,0,())) fun r20=>
        (match r20 with
        |.inl (d21,d22,_)=>
          some (d21,d22)
        |.inr (d23,d24,_)=>
          bif d23 then
           some ((IntKind.wrap .i64 ((0:Int)-d24)),true)
          else
           some (d24,true))
     else
      Option.bind (loopF spec_l13Num_l8 (a0,false,0,0,())) fun r25=>
       (match r25 with
       |.inl (d26,d27,_)=>
         some (d26,d27)
       |.inr (d28,d29,_)=>
         bif d28 then
          some ((IntKind.wrap .i64 ((0:Int)-d29)),true)
         else
          some (d29,true))
    else
     none
def A275:FnA:=⟨[.v .str],true,[.int .i64,.bool],fun x=>spec_l13Num x.1⟩
theorem A275_ok:FnOk prog 275 A275:=fo (L:=L275_1) (by kernel_rfl) func275 E0_ok (allCons (loop275_8 rfl) allNil)
def E276:Env:=ev fun g=>ifEq g 274 (some A274) (ifEq g 275 (some A275) (none))
theorem E276_ok:FnsOk prog E276:=(oF A274_ok func274 (oF A275_ok func275 (noFns _ _)))
def sh276_5:List Fm:=D 4 (.cell (.own i6 100400 false)::D 9 (.cell (.own .str 101400 false)::.cell (.val i6)::.cell (.val i6)::D 17 []))
def xs276_5:List (Ex×List Fm):=[(.ret,(d::d::.cell (.own i6 100200 false)::.cell (.val .bool)::D 30 [])),(.exit 0,(D 4 (.cell (.own i6 100400 false)::D 29 [])))]
def spec_l3Read_l5:(LI×(List ByteArray)×Int×Int×Unit)→Option ((LI×(List ByteArray)×Int×Int×Unit)⊕((LI×Bool×Unit)⊕(LI×Unit))):=fun(v4,v14,v15,v16,_)=>
 bif (decide (v16<v15)) then
  if(((0:Int)≤v16)∧(v16<(((List.length v14):Nat):Int))) then
   Option.bind (spec_l13Num (List.getD v14 (0+(Int.toNat v16)) ⟨Array.empty⟩)) fun(r0,r1)=>
    bif (!r1) then
     some (Sum.inr (Sum.inl ((List.take 0 (List.drop 0 [])),false,())))
    else
     if(((0+(List.length v4))=(List.length v4))∧((((List.length v4)+(List.length (List.take 1 (List.drop 0 [r0]))))*8)≤140737488355328)) then
      some (Sum.inl ((List.take ((List.length v4)+(List.length (List.take 1 (List.drop 0 [r0])))) (List.drop 0 ((List.drop 0 v4)++(List.take 1 (List.drop 0 [r0]))))),(List.take (List.length v14) (List.drop 0 v14)),v15,(IntKind.wrap .i64 (v16+1)),()))
     else
      none
  else
   none
 else
  some (Sum.inr (Sum.inr ((List.take (List.length v4) (List.drop 0 v4)),())))
theorem loop276_5{L}(h:L 5=some ⟨34,sh276_5,xs276_5,spec_l3Read_l5⟩):LoopOk prog L (loopOf f276 5):=lo (L':=L0) (by kernel_rfl) E276_ok allNil h
def L276_1:Nat→Option LoopD:=fun n=>ifEq n 5 (some ⟨34,sh276_5,xs276_5,spec_l3Read_l5⟩) (L0 n)
def spec_l3Read:ByteArray→Option (LI×Bool):=fun a0=>
 bif ((ByteArray.toList a0)==(ByteArray.toList (⟨#[]⟩:ByteArray))) then
  some ((List.take 0 (List.drop 0 [])),true)
 else
  Option.bind (spec_l13Cut a0 32) fun r0=>
   Option.bind (loopF spec_l3Read_l5 ((List.take 0 (List.drop 0 [])),(List.take (List.length r0) (List.drop 0 r0)),(((List.length r0):Nat):Int),0,())) fun r1=>
    (match r1 with
    |.inl (d2,d3,_)=>
      some ((List.take (List.length d2) (List.drop 0 d2)),d3)
    |.inr (d4,_)=>
      some ((List.take (List.length d4) (List.drop 0 d4)),true))
def A276:FnA:=⟨[.v .str],true,[.sl i6,.bool],fun x=>spec_l3Read x.1⟩
theorem A276_ok:FnOk prog 276 A276:=fo (L:=L276_1) (by kernel_rfl) func276 E276_ok (allCons (loop276_5 rfl) allNil)
def spec_l1In:Int→Int→Int→Option (Bool):=fun a0 a1 a2=>
 bif (decide (a0≥a1)) then
  some (decide (a0≤a2))
 else
  some false
def A24:FnA:=⟨[.v i6,.v i6,.v i6],true,[.bool],fun x=>spec_l1In x.1 x.2.1 x.2.2.1⟩
theorem A24_ok:FnOk prog 24 A24:=fo (L:=L0) (by kernel_rfl) func24 E0_ok allNil
def E55:Env:=ev fun g=>ifEq g 24 (some A24) (none)
theorem E55_ok:FnsOk prog E55:=(oF A24_ok func24 (noFns _ _))
def sh55_2:List Fm:=.cell (.val i6)::.cell (.val sI)::D 5 (.cell (.val sI)::.cell (.val i6)::.cell (.val i6)::D 23 [])
def xs55_2:List (Ex×List Fm):=[(.ret,(D 4 (.cell (.val .bool)::D 28 []))),(.exit 0,(D 33 []))]
def spec_l3Marks_l2:(Int×LI×LI×Int×Int×Unit)→Option ((Int×LI×LI×Int×Int×Unit)⊕((Bool×Unit)⊕(Unit))):=fun(v0,v1,v7,v8,v9,_)=>
 bif (decide (v9<v8)) then
  if(((0:Int)≤v9)∧(v9<(((List.length v7):Nat):Int))) then
   Option.bind (spec_l1In (List.getD v7 (Int.toNat v9) 0) 0 (IntKind.wrap .i64 (v0-1))) fun r0=>
    bif (!r0) then
     some (Sum.inr (Sum.inl (false,())))
    else
     bif (decide (v9>0)) then
      if(((0:Int)≤(IntKind.wrap .i64 (v9-1)))∧((IntKind.wrap .i64 (v9-1))<(((List.length v1):Nat):Int))) then
       bif (decide ((List.getD v1 (Int.toNat (IntKind.wrap .i64 (v9-1))) 0)≥(List.getD v7 (Int.toNat v9) 0))) then
        some (Sum.inr (Sum.inl (false,())))
       else
        some (Sum.inl (v0,v1,v7,v8,(IntKind.wrap .i64 (v9+1)),()))
      else
       none
     else
      some (Sum.inl (v0,v1,v7,v8,(IntKind.wrap .i64 (v9+1)),()))
  else
   none
 else
  some (Sum.inr (Sum.inr ()))
theorem loop55_2{L}(h:L 2=some ⟨33,sh55_2,xs55_2,spec_l3Marks_l2⟩):LoopOk prog L (loopOf f55 2):=lo (L':=L0) (by kernel_rfl) E55_ok allNil h
def L55_1:Nat→Option LoopD:=fun n=>ifEq n 2 (some ⟨33,sh55_2,xs55_2,spec_l3Marks_l2⟩) (L0 n)
def spec_l3Marks:Int→LI→Option (Bool):=fun a0 a1=>
 Option.bind (loopF spec_l3Marks_l2 (a0,a1,a1,(((List.length a1):Nat):Int),0,())) fun r0=>
  (match r0 with
  |.inl (d1,_)=>
    some d1
  |.inr _=>
    some true)
def A55:FnA:=⟨[.v i6,.v sI],true,[.bool],fun x=>spec_l3Marks x.1 x.2.1⟩
theorem A55_ok:FnOk prog 55 A55:=fo (L:=L55_1) (by kernel_rfl) func55 E55_ok (allCons (loop55_2 rfl) allNil)
def E56:Env:=ev fun g=>ifEq g 24 (some A24) (none)
theorem E56_ok:FnsOk prog E56:=(oF A24_ok func24 (noFns _ _))
def spec_l3Step:Int→TS→Option (Bool):=fun a0 (a1_0,a1_1,a1_2,a1_3)=>
 Option.bind (spec_l1In a1_0 0 (IntKind.wrap .i64 (a0-1))) fun r0=>
  bif r0 then
   Option.bind (spec_l1In a1_2 0 (IntKind.wrap .i64 (a0-1))) fun r1=>
    bif r1 then
     Option.bind (spec_l1In a1_3 0 3) fun r2=>
      bif r2 then
       bif ((ByteArray.toList a1_1)==(ByteArray.toList (⟨#[(97:UInt8)]⟩:ByteArray))) then
        some true
       else
        some ((ByteArray.toList a1_1)==(ByteArray.toList (⟨#[(98:UInt8)]⟩:ByteArray)))
      else
       some false
    else
     some false
  else
   some false
def A56:FnA:=⟨[.v i6,.v kS],true,[.bool],fun x=>spec_l3Step x.1 x.2.1⟩
theorem A56_ok:FnOk prog 56 A56:=fo (L:=L0) (by kernel_rfl) func56 E56_ok allNil
def spec_l3Before:TS→TS→Option (Bool):=fun(a0_0,a0_1,a0_2,a0_3) (a1_0,a1_1,a1_2,a1_3)=>
 bif (a0_0 != a1_0) then
  some (decide (a0_0<a1_0))
 else
  bif (!((ByteArray.toList a0_1)==(ByteArray.toList a1_1))) then
   some (Op.bytesLess (ByteArray.toList a0_1) (ByteArray.toList a1_1))
  else
   some (decide (a0_2<a1_2))
def A57:FnA:=⟨[.v kS,.v kS],true,[.bool],fun x=>spec_l3Before x.1 x.2.1⟩
theorem A57_ok:FnOk prog 57 A57:=fo (L:=L0) (by kernel_rfl) func57 E0_ok allNil
def E23:Env:=ev fun g=>ifEq g 24 (some A24) (ifEq g 55 (some A55) (ifEq g 56 (some A56) (ifEq g 57 (some A57) (none))))
theorem E23_ok:FnsOk prog E23:=(oF A24_ok func24 (oF A55_ok func55 (oF A56_ok func56 (oF A57_ok func57 (noFns _ _)))))
def sh23_4:List Fm:=d::.box 100100 [.val i6,.val sI,.val sI,.val sS]::D 30 (.cell (.val sS)::.cell (.val i6)::.cell (.val i6)::D 25 [])
def xs23_4:List (Ex×List Fm):=[(.ret,(d::d::.cell (.val .bool)::D 57 [])),(.exit 0,(D 60 []))]
def spec_AutomatonValid_l4:((Int×LI×LI×LS×Unit)×LS×Int×Int×Unit)→Option (((Int×LI×LI×LS×Unit)×LS×Int×Int×Unit)⊕((Bool×Unit)⊕(Unit))):=fun((v1_0,v1_1,v1_2,v1_3,_),v32,v33,v34,_)=>
 bif (decide (v34<v33)) then
  if(((0:Int)≤v34)∧(v34<(((List.length v32):Nat):Int))) then
   Option.bind (spec_l3Step v1_0 ((List.getD v32 (Int.toNat v34) ((0:Int),⟨Array.empty⟩,0,0)).1,(List.getD v32 (Int.toNat v34) ((0:Int),⟨Array.empty⟩,0,0)).2.1,(List.getD v32 (Int.toNat v34) ((0:Int),⟨Array.empty⟩,0,0)).2.2.1,(List.getD v32 (Int.toNat v34) ((0:Int),⟨Array.empty⟩,0,0)).2.2.2)) fun r0=>
    bif (!r0) then
     some (Sum.inr (Sum.inl (false,())))
    else
     bif (decide (v34>0)) then
      if(((0:Int)≤(IntKind.wrap .i64 (v34-1)))∧((IntKind.wrap .i64 (v34-1))<(((List.length v1_3):Nat):Int))) then
       Option.bind (spec_l3Before (List.getD v1_3 (Int.toNat (IntKind.wrap .i64 (v34-1))) ((0:Int),⟨Array.empty⟩,0,0)) ((List.getD v32 (Int.toNat v34) ((0:Int),⟨Array.empty⟩,0,0)).1,(List.getD v32 (Int.toNat v34) ((0:Int),⟨Array.empty⟩,0,0)).2.1,(List.getD v32 (Int.toNat v34) ((0:Int),⟨Array.empty⟩,0,0)).2.2.1,(List.getD v32 (Int.toNat v34) ((0:Int),⟨Array.empty⟩,0,0)).2.2.2)) fun r1=>
        bif (!r1) then
         some (Sum.inr (Sum.inl (false,())))
        else
         some (Sum.inl ((v1_0,v1_1,v1_2,v1_3,()),v32,v33,(IntKind.wrap .i64 (v34+1)),()))
      else
       none
     else
      some (Sum.inl ((v1_0,v1_1,v1_2,v1_3,()),v32,v33,(IntKind.wrap .i64 (v34+1)),()))
  else
   none
 else
  some (Sum.inr (Sum.inr ()))
theorem loop23_4{L}(h:L 4=some ⟨60,sh23_4,xs23_4,spec_AutomatonValid_l4⟩):LoopOk prog L (loopOf f23 4):=lo (L':=L0) (by kernel_rfl) E23_ok allNil h
def L23_1:Nat→Option LoopD:=fun n=>ifEq n 4 (some ⟨60,sh23_4,xs23_4,spec_AutomatonValid_l4⟩) (L0 n)
def spec_AutomatonValid:TA→Option (Bool):=fun(a0_0,a0_1,a0_2,a0_3)=>
 Option.bind (spec_l1In a0_0 1 4) fun r0=>
  bif (!r0) then
   some false
  else
   Option.bind (spec_l3Marks a0_0 a0_1) fun r1=>
    bif (!r1) then
     some false
    else
     Option.bind (spec_l3Marks a0_0 a0_2) fun r2=>
      bif (!r2) then
       some false
      else
       bif (decide ((((List.length a0_3):Nat):Int)>24)) then
        some false
       else
        Option.bind (loopF spec_AutomatonValid_l4 ((a0_0,a0_1,a0_2,a0_3,()),a0_3,(((List.length a0_3):Nat):Int),0,())) fun r3=>
         (match r3 with
         |.inl (d4,_)=>
           some d4
         |.inr _=>
           some true)
def A23:FnA:=⟨[.v kA],true,[.bool],fun x=>spec_AutomatonValid x.1⟩
theorem A23_ok:FnOk prog 23 A23:=fo (L:=L23_1) (by kernel_rfl) func23 E23_ok (allCons (loop23_4 rfl) allNil)
def E252:Env:=ev fun g=>ifEq g 274 (some A274) (ifEq g 275 (some A275) (ifEq g 276 (some A276) (ifEq g 23 (some A23) (none))))
theorem E252_ok:FnsOk prog E252:=(oF A274_ok func274 (oF A275_ok func275 (oF A276_ok func276 (oF A23_ok func23 (noFns _ _)))))
def sh252_11:List Fm:=d::d::.box 100200 [.val i6,.own i6 100202 false,.own i6 100203 false,.own kS 100204 false]::D 8 (.box 101100 [.val i6,.own i6 101102 false,.own i6 101103 false,.own kS 101104 false]::.cell (.val .bool)::D 54 (.cell (.own .str 106700 false)::.cell (.val i6)::.cell (.val i6)::D 61 []))
def xs252_11:List (Ex×List Fm):=[(.ret,[d,d,.box 100200 [.val i6,.own i6 100202 false,.own i6 100203 false,.own kS 100204 false],.cell (.val .bool),d,d,d,d,d,d,d,d,d,d,d,d,d,d,d,d,d,d,d,d,d,d,d,d,d,d,d,d,d,d,d,d,d,d,d,d,d,d,d,d,d,d,d,d,d,d,d,d,d,d,d,d,d,d,d,d,d,d,d,d,d,d,d,d,d,d,d,d,d,d,d,d,d,d,d,d,d,d,d,d,d,d,d,d,d,d,d,d,d,d,d,d,d,d,d,d,d,d,d,d,d,d,d,d,d,d,d,d,d,d,d,d,d,d,d,d,d,d,d,d,d,d,d,d,d,d,d]),(.exit 0,[d,d,.box 100200 [.val i6,.own i6 100202 false,.own i6 100203 false,.own kS 100204 false],d,d,d,d,d,d,d,d,.box 101100 [.val i6,.own i6 101102 false,.own i6 101103 false,.own kS 101104 false],.cell (.val .bool),d,d,d,d,d,d,d,d,d,d,d,d,d,d,d,d,d,d,d,d,d,d,d,d,d,d,d,d,d,d,d,d,d,d,d,d,d,d,d,d,d,d,d,d,d,d,d,d,d,d,d,d,d,d,d,d,d,d,d,d,d,d,d,d,d,d,d,d,d,d,d,d,d,d,d,d,d,d,d,d,d,d,d,d,d,d,d,d,d,d,d,d,d,d,d,d,d,d,d,d,d,d,d,d,d,d,d,d,d,d,d,d,d,d,d,d,d,d])]
def spec_ParseAutomaton_l11:((Int×LI×LI×LS×Unit)×(Int×LI×LI×LS×Unit)×Bool×(List ByteArray)×Int×Int×Unit)→Option (((Int×LI×LI×LS×Unit)×(Int×LI×LI×LS×Unit)×Bool×(List ByteArray)×Int×Int×Unit)⊕(((Int×LI×LI×LS×Unit)×Bool×Unit)⊕((Int×LI×LI×LS×Unit)×(Int×LI×LI×LS×Unit)×Bool×Unit))):=fun((v2_0,v2_1,v2_2,v2_3,_),(v11_0,v11_1,v11_2,v11_3,_),v12,v67,v68,v69,_)=>
 bif (decide (v69<v68)) then
  if(((0:Int)≤v69)∧(v69<(((List.length v67):Nat):Int))) then
   bif ((((ByteArray.size (List.getD v67 (0+(Int.toNat v69)) ⟨Array.empty⟩)):Nat):Int) != 5) then
    some (Sum.inr (Sum.inl (((0:Int),[],[],[],()),false,())))
   else
    if(((0:Int)≤3)∧((3:Int)<(((ByteArray.size (List.getD v67 (0+(Int.toNat v69)) ⟨Array.empty⟩)):Nat):Int))) then
     bif ((((UInt8.toNat (Array.getD (ByteArray.data (List.getD v67 (0+(Int.toNat v69)) ⟨Array.empty⟩)) (Int.toNat 3) (0:UInt8))):Nat):Int) != 58) then
      some (Sum.inr (Sum.inl (((0:Int),[],[],[],()),false,())))
     else
      if(((0:Int)≤1)∧((1:Int)≤(((ByteArray.size (List.getD v67 (0+(Int.toNat v69)) ⟨Array.empty⟩)):Nat):Int))) then
       Option.bind (spec_l13Num (ByteArray.extract (List.getD v67 (0+(Int.toNat v69)) ⟨Array.empty⟩) 0 (Int.toNat 1))) fun(r0,r1)=>
        if(((0:Int)≤2)∧(((2:Int)≤3)∧((3:Int)≤(((ByteArray.size (List.getD v67 (0+(Int.toNat v69)) ⟨Array.empty⟩)):Nat):Int)))) then
         Option.bind (spec_l13Num (ByteArray.extract (List.getD v67 (0+(Int.toNat v69)) ⟨Array.empty⟩) (Int.toNat 2) (Int.toNat 3))) fun(r2,r3)=>
          if(((0:Int)≤4)∧((4:Int)≤(((ByteArray.size (List.getD v67 (0+(Int.toNat v69)) ⟨Array.empty⟩)):Nat):Int))) then
           Option.bind (spec_l13Num (ByteArray.extract (List.getD v67 (0+(Int.toNat v69)) ⟨Array.empty⟩) (Int.toNat 4) (ByteArray.size (List.getD v67 (0+(Int.toNat v69)) ⟨Array.empty⟩)))) fun(r4,r5)=>
            bif v12 then
             bif r1 then
              bif r3 then
               if(((0:Int)≤1)∧(((1:Int)≤2)∧((2:Int)≤(((ByteArray.size (List.getD v67 (0+(Int.toNat v69)) ⟨Array.empty⟩)):Nat):Int)))) then
                if(((0+(List.length v11_3))=(List.length v11_3))∧((((List.length v11_3)+(List.length (List.take 1 (List.drop 0 [(r0,(ByteArray.extract (List.getD v67 (0+(Int.toNat v69)) (⟨Array.empty⟩:ByteArray)) (Int.toNat (1:Int)) (Int.toNat (2:Int))),r2,r4)]))))*40)≤140737488355328)) then
                 some (Sum.inl ((v2_0,(List.take (List.length v2_1) (List.drop 0 v2_1)),(List.take (List.length v2_2) (List.drop 0 v2_2)),(List.take (List.length v2_3) (List.drop 0 v2_3)),()),(v11_0,(List.take (List.length v11_1) (List.drop 0 v11_1)),(List.take (List.length v11_2) (List.drop 0 v11_2)),(List.take ((List.length v11_3)+(List.length (List.take 1 (List.drop 0 [(r0,(ByteArray.extract (List.getD v67 (0+(Int.toNat v69)) (⟨Array.empty⟩:ByteArray)) (Int.toNat (1:Int)) (Int.toNat (2:Int))),r2,r4)])))) (List.drop 0 ((List.drop 0 v11_3)++(List.take 1 (List.drop 0 [(r0,(ByteArray.extract (List.getD v67 (0+(Int.toNat v69)) (⟨Array.empty⟩:ByteArray)) (Int.toNat (1:Int)) (Int.toNat (2:Int))),r2,r4)]))))),()),r5,(List.take (List.length v67) (List.drop 0 v67)),v68,(IntKind.wrap .i64 (v69+1)),()))
                else
                 none
               else
                none
              else
               if(((0:Int)≤1)∧(((1:Int)≤2)∧((2:Int)≤(((ByteArray.size (List.getD v67 (0+(Int.toNat v69)) ⟨Array.empty⟩)):Nat):Int)))) then
                if(((0+(List.length v11_3))=(List.length v11_3))∧((((List.length v11_3)+(List.length (List.take 1 (List.drop 0 [(r0,(ByteArray.extract (List.getD v67 (0+(Int.toNat v69)) (⟨Array.empty⟩:ByteArray)) (Int.toNat (1:Int)) (Int.toNat (2:Int))),r2,r4)]))))*40)≤140737488355328)) then
                 some (Sum.inl ((v2_0,(List.take (List.length v2_1) (List.drop 0 v2_1)),(List.take (List.length v2_2) (List.drop 0 v2_2)),(List.take (List.length v2_3) (List.drop 0 v2_3)),()),(v11_0,(List.take (List.length v11_1) (List.drop 0 v11_1)),(List.take (List.length v11_2) (List.drop 0 v11_2)),(List.take ((List.length v11_3)+(List.length (List.take 1 (List.drop 0 [(r0,(ByteArray.extract (List.getD v67 (0+(Int.toNat v69)) (⟨Array.empty⟩:ByteArray)) (Int.toNat (1:Int)) (Int.toNat (2:Int))),r2,r4)])))) (List.drop 0 ((List.drop 0 v11_3)++(List.take 1 (List.drop 0 [(r0,(ByteArray.extract (List.getD v67 (0+(Int.toNat v69)) (⟨Array.empty⟩:ByteArray)) (Int.toNat (1:Int)) (Int.toNat (2:Int))),r2,r4)]))))),()),false,(List.take (List.length v67) (List.drop 0 v67)),v68,(IntKind.wrap .i64 (v69+1)),()))
                else
                 none
               else
                none
             else
              if(((0:Int)≤1)∧(((1:Int)≤2)∧((2:Int)≤(((ByteArray.size (List.getD v67 (0+(Int.toNat v69)) ⟨Array.empty⟩)):Nat):Int)))) then
               if(((0+(List.length v11_3))=(List.length v11_3))∧((((List.length v11_3)+(List.length (List.take 1 (List.drop 0 [(r0,(ByteArray.extract (List.getD v67 (0+(Int.toNat v69)) (⟨Array.empty⟩:ByteArray)) (Int.toNat (1:Int)) (Int.toNat (2:Int))),r2,r4)]))))*40)≤140737488355328)) then
                some (Sum.inl ((v2_0,(List.take (List.length v2_1) (List.drop 0 v2_1)),(List.take (List.length v2_2) (List.drop 0 v2_2)),(List.take (List.length v2_3) (List.drop 0 v2_3)),()),(v11_0,(List.take (List.length v11_1) (List.drop 0 v11_1)),(List.take (List.length v11_2) (List.drop 0 v11_2)),(List.take ((List.length v11_3)+(List.length (List.take 1 (List.drop 0 [(r0,(ByteArray.extract (List.getD v67 (0+(Int.toNat v69)) (⟨Array.empty⟩:ByteArray)) (Int.toNat (1:Int)) (Int.toNat (2:Int))),r2,r4)])))) (List.drop 0 ((List.drop 0 v11_3)++(List.take 1 (List.drop 0 [(r0,(ByteArray.extract (List.getD v67 (0+(Int.toNat v69)) (⟨Array.empty⟩:ByteArray)) (Int.toNat (1:Int)) (Int.toNat (2:Int))),r2,r4)]))))),()),false,(List.take (List.length v67) (List.drop 0 v67)),v68,(IntKind.wrap .i64 (v69+1)),()))
               else
                none
              else
               none
            else
             if(((0:Int)≤1)∧(((1:Int)≤2)∧((2:Int)≤(((ByteArray.size (List.getD v67 (0+(Int.toNat v69)) ⟨Array.empty⟩)):Nat):Int)))) then
              if(((0+(List.length v11_3))=(List.length v11_3))∧((((List.length v11_3)+(List.length (List.take 1 (List.drop 0 [(r0,(ByteArray.extract (List.getD v67 (0+(Int.toNat v69)) (⟨Array.empty⟩:ByteArray)) (Int.toNat (1:Int)) (Int.toNat (2:Int))),r2,r4)]))))*40)≤140737488355328)) then
               some (Sum.inl ((v2_0,(List.take (List.length v2_1) (List.drop 0 v2_1)),(List.take (List.length v2_2) (List.drop 0 v2_2)),(List.take (List.length v2_3) (List.drop 0 v2_3)),()),(v11_0,(List.take (List.length v11_1) (List.drop 0 v11_1)),(List.take (List.length v11_2) (List.drop 0 v11_2)),(List.take ((List.length v11_3)+(List.length (List.take 1 (List.drop 0 [(r0,(ByteArray.extract (List.getD v67 (0+(Int.toNat v69)) (⟨Array.empty⟩:ByteArray)) (Int.toNat (1:Int)) (Int.toNat (2:Int))),r2,r4)])))) (List.drop 0 ((List.drop 0 v11_3)++(List.take 1 (List.drop 0 [(r0,(ByteArray.extract (List.getD v67 (0+(Int.toNat v69)) (⟨Array.empty⟩:ByteArray)) (Int.toNat (1:Int)) (Int.toNat (2:Int))),r2,r4)]))))),()),false,(List.take (List.length v67) (List.drop 0 v67)),v68,(IntKind.wrap .i64 (v69+1)),()))
              else
               none
             else
              none
          else
           none
        else
         none
      else
       none
    else
     none
  else
   none
 else
  some (Sum.inr (Sum.inr ((v2_0,(List.take (List.length v2_1) (List.drop 0 v2_1)),(List.take (List.length v2_2) (List.drop 0 v2_2)),(List.take (List.length v2_3) (List.drop 0 v2_3)),()),(v11_0,(List.take (List.length v11_1) (List.drop 0 v11_1)),(List.take (List.length v11_2) (List.drop 0 v11_2)),(List.take (List.length v11_3) (List.drop 0 v11_3)),()),v12,())))
theorem loop252_11{L}(h:L 11=some ⟨131,sh252_11,xs252_11,spec_ParseAutomaton_l11⟩):LoopOk prog L (loopOf f252 11):=lo (L':=L0) (by kernel_rfl) E252_ok allNil h
def L252_1:Nat→Option LoopD:=fun n=>ifEq n 11 (some ⟨131,sh252_11,xs252_11,spec_ParseAutomaton_l11⟩) (L0 n)
def spec_ParseAutomaton:ByteArray→Option (TA×Bool):=fun a0=>
 Option.bind (spec_l13Cut a0 59) fun r0=>
  bif ((((List.length r0):Nat):Int) != 4) then
   some (((0:Int),[],[],[]),false)
  else
   if(((0:Int)≤0)∧((0:Int)<(((List.length r0):Nat):Int))) then
    Option.bind (spec_l13Num (List.getD r0 (0+(Int.toNat 0)) ⟨Array.empty⟩)) fun(r1,r2)=>
     if(((0:Int)≤1)∧((1:Int)<(((List.length r0):Nat):Int))) then
      Option.bind (spec_l3Read (List.getD r0 (0+(Int.toNat 1)) ⟨Array.empty⟩)) fun(r3,r4)=>
       if(((0:Int)≤2)∧((2:Int)<(((List.length r0):Nat):Int))) then
        Option.bind (spec_l3Read (List.getD r0 (0+(Int.toNat 2)) ⟨Array.empty⟩)) fun(r5,r6)=>
         bif r2 then
          bif r4 then
           if(((0:Int)≤3)∧((3:Int)<(((List.length r0):Nat):Int))) then
            bif (!((ByteArray.toList (List.getD r0 (0+(Int.toNat 3)) ⟨Array.empty⟩))==(ByteArray.toList (⟨#[]⟩:ByteArray)))) then
             if(((0:Int)≤3)∧((3:Int)<(((List.length r0):Nat):Int))) then
              Option.bind (spec_l13Cut (List.getD r0 (0+(Int.toNat 3)) ⟨Array.empty⟩) 32) fun r7=>
               Option.bind (loopF spec_ParseAutomaton_l11 (((0:Int),[],[],[],()),(r1,(List.take (List.length r3) (List.drop 0 r3)),(List.take (List.length r5) (List.drop 0 r5)),(List.take 0 (List.drop 0 [])),()),r6,(List.take (List.length r7) (List.drop 0 r7)),(((List.length r7):Nat):Int),0,())) fun r8=>
                (match r8 with
                |.inl ((d9,d10,d11,d12,_),d13,_)=>
                  some ((d9,(List.take (List.length d10) (List.drop 0 d10)),(List.take (List.length d11) (List.drop 0 d11)),(List.take (List.length d12) (List.drop 0 d12))),d13)
                |.inr ((d14,d15,d16,d17,_),(d18,d19,d20,d21,_),d22,_)=>
                  bif (!d22) then
                   some (((0:Int),[],[],[]),false)
                  else
                   Option.bind (spec_AutomatonValid (d18,(List.take (List.length d19) (List.drop 0 d19)),(List.take (List.length d20) (List.drop 0 d20)),(List.take (List.length d21) (List.drop 0 d21)))) fun r23=>
                    bif (!r23) then
                     some (((0:Int),[],[],[]),false)
                    else
                     some ((d18,(List.take (List.length d19) (List.drop 0 d19)),(List.take (List.length d20) (List.drop 0 d20)),(List.take (List.length d21) (List.drop 0 d21))),true))
             else
              none
            else
             bif (!r6) then
              some (((0:Int),[],[],[]),false)
             else
              Option.bind (spec_AutomatonValid (r1,(List.take (List.length r3) (List.drop 0 r3)),(List.take (List.length r5) (List.drop 0 r5)),(List.take 0 (List.drop 0 [])))) fun r24=>
               bif (!r24) then
                some (((0:Int),[],[],[]),false)
               else
                some ((r1,(List.take (List.length r3) (List.drop 0 r3)),(List.take (List.length r5) (List.drop 0 r5)),(List.take 0 (List.drop 0 []))),true)
           else
            none
          else
           if(((0:Int)≤3)∧((3:Int)<(((List.length r0):Nat):Int))) then
            bif (!((ByteArray.toList (List.getD r0 (0+(Int.toNat 3)) ⟨Array.empty⟩))==(ByteArray.toList (⟨#[]⟩:ByteArray)))) then
             if(((0:Int)≤3)∧((3:Int)<(((List.length r0):Nat):Int))) then
              Option.bind (spec_l13Cut (List.getD r0 (0+(Int.toNat 3)) ⟨Array.empty⟩) 32) fun r25=>
               Option.bind (loopF spec_ParseAutomaton_l11 (((0:Int),[],[],[],()),(r1,(List.take (List.length r3) (List.drop 0 r3)),(List.take (List.length r5) (List.drop 0 r5)),(List.take 0 (List.drop 0 [])),()),false,(List.take (List.length r25) (List.drop 0 r25)),(((List.length r25):Nat):Int),0,())) fun r26=>
                (match r26 with
                |.inl ((d27,d28,d29,d30,_),d31,_)=>
                  some ((d27,(List.take (List.length d28) (List.drop 0 d28)),(List.take (List.length d29) (List.drop 0 d29)),(List.take (List.length d30) (List.drop 0 d30))),d31)
                |.inr ((d32,d33,d34,d35,_),(d36,d37,d38,d39,_),d40,_)=>
                  bif (!d40) then
                   some (((0:Int),[],[],[]),false)
                  else
                   Option.bind (spec_AutomatonValid (d36,(List.take (List.length d37) (List.drop 0 d37)),(List.take (List.length d38) (List.drop 0 d38)),(List.take (List.length d39) (List.drop 0 d39)))) fun r41=>
                    bif (!r41) then
                     some (((0:Int),[],[],[]),false)
                    else
                     some ((d36,(List.take (List.length d37) (List.drop 0 d37)),(List.take (List.length d38) (List.drop 0 d38)),(List.take (List.length d39) (List.drop 0 d39))),true))
             else
              none
            else
             some (((0:Int),[],[],[]),false)
           else
            none
         else
          if(((0:Int)≤3)∧((3:Int)<(((List.length r0):Nat):Int))) then
           bif (!((ByteArray.toList (List.getD r0 (0+(Int.toNat 3)) ⟨Array.empty⟩))==(ByteArray.toList (⟨#[]⟩:ByteArray)))) then
            if(((0:Int)≤3)∧((3:Int)<(((List.length r0):Nat):Int))) then
             Option.bind (spec_l13Cut (List.getD r0 (0+(Int.toNat 3)) ⟨Array.empty⟩) 32) fun r42=>
              Option.bind (loopF spec_ParseAutomaton_l11 (((0:Int),[],[],[],()),(r1,(List.take (List.length r3) (List.drop 0 r3)),(List.take (List.length r5) (List.drop 0 r5)),(List.take 0 (List.drop 0 [])),()),false,(List.take (List.length r42) (List.drop 0 r42)),(((List.length r42):Nat):Int),0,())) fun r43=>
               (match r43 with
               |.inl ((d44,d45,d46,d47,_),d48,_)=>
                 some ((d44,(List.take (List.length d45) (List.drop 0 d45)),(List.take (List.length d46) (List.drop 0 d46)),(List.take (List.length d47) (List.drop 0 d47))),d48)
               |.inr ((d49,d50,d51,d52,_),(d53,d54,d55,d56,_),d57,_)=>
                 bif (!d57) then
                  some (((0:Int),[],[],[]),false)
                 else
                  Option.bind (spec_AutomatonValid (d53,(List.take (List.length d54) (List.drop 0 d54)),(List.take (List.length d55) (List.drop 0 d55)),(List.take (List.length d56) (List.drop 0 d56)))) fun r58=>
                   bif (!r58) then
                    some (((0:Int),[],[],[]),false)
                   else
                    some ((d53,(List.take (List.length d54) (List.drop 0 d54)),(List.take (List.length d55) (List.drop 0 d55)),(List.take (List.length d56) (List.drop 0 d56))),true))
            else
             none
           else
            some (((0:Int),[],[],[]),false)
          else
           none
       else
        none
     else
      none
   else
    none
def A252:FnA:=⟨[.v .str],true,[.pair i6 (.pair sI (.pair sI sS)),.bool],fun x=>spec_ParseAutomaton x.1⟩
theorem A252_ok:FnOk prog 252 A252:=fo (L:=L252_1) (by kernel_rfl) func252 E252_ok (allCons (loop252_11 rfl) allNil)
def E201:Env:=ev fun g=>ifEq g 252 (some A252) (none)
theorem E201_ok:FnsOk prog E201:=(oF A252_ok func252 (noFns _ _))
def spec_l3Known:Int→Option (TA):=fun a0=>
 if(((9:Nat):Int)=0) then
  none
 else
  if(((0:Int)≤(Int.tmod a0 ((9:Nat):Int)))∧((Int.tmod a0 ((9:Nat):Int))<((9:Nat):Int))) then
   Option.bind (spec_ParseAutomaton (List.getD [(⟨#[(49:UInt8),(59:UInt8),(48:UInt8),(59:UInt8),(48:UInt8),(59:UInt8),(48:UInt8),(97:UInt8),(48:UInt8),(58:UInt8),(49:UInt8),(32:UInt8),(48:UInt8),(98:UInt8),(48:UInt8),(58:UInt8),(48:UInt8)]⟩:ByteArray),(⟨#[(50:UInt8),(59:UInt8),(48:UInt8),(59:UInt8),(49:UInt8),(59:UInt8),(48:UInt8),(97:UInt8),(48:UInt8),(58:UInt8),(48:UInt8),(32:UInt8),(48:UInt8),(97:UInt8),(49:UInt8),(58:UInt8),(49:UInt8),(32:UInt8),(49:UInt8),(98:UInt8),(49:UInt8),(58:UInt8),(48:UInt8)]⟩:ByteArray),(⟨#[(50:UInt8),(59:UInt8),(48:UInt8),(32:UInt8),(49:UInt8),(59:UInt8),(48:UInt8),(32:UInt8),(49:UInt8),(59:UInt8),(48:UInt8),(97:UInt8),(48:UInt8),(58:UInt8),(49:UInt8),(32:UInt8),(48:UInt8),(98:UInt8),(48:UInt8),(58:UInt8),(48:UInt8),(32:UInt8),(49:UInt8),(97:UInt8),(49:UInt8),(58:UInt8),(48:UInt8),(32:UInt8),(49:UInt8),(98:UInt8),(49:UInt8),(58:UInt8),(49:UInt8)]⟩:ByteArray),(⟨#[(51:UInt8),(59:UInt8),(48:UInt8),(59:UInt8),(48:UInt8),(32:UInt8),(50:UInt8),(59:UInt8),(48:UInt8),(97:UInt8),(48:UInt8),(58:UInt8),(48:UInt8),(32:UInt8),(48:UInt8),(97:UInt8),(49:UInt8),(58:UInt8),(48:UInt8),(32:UInt8),(48:UInt8),(98:UInt8),(48:UInt8),(58:UInt8),(49:UInt8),(32:UInt8),(49:UInt8),(97:UInt8),(49:UInt8),(58:UInt8),(49:UInt8),(32:UInt8),(49:UInt8),(98:UInt8),(50:UInt8),(58:UInt8),(48:UInt8),(32:UInt8),(50:UInt8),(97:UInt8),(50:UInt8),(58:UInt8),(48:UInt8),(32:UInt8),(50:UInt8),(98:UInt8),(50:UInt8),(58:UInt8),(48:UInt8)]⟩:ByteArray),(⟨#[(50:UInt8),(59:UInt8),(48:UInt8),(59:UInt8),(48:UInt8),(59:UInt8),(48:UInt8),(97:UInt8),(49:UInt8),(58:UInt8),(49:UInt8),(32:UInt8),(49:UInt8),(98:UInt8),(48:UInt8),(58:UInt8),(48:UInt8)]⟩:ByteArray),(⟨#[(51:UInt8),(59:UInt8),(48:UInt8),(59:UInt8),(50:UInt8),(59:UInt8),(48:UInt8),(97:UInt8),(48:UInt8),(58:UInt8),(48:UInt8),(32:UInt8),(48:UInt8),(98:UInt8),(48:UInt8),(58:UInt8),(48:UInt8),(32:UInt8),(48:UInt8),(98:UInt8),(49:UInt8),(58:UInt8),(48:UInt8),(32:UInt8),(49:UInt8),(97:UInt8),(49:UInt8),(58:UInt8),(49:UInt8),(32:UInt8),(49:UInt8),(98:UInt8),(50:UInt8),(58:UInt8),(48:UInt8),(32:UInt8),(50:UInt8),(97:UInt8),(50:UInt8),(58:UInt8),(48:UInt8),(32:UInt8),(50:UInt8),(98:UInt8),(50:UInt8),(58:UInt8),(48:UInt8)]⟩:ByteArray),(⟨#[(49:UInt8),(59:UInt8),(48:UInt8),(59:UInt8),(48:UInt8),(59:UInt8),(48:UInt8),(97:UInt8),(48:UInt8),(58:UInt8),(48:UInt8)]⟩:ByteArray),(⟨#[(50:UInt8),(59:UInt8),(48:UInt8),(59:UInt8),(48:UInt8),(32:UInt8),(49:UInt8),(59:UInt8),(48:UInt8),(97:UInt8),(48:UInt8),(58:UInt8),(48:UInt8),(32:UInt8),(48:UInt8),(98:UInt8),(49:UInt8),(58:UInt8),(49:UInt8),(32:UInt8),(49:UInt8),(97:UInt8),(48:UInt8),(58:UInt8),(48:UInt8),(32:UInt8),(49:UInt8),(98:UInt8),(49:UInt8),(58:UInt8),(48:UInt8)]⟩:ByteArray),(⟨#[(50:UInt8),(59:UInt8),(48:UInt8),(59:UInt8),(49:UInt8),(59:UInt8),(48:UInt8),(97:UInt8),(49:UInt8),(58:UInt8),(50:UInt8),(32:UInt8),(49:UInt8),(97:UInt8),(49:UInt8),(58:UInt8),(48:UInt8),(32:UInt8),(49:UInt8),(98:UInt8),(48:UInt8),(58:UInt8),(49:UInt8)]⟩:ByteArray)] (0+(Int.toNat (Int.tmod a0 ((9:Nat):Int)))) ⟨Array.empty⟩)) fun((r0,r1,r2,r3),r4)=>
    some (r0,(List.take (List.length r1) (List.drop 0 r1)),(List.take (List.length r2) (List.drop 0 r2)),(List.take (List.length r3) (List.drop 0 r3)))
  else
   none
def A201:FnA:=⟨[.v i6],true,[.pair i6 (.pair sI (.pair sI sS))],fun x=>spec_l3Known x.1⟩
theorem A201_ok:FnOk prog 201 A201:=fo (L:=L0) (by kernel_rfl) func201 E201_ok allNil
def E202:Env:=⟨ty0,fun _=>none,fun g=>ifEq g 49 (some A49) (none),fun _=>none,fun _=>none,fun _=>0⟩
theorem E202_ok:FnsOk prog E202:=(oneMs A49_ok (by kernel_rfl) func49 (by kernel_rfl) (by kernel_rfl) (noFns _ _))
def sh202_3:List Fm:=.box 200000 [.val (.sl (.int .u8)),.val i6]::D 4 (.cell (.own i6 100500 false)::d::d::.cell (.val i6)::.cell (.val i6)::D 11 [])
def xs202_3:List (Ex×List Fm):=[(.exit 0,[.box 200000 [.val (.sl (.int .u8)),.val i6],d,d,d,d,.cell (.own i6 100500 false),d,d,d,d,d,d,d,d,d,d,d,d,d,d,d])]
def spec_l3Some_l3:((LI×Int×Unit)×LI×Int×Int×Unit)→Option (((LI×Int×Unit)×LI×Int×Int×Unit)⊕(((LI×Int×Unit)×LI×Unit))):=fun((v0_0,v0_1,_),v5,v8,v9,_)=>
 bif (decide (v9<v8)) then
  Option.bind (spec_l13Rd_pick (v0_0,v0_1) 2) fun(r0,(r1,r2),_)=>
   bif (r0==0) then
    if(((0+(List.length v5))=(List.length v5))∧((((List.length v5)+(List.length (List.take 1 (List.drop 0 [v9]))))*8)≤140737488355328)) then
     some (Sum.inl ((r1,r2,()),(List.take ((List.length v5)+(List.length (List.take 1 (List.drop 0 [v9])))) (List.drop 0 ((List.drop 0 v5)++(List.take 1 (List.drop 0 [v9]))))),v8,(IntKind.wrap .i64 (v9+1)),()))
    else
     none
   else
    some (Sum.inl ((r1,r2,()),(List.take (List.length v5) (List.drop 0 v5)),v8,(IntKind.wrap .i64 (v9+1)),()))
 else
  some (Sum.inr ((v0_0,v0_1,()),(List.take (List.length v5) (List.drop 0 v5)),()))
theorem loop202_3{L}(h:L 3=some ⟨21,sh202_3,xs202_3,spec_l3Some_l3⟩):LoopOk prog L (loopOf f202 3):=lo (L':=L0) (by kernel_rfl) E202_ok allNil h
def L202_1:Nat→Option LoopD:=fun n=>ifEq n 3 (some ⟨21,sh202_3,xs202_3,spec_l3Some_l3⟩) (L0 n)
def spec_l3Some:(LI×Int)→Int→Option ((LI)×((LI×Int)×Unit)):=fun(a0_0,a0_1) a1=>
 Option.bind (loopF spec_l3Some_l3 ((a0_0,a0_1,()),(List.take 0 (List.drop 0 [])),a1,0,())) fun((r0,r1,_),r2,_)=>
  some ((List.take (List.length r2) (List.drop 0 r2)),(r0,r1),())
def A202:FnM:=⟨[.bx kR,.v i6],true,[.sl i6],none,fun x=>spec_l3Some x.1 x.2.1⟩
theorem A202_ok:FnMOk prog 202 A202:=fm (L:=L202_1) (by kernel_rfl) func202 E202_ok (allCons (loop202_3 rfl) allNil)
def E124:Env:=⟨ty0,fun _=>none,fun g=>ifEq g 49 (some A49) (none),fun _=>none,fun _=>none,fun _=>0⟩
theorem E124_ok:FnsOk prog E124:=(oneMs A49_ok (by kernel_rfl) func49 (by kernel_rfl) (by kernel_rfl) (noFns _ _))
def spec_l13Rd_of:(LI×Int)→(List ByteArray)→Option ((ByteArray)×((LI×Int)×Unit)):=fun(a0_0,a0_1) a1=>
 Option.bind (spec_l13Rd_pick (a0_0,a0_1) (((List.length a1):Nat):Int)) fun(r0,(r1,r2),_)=>
  if(((0:Int)≤r0)∧(r0<(((List.length a1):Nat):Int))) then
   some ((List.getD a1 (Int.toNat r0) ⟨Array.empty⟩),(r1,r2),())
  else
   none
def A124:FnM:=⟨[.bx kR,.v (.sl .str)],true,[.str],none,fun x=>spec_l13Rd_of x.1 x.2.1⟩
theorem A124_ok:FnMOk prog 124 A124:=fm (L:=L0) (by kernel_rfl) func124 E124_ok allNil
def E19:Env:=⟨ty0,fun _=>none,fun g=>ifEq g 49 (some A49) (none),fun _=>none,fun _=>none,fun _=>0⟩
theorem E19_ok:FnsOk prog E19:=(oneMs A49_ok (by kernel_rfl) func49 (by kernel_rfl) (by kernel_rfl) (noFns _ _))
def spec_l13Rd_num:(LI×Int)→LI→Option ((Int)×((LI×Int)×Unit)):=fun(a0_0,a0_1) a1=>
 Option.bind (spec_l13Rd_pick (a0_0,a0_1) (((List.length a1):Nat):Int)) fun(r0,(r1,r2),_)=>
  if(((0:Int)≤r0)∧(r0<(((List.length a1):Nat):Int))) then
   some ((List.getD a1 (Int.toNat r0) 0),(r1,r2),())
  else
   none
def A19:FnM:=⟨[.bx kR,.v sI],true,[.int .i64],none,fun x=>spec_l13Rd_num x.1 x.2.1⟩
theorem A19_ok:FnMOk prog 19 A19:=fm (L:=L0) (by kernel_rfl) func19 E19_ok allNil
def E203:Env:=ev fun g=>ifEq g 57 (some A57) (none)
theorem E203_ok:FnsOk prog E203:=(oF A57_ok func57 (noFns _ _))
def sh203_2:List Fm:=.cell (.val sS)::d::d::.box 100300 [.val i6,.val .str,.val i6,.val i6]::d::.cell (.val i6)::D 56 []
def xs203_2:List (Ex×List Fm):=[(.exit 0,[.cell (.val sS),d,d,.box 100300 [.val i6,.val .str,.val i6,.val i6],d,.cell (.val i6),d,d,d,d,d,d,d,d,d,d,d,d,d,d,d,d,d,d,d,d,d,d,d,d,d,d,d,d,d,d,d,d,d,d,d,d,d,d,d,d,d,d,d,d,d,d,d,d,d,d,d,d,d,d,d,d])]
def spec_l3Put_l2:(LS×(Int×ByteArray×Int×Int×Unit)×Int×Unit)→Option ((LS×(Int×ByteArray×Int×Int×Unit)×Int×Unit)⊕((LS×(Int×ByteArray×Int×Int×Unit)×Int×Unit))):=fun(v0,(v3_0,v3_1,v3_2,v3_3,_),v5,_)=>
 bif (decide (v5<(((List.length v0):Nat):Int))) then
  if(((0:Int)≤v5)∧(v5<(((List.length v0):Nat):Int))) then
   Option.bind (spec_l3Before (List.getD v0 (Int.toNat v5) ((0:Int),⟨Array.empty⟩,0,0)) (v3_0,v3_1,v3_2,v3_3)) fun r0=>
    bif r0 then
     some (Sum.inl (v0,(v3_0,v3_1,v3_2,v3_3,()),(IntKind.wrap .i64 (v5+1)),()))
    else
     some (Sum.inr (v0,(v3_0,v3_1,v3_2,v3_3,()),v5,()))
  else
   none
 else
  some (Sum.inr (v0,(v3_0,v3_1,v3_2,v3_3,()),v5,()))
theorem loop203_2{L}(h:L 2=some ⟨62,sh203_2,xs203_2,spec_l3Put_l2⟩):LoopOk prog L (loopOf f203 2):=lo (L':=L0) (by kernel_rfl) E203_ok allNil h
def L203_1:Nat→Option LoopD:=fun n=>ifEq n 2 (some ⟨62,sh203_2,xs203_2,spec_l3Put_l2⟩) (L0 n)
def spec_l3Put:LS→TS→Option (LS):=fun a0 (a1_0,a1_1,a1_2,a1_3)=>
 Option.bind (loopF spec_l3Put_l2 (a0,(a1_0,a1_1,a1_2,a1_3,()),0,())) fun(r0,(r1,r2,r3,r4,_),r5,_)=>
  bif (decide (r5<(((List.length r0):Nat):Int))) then
   if(((0:Int)≤r5)∧(r5<(((List.length r0):Nat):Int))) then
    Option.bind (spec_l3Before (r1,r2,r3,r4) (List.getD r0 (Int.toNat r5) ((0:Int),⟨Array.empty⟩,0,0))) fun r6=>
     bif (!r6) then
      if(((0+0)=(List.length ([]:List Unit)))∧(((0+(List.length r0))*40)≤140737488355328)) then
       if(((0:Int)≤r5)∧(r5<(((0+(List.length r0)):Nat):Int))) then
        if(((0:Int)≤r5)∧(r5<(((0+(List.length r0)):Nat):Int))) then
         Option.bind (Option.some (List.set ((List.drop 0 [])++r0) (0+(Int.toNat r5)) ((List.getD ((List.drop 0 [])++r0) (0+(Int.toNat r5)) ((0:Int),⟨Array.empty⟩,0,0)).1,(List.getD ((List.drop 0 [])++r0) (0+(Int.toNat r5)) ((0:Int),⟨Array.empty⟩,0,0)).2.1,(List.getD ((List.drop 0 [])++r0) (0+(Int.toNat r5)) ((0:Int),⟨Array.empty⟩,0,0)).2.2.1,(if(r4<(List.getD ((List.drop 0 [])++r0) (0+(Int.toNat r5)) ((0:Int),⟨Array.empty⟩,0,0)).2.2.2) then r4 else(List.getD ((List.drop 0 [])++r0) (0+(Int.toNat r5)) ((0:Int),⟨Array.empty⟩,0,0)).2.2.2)))) fun r7=>
          some (List.take (0+(List.length r0)) (List.drop 0 r7))
        else
         none
       else
        none
      else
       none
     else
      if(((0:Int)≤r5)∧(r5≤(((List.length r0):Nat):Int))) then
       if(((0+0)=(List.length ([]:List Unit)))∧(((0+(List.length (List.take ((Int.toNat r5)-0) (List.drop 0 r0))))*40)≤140737488355328)) then
        if(((0+(0+(List.length (List.take ((Int.toNat r5)-0) (List.drop 0 r0)))))=(List.length ((List.drop 0 [])++(List.take ((Int.toNat r5)-0) (List.drop 0 r0)))))∧((((0+(List.length (List.take ((Int.toNat r5)-0) (List.drop 0 r0))))+(List.length (List.take 1 (List.drop 0 [(r1,r2,r3,r4)]))))*40)≤140737488355328)) then
         if(((0:Int)≤r5)∧(r5≤(((List.length r0):Nat):Int))) then
          if(((0+((0+(List.length (List.take ((Int.toNat r5)-0) (List.drop 0 r0))))+(List.length (List.take 1 (List.drop 0 [(r1,r2,r3,r4)])))))=(List.length ((List.drop 0 ((List.drop 0 [])++(List.take ((Int.toNat r5)-0) (List.drop 0 r0))))++(List.take 1 (List.drop 0 [(r1,r2,r3,r4)])))))∧(((((0+(List.length (List.take ((Int.toNat r5)-0) (List.drop 0 r0))))+(List.length (List.take 1 (List.drop 0 [(r1,r2,r3,r4)]))))+(List.length (List.take ((List.length r0)-(Int.toNat r5)) (List.drop (Int.toNat r5) r0))))*40)≤140737488355328)) then
           some (List.take (((0+(List.length (List.take ((Int.toNat r5)-0) (List.drop 0 r0))))+(List.length (List.take 1 (List.drop 0 [(r1,r2,r3,r4)]))))+(List.length (List.take ((List.length r0)-(Int.toNat r5)) (List.drop (Int.toNat r5) r0)))) (List.drop 0 ((List.drop 0 ((List.drop 0 ((List.drop 0 [])++(List.take ((Int.toNat r5)-0) (List.drop 0 r0))))++(List.take 1 (List.drop 0 [(r1,r2,r3,r4)]))))++(List.take ((List.length r0)-(Int.toNat r5)) (List.drop (Int.toNat r5) r0)))))
          else
           none
         else
          none
        else
         none
       else
        none
      else
       none
   else
    none
  else
   if(((0:Int)≤r5)∧(r5≤(((List.length r0):Nat):Int))) then
    if(((0+0)=(List.length ([]:List Unit)))∧(((0+(List.length (List.take ((Int.toNat r5)-0) (List.drop 0 r0))))*40)≤140737488355328)) then
     if(((0+(0+(List.length (List.take ((Int.toNat r5)-0) (List.drop 0 r0)))))=(List.length ((List.drop 0 [])++(List.take ((Int.toNat r5)-0) (List.drop 0 r0)))))∧((((0+(List.length (List.take ((Int.toNat r5)-0) (List.drop 0 r0))))+(List.length (List.take 1 (List.drop 0 [(r1,r2,r3,r4)]))))*40)≤140737488355328)) then
      if(((0:Int)≤r5)∧(r5≤(((List.length r0):Nat):Int))) then
       if(((0+((0+(List.length (List.take ((Int.toNat r5)-0) (List.drop 0 r0))))+(List.length (List.take 1 (List.drop 0 [(r1,r2,r3,r4)])))))=(List.length ((List.drop 0 ((List.drop 0 [])++(List.take ((Int.toNat r5)-0) (List.drop 0 r0))))++(List.take 1 (List.drop 0 [(r1,r2,r3,r4)])))))∧(((((0+(List.length (List.take ((Int.toNat r5)-0) (List.drop 0 r0))))+(List.length (List.take 1 (List.drop 0 [(r1,r2,r3,r4)]))))+(List.length (List.take ((List.length r0)-(Int.toNat r5)) (List.drop (Int.toNat r5) r0))))*40)≤140737488355328)) then
        some (List.take (((0+(List.length (List.take ((Int.toNat r5)-0) (List.drop 0 r0))))+(List.length (List.take 1 (List.drop 0 [(r1,r2,r3,r4)]))))+(List.length (List.take ((List.length r0)-(Int.toNat r5)) (List.drop (Int.toNat r5) r0)))) (List.drop 0 ((List.drop 0 ((List.drop 0 ((List.drop 0 [])++(List.take ((Int.toNat r5)-0) (List.drop 0 r0))))++(List.take 1 (List.drop 0 [(r1,r2,r3,r4)]))))++(List.take ((List.length r0)-(Int.toNat r5)) (List.drop (Int.toNat r5) r0)))))
       else
        none
      else
       none
     else
      none
    else
     none
   else
    none
def A203:FnA:=⟨[.v sS,.v kS],true,[.sl kS],fun x=>spec_l3Put x.1 x.2.1⟩
theorem A203_ok:FnOk prog 203 A203:=fo (L:=L203_1) (by kernel_rfl) func203 E203_ok (allCons (loop203_2 rfl) allNil)
def E123:Env:=⟨ty0,fun g=>ifEq g 201 (some A201) (ifEq g 203 (some A203) (none)),fun g=>ifEq g 49 (some A49) (ifEq g 202 (some A202) (ifEq g 124 (some A124) (ifEq g 19 (some A19) (none)))),fun _=>none,fun _=>none,fun _=>0⟩
theorem E123_ok:FnsOk prog E123:=(oF A201_ok func201 (oF A203_ok func203 (oneMs A49_ok (by kernel_rfl) func49 (by kernel_rfl) (by kernel_rfl) (oneMs A202_ok (by kernel_rfl) func202 (by kernel_rfl) (by kernel_rfl) (oneMs A124_ok (by kernel_rfl) func124 (by kernel_rfl) (by kernel_rfl) (oneMs A19_ok (by kernel_rfl) func19 (by kernel_rfl) (by kernel_rfl) (noFns _ _)))))))
def sh123_8:List Fm:=.box 200000 [.val (.sl (.int .u8)),.val i6]::d::d::d::.box 100400 [.val i6,.own i6 100402 false,.own i6 100403 false,.own kS 100404 false]::d::.cell (.val i6)::.box 100700 [.val i6,.own i6 100702 false,.own i6 100703 false,.own kS 100704 false]::D 30 (.cell (.val i6)::.cell (.val i6)::D 21 [])
def xs123_8:List (Ex×List Fm):=[(.exit 0,[.box 200000 [.val (.sl (.int .u8)),.val i6],d,d,d,.box 100400 [.val i6,.own i6 100402 false,.own i6 100403 false,.own kS 100404 false],d,d,.box 100700 [.val i6,.own i6 100702 false,.own i6 100703 false,.own kS 100704 false],d,d,d,d,d,d,d,d,d,d,d,d,d,d,d,d,d,d,d,d,d,d,d,d,d,d,d,d,d,d,d,d,d,d,d,d,d,d,d,d,d,d,d,d,d,d,d,d,d,d,d,d,d])]
def spec_l3Draw_l8:((LI×Int×Unit)×(Int×LI×LI×LS×Unit)×Int×(Int×LI×LI×LS×Unit)×Int×Int×Unit)→Option (((LI×Int×Unit)×(Int×LI×LI×LS×Unit)×Int×(Int×LI×LI×LS×Unit)×Int×Int×Unit)⊕(((LI×Int×Unit)×(Int×LI×LI×LS×Unit)×(Int×LI×LI×LS×Unit)×Unit))):=fun((v0_0,v0_1,_),(v4_0,v4_1,v4_2,v4_3,_),v6,(v7_0,v7_1,v7_2,v7_3,_),v38,v39,_)=>
 bif (decide (v39<v38)) then
  Option.bind (spec_l13Rd_pick (v0_0,v0_1) v6) fun(r0,(r1,r2),_)=>
   Option.bind (spec_l13Rd_of (r1,r2) (List.take 2 (List.drop 0 [(⟨#[(97:UInt8)]⟩:ByteArray),(⟨#[(98:UInt8)]⟩:ByteArray)]))) fun(r3,(r4,r5),_)=>
    Option.bind (spec_l13Rd_pick (r4,r5) v6) fun(r6,(r7,r8),_)=>
     Option.bind (spec_l13Rd_num (r7,r8) (List.take 6 (List.drop 0 [(0:Int),(1:Int),(0:Int),(1:Int),(2:Int),(0:Int)]))) fun(r9,(r10,r11),_)=>
      Option.bind (spec_l3Put (List.take (List.length v7_3) (List.drop 0 v7_3)) (r0,r3,r6,r9)) fun r12=>
       some (Sum.inl ((r10,r11,()),(v4_0,(List.take (List.length v4_1) (List.drop 0 v4_1)),(List.take (List.length v4_2) (List.drop 0 v4_2)),(List.take (List.length v4_3) (List.drop 0 v4_3)),()),v6,(v7_0,(List.take (List.length v7_1) (List.drop 0 v7_1)),(List.take (List.length v7_2) (List.drop 0 v7_2)),(List.take (List.length r12) (List.drop 0 r12)),()),v38,(IntKind.wrap .i64 (v39+1)),()))
 else
  some (Sum.inr ((v0_0,v0_1,()),(v4_0,(List.take (List.length v4_1) (List.drop 0 v4_1)),(List.take (List.length v4_2) (List.drop 0 v4_2)),(List.take (List.length v4_3) (List.drop 0 v4_3)),()),(v7_0,(List.take (List.length v7_1) (List.drop 0 v7_1)),(List.take (List.length v7_2) (List.drop 0 v7_2)),(List.take (List.length v7_3) (List.drop 0 v7_3)),()),()))
theorem loop123_8{L}(h:L 8=some ⟨61,sh123_8,xs123_8,spec_l3Draw_l8⟩):LoopOk prog L (loopOf f123 8):=lo (L':=L0) (by kernel_rfl) E123_ok allNil h
def L123_1:Nat→Option LoopD:=fun n=>ifEq n 8 (some ⟨61,sh123_8,xs123_8,spec_l3Draw_l8⟩) (L0 n)
def spec_l3Draw:(LI×Int)→Int→Option ((TA)×((LI×Int)×Unit)):=fun(a0_0,a0_1) a1=>
 Option.bind (spec_l13Rd_pick (a0_0,a0_1) 3) fun(r0,(r1,r2),_)=>
  bif (r0==0) then
   Option.bind (spec_l13Rd_pick (r1,r2) 9) fun(r3,(r4,r5),_)=>
    Option.bind (spec_l3Known r3) fun(r6,r7,r8,r9)=>
     bif (decide (r6≤a1)) then
      some ((r6,(List.take (List.length r7) (List.drop 0 r7)),(List.take (List.length r8) (List.drop 0 r8)),(List.take (List.length r9) (List.drop 0 r9))),(r4,r5),())
     else
      Option.bind (spec_l13Rd_pick (r4,r5) a1) fun(r10,(r11,r12),_)=>
       Option.bind (spec_l3Some (r11,r12) (IntKind.wrap .i64 ((1:Int)+r10))) fun(r13,(r14,r15),_)=>
        Option.bind (spec_l3Some (r14,r15) (IntKind.wrap .i64 ((1:Int)+r10))) fun(r16,(r17,r18),_)=>
         Option.bind (spec_l13Rd_pick (r17,r18) (IntKind.wrap .i64 ((IntKind.wrap .i64 ((2:Int)*(IntKind.wrap .i64 ((1:Int)+r10))))+1))) fun(r19,(r20,r21),_)=>
          Option.bind (loopF spec_l3Draw_l8 ((r20,r21,()),((0:Int),[],[],[],()),(IntKind.wrap .i64 ((1:Int)+r10)),((IntKind.wrap .i64 ((1:Int)+r10)),(List.take (List.length r13) (List.drop 0 r13)),(List.take (List.length r16) (List.drop 0 r16)),(List.take 0 (List.drop 0 [])),()),(IntKind.wrap .i64 ((1:Int)+r19)),0,())) fun((r22,r23,_),(r24,r25,r26,r27,_),(r28,r29,r30,r31,_),_)=>
           some ((r28,(List.take (List.length r29) (List.drop 0 r29)),(List.take (List.length r30) (List.drop 0 r30)),(List.take (List.length r31) (List.drop 0 r31))),(r22,r23),())
  else
   Option.bind (spec_l13Rd_pick (r1,r2) a1) fun(r32,(r33,r34),_)=>
    Option.bind (spec_l3Some (r33,r34) (IntKind.wrap .i64 ((1:Int)+r32))) fun(r35,(r36,r37),_)=>
     Option.bind (spec_l3Some (r36,r37) (IntKind.wrap .i64 ((1:Int)+r32))) fun(r38,(r39,r40),_)=>
      Option.bind (spec_l13Rd_pick (r39,r40) (IntKind.wrap .i64 ((IntKind.wrap .i64 ((2:Int)*(IntKind.wrap .i64 ((1:Int)+r32))))+1))) fun(r41,(r42,r43),_)=>
       Option.bind (loopF spec_l3Draw_l8 ((r42,r43,()),((0:Int),[],[],[],()),(IntKind.wrap .i64 ((1:Int)+r32)),((IntKind.wrap .i64 ((1:Int)+r32)),(List.take (List.length r35) (List.drop 0 r35)),(List.take (List.length r38) (List.drop 0 r38)),(List.take 0 (List.drop 0 [])),()),(IntKind.wrap .i64 ((1:Int)+r41)),0,())) fun((r44,r45,_),(r46,r47,r48,r49,_),(r50,r51,r52,r53,_),_)=>
        some ((r50,(List.take (List.length r51) (List.drop 0 r51)),(List.take (List.length r52) (List.drop 0 r52)),(List.take (List.length r53) (List.drop 0 r53))),(r44,r45),())
def A123:FnM:=⟨[.bx kR,.v i6],true,[.pair i6 (.pair sI (.pair sI sS))],none,fun x=>spec_l3Draw x.1 x.2.1⟩
theorem A123_ok:FnMOk prog 123 A123:=fm (L:=L123_1) (by kernel_rfl) func123 E123_ok (allCons (loop123_8 rfl) allNil)
def E122:Env:=⟨ty0,fun _=>none,fun g=>ifEq g 49 (some A49) (ifEq g 19 (some A19) (ifEq g 124 (some A124) (none))),fun _=>none,fun _=>none,fun _=>0⟩
theorem E122_ok:FnsOk prog E122:=(oneMs A49_ok (by kernel_rfl) func49 (by kernel_rfl) (by kernel_rfl) (oneMs A19_ok (by kernel_rfl) func19 (by kernel_rfl) (by kernel_rfl) (oneMs A124_ok (by kernel_rfl) func124 (by kernel_rfl) (by kernel_rfl) (noFns _ _))))
def spec_l3Bad:(LI×Int)→TA→Option ((TA)×((LI×Int)×Unit)):=fun(a0_0,a0_1) (a1_0,a1_1,a1_2,a1_3)=>
 Option.bind (spec_l13Rd_pick (a0_0,a0_1) 36) fun(r0,(r1,r2),_)=>
  bif (r0==0) then
   Option.bind (spec_l13Rd_num (r1,r2) (List.take 5 (List.drop 0 [(0:Int),(5:Int),(-1:Int),(1:Int),(9223372036854775807:Int)]))) fun(r3,(r4,r5),_)=>
    some ((r3,a1_1,a1_2,a1_3),(r4,r5),())
  else
   bif (r0==1) then
    if(((0+0)=(List.length ([]:List Unit)))∧(((0+(List.length a1_3))*40)≤140737488355328)) then
     Option.bind (spec_l13Rd_pick (r1,r2) 2) fun(r6,(r7,r8),_)=>
      Option.bind (spec_l13Rd_of (r7,r8) (List.take 3 (List.drop 0 [(⟨#[(97:UInt8)]⟩:ByteArray),(⟨#[(99:UInt8)]⟩:ByteArray),(⟨#[]⟩:ByteArray)]))) fun(r9,(r10,r11),_)=>
       Option.bind (spec_l13Rd_num (r10,r11) (List.take 3 (List.drop 0 [(0:Int),(4:Int),(-1:Int)]))) fun(r12,(r13,r14),_)=>
        Option.bind (spec_l13Rd_num (r13,r14) (List.take 3 (List.drop 0 [(0:Int),(4:Int),(-1:Int)]))) fun(r15,(r16,r17),_)=>
         if(((0+(0+(List.length a1_3)))=(List.length ((List.drop 0 [])++a1_3)))∧((((0+(List.length a1_3))+(List.length (List.take 1 (List.drop 0 [(r6,r9,r12,r15)]))))*40)≤140737488355328)) then
          some ((a1_0,a1_1,a1_2,(List.take ((0+(List.length a1_3))+(List.length (List.take 1 (List.drop 0 [(r6,r9,r12,r15)])))) (List.drop 0 ((List.drop 0 ((List.drop 0 [])++a1_3))++(List.take 1 (List.drop 0 [(r6,r9,r12,r15)])))))),(r16,r17),())
         else
          none
    else
     none
   else
    bif (r0==2) then
     if(((0+0)=(List.length ([]:List Unit)))∧(((0+(List.length a1_1))*8)≤140737488355328)) then
      Option.bind (spec_l13Rd_num (r1,r2) (List.take 3 (List.drop 0 [(0:Int),(4:Int),(-1:Int)]))) fun(r18,(r19,r20),_)=>
       if(((0+(0+(List.length a1_1)))=(List.length ((List.drop 0 [])++a1_1)))∧((((0+(List.length a1_1))+(List.length (List.take 1 (List.drop 0 [r18]))))*8)≤140737488355328)) then
        some ((a1_0,(List.take ((0+(List.length a1_1))+(List.length (List.take 1 (List.drop 0 [r18])))) (List.drop 0 ((List.drop 0 ((List.drop 0 [])++a1_1))++(List.take 1 (List.drop 0 [r18]))))),a1_2,a1_3),(r19,r20),())
       else
        none
     else
      none
    else
     some ((a1_0,a1_1,a1_2,a1_3),(r1,r2),())
def A122:FnM:=⟨[.bx kR,.v kA],false,[.pair i6 (.pair sI (.pair sI sS))],none,fun x=>spec_l3Bad x.1 x.2.1⟩
theorem A122_ok:FnMOk prog 122 A122:=fm (L:=L0) (by kernel_rfl) func122 E122_ok allNil
def E46:Env:=⟨ty0,fun _=>none,fun g=>ifEq g 123 (some A123) (ifEq g 122 (some A122) (none)),fun _=>none,fun _=>none,fun _=>0⟩
theorem E46_ok:FnsOk prog E46:=(oneMs A123_ok (by kernel_rfl) func123 (by kernel_rfl) (by kernel_rfl) (oneMs A122_ok (by kernel_rfl) func122 (by kernel_rfl) (by kernel_rfl) (noFns _ _)))
def spec_l3Any:(LI×Int)→Option ((TA)×((LI×Int)×Unit)):=fun(a0_0,a0_1)=>
 Option.bind (spec_l3Draw (a0_0,a0_1) 3) fun((r0,r1,r2,r3),(r4,r5),_)=>
  Option.bind (spec_l3Bad (r4,r5) (r0,(List.take (List.length r1) (List.drop 0 r1)),(List.take (List.length r2) (List.drop 0 r2)),(List.take (List.length r3) (List.drop 0 r3)))) fun((r6,r7,r8,r9),(r10,r11),_)=>
   some ((r6,r7,r8,r9),(r10,r11),())
def A46:FnM:=⟨[.bx kR],false,[.pair i6 (.pair sI (.pair sI sS))],none,fun x=>spec_l3Any x.1⟩
theorem A46_ok:FnMOk prog 46 A46:=fm (L:=L0) (by kernel_rfl) func46 E46_ok allNil
def R50(spec_l7Draw_rec:(LI×Int)→Int→Option ((ByteArray)×((LI×Int)×Unit))):FnM:=⟨[.bx kR,.v i6],true,[.str],none,fun x=>spec_l7Draw_rec x.1 x.2.1⟩
def E50(spec_l7Draw_rec:(LI×Int)→Int→Option ((ByteArray)×((LI×Int)×Unit))):Env:=⟨ty0,fun _=>none,fun g=>ifEq g 49 (some A49) (ifEq g 50 (some (R50 spec_l7Draw_rec)) (ifEq g 124 (some A124) (none))),fun _=>none,fun _=>none,fun _=>0⟩
theorem E50_ok(spec_l7Draw_rec:(LI×Int)→Int→Option ((ByteArray)×((LI×Int)×Unit)))(hrec:FnMOk prog 50 (R50 spec_l7Draw_rec)):FnsOk prog (E50 spec_l7Draw_rec):=(oneMs A49_ok (by kernel_rfl) func49 (by kernel_rfl) (by kernel_rfl) (oneMs hrec (by kernel_rfl) func50 (by kernel_rfl) (by kernel_rfl) (oneMs A124_ok (by kernel_rfl) func124 (by kernel_rfl) (by kernel_rfl) (noFns _ _))))
def L50_0(spec_l7Draw_rec:(LI×Int)→Int→Option ((ByteArray)×((LI×Int)×Unit))):Nat→Option LoopD:=fun _=>none
def sh50_3:List Fm:=.box 200000 [.val (.sl (.int .u8)),.val i6]::.cell (.val i6)::d::d::d::.cell (.val .str)::d::d::.cell (.val i6)::.cell (.val i6)::D 23 []
def xs50_3:List (Ex×List Fm):=[(.exit 0,[.box 200000 [.val (.sl (.int .u8)),.val i6],d,d,d,d,.cell (.val .str),d,d,d,d,d,d,d,d,d,d,d,d,d,d,d,d,d,d,d,d,d,d,d,d,d,d,d])]
def spec_l7Draw_l3(spec_l7Draw_rec:(LI×Int)→Int→Option ((ByteArray)×((LI×Int)×Unit))):((LI×Int×Unit)×Int×ByteArray×Int×Int×Unit)→Option (((LI×Int×Unit)×Int×ByteArray×Int×Int×Unit)⊕(((LI×Int×Unit)×ByteArray×Unit))):=fun((v0_0,v0_1,_),v1,v5,v8,v9,_)=>
 bif (decide (v9<v8)) then
  bif (decide (v1>0)) then
   Option.bind (spec_l13Rd_pick (v0_0,v0_1) 3) fun(r0,(r1,r2),_)=>
    bif (r0==0) then
     if(((ByteArray.size v5)+(ByteArray.size (⟨#[(40:UInt8)]⟩:ByteArray)))≤9223372036854775807) then
      Option.bind (spec_l7Draw_rec (r1,r2) (IntKind.wrap .i64 (v1-1))) fun(r3,(r4,r5),_)=>
       if(((ByteArray.size (v5++(⟨#[(40:UInt8)]⟩:ByteArray)))+(ByteArray.size r3))≤9223372036854775807) then
        if(((ByteArray.size ((v5++(⟨#[(40:UInt8)]⟩:ByteArray))++r3))+(ByteArray.size (⟨#[(41:UInt8),(35:UInt8)]⟩:ByteArray)))≤9223372036854775807) then
         some (Sum.inl ((r4,r5,()),v1,(((v5++(⟨#[(40:UInt8)]⟩:ByteArray))++r3)++(⟨#[(41:UInt8),(35:UInt8)]⟩:ByteArray)),v8,(IntKind.wrap .i64 (v9+1)),()))
        else
         none
       else
        none
     else
      none
    else
     Option.bind (spec_l13Rd_of (r1,r2) (List.take 2 (List.drop 0 [(⟨#[(97:UInt8)]⟩:ByteArray),(⟨#[(98:UInt8)]⟩:ByteArray)]))) fun(r6,(r7,r8),_)=>
      if(((ByteArray.size v5)+(ByteArray.size r6))≤9223372036854775807) then
       some (Sum.inl ((r7,r8,()),v1,(v5++r6),v8,(IntKind.wrap .i64 (v9+1)),()))
      else
       none
  else
   Option.bind (spec_l13Rd_of (v0_0,v0_1) (List.take 2 (List.drop 0 [(⟨#[(97:UInt8)]⟩:ByteArray),(⟨#[(98:UInt8)]⟩:ByteArray)]))) fun(r9,(r10,r11),_)=>
    if(((ByteArray.size v5)+(ByteArray.size r9))≤9223372036854775807) then
     some (Sum.inl ((r10,r11,()),v1,(v5++r9),v8,(IntKind.wrap .i64 (v9+1)),()))
    else
     none
 else
  some (Sum.inr ((v0_0,v0_1,()),v5,()))
theorem spec_l7Draw_l3_eq(spec_l7Draw_rec:(LI×Int)→Int→Option ((ByteArray)×((LI×Int)×Unit))):loopStep 33 (E50 spec_l7Draw_rec) (L50_0 spec_l7Draw_rec) (loopOf f50 3) sh50_3 xs50_3=(spec_l7Draw_l3 spec_l7Draw_rec):=by kernel_rfl
theorem loop50_3(spec_l7Draw_rec:(LI×Int)→Int→Option ((ByteArray)×((LI×Int)×Unit)))(hrec:FnMOk prog 50 (R50 spec_l7Draw_rec)){L:Nat→Option LoopD}(h:L 3=some ⟨33,sh50_3,xs50_3,(spec_l7Draw_l3 spec_l7Draw_rec)⟩):LoopOk prog L (loopOf f50 3):=
 loopOk (tysOk_of tyl_ok) (E50_ok spec_l7Draw_rec hrec) (codeOk_in (L:=(L50_0 spec_l7Draw_rec)) (tysOk_of tyl_ok) (E50_ok spec_l7Draw_rec hrec) mixed (c:=loopOf f50 3) (bs:=[]) (by kernel_rfl) allNil (by kernel_rfl)) (by kernel_rfl) (by kernel_rfl) (spec_l7Draw_l3_eq spec_l7Draw_rec) (by rw[show firstId (loopOf f50 3)=3 from by kernel_rfl];exact h)
def L50_1(spec_l7Draw_rec:(LI×Int)→Int→Option ((ByteArray)×((LI×Int)×Unit))):Nat→Option LoopD:=fun n=>ifEq n 3 (some ⟨33,sh50_3,xs50_3,(spec_l7Draw_l3 spec_l7Draw_rec)⟩) ((L50_0 spec_l7Draw_rec) n)
def spec_l7Draw_step(spec_l7Draw_rec:(LI×Int)→Int→Option ((ByteArray)×((LI×Int)×Unit))):(LI×Int)→Int→Option ((ByteArray)×((LI×Int)×Unit)):=fun(a0_0,a0_1) a1=>
 Option.bind (spec_l13Rd_pick (a0_0,a0_1) 3) fun(r0,(r1,r2),_)=>
  Option.bind (loopF (spec_l7Draw_l3 spec_l7Draw_rec) ((r1,r2,()),a1,(⟨#[]⟩:ByteArray),(IntKind.wrap .i64 ((1:Int)+r0)),0,())) fun((r3,r4,_),r5,_)=>
   some (r5,(r3,r4),())
theorem spec_l7Draw_step_eq(spec_l7Draw_rec:(LI×Int)→Int→Option ((ByteArray)×((LI×Int)×Unit))):fnMF (E50 spec_l7Draw_rec) (L50_1 spec_l7Draw_rec) [.bx kR,.v i6] true [.str] f50.ntmps f50.results.toList (codeOf f50)=fun x=>(spec_l7Draw_step spec_l7Draw_rec) x.1 x.2.1:=by kernel_rfl
theorem spec_l7Draw_step_ok(spec_l7Draw_rec:(LI×Int)→Int→Option ((ByteArray)×((LI×Int)×Unit)))(hrec:FnMOk prog 50 (R50 spec_l7Draw_rec)):FnMOk prog 50 ⟨[.bx kR,.v i6],true,[.str],none,fun x=>(spec_l7Draw_step spec_l7Draw_rec) x.1 x.2.1⟩:=by
 have h:=fnMOk_of_run (P:=prog) (E:=(E50 spec_l7Draw_rec)) (tysOk_of tyl_ok) (E50_ok spec_l7Draw_rec hrec) (L:=(L50_1 spec_l7Draw_rec)) (ps:=[.bx kR,.v i6]) (own:=true) (outs:=[.str]) func50 (c:=codeOf f50) (by kernel_rfl) (codeOk_in (L:=(L50_1 spec_l7Draw_rec)) (tysOk_of tyl_ok) (E50_ok spec_l7Draw_rec hrec) mixed (c:=codeOf f50) (bs:=[loopOf f50 3]) (by kernel_rfl) (allCons (loop50_3 spec_l7Draw_rec hrec rfl) allNil) (by kernel_rfl)) (by kernel_rfl);rw[(spec_l7Draw_step_eq spec_l7Draw_rec)] at h;exact h
/-- so many calls within each other -/
def spec_l7Draw_fuel:Nat→(LI×Int)→Int→Option ((ByteArray)×((LI×Int)×Unit))
 |0=>fun _ _=>none
 |n+1=>spec_l7Draw_step (spec_l7Draw_fuel n)
theorem spec_l7Draw_fuel_ok:∀n,FnMOk prog 50 (R50 (spec_l7Draw_fuel n))
 |0=>fun xs r h=>by cases h
 |n+1=>spec_l7Draw_step_ok (spec_l7Draw_fuel n) (spec_l7Draw_fuel_ok n)
def spec_l7Draw:(LI×Int)→Int→Option ((ByteArray)×((LI×Int)×Unit)):=spec_l7Draw_fuel 200
def A50:FnM:=R50 spec_l7Draw
theorem A50_ok:FnMOk prog 50 A50:=spec_l7Draw_fuel_ok 200
def E47:Env:=⟨ty0,fun _=>none,fun g=>ifEq g 49 (some A49) (ifEq g 50 (some A50) (ifEq g 124 (some A124) (none))),fun _=>none,fun _=>none,fun _=>0⟩
theorem E47_ok:FnsOk prog E47:=(oneMs A49_ok (by kernel_rfl) func49 (by kernel_rfl) (by kernel_rfl) (oneMs A50_ok (by kernel_rfl) func50 (by kernel_rfl) (by kernel_rfl) (oneMs A124_ok (by kernel_rfl) func124 (by kernel_rfl) (by kernel_rfl) (noFns _ _))))
def spec_l7Text:(LI×Int)→Option ((ByteArray)×((LI×Int)×Unit)):=fun(a0_0,a0_1)=>
 Option.bind (spec_l13Rd_pick (a0_0,a0_1) 3) fun(r0,(r1,r2),_)=>
  Option.bind (spec_l7Draw (r1,r2) r0) fun(r3,(r4,r5),_)=>
   Option.bind (spec_l13Rd_pick (r4,r5) 12) fun(r6,(r7,r8),_)=>
    bif (decide (r6>0)) then
     some (r3,(r7,r8),())
    else
     Option.bind (spec_l13Rd_pick (r7,r8) (((ByteArray.size r3):Nat):Int)) fun(r9,(r10,r11),_)=>
      if(((0:Int)≤r9)∧(r9≤(((ByteArray.size r3):Nat):Int))) then
       Option.bind (spec_l13Rd_of (r10,r11) (List.take 6 (List.drop 0 [(⟨#[]⟩:ByteArray),(⟨#[(40:UInt8)]⟩:ByteArray),(⟨#[(41:UInt8)]⟩:ByteArray),(⟨#[(35:UInt8)]⟩:ByteArray),(⟨#[(41:UInt8),(35:UInt8)]⟩:ByteArray),(⟨#[(99:UInt8)]⟩:ByteArray)]))) fun(r12,(r13,r14),_)=>
        if(((ByteArray.size (ByteArray.extract r3 0 (Int.toNat r9)))+(ByteArray.size r12))≤9223372036854775807) then
         Option.bind (spec_l13Rd_pick (r13,r14) 2) fun(r15,(r16,r17),_)=>
          if(((0:Int)≤(IntKind.wrap .i64 (r9+r15)))∧((IntKind.wrap .i64 (r9+r15))≤(((ByteArray.size r3):Nat):Int))) then
           if(((ByteArray.size ((ByteArray.extract r3 0 (Int.toNat r9))++r12))+(ByteArray.size (ByteArray.extract r3 (Int.toNat (IntKind.wrap .i64 (r9+r15))) (ByteArray.size r3))))≤9223372036854775807) then
            some ((((ByteArray.extract r3 0 (Int.toNat r9))++r12)++(ByteArray.extract r3 (Int.toNat (IntKind.wrap .i64 (r9+r15))) (ByteArray.size r3))),(r16,r17),())
           else
            none
          else
           none
        else
         none
      else
       none
def A47:FnM:=⟨[.bx kR],true,[.str],none,fun x=>spec_l7Text x.1⟩
theorem A47_ok:FnMOk prog 47 A47:=fm (L:=L0) (by kernel_rfl) func47 E47_ok allNil
def R61(spec_l7End_rec:ByteArray→Int→Option (Int)):FnA:=⟨[.v .str,.v i6],true,[.int .i64],fun x=>spec_l7End_rec x.1 x.2.1⟩
def E61(spec_l7End_rec:ByteArray→Int→Option (Int)):Env:=ev fun g=>ifEq g 61 (some (R61 spec_l7End_rec)) (none)
theorem E61_ok(spec_l7End_rec:ByteArray→Int→Option (Int))(hrec:FnOk prog 61 (R61 spec_l7End_rec)):FnsOk prog (E61 spec_l7End_rec):=(oF hrec func61 (noFns _ _))
def L61_0(spec_l7End_rec:ByteArray→Int→Option (Int)):Nat→Option LoopD:=fun _=>none
def sh61_2:List Fm:=.cell (.val .str)::.cell (.val i6)::d::d::d::.cell (.val i6)::D 61 []
def xs61_2:List (Ex×List Fm):=[(.ret,(D 4 (.cell (.val i6)::D 62 []))),(.exit 0,(d::.cell (.val i6)::d::d::d::.cell (.val i6)::D 61 []))]
def spec_l7End_l2(spec_l7End_rec:ByteArray→Int→Option (Int)):(ByteArray×Int×Int×Unit)→Option ((ByteArray×Int×Int×Unit)⊕((Int×Unit)⊕(Int×Int×Unit))):=fun(v0,v1,v5,_)=>
 bif (decide (v1<(((ByteArray.size v0):Nat):Int))) then
  if(((0:Int)≤v1)∧(v1<(((ByteArray.size v0):Nat):Int))) then
   bif ((((UInt8.toNat (Array.getD (ByteArray.data v0) (Int.toNat v1) (0:UInt8))):Nat):Int) != 41) then
    if(((0:Int)≤v1)∧(v1<(((ByteArray.size v0):Nat):Int))) then
     bif ((((UInt8.toNat (Array.getD (ByteArray.data v0) (Int.toNat v1) (0:UInt8))):Nat):Int)==97) then
      some (Sum.inl (v0,(IntKind.wrap .i64 (v1+1)),v5,()))
     else
      if(((0:Int)≤v1)∧(v1<(((ByteArray.size v0):Nat):Int))) then
       bif ((((UInt8.toNat (Array.getD (ByteArray.data v0) (Int.toNat v1) (0:UInt8))):Nat):Int)==98) then
        some (Sum.inl (v0,(IntKind.wrap .i64 (v1+1)),v5,()))
       else
        if(((0:Int)≤v1)∧(v1<(((ByteArray.size v0):Nat):Int))) then
         bif ((((UInt8.toNat (Array.getD (ByteArray.data v0) (Int.toNat v1) (0:UInt8))):Nat):Int)==40) then
          Option.bind (spec_l7End_rec v0 (IntKind.wrap .i64 (v1+1))) fun r0=>
           bif (decide (r0<0)) then
            some (Sum.inr (Sum.inl ((-1:Int),())))
           else
            bif (decide ((IntKind.wrap .i64 (r0+1))≥(((ByteArray.size v0):Nat):Int))) then
             some (Sum.inr (Sum.inl ((-1:Int),())))
            else
             if(((0:Int)≤r0)∧(r0<(((ByteArray.size v0):Nat):Int))) then
              bif ((((UInt8.toNat (Array.getD (ByteArray.data v0) (Int.toNat r0) (0:UInt8))):Nat):Int) != 41) then
               some (Sum.inr (Sum.inl ((-1:Int),())))
              else
               if(((0:Int)≤(IntKind.wrap .i64 (r0+1)))∧((IntKind.wrap .i64 (r0+1))<(((ByteArray.size v0):Nat):Int))) then
                bif ((((UInt8.toNat (Array.getD (ByteArray.data v0) (Int.toNat (IntKind.wrap .i64 (r0+1))) (0:UInt8))):Nat):Int) != 35) then
                 some (Sum.inr (Sum.inl ((-1:Int),())))
                else
                 some (Sum.inl (v0,(IntKind.wrap .i64 (r0+2)),v5,()))
               else
                none
             else
              none
         else
          some (Sum.inr (Sum.inl ((-1:Int),())))
        else
         none
      else
       none
    else
     none
   else
    some (Sum.inr (Sum.inr (v1,v5,())))
  else
   none
 else
  some (Sum.inr (Sum.inr (v1,v5,())))
theorem spec_l7End_l2_eq(spec_l7End_rec:ByteArray→Int→Option (Int)):loopStep 67 (E61 spec_l7End_rec) (L61_0 spec_l7End_rec) (loopOf f61 2) sh61_2 xs61_2=(spec_l7End_l2 spec_l7End_rec):=by kernel_rfl
theorem loop61_2(spec_l7End_rec:ByteArray→Int→Option (Int))(hrec:FnOk prog 61 (R61 spec_l7End_rec)){L:Nat→Option LoopD}(h:L 2=some ⟨67,sh61_2,xs61_2,(spec_l7End_l2 spec_l7End_rec)⟩):LoopOk prog L (loopOf f61 2):=
 loopOk (tysOk_of tyl_ok) (E61_ok spec_l7End_rec hrec) (codeOk_in (L:=(L61_0 spec_l7End_rec)) (tysOk_of tyl_ok) (E61_ok spec_l7End_rec hrec) mixed (c:=loopOf f61 2) (bs:=[]) (by kernel_rfl) allNil (by kernel_rfl)) (by kernel_rfl) (by kernel_rfl) (spec_l7End_l2_eq spec_l7End_rec) (by rw[show firstId (loopOf f61 2)=2 from by kernel_rfl];exact h)
def L61_1(spec_l7End_rec:ByteArray→Int→Option (Int)):Nat→Option LoopD:=fun n=>ifEq n 2 (some ⟨67,sh61_2,xs61_2,(spec_l7End_l2 spec_l7End_rec)⟩) ((L61_0 spec_l7End_rec) n)
def spec_l7End_step(spec_l7End_rec:ByteArray→Int→Option (Int)):ByteArray→Int→Option (Int):=fun a0 a1=>
 Option.bind (loopF (spec_l7End_l2 spec_l7End_rec) (a0,a1,a1,())) fun r0=>
  (match r0 with
  |.inl (d1,_)=>
    some d1
  |.inr (d2,d3,_)=>
    bif (d2==d3) then
     some (-1)
    else
     some d2)
theorem spec_l7End_step_eq(spec_l7End_rec:ByteArray→Int→Option (Int)):fnF (E61 spec_l7End_rec) (L61_1 spec_l7End_rec) [.v .str,.v i6] true [.int .i64] f61.ntmps f61.results.toList (codeOf f61)=fun x=>(spec_l7End_step spec_l7End_rec) x.1 x.2.1:=by kernel_rfl
theorem spec_l7End_step_ok(spec_l7End_rec:ByteArray→Int→Option (Int))(hrec:FnOk prog 61 (R61 spec_l7End_rec)):FnOk prog 61 ⟨[.v .str,.v i6],true,[.int .i64],fun x=>(spec_l7End_step spec_l7End_rec) x.1 x.2.1⟩:=by
 have h:=fnOk_of_run (P:=prog) (E:=(E61 spec_l7End_rec)) (tysOk_of tyl_ok) (E61_ok spec_l7End_rec hrec) (L:=(L61_1 spec_l7End_rec)) (ps:=[.v .str,.v i6]) (own:=true) (outs:=[.int .i64]) func61 (c:=codeOf f61) (by kernel_rfl) (codeOk_in (L:=(L61_1 spec_l7End_rec)) (tysOk_of tyl_ok) (E61_ok spec_l7End_rec hrec) mixed (c:=codeOf f61) (bs:=[loopOf f61 2]) (by kernel_rfl) (allCons (loop61_2 spec_l7End_rec hrec rfl) allNil) (by kernel_rfl));rw[(spec_l7End_step_eq spec_l7End_rec)] at h;exact h
/-- so many calls within each other -/
def spec_l7End_fuel:Nat→ByteArray→Int→Option (Int)
 |0=>fun _ _=>none
 |n+1=>spec_l7End_step (spec_l7End_fuel n)
theorem spec_l7End_fuel_ok:∀n,FnOk prog 61 (R61 (spec_l7End_fuel n))
 |0=>fun xs r h=>by cases h
 |n+1=>spec_l7End_step_ok (spec_l7End_fuel n) (spec_l7End_fuel_ok n)
def spec_l7End:ByteArray→Int→Option (Int):=spec_l7End_fuel 200
def A61:FnA:=R61 spec_l7End
theorem A61_ok:FnOk prog 61 A61:=spec_l7End_fuel_ok 200
def E27:Env:=ev fun g=>ifEq g 61 (some A61) (none)
theorem E27_ok:FnsOk prog E27:=(oF A61_ok func61 (noFns _ _))
def spec_ExpressionValid:ByteArray→Option (Bool):=fun a0=>
 bif (decide ((((ByteArray.size a0):Nat):Int)≤120)) then
  Option.bind (spec_l7End a0 0) fun r0=>
   bif (r0==(((ByteArray.size a0):Nat):Int)) then
    some (decide ((((ByteArray.size a0):Nat):Int)>0))
   else
    some false
 else
  some false
def A27:FnA:=⟨[.v .str],true,[.bool],fun x=>spec_ExpressionValid x.1⟩
theorem A27_ok:FnOk prog 27 A27:=fo (L:=L0) (by kernel_rfl) func27 E27_ok allNil
def sh131_3:List Fm:=.cell (.val i6)::d::.box 100200 [.val i6,.own i6 100202 false]::.box 100300 [.val i6,.own i6 100302 false]::D 5 (.cell (.val i6)::.cell (.val i6)::D 21 [])
def xs131_3:List (Ex×List Fm):=[(.exit 0,[d,d,.box 100200 [.val i6,.own i6 100202 false],.box 100300 [.val i6,.own i6 100302 false],d,d,d,d,d,d,d,d,d,d,d,d,d,d,d,d,d,d,d,d,d,d,d,d,d,d,d,d])]
def spec_l2Unit_l3:(Int×(Int×LI×Unit)×(Int×LI×Unit)×Int×Int×Unit)→Option ((Int×(Int×LI×Unit)×(Int×LI×Unit)×Int×Int×Unit)⊕(((Int×LI×Unit)×(Int×LI×Unit)×Unit))):=fun(v0,(v2_0,v2_1,_),(v3_0,v3_1,_),v9,v10,_)=>
 bif (decide (v10<v9)) then
  if(v0=0) then
   none
  else
   if(v0=0) then
    none
   else
    bif ((IntKind.wrap .i64 (Int.tdiv v10 v0))==(Int.tmod v10 v0)) then
     if(((0+(List.length v3_1))=(List.length v3_1))∧((((List.length v3_1)+(List.length (List.take 1 (List.drop 0 [(0:Int)]))))*8)≤140737488355328)) then
      some (Sum.inl (v0,(v2_0,(List.take (List.length v2_1) (List.drop 0 v2_1)),()),(v3_0,(List.take ((List.length v3_1)+(List.length (List.take 1 (List.drop 0 [(0:Int)])))) (List.drop 0 ((List.drop 0 v3_1)++(List.take 1 (List.drop 0 [(0:Int)]))))),()),v9,(IntKind.wrap .i64 (v10+1)),()))
     else
      none
    else
     if(((0+(List.length v3_1))=(List.length v3_1))∧((((List.length v3_1)+(List.length (List.take 1 (List.drop 0 [(1000000:Int)]))))*8)≤140737488355328)) then
      some (Sum.inl (v0,(v2_0,(List.take (List.length v2_1) (List.drop 0 v2_1)),()),(v3_0,(List.take ((List.length v3_1)+(List.length (List.take 1 (List.drop 0 [(1000000:Int)])))) (List.drop 0 ((List.drop 0 v3_1)++(List.take 1 (List.drop 0 [(1000000:Int)]))))),()),v9,(IntKind.wrap .i64 (v10+1)),()))
     else
      none
 else
  some (Sum.inr ((v2_0,(List.take (List.length v2_1) (List.drop 0 v2_1)),()),(v3_0,(List.take (List.length v3_1) (List.drop 0 v3_1)),()),()))
theorem loop131_3{L}(h:L 3=some ⟨32,sh131_3,xs131_3,spec_l2Unit_l3⟩):LoopOk prog L (loopOf f131 3):=lo (L':=L0) (by kernel_rfl) E0_ok allNil h
def L131_1:Nat→Option LoopD:=fun n=>ifEq n 3 (some ⟨32,sh131_3,xs131_3,spec_l2Unit_l3⟩) (L0 n)
def spec_l2Unit:Int→Option (TM):=fun a0=>
 Option.bind (loopF spec_l2Unit_l3 (a0,((0:Int),[],()),(a0,[],()),(IntKind.wrap .i64 (a0*a0)),0,())) fun((r0,r1,_),(r2,r3,_),_)=>
  some (r2,(List.take (List.length r3) (List.drop 0 r3)))
def A131:FnA:=⟨[.v i6],true,[.pair i6 sI],fun x=>spec_l2Unit x.1⟩
theorem A131_ok:FnOk prog 131 A131:=fo (L:=L131_1) (by kernel_rfl) func131 E0_ok (allCons (loop131_3 rfl) allNil)
def sh204_3:List Fm:=d::d::.box 100200 [.val i6,.own i6 100202 false]::.box 100300 [.val i6,.own i6 100302 false]::D 6 (.cell (.val sI)::.cell (.val i6)::.cell (.val i6)::D 25 [])
def xs204_3:List (Ex×List Fm):=[(.exit 0,[d,d,.box 100200 [.val i6,.own i6 100202 false],.box 100300 [.val i6,.own i6 100302 false],d,d,d,d,d,d,d,d,d,d,d,d,d,d,d,d,d,d,d,d,d,d,d,d,d,d,d,d,d,d,d,d,d,d])]
def spec_l6Grades_l3:((Int×LI×Unit)×(Int×LI×Unit)×LI×Int×Int×Unit)→Option (((Int×LI×Unit)×(Int×LI×Unit)×LI×Int×Int×Unit)⊕(((Int×LI×Unit)×(Int×LI×Unit)×Unit))):=fun((v2_0,v2_1,_),(v3_0,v3_1,_),v10,v11,v12,_)=>
 bif (decide (v12<v11)) then
  if(((0:Int)≤v12)∧(v12<(((List.length v10):Nat):Int))) then
   bif ((List.getD v10 (Int.toNat v12) 0)==0) then
    if(((0+(List.length v3_1))=(List.length v3_1))∧((((List.length v3_1)+(List.length (List.take 1 (List.drop 0 [(0:Int)]))))*8)≤140737488355328)) then
     some (Sum.inl ((v2_0,(List.take (List.length v2_1) (List.drop 0 v2_1)),()),(v3_0,(List.take ((List.length v3_1)+(List.length (List.take 1 (List.drop 0 [(0:Int)])))) (List.drop 0 ((List.drop 0 v3_1)++(List.take 1 (List.drop 0 [(0:Int)]))))),()),v10,v11,(IntKind.wrap .i64 (v12+1)),()))
    else
     none
   else
    bif ((List.getD v10 (Int.toNat v12) 0)==1000000) then
     if(((0+(List.length v3_1))=(List.length v3_1))∧((((List.length v3_1)+(List.length (List.take 1 (List.drop 0 [(3:Int)]))))*8)≤140737488355328)) then
      some (Sum.inl ((v2_0,(List.take (List.length v2_1) (List.drop 0 v2_1)),()),(v3_0,(List.take ((List.length v3_1)+(List.length (List.take 1 (List.drop 0 [(3:Int)])))) (List.drop 0 ((List.drop 0 v3_1)++(List.take 1 (List.drop 0 [(3:Int)]))))),()),v10,v11,(IntKind.wrap .i64 (v12+1)),()))
     else
      none
    else
     if(((0+(List.length v3_1))=(List.length v3_1))∧((((List.length v3_1)+(List.length (List.take 1 (List.drop 0 [(1:Int)]))))*8)≤140737488355328)) then
      some (Sum.inl ((v2_0,(List.take (List.length v2_1) (List.drop 0 v2_1)),()),(v3_0,(List.take ((List.length v3_1)+(List.length (List.take 1 (List.drop 0 [(1:Int)])))) (List.drop 0 ((List.drop 0 v3_1)++(List.take 1 (List.drop 0 [(1:Int)]))))),()),v10,v11,(IntKind.wrap .i64 (v12+1)),()))
     else
      none
  else
   none
 else
  some (Sum.inr ((v2_0,(List.take (List.length v2_1) (List.drop 0 v2_1)),()),(v3_0,(List.take (List.length v3_1) (List.drop 0 v3_1)),()),()))
theorem loop204_3{L}(h:L 3=some ⟨38,sh204_3,xs204_3,spec_l6Grades_l3⟩):LoopOk prog L (loopOf f204 3):=lo (L':=L0) (by kernel_rfl) E0_ok allNil h
def L204_1:Nat→Option LoopD:=fun n=>ifEq n 3 (some ⟨38,sh204_3,xs204_3,spec_l6Grades_l3⟩) (L0 n)
def spec_l6Grades:TM→Option (TM):=fun(a0_0,a0_1)=>
 Option.bind (loopF spec_l6Grades_l3 (((0:Int),[],()),(a0_0,[],()),a0_1,(((List.length a0_1):Nat):Int),0,())) fun((r0,r1,_),(r2,r3,_),_)=>
  some (r2,(List.take (List.length r3) (List.drop 0 r3)))
def A204:FnA:=⟨[.v kM],true,[.pair i6 sI],fun x=>spec_l6Grades x.1⟩
theorem A204_ok:FnOk prog 204 A204:=fo (L:=L204_1) (by kernel_rfl) func204 E0_ok (allCons (loop204_3 rfl) allNil)
def E130:Env:=ev fun g=>ifEq g 61 (some A61) (none)
theorem E130_ok:FnsOk prog E130:=(oF A61_ok func61 (noFns _ _))
def spec_l7Next:ByteArray→Option (ByteArray×Bool×ByteArray):=fun a0=>
 if(((0:Int)≤0)∧((0:Int)<(((ByteArray.size a0):Nat):Int))) then
  bif ((((UInt8.toNat (Array.getD (ByteArray.data a0) (Int.toNat 0) (0:UInt8))):Nat):Int) != 40) then
   if(((0:Int)≤1)∧((1:Int)≤(((ByteArray.size a0):Nat):Int))) then
    if(((0:Int)≤1)∧((1:Int)≤(((ByteArray.size a0):Nat):Int))) then
     some ((ByteArray.extract a0 0 (Int.toNat 1)),false,(ByteArray.extract a0 (Int.toNat 1) (ByteArray.size a0)))
    else
     none
   else
    none
  else
   Option.bind (spec_l7End a0 1) fun r0=>
    if(((0:Int)≤1)∧(((1:Int)≤r0)∧(r0≤(((ByteArray.size a0):Nat):Int)))) then
     if(((0:Int)≤(IntKind.wrap .i64 (r0+2)))∧((IntKind.wrap .i64 (r0+2))≤(((ByteArray.size a0):Nat):Int))) then
      some ((ByteArray.extract a0 (Int.toNat 1) (Int.toNat r0)),true,(ByteArray.extract a0 (Int.toNat (IntKind.wrap .i64 (r0+2))) (ByteArray.size a0)))
     else
      none
    else
     none
 else
  none
def A130:FnA:=⟨[.v .str],true,[.str,.bool,.str],fun x=>spec_l7Next x.1⟩
theorem A130_ok:FnOk prog 130 A130:=fo (L:=L0) (by kernel_rfl) func130 E130_ok allNil
def sh207_7:List Fm:=d::d::.box 100200 [.val i6,.val sI]::.box 100300 [.val i6,.val sI]::.box 100400 [.val i6,.own i6 100402 false]::.box 100500 [.val i6,.own i6 100502 false]::.cell (.val i6)::.cell (.val i6)::D 8 (.cell (.val i6)::.cell (.val i6)::d::d::d::.cell (.val i6)::.cell (.val i6)::D 40 [])
def xs207_7:List (Ex×List Fm):=[(.exit 2,[d,d,.box 100200 [.val i6,.val sI],.box 100300 [.val i6,.val sI],.box 100400 [.val i6,.own i6 100402 false],.box 100500 [.val i6,.own i6 100502 false],d,.cell (.val i6),d,d,d,d,d,d,d,d,.cell (.val i6),.cell (.val i6),d,d,d,d,d,d,d,d,d,d,d,d,d,d,d,d,d,d,d,d,d,d,d,d,d,d,d,d,d,d,d,d,d,d,d,d,d,d,d,d,d,d,d,d,d])]
def spec_l6Mul_l7:((Int×LI×Unit)×(Int×LI×Unit)×(Int×LI×Unit)×(Int×LI×Unit)×Int×Int×Int×Int×Int×Int×Unit)→Option (((Int×LI×Unit)×(Int×LI×Unit)×(Int×LI×Unit)×(Int×LI×Unit)×Int×Int×Int×Int×Int×Int×Unit)⊕(((Int×LI×Unit)×(Int×LI×Unit)×(Int×LI×Unit)×(Int×LI×Unit)×Int×Int×Int×Unit))):=fun((v2_0,v2_1,_),(v3_0,v3_1,_),(v4_0,v4_1,_),(v5_0,v5_1,_),v6,v7,v16,v17,v21,v22,_)=>
 bif (decide (v22<v21)) then
  if(v2_0=0) then
   none
  else
   if(((0:Int)≤(IntKind.wrap .i64 ((IntKind.wrap .i64 ((IntKind.wrap .i64 (Int.tdiv v6 v2_0))*v2_0))+v22)))∧((IntKind.wrap .i64 ((IntKind.wrap .i64 ((IntKind.wrap .i64 (Int.tdiv v6 v2_0))*v2_0))+v22))<(((List.length v2_1):Nat):Int))) then
    if(v2_0=0) then
     none
    else
     if(((0:Int)≤(IntKind.wrap .i64 ((IntKind.wrap .i64 (v22*v2_0))+(Int.tmod v6 v2_0))))∧((IntKind.wrap .i64 ((IntKind.wrap .i64 (v22*v2_0))+(Int.tmod v6 v2_0)))<(((List.length v3_1):Nat):Int))) then
      some (Sum.inl ((v2_0,v2_1,()),(v3_0,v3_1,()),(v4_0,(List.take (List.length v4_1) (List.drop 0 v4_1)),()),(v5_0,(List.take (List.length v5_1) (List.drop 0 v5_1)),()),v6,(if((if((List.getD v3_1 (Int.toNat (IntKind.wrap .i64 ((IntKind.wrap .i64 (v22*v2_0))+(Int.tmod v6 v2_0)))) 0)>(List.getD v2_1 (Int.toNat (IntKind.wrap .i64 ((IntKind.wrap .i64 ((IntKind.wrap .i64 (Int.tdiv v6 v2_0))*v2_0))+v22))) 0)) then(List.getD v3_1 (Int.toNat (IntKind.wrap .i64 ((IntKind.wrap .i64 (v22*v2_0))+(Int.tmod v6 v2_0)))) 0) else(List.getD v2_1 (Int.toNat (IntKind.wrap .i64 ((IntKind.wrap .i64 ((IntKind.wrap .i64 (Int.tdiv v6 v2_0))*v2_0))+v22))) 0))<v7) then(if((List.getD v3_1 (Int.toNat (IntKind.wrap .i64 ((IntKind.wrap .i64 (v22*v2_0))+(Int.tmod v6 v2_0)))) 0)>(List.getD v2_1 (Int.toNat (IntKind.wrap .i64 ((IntKind.wrap .i64 ((IntKind.wrap .i64 (Int.tdiv v6 v2_0))*v2_0))+v22))) 0)) then(List.getD v3_1 (Int.toNat (IntKind.wrap .i64 ((IntKind.wrap .i64 (v22*v2_0))+(Int.tmod v6 v2_0)))) 0) else(List.getD v2_1 (Int.toNat (IntKind.wrap .i64 ((IntKind.wrap .i64 ((IntKind.wrap .i64 (Int.tdiv v6 v2_0))*v2_0))+v22))) 0)) else v7),v16,v17,v21,(IntKind.wrap .i64 (v22+1)),()))
     else
      none
   else
    none
 else
  some (Sum.inr ((v2_0,v2_1,()),(v3_0,v3_1,()),(v4_0,(List.take (List.length v4_1) (List.drop 0 v4_1)),()),(v5_0,(List.take (List.length v5_1) (List.drop 0 v5_1)),()),v7,v16,v17,()))
theorem loop207_7{L}(h:L 7=some ⟨63,sh207_7,xs207_7,spec_l6Mul_l7⟩):LoopOk prog L (loopOf f207 7):=lo (L':=L0) (by kernel_rfl) E0_ok allNil h
def L207_1:Nat→Option LoopD:=fun n=>ifEq n 7 (some ⟨63,sh207_7,xs207_7,spec_l6Mul_l7⟩) (L0 n)
def sh207_3:List Fm:=d::d::.box 100200 [.val i6,.val sI]::.box 100300 [.val i6,.val sI]::.box 100400 [.val i6,.own i6 100402 false]::.box 100500 [.val i6,.own i6 100502 false]::D 10 (.cell (.val i6)::.cell (.val i6)::D 45 [])
def xs207_3:List (Ex×List Fm):=[(.exit 0,[d,d,d,d,.box 100400 [.val i6,.own i6 100402 false],.box 100500 [.val i6,.own i6 100502 false],d,d,d,d,d,d,d,d,d,d,d,d,d,d,d,d,d,d,d,d,d,d,d,d,d,d,d,d,d,d,d,d,d,d,d,d,d,d,d,d,d,d,d,d,d,d,d,d,d,d,d,d,d,d,d,d,d])]
def spec_l6Mul_l3:((Int×LI×Unit)×(Int×LI×Unit)×(Int×LI×Unit)×(Int×LI×Unit)×Int×Int×Unit)→Option (((Int×LI×Unit)×(Int×LI×Unit)×(Int×LI×Unit)×(Int×LI×Unit)×Int×Int×Unit)⊕(((Int×LI×Unit)×(Int×LI×Unit)×Unit))):=fun((v2_0,v2_1,_),(v3_0,v3_1,_),(v4_0,v4_1,_),(v5_0,v5_1,_),v16,v17,_)=>
 bif (decide (v17<v16)) then
  Option.bind (loopF spec_l6Mul_l7 ((v2_0,v2_1,()),(v3_0,v3_1,()),(v4_0,(List.take (List.length v4_1) (List.drop 0 v4_1)),()),(v5_0,(List.take (List.length v5_1) (List.drop 0 v5_1)),()),v17,3,v16,v17,v2_0,0,())) fun((r0,r1,_),(r2,r3,_),(r4,r5,_),(r6,r7,_),r8,r9,r10,_)=>
   if(((0+(List.length r7))=(List.length r7))∧((((List.length r7)+(List.length (List.take 1 (List.drop 0 [r8]))))*8)≤140737488355328)) then
    some (Sum.inl ((r0,r1,()),(r2,r3,()),(r4,(List.take (List.length r5) (List.drop 0 r5)),()),(r6,(List.take ((List.length r7)+(List.length (List.take 1 (List.drop 0 [r8])))) (List.drop 0 ((List.drop 0 r7)++(List.take 1 (List.drop 0 [r8]))))),()),r9,(IntKind.wrap .i64 (r10+1)),()))
   else
    none
 else
  some (Sum.inr ((v4_0,(List.take (List.length v4_1) (List.drop 0 v4_1)),()),(v5_0,(List.take (List.length v5_1) (List.drop 0 v5_1)),()),()))
theorem loop207_3{L}(h:L 3=some ⟨63,sh207_3,xs207_3,spec_l6Mul_l3⟩):LoopOk prog L (loopOf f207 3):=lo (L':=L207_1) (by kernel_rfl) E0_ok (allCons (loop207_7 rfl) allNil) h
def L207_2:Nat→Option LoopD:=fun n=>ifEq n 3 (some ⟨63,sh207_3,xs207_3,spec_l6Mul_l3⟩) (L207_1 n)
def spec_l6Mul:TM→TM→Option (TM):=fun(a0_0,a0_1) (a1_0,a1_1)=>
 Option.bind (loopF spec_l6Mul_l3 ((a0_0,a0_1,()),(a1_0,a1_1,()),((0:Int),[],()),(a0_0,[],()),(IntKind.wrap .i64 (a0_0*a0_0)),0,())) fun((r0,r1,_),(r2,r3,_),_)=>
  some (r2,(List.take (List.length r3) (List.drop 0 r3)))
def A207:FnA:=⟨[.v kM,.v kM],true,[.pair i6 sI],fun x=>spec_l6Mul x.1 x.2.1⟩
theorem A207_ok:FnOk prog 207 A207:=fo (L:=L207_2) (by kernel_rfl) func207 E0_ok (allCons (loop207_3 rfl) allNil)
def sh253_2:List Fm:=.cell (.val sI)::.cell (.val sI)::D 8 (.cell (.val i6)::.cell (.val i6)::D 17 [])
def xs253_2:List (Ex×List Fm):=[(.ret,(D 4 (.cell (.val .bool)::D 24 []))),(.exit 0,(.cell (.val sI)::.cell (.val sI)::D 27 []))]
def spec_l2Same_l2:(LI×LI×Int×Int×Unit)→Option ((LI×LI×Int×Int×Unit)⊕((Bool×Unit)⊕(LI×LI×Unit))):=fun(v0,v1,v10,v11,_)=>
 bif (decide (v11<v10)) then
  if(((0:Int)≤v11)∧(v11<(((List.length v0):Nat):Int))) then
   if(((0:Int)≤v11)∧(v11<(((List.length v1):Nat):Int))) then
    bif ((List.getD v0 (Int.toNat v11) 0) != (List.getD v1 (Int.toNat v11) 0)) then
     some (Sum.inr (Sum.inl (false,())))
    else
     some (Sum.inl (v0,v1,v10,(IntKind.wrap .i64 (v11+1)),()))
   else
    none
  else
   none
 else
  some (Sum.inr (Sum.inr (v0,v1,())))
theorem loop253_2{L}(h:L 2=some ⟨29,sh253_2,xs253_2,spec_l2Same_l2⟩):LoopOk prog L (loopOf f253 2):=lo (L':=L0) (by kernel_rfl) E0_ok allNil h
def L253_1:Nat→Option LoopD:=fun n=>ifEq n 2 (some ⟨29,sh253_2,xs253_2,spec_l2Same_l2⟩) (L0 n)
def spec_l2Same:LI→LI→Option (Bool):=fun a0 a1=>
 Option.bind (loopF spec_l2Same_l2 (a0,a1,(if((((List.length a1):Nat):Int)<(((List.length a0):Nat):Int)) then(((List.length a1):Nat):Int) else(((List.length a0):Nat):Int)),0,())) fun r0=>
  (match r0 with
  |.inl (d1,_)=>
    some d1
  |.inr (d2,d3,_)=>
    some ((((List.length d2):Nat):Int)==(((List.length d3):Nat):Int)))
def A253:FnA:=⟨[.v sI,.v sI],true,[.bool],fun x=>spec_l2Same x.1 x.2.1⟩
theorem A253_ok:FnOk prog 253 A253:=fo (L:=L253_1) (by kernel_rfl) func253 E0_ok (allCons (loop253_2 rfl) allNil)
def E205:Env:=ev fun g=>ifEq g 207 (some A207) (ifEq g 253 (some A253) (none))
theorem E205_ok:FnsOk prog E205:=(oF A207_ok func207 (oF A253_ok func253 (noFns _ _)))
def spec_l6Idempotent:TM→Option (Bool):=fun(a0_0,a0_1)=>
 Option.bind (spec_l6Mul (a0_0,a0_1) (a0_0,a0_1)) fun(r0,r1)=>
  Option.bind (spec_l2Same (List.take (List.length r1) (List.drop 0 r1)) a0_1) fun r2=>
   some r2
def A205:FnA:=⟨[.v kM],true,[.bool],fun x=>spec_l6Idempotent x.1⟩
theorem A205_ok:FnOk prog 205 A205:=fo (L:=L0) (by kernel_rfl) func205 E205_ok allNil
def spec_l6Again:Int→Option (Int):=fun a0=>
 bif (a0==1) then
  some 2
 else
  some a0
def A254:FnA:=⟨[.v i6],true,[.int .i64],fun x=>spec_l6Again x.1⟩
theorem A254_ok:FnOk prog 254 A254:=fo (L:=L0) (by kernel_rfl) func254 E0_ok allNil
def E206:Env:=ev fun g=>ifEq g 254 (some A254) (none)
theorem E206_ok:FnsOk prog E206:=(oF A254_ok func254 (noFns _ _))
def sh206_7:List Fm:=d::.box 100100 [.val i6,.val sI]::.box 100200 [.val i6,.own i6 100202 false]::.box 100300 [.val i6,.own i6 100302 false]::.cell (.val i6)::.cell (.val i6)::D 8 (.cell (.val i6)::.cell (.val i6)::d::d::d::.cell (.val i6)::.cell (.val i6)::D 51 [])
def xs206_7:List (Ex×List Fm):=[(.exit 2,[d,.box 100100 [.val i6,.val sI],.box 100200 [.val i6,.own i6 100202 false],.box 100300 [.val i6,.own i6 100302 false],d,.cell (.val i6),d,d,d,d,d,d,d,d,.cell (.val i6),.cell (.val i6),d,d,d,d,d,d,d,d,d,d,d,d,d,d,d,d,d,d,d,d,d,d,d,d,d,d,d,d,d,d,d,d,d,d,d,d,d,d,d,d,d,d,d,d,d,d,d,d,d,d,d,d,d,d,d,d])]
def spec_l6Stable_l7:((Int×LI×Unit)×(Int×LI×Unit)×(Int×LI×Unit)×Int×Int×Int×Int×Int×Int×Unit)→Option (((Int×LI×Unit)×(Int×LI×Unit)×(Int×LI×Unit)×Int×Int×Int×Int×Int×Int×Unit)⊕(((Int×LI×Unit)×(Int×LI×Unit)×(Int×LI×Unit)×Int×Int×Int×Unit))):=fun((v1_0,v1_1,_),(v2_0,v2_1,_),(v3_0,v3_1,_),v4,v5,v14,v15,v19,v20,_)=>
 bif (decide (v20<v19)) then
  if(v1_0=0) then
   none
  else
   if(((0:Int)≤(IntKind.wrap .i64 ((IntKind.wrap .i64 ((IntKind.wrap .i64 (Int.tdiv v4 v1_0))*v1_0))+v20)))∧((IntKind.wrap .i64 ((IntKind.wrap .i64 ((IntKind.wrap .i64 (Int.tdiv v4 v1_0))*v1_0))+v20))<(((List.length v1_1):Nat):Int))) then
    if(((0:Int)≤(IntKind.wrap .i64 ((IntKind.wrap .i64 (v20*v1_0))+v20)))∧((IntKind.wrap .i64 ((IntKind.wrap .i64 (v20*v1_0))+v20))<(((List.length v1_1):Nat):Int))) then
     Option.bind (spec_l6Again (List.getD v1_1 (Int.toNat (IntKind.wrap .i64 ((IntKind.wrap .i64 (v20*v1_0))+v20))) 0)) fun r0=>
      if(v1_0=0) then
       none
      else
       if(((0:Int)≤(IntKind.wrap .i64 ((IntKind.wrap .i64 (v20*v1_0))+(Int.tmod v4 v1_0))))∧((IntKind.wrap .i64 ((IntKind.wrap .i64 (v20*v1_0))+(Int.tmod v4 v1_0)))<(((List.length v1_1):Nat):Int))) then
        some (Sum.inl ((v1_0,v1_1,()),(v2_0,(List.take (List.length v2_1) (List.drop 0 v2_1)),()),(v3_0,(List.take (List.length v3_1) (List.drop 0 v3_1)),()),v4,(if((if((List.getD v1_1 (Int.toNat (IntKind.wrap .i64 ((IntKind.wrap .i64 (v20*v1_0))+(Int.tmod v4 v1_0)))) 0)>(if(r0>(List.getD v1_1 (Int.toNat (IntKind.wrap .i64 ((IntKind.wrap .i64 ((IntKind.wrap .i64 (Int.tdiv v4 v1_0))*v1_0))+v20))) 0)) then r0 else(List.getD v1_1 (Int.toNat (IntKind.wrap .i64 ((IntKind.wrap .i64 ((IntKind.wrap .i64 (Int.tdiv v4 v1_0))*v1_0))+v20))) 0))) then(List.getD v1_1 (Int.toNat (IntKind.wrap .i64 ((IntKind.wrap .i64 (v20*v1_0))+(Int.tmod v4 v1_0)))) 0) else(if(r0>(List.getD v1_1 (Int.toNat (IntKind.wrap .i64 ((IntKind.wrap .i64 ((IntKind.wrap .i64 (Int.tdiv v4 v1_0))*v1_0))+v20))) 0)) then r0 else(List.getD v1_1 (Int.toNat (IntKind.wrap .i64 ((IntKind.wrap .i64 ((IntKind.wrap .i64 (Int.tdiv v4 v1_0))*v1_0))+v20))) 0)))<v5) then(if((List.getD v1_1 (Int.toNat (IntKind.wrap .i64 ((IntKind.wrap .i64 (v20*v1_0))+(Int.tmod v4 v1_0)))) 0)>(if(r0>(List.getD v1_1 (Int.toNat (IntKind.wrap .i64 ((IntKind.wrap .i64 ((IntKind.wrap .i64 (Int.tdiv v4 v1_0))*v1_0))+v20))) 0)) then r0 else(List.getD v1_1 (Int.toNat (IntKind.wrap .i64 ((IntKind.wrap .i64 ((IntKind.wrap .i64 (Int.tdiv v4 v1_0))*v1_0))+v20))) 0))) then(List.getD v1_1 (Int.toNat (IntKind.wrap .i64 ((IntKind.wrap .i64 (v20*v1_0))+(Int.tmod v4 v1_0)))) 0) else(if(r0>(List.getD v1_1 (Int.toNat (IntKind.wrap .i64 ((IntKind.wrap .i64 ((IntKind.wrap .i64 (Int.tdiv v4 v1_0))*v1_0))+v20))) 0)) then r0 else(List.getD v1_1 (Int.toNat (IntKind.wrap .i64 ((IntKind.wrap .i64 ((IntKind.wrap .i64 (Int.tdiv v4 v1_0))*v1_0))+v20))) 0))) else v5),v14,v15,v19,(IntKind.wrap .i64 (v20+1)),()))
       else
        none
    else
     none
   else
    none
 else
  some (Sum.inr ((v1_0,v1_1,()),(v2_0,(List.take (List.length v2_1) (List.drop 0 v2_1)),()),(v3_0,(List.take (List.length v3_1) (List.drop 0 v3_1)),()),v5,v14,v15,()))
theorem loop206_7{L}(h:L 7=some ⟨72,sh206_7,xs206_7,spec_l6Stable_l7⟩):LoopOk prog L (loopOf f206 7):=lo (L':=L0) (by kernel_rfl) E206_ok allNil h
def L206_1:Nat→Option LoopD:=fun n=>ifEq n 7 (some ⟨72,sh206_7,xs206_7,spec_l6Stable_l7⟩) (L0 n)
def sh206_3:List Fm:=d::.box 100100 [.val i6,.val sI]::.box 100200 [.val i6,.own i6 100202 false]::.box 100300 [.val i6,.own i6 100302 false]::D 10 (.cell (.val i6)::.cell (.val i6)::D 56 [])
def xs206_3:List (Ex×List Fm):=[(.exit 0,[d,d,.box 100200 [.val i6,.own i6 100202 false],.box 100300 [.val i6,.own i6 100302 false],d,d,d,d,d,d,d,d,d,d,d,d,d,d,d,d,d,d,d,d,d,d,d,d,d,d,d,d,d,d,d,d,d,d,d,d,d,d,d,d,d,d,d,d,d,d,d,d,d,d,d,d,d,d,d,d,d,d,d,d,d,d,d,d,d,d,d,d])]
def spec_l6Stable_l3:((Int×LI×Unit)×(Int×LI×Unit)×(Int×LI×Unit)×Int×Int×Unit)→Option (((Int×LI×Unit)×(Int×LI×Unit)×(Int×LI×Unit)×Int×Int×Unit)⊕(((Int×LI×Unit)×(Int×LI×Unit)×Unit))):=fun((v1_0,v1_1,_),(v2_0,v2_1,_),(v3_0,v3_1,_),v14,v15,_)=>
 bif (decide (v15<v14)) then
  Option.bind (loopF spec_l6Stable_l7 ((v1_0,v1_1,()),(v2_0,(List.take (List.length v2_1) (List.drop 0 v2_1)),()),(v3_0,(List.take (List.length v3_1) (List.drop 0 v3_1)),()),v15,3,v14,v15,v1_0,0,())) fun((r0,r1,_),(r2,r3,_),(r4,r5,_),r6,r7,r8,_)=>
   if(((0+(List.length r5))=(List.length r5))∧((((List.length r5)+(List.length (List.take 1 (List.drop 0 [r6]))))*8)≤140737488355328)) then
    some (Sum.inl ((r0,r1,()),(r2,(List.take (List.length r3) (List.drop 0 r3)),()),(r4,(List.take ((List.length r5)+(List.length (List.take 1 (List.drop 0 [r6])))) (List.drop 0 ((List.drop 0 r5)++(List.take 1 (List.drop 0 [r6]))))),()),r7,(IntKind.wrap .i64 (r8+1)),()))
   else
    none
 else
  some (Sum.inr ((v2_0,(List.take (List.length v2_1) (List.drop 0 v2_1)),()),(v3_0,(List.take (List.length v3_1) (List.drop 0 v3_1)),()),()))
theorem loop206_3{L}(h:L 3=some ⟨72,sh206_3,xs206_3,spec_l6Stable_l3⟩):LoopOk prog L (loopOf f206 3):=lo (L':=L206_1) (by kernel_rfl) E206_ok (allCons (loop206_7 rfl) allNil) h
def L206_2:Nat→Option LoopD:=fun n=>ifEq n 3 (some ⟨72,sh206_3,xs206_3,spec_l6Stable_l3⟩) (L206_1 n)
def spec_l6Stable:TM→Option (TM):=fun(a0_0,a0_1)=>
 Option.bind (loopF spec_l6Stable_l3 ((a0_0,a0_1,()),((0:Int),[],()),(a0_0,[],()),(IntKind.wrap .i64 (a0_0*a0_0)),0,())) fun((r0,r1,_),(r2,r3,_),_)=>
  some (r2,(List.take (List.length r3) (List.drop 0 r3)))
def A206:FnA:=⟨[.v kM],true,[.pair i6 sI],fun x=>spec_l6Stable x.1⟩
theorem A206_ok:FnOk prog 206 A206:=fo (L:=L206_2) (by kernel_rfl) func206 E206_ok (allCons (loop206_3 rfl) allNil)
def sh132_3:List Fm:=d::.cell (.val .str)::.box 100200 [.val i6,.val sI,.val sI,.val sS]::d::.box 100400 [.val i6,.own i6 100402 false]::.box 100500 [.val i6,.own i6 100502 false]::D 9 (.cell (.val i6)::.cell (.val i6)::D 33 [])
def xs132_3:List (Ex×List Fm):=[(.exit 0,[d,.cell (.val .str),.box 100200 [.val i6,.val sI,.val sI,.val sS],d,.box 100400 [.val i6,.own i6 100402 false],.box 100500 [.val i6,.own i6 100502 false],d,d,d,d,d,d,d,d,d,d,d,d,d,d,d,d,d,d,d,d,d,d,d,d,d,d,d,d,d,d,d,d,d,d,d,d,d,d,d,d,d,d,d,d])]
def spec_l3Matrix_l3:(ByteArray×(Int×LI×LI×LS×Unit)×(Int×LI×Unit)×(Int×LI×Unit)×Int×Int×Unit)→Option ((ByteArray×(Int×LI×LI×LS×Unit)×(Int×LI×Unit)×(Int×LI×Unit)×Int×Int×Unit)⊕((ByteArray×(Int×LI×LI×LS×Unit)×(Int×LI×Unit)×(Int×LI×Unit)×Unit))):=fun(v1,(v2_0,v2_1,v2_2,v2_3,_),(v4_0,v4_1,_),(v5_0,v5_1,_),v15,v16,_)=>
 bif (decide (v16<v15)) then
  if(((0+(List.length v5_1))=(List.length v5_1))∧((((List.length v5_1)+(List.length (List.take 1 (List.drop 0 [(1000000:Int)]))))*8)≤140737488355328)) then
   some (Sum.inl (v1,(v2_0,v2_1,v2_2,v2_3,()),(v4_0,(List.take (List.length v4_1) (List.drop 0 v4_1)),()),(v5_0,(List.take ((List.length v5_1)+(List.length (List.take 1 (List.drop 0 [(1000000:Int)])))) (List.drop 0 ((List.drop 0 v5_1)++(List.take 1 (List.drop 0 [(1000000:Int)]))))),()),v15,(IntKind.wrap .i64 (v16+1)),()))
  else
   none
 else
  some (Sum.inr (v1,(v2_0,v2_1,v2_2,v2_3,()),(v4_0,(List.take (List.length v4_1) (List.drop 0 v4_1)),()),(v5_0,(List.take (List.length v5_1) (List.drop 0 v5_1)),()),()))
theorem loop132_3{L}(h:L 3=some ⟨50,sh132_3,xs132_3,spec_l3Matrix_l3⟩):LoopOk prog L (loopOf f132 3):=lo (L':=L0) (by kernel_rfl) E0_ok allNil h
def L132_1:Nat→Option LoopD:=fun n=>ifEq n 3 (some ⟨50,sh132_3,xs132_3,spec_l3Matrix_l3⟩) (L0 n)
def sh132_7:List Fm:=d::.cell (.val .str)::.box 100200 [.val i6,.val sI,.val sI,.val sS]::d::.box 100400 [.val i6,.own i6 100402 false]::.box 100500 [.val i6,.own i6 100502 false]::D 19 (.cell (.val sS)::.cell (.val i6)::.cell (.val i6)::D 22 [])
def xs132_7:List (Ex×List Fm):=[(.exit 2,[d,d,d,d,.box 100400 [.val i6,.own i6 100402 false],.box 100500 [.val i6,.own i6 100502 false],d,d,d,d,d,d,d,d,d,d,d,d,d,d,d,d,d,d,d,d,d,d,d,d,d,d,d,d,d,d,d,d,d,d,d,d,d,d,d,d,d,d,d,d])]
def spec_l3Matrix_l7:(ByteArray×(Int×LI×LI×LS×Unit)×(Int×LI×Unit)×(Int×LI×Unit)×LS×Int×Int×Unit)→Option ((ByteArray×(Int×LI×LI×LS×Unit)×(Int×LI×Unit)×(Int×LI×Unit)×LS×Int×Int×Unit)⊕(((Int×LI×Unit)×(Int×LI×Unit)×Unit))):=fun(v1,(v2_0,v2_1,v2_2,v2_3,_),(v4_0,v4_1,_),(v5_0,v5_1,_),v25,v26,v27,_)=>
 bif (decide (v27<v26)) then
  if(((0:Int)≤v27)∧(v27<(((List.length v25):Nat):Int))) then
   bif ((ByteArray.toList (List.getD v25 (Int.toNat v27) ((0:Int),⟨Array.empty⟩,0,0)).2.1)==(ByteArray.toList v1)) then
    if(((0:Int)≤(IntKind.wrap .i64 ((IntKind.wrap .i64 ((List.getD v25 (Int.toNat v27) ((0:Int),⟨Array.empty⟩,0,0)).1*v2_0))+(List.getD v25 (Int.toNat v27) ((0:Int),⟨Array.empty⟩,0,0)).2.2.1)))∧((IntKind.wrap .i64 ((IntKind.wrap .i64 ((List.getD v25 (Int.toNat v27) ((0:Int),⟨Array.empty⟩,0,0)).1*v2_0))+(List.getD v25 (Int.toNat v27) ((0:Int),⟨Array.empty⟩,0,0)).2.2.1))<(((List.length v5_1):Nat):Int))) then
     some (Sum.inl (v1,(v2_0,v2_1,v2_2,v2_3,()),(v4_0,(List.take (List.length v4_1) (List.drop 0 v4_1)),()),(v5_0,(List.take (List.length v5_1) (List.drop 0 (List.set v5_1 (0+(Int.toNat (IntKind.wrap .i64 ((IntKind.wrap .i64 ((List.getD v25 (Int.toNat v27) ((0:Int),⟨Array.empty⟩,0,0)).1*v2_0))+(List.getD v25 (Int.toNat v27) ((0:Int),⟨Array.empty⟩,0,0)).2.2.1)))) (List.getD v25 (Int.toNat v27) ((0:Int),⟨Array.empty⟩,0,0)).2.2.2))),()),v25,v26,(IntKind.wrap .i64 (v27+1)),()))
    else
     none
   else
    some (Sum.inl (v1,(v2_0,v2_1,v2_2,v2_3,()),(v4_0,(List.take (List.length v4_1) (List.drop 0 v4_1)),()),(v5_0,(List.take (List.length v5_1) (List.drop 0 v5_1)),()),v25,v26,(IntKind.wrap .i64 (v27+1)),()))
  else
   none
 else
  some (Sum.inr ((v4_0,(List.take (List.length v4_1) (List.drop 0 v4_1)),()),(v5_0,(List.take (List.length v5_1) (List.drop 0 v5_1)),()),()))
theorem loop132_7{L}(h:L 7=some ⟨50,sh132_7,xs132_7,spec_l3Matrix_l7⟩):LoopOk prog L (loopOf f132 7):=lo (L':=L132_1) (by kernel_rfl) E0_ok allNil h
def L132_2:Nat→Option LoopD:=fun n=>ifEq n 7 (some ⟨50,sh132_7,xs132_7,spec_l3Matrix_l7⟩) (L132_1 n)
def spec_l3Matrix:TA→ByteArray→Option (TM):=fun(a0_0,a0_1,a0_2,a0_3) a1=>
 Option.bind (loopF spec_l3Matrix_l3 (a1,(a0_0,a0_1,a0_2,a0_3,()),((0:Int),[],()),(a0_0,[],()),(IntKind.wrap .i64 (a0_0*a0_0)),0,())) fun(r0,(r1,r2,r3,r4,_),(r5,r6,_),(r7,r8,_),_)=>
  Option.bind (loopF spec_l3Matrix_l7 (r0,(r1,r2,r3,r4,()),(r5,(List.take (List.length r6) (List.drop 0 r6)),()),(r7,(List.take (List.length r8) (List.drop 0 r8)),()),r4,(((List.length r4):Nat):Int),0,())) fun((r9,r10,_),(r11,r12,_),_)=>
   some (r11,(List.take (List.length r12) (List.drop 0 r12)))
def A132:FnA:=⟨[.v kA,.v .str],true,[.pair i6 sI],fun x=>spec_l3Matrix x.1 x.2.1⟩
theorem A132_ok:FnOk prog 132 A132:=fo (L:=L132_2) (by kernel_rfl) func132 E0_ok (allCons (loop132_3 rfl) (allCons (loop132_7 rfl) allNil))
def R125(spec_l7Value_rec:TA→ByteArray→Option (TM×Bool)):FnA:=⟨[.v kA,.v .str],true,[.pair i6 sI,.bool],fun x=>spec_l7Value_rec x.1 x.2.1⟩
def E125(spec_l7Value_rec:TA→ByteArray→Option (TM×Bool)):Env:=ev fun g=>ifEq g 131 (some A131) (ifEq g 204 (some A204) (ifEq g 130 (some A130) (ifEq g 125 (some (R125 spec_l7Value_rec)) (ifEq g 205 (some A205) (ifEq g 206 (some A206) (ifEq g 132 (some A132) (ifEq g 207 (some A207) (none))))))))
theorem E125_ok(spec_l7Value_rec:TA→ByteArray→Option (TM×Bool))(hrec:FnOk prog 125 (R125 spec_l7Value_rec)):FnsOk prog (E125 spec_l7Value_rec):=(oF A131_ok func131 (oF A204_ok func204 (oF A130_ok func130 (oF hrec func125 (oF A205_ok func205 (oF A206_ok func206 (oF A132_ok func132 (oF A207_ok func207 (noFns _ _)))))))))
def L125_0(spec_l7Value_rec:TA→ByteArray→Option (TM×Bool)):Nat→Option LoopD:=fun _=>none
def sh125_2:List Fm:=d::.cell (.val .str)::.box 100200 [.val i6,.val sI,.val sI,.val sS]::d::.box 100400 [.val i6,.own i6 100402 false]::d::.box 100600 [.val i6,.own i6 100602 false]::D 45 []
def xs125_2:List (Ex×List Fm):=[(.ret,[d,d,d,d,.box 100400 [.val i6,.own i6 100402 false],.cell (.val .bool),d,d,d,d,d,d,d,d,d,d,d,d,d,d,d,d,d,d,d,d,d,d,d,d,d,d,d,d,d,d,d,d,d,d,d,d,d,d,d,d,d,d,d,d,d,d]),(.exit 0,[d,d,d,d,.box 100400 [.val i6,.own i6 100402 false],d,.box 100600 [.val i6,.own i6 100602 false],d,d,d,d,d,d,d,d,d,d,d,d,d,d,d,d,d,d,d,d,d,d,d,d,d,d,d,d,d,d,d,d,d,d,d,d,d,d,d,d,d,d,d,d,d])]
def spec_l7Value_l2(spec_l7Value_rec:TA→ByteArray→Option (TM×Bool)):(ByteArray×(Int×LI×LI×LS×Unit)×(Int×LI×Unit)×(Int×LI×Unit)×Unit)→Option ((ByteArray×(Int×LI×LI×LS×Unit)×(Int×LI×Unit)×(Int×LI×Unit)×Unit)⊕(((Int×LI×Unit)×Bool×Unit)⊕((Int×LI×Unit)×(Int×LI×Unit)×Unit))):=fun(v1,(v2_0,v2_1,v2_2,v2_3,_),(v4_0,v4_1,_),(v6_0,v6_1,_),_)=>
 bif (!((ByteArray.toList v1)==(ByteArray.toList (⟨#[]⟩:ByteArray)))) then
  Option.bind (spec_l7Next v1) fun(r0,r1,r2)=>
   bif r1 then
    Option.bind (spec_l7Value_rec (v2_0,v2_1,v2_2,v2_3) r0) fun((r3,r4),r5)=>
     bif (!r5) then
      some (Sum.inr (Sum.inl (((0:Int),[],()),false,())))
     else
      Option.bind (spec_l6Idempotent (r3,(List.take (List.length r4) (List.drop 0 r4)))) fun r6=>
       bif (!r6) then
        some (Sum.inr (Sum.inl (((0:Int),[],()),false,())))
       else
        Option.bind (spec_l6Stable (r3,(List.take (List.length r4) (List.drop 0 r4)))) fun(r7,r8)=>
         Option.bind (spec_l6Mul (v6_0,(List.take (List.length v6_1) (List.drop 0 v6_1))) (r7,(List.take (List.length r8) (List.drop 0 r8)))) fun(r9,r10)=>
          some (Sum.inl (r2,(v2_0,v2_1,v2_2,v2_3,()),(v4_0,(List.take (List.length v4_1) (List.drop 0 v4_1)),()),(r9,(List.take (List.length r10) (List.drop 0 r10)),()),()))
   else
    Option.bind (spec_l3Matrix (v2_0,v2_1,v2_2,v2_3) r0) fun(r11,r12)=>
     Option.bind (spec_l6Grades (r11,(List.take (List.length r12) (List.drop 0 r12)))) fun(r13,r14)=>
      Option.bind (spec_l6Mul (v6_0,(List.take (List.length v6_1) (List.drop 0 v6_1))) (r13,(List.take (List.length r14) (List.drop 0 r14)))) fun(r15,r16)=>
       some (Sum.inl (r2,(v2_0,v2_1,v2_2,v2_3,()),(v4_0,(List.take (List.length v4_1) (List.drop 0 v4_1)),()),(r15,(List.take (List.length r16) (List.drop 0 r16)),()),()))
 else
  some (Sum.inr (Sum.inr ((v4_0,(List.take (List.length v4_1) (List.drop 0 v4_1)),()),(v6_0,(List.take (List.length v6_1) (List.drop 0 v6_1)),()),())))
theorem spec_l7Value_l2_eq(spec_l7Value_rec:TA→ByteArray→Option (TM×Bool)):loopStep 52 (E125 spec_l7Value_rec) (L125_0 spec_l7Value_rec) (loopOf f125 2) sh125_2 xs125_2=(spec_l7Value_l2 spec_l7Value_rec):=by kernel_rfl
theorem loop125_2(spec_l7Value_rec:TA→ByteArray→Option (TM×Bool))(hrec:FnOk prog 125 (R125 spec_l7Value_rec)){L:Nat→Option LoopD}(h:L 2=some ⟨52,sh125_2,xs125_2,(spec_l7Value_l2 spec_l7Value_rec)⟩):LoopOk prog L (loopOf f125 2):=
 loopOk (tysOk_of tyl_ok) (E125_ok spec_l7Value_rec hrec) (codeOk_in (L:=(L125_0 spec_l7Value_rec)) (tysOk_of tyl_ok) (E125_ok spec_l7Value_rec hrec) mixed (c:=loopOf f125 2) (bs:=[]) (by kernel_rfl) allNil (by kernel_rfl)) (by kernel_rfl) (by kernel_rfl) (spec_l7Value_l2_eq spec_l7Value_rec) (by rw[show firstId (loopOf f125 2)=2 from by kernel_rfl];exact h)
def L125_1(spec_l7Value_rec:TA→ByteArray→Option (TM×Bool)):Nat→Option LoopD:=fun n=>ifEq n 2 (some ⟨52,sh125_2,xs125_2,(spec_l7Value_l2 spec_l7Value_rec)⟩) ((L125_0 spec_l7Value_rec) n)
def spec_l7Value_step(spec_l7Value_rec:TA→ByteArray→Option (TM×Bool)):TA→ByteArray→Option (TM×Bool):=fun(a0_0,a0_1,a0_2,a0_3) a1=>
 Option.bind (spec_l2Unit a0_0) fun(r0,r1)=>
  Option.bind (spec_l6Grades (r0,(List.take (List.length r1) (List.drop 0 r1)))) fun(r2,r3)=>
   Option.bind (loopF (spec_l7Value_l2 spec_l7Value_rec) (a1,(a0_0,a0_1,a0_2,a0_3,()),((0:Int),[],()),(r2,(List.take (List.length r3) (List.drop 0 r3)),()),())) fun r4=>
    (match r4 with
    |.inl ((d5,d6,_),d7,_)=>
      some ((d5,(List.take (List.length d6) (List.drop 0 d6))),d7)
    |.inr ((d8,d9,_),(d10,d11,_),_)=>
      some ((d10,(List.take (List.length d11) (List.drop 0 d11))),true))
theorem spec_l7Value_step_eq(spec_l7Value_rec:TA→ByteArray→Option (TM×Bool)):fnF (E125 spec_l7Value_rec) (L125_1 spec_l7Value_rec) [.v kA,.v .str] true [.pair i6 sI,.bool] f125.ntmps f125.results.toList (codeOf f125)=fun x=>(spec_l7Value_step spec_l7Value_rec) x.1 x.2.1:=by kernel_rfl
theorem spec_l7Value_step_ok(spec_l7Value_rec:TA→ByteArray→Option (TM×Bool))(hrec:FnOk prog 125 (R125 spec_l7Value_rec)):FnOk prog 125 ⟨[.v kA,.v .str],true,[.pair i6 sI,.bool],fun x=>(spec_l7Value_step spec_l7Value_rec) x.1 x.2.1⟩:=by
 have h:=fnOk_of_run (P:=prog) (E:=(E125 spec_l7Value_rec)) (tysOk_of tyl_ok) (E125_ok spec_l7Value_rec hrec) (L:=(L125_1 spec_l7Value_rec)) (ps:=[.v kA,.v .str]) (own:=true) (outs:=[.pair i6 sI,.bool]) func125 (c:=codeOf f125) (by kernel_rfl) (codeOk_in (L:=(L125_1 spec_l7Value_rec)) (tysOk_of tyl_ok) (E125_ok spec_l7Value_rec hrec) mixed (c:=codeOf f125) (bs:=[loopOf f125 2]) (by kernel_rfl) (allCons (loop125_2 spec_l7Value_rec hrec rfl) allNil) (by kernel_rfl));rw[(spec_l7Value_step_eq spec_l7Value_rec)] at h;exact h
/-- so many calls within each other -/
def spec_l7Value_fuel:Nat→TA→ByteArray→Option (TM×Bool)
 |0=>fun _ _=>none
 |n+1=>spec_l7Value_step (spec_l7Value_fuel n)
theorem spec_l7Value_fuel_ok:∀n,FnOk prog 125 (R125 (spec_l7Value_fuel n))
 |0=>fun xs r h=>by cases h
 |n+1=>spec_l7Value_step_ok (spec_l7Value_fuel n) (spec_l7Value_fuel_ok n)
def spec_l7Value:TA→ByteArray→Option (TM×Bool):=spec_l7Value_fuel 200
def A125:FnA:=R125 spec_l7Value
theorem A125_ok:FnOk prog 125 A125:=spec_l7Value_fuel_ok 200
def E48:Env:=ev fun g=>ifEq g 23 (some A23) (ifEq g 27 (some A27) (ifEq g 125 (some A125) (none)))
theorem E48_ok:FnsOk prog E48:=(oF A23_ok func23 (oF A27_ok func27 (oF A125_ok func125 (noFns _ _))))
def spec_ValueOf:TA→ByteArray→Option (TM×Bool):=fun(a0_0,a0_1,a0_2,a0_3) a1=>
 Option.bind (spec_AutomatonValid (a0_0,a0_1,a0_2,a0_3)) fun r0=>
  bif (!r0) then
   some (((0:Int),[]),false)
  else
   Option.bind (spec_ExpressionValid a1) fun r1=>
    bif (!r1) then
     some (((0:Int),[]),false)
    else
     Option.bind (spec_l7Value (a0_0,a0_1,a0_2,a0_3) a1) fun((r2,r3),r4)=>
      some ((r2,(List.take (List.length r3) (List.drop 0 r3))),r4)
def A48:FnA:=⟨[.v kA,.v .str],true,[.pair i6 sI,.bool],fun x=>spec_ValueOf x.1 x.2.1⟩
theorem A48_ok:FnOk prog 48 A48:=fo (L:=L0) (by kernel_rfl) func48 E48_ok allNil
def E18:Env:=⟨ty0,fun g=>ifEq g 48 (some A48) (none),fun g=>ifEq g 46 (some A46) (ifEq g 47 (some A47) (ifEq g 49 (some A49) (ifEq g 50 (some A50) (none)))),fun _=>none,fun _=>none,fun _=>0⟩
theorem E18_ok:FnsOk prog E18:=(oF A48_ok func48 (oneMs A46_ok (by kernel_rfl) func46 (by kernel_rfl) (by kernel_rfl) (oneMs A47_ok (by kernel_rfl) func47 (by kernel_rfl) (by kernel_rfl) (oneMs A49_ok (by kernel_rfl) func49 (by kernel_rfl) (by kernel_rfl) (oneMs A50_ok (by kernel_rfl) func50 (by kernel_rfl) (by kernel_rfl) (noFns _ _))))))
def sh18_4:List Fm:=.box 200000 [.val (.sl (.int .u8)),.val i6]::d::.box 100200 [.val i6,.own i6 100202 false,.own i6 100203 false,.own kS 100204 false]::d::.box 100400 [.val i6,.val sI,.val sI,.val sS]::.cell (.val .str)::D 6 (.cell (.val i6)::D 22 [])
def xs18_4:List (Ex×List Fm):=[(.ret,[.box 200000 [.val (.sl (.int .u8)),.val i6],d,.box 100200 [.val i6,.val sI,.val sI,.val sS],.cell (.val .str),d,d,d,d,d,d,d,d,d,d,d,d,d,d,d,d,d,d,d,d,d,d,d,d,d,d,d,d,d,d,d]),(.exit 0,[.box 200000 [.val (.sl (.int .u8)),.val i6],d,.box 100200 [.val i6,.own i6 100202 false,.own i6 100203 false,.own kS 100204 false],d,.box 100400 [.val i6,.val sI,.val sI,.val sS],.cell (.val .str),d,d,d,d,d,d,d,d,d,d,d,d,d,d,d,d,d,d,d,d,d,d,d,d,d,d,d,d,d])]
def spec_l7Some_l4:((LI×Int×Unit)×(Int×LI×LI×LS×Unit)×(Int×LI×LI×LS×Unit)×ByteArray×Int×Unit)→Option (((LI×Int×Unit)×(Int×LI×LI×LS×Unit)×(Int×LI×LI×LS×Unit)×ByteArray×Int×Unit)⊕(((LI×Int×Unit)×(Int×LI×LI×LS×Unit)×ByteArray×Unit)⊕((LI×Int×Unit)×(Int×LI×LI×LS×Unit)×(Int×LI×LI×LS×Unit)×ByteArray×Unit))):=fun((v0_0,v0_1,_),(v2_0,v2_1,v2_2,v2_3,_),(v4_0,v4_1,v4_2,v4_3,_),v5,v12,_)=>
 bif (decide (v12<3)) then
  Option.bind (spec_ValueOf (v4_0,v4_1,v4_2,v4_3) v5) fun((r0,r1),r2)=>
   bif r2 then
    some (Sum.inr (Sum.inl ((v0_0,v0_1,()),(v4_0,v4_1,v4_2,v4_3,()),v5,())))
   else
    Option.bind (spec_l13Rd_pick (v0_0,v0_1) 4) fun(r3,(r4,r5),_)=>
     bif (r3==0) then
      some (Sum.inr (Sum.inl ((r4,r5,()),(v4_0,v4_1,v4_2,v4_3,()),v5,())))
     else
      Option.bind (spec_l13Rd_pick (r4,r5) 3) fun(r6,(r7,r8),_)=>
       Option.bind (spec_l7Draw (r7,r8) r6) fun(r9,(r10,r11),_)=>
        some (Sum.inl ((r10,r11,()),(v2_0,(List.take (List.length v2_1) (List.drop 0 v2_1)),(List.take (List.length v2_2) (List.drop 0 v2_2)),(List.take (List.length v2_3) (List.drop 0 v2_3)),()),(v4_0,v4_1,v4_2,v4_3,()),r9,(IntKind.wrap .i64 (v12+1)),()))
 else
  some (Sum.inr (Sum.inr ((v0_0,v0_1,()),(v2_0,(List.take (List.length v2_1) (List.drop 0 v2_1)),(List.take (List.length v2_2) (List.drop 0 v2_2)),(List.take (List.length v2_3) (List.drop 0 v2_3)),()),(v4_0,v4_1,v4_2,v4_3,()),v5,())))
theorem loop18_4{L}(h:L 4=some ⟨35,sh18_4,xs18_4,spec_l7Some_l4⟩):LoopOk prog L (loopOf f18 4):=lo (L':=L0) (by kernel_rfl) E18_ok allNil h
def L18_1:Nat→Option LoopD:=fun n=>ifEq n 4 (some ⟨35,sh18_4,xs18_4,spec_l7Some_l4⟩) (L0 n)
def spec_l7Some:(LI×Int)→Option ((TA×ByteArray)×((LI×Int)×Unit)):=fun(a0_0,a0_1)=>
 Option.bind (spec_l3Any (a0_0,a0_1)) fun((r0,r1,r2,r3),(r4,r5),_)=>
  Option.bind (spec_l7Text (r4,r5)) fun(r6,(r7,r8),_)=>
   Option.bind (loopF spec_l7Some_l4 ((r7,r8,()),((0:Int),[],[],[],()),(r0,r1,r2,r3,()),r6,0,())) fun r9=>
    (match r9 with
    |.inl ((d10,d11,_),(d12,d13,d14,d15,_),d16,_)=>
      some (((d12,d13,d14,d15),d16),(d10,d11),())
    |.inr ((d17,d18,_),(d19,d20,d21,d22,_),(d23,d24,d25,d26,_),d27,_)=>
      some (((d23,d24,d25,d26),d27),(d17,d18),()))
def A18:FnM:=⟨[.bx kR],false,[.pair i6 (.pair sI (.pair sI sS)),.str],none,fun x=>spec_l7Some x.1⟩
theorem A18_ok:FnMOk prog 18 A18:=fm (L:=L18_1) (by kernel_rfl) func18 E18_ok (allCons (loop18_4 rfl) allNil)
def E4:Env:=⟨ty0,fun _=>none,fun g=>ifEq g 18 (some A18) (ifEq g 19 (some A19) (none)),fun g=>ifEq g 17 (some A17) (none),fun _=>none,fun _=>0⟩
theorem E4_ok:FnsOk prog E4:=(oneBs A17_ok func17 (by kernel_rfl) (by kernel_rfl) (oneMs A18_ok (by kernel_rfl) func18 (by kernel_rfl) (by kernel_rfl) (oneMs A19_ok (by kernel_rfl) func19 (by kernel_rfl) (by kernel_rfl) (noFns _ _))))
def spec_DrawGrowthOf:LI→Option (TA×ByteArray×Int):=fun a0=>
 Option.bind (spec_l13Open a0) fun(r0,r1)=>
  Option.bind (spec_l7Some (r0,r1)) fun(((r2,r3,r4,r5),r6),(r7,r8),_)=>
   Option.bind (spec_l13Rd_num (r7,r8) (List.take 8 (List.drop 0 [(3:Int),(4:Int),(2:Int),(1:Int),(0:Int),(5:Int),(-1:Int),(21:Int)]))) fun(r9,(r10,r11),_)=>
    some ((r2,r3,r4,r5),r6,r9)
def A4:FnA:=⟨[.v (.sl (.int .u8))],false,[.pair i6 (.pair sI (.pair sI sS)),.str,.int .i64],fun x=>spec_DrawGrowthOf x.1⟩
theorem A4_ok:FnOk prog 4 A4:=fo (L:=L0) (by kernel_rfl) func4 E4_ok allNil
def sh51_2:List Fm:=.cell (.val sI)::.cell (.val i6)::D 5 (.cell (.val sI)::.cell (.val i6)::.cell (.val i6)::D 25 [])
def xs51_2:List (Ex×List Fm):=[(.ret,(D 4 (.cell (.val .bool)::D 30 []))),(.exit 0,(D 35 []))]
def impl_statesOk_l2:(LI×Int×LI×Int×Int×Unit)→Option ((LI×Int×LI×Int×Int×Unit)⊕((Bool×Unit)⊕(Unit))):=fun(v0,v1,v7,v8,v9,_)=>
 bif (decide (v9<v8)) then
  if(((0:Int)≤v9)∧(v9<(((List.length v7):Nat):Int))) then
   bif (decide ((List.getD v7 (Int.toNat v9) 0)<0)) then
    some (Sum.inr (Sum.inl (false,())))
   else
    bif (decide ((List.getD v7 (Int.toNat v9) 0)≥v1)) then
     some (Sum.inr (Sum.inl (false,())))
    else
     bif (decide (v9>0)) then
      if(((0:Int)≤(IntKind.wrap .i64 (v9-1)))∧((IntKind.wrap .i64 (v9-1))<(((List.length v0):Nat):Int))) then
       bif (decide ((List.getD v0 (Int.toNat (IntKind.wrap .i64 (v9-1))) 0)≥(List.getD v7 (Int.toNat v9) 0))) then
        some (Sum.inr (Sum.inl (false,())))
       else
        some (Sum.inl (v0,v1,v7,v8,(IntKind.wrap .i64 (v9+1)),()))
      else
       none
     else
      some (Sum.inl (v0,v1,v7,v8,(IntKind.wrap .i64 (v9+1)),()))
  else
   none
 else
  some (Sum.inr (Sum.inr ()))
theorem loop51_2{L}(h:L 2=some ⟨35,sh51_2,xs51_2,impl_statesOk_l2⟩):LoopOk prog L (loopOf f51 2):=lo (L':=L0) (by kernel_rfl) E0_ok allNil h
def L51_1:Nat→Option LoopD:=fun n=>ifEq n 2 (some ⟨35,sh51_2,xs51_2,impl_statesOk_l2⟩) (L0 n)
def impl_statesOk:LI→Int→Option (Bool):=fun a0 a1=>
 Option.bind (loopF impl_statesOk_l2 (a0,a1,a0,(((List.length a0):Nat):Int),0,())) fun r0=>
  (match r0 with
  |.inl (d1,_)=>
    some d1
  |.inr _=>
    some true)
def A51:FnA:=⟨[.v sI,.v i6],true,[.bool],fun x=>impl_statesOk x.1 x.2.1⟩
theorem A51_ok:FnOk prog 51 A51:=fo (L:=L51_1) (by kernel_rfl) func51 E0_ok (allCons (loop51_2 rfl) allNil)
def cmp_isNaN:Int→Option (Bool):=fun a0=>
 some (a0 != a0)
def A208:FnA:=⟨[.v i6],true,[.bool],fun x=>cmp_isNaN x.1⟩
theorem A208_ok:FnOk prog 208 A208:=fo (L:=L0) (by kernel_rfl) func208 E0_ok allNil
def E127:Env:=ev fun g=>ifEq g 208 (some A208) (none)
theorem E127_ok:FnsOk prog E127:=(oF A208_ok func208 (noFns _ _))
def cmp_Compare:Int→Int→Option (Int):=fun a0 a1=>
 Option.bind (cmp_isNaN a0) fun r0=>
  Option.bind (cmp_isNaN a1) fun r1=>
   bif r0 then
    bif r1 then
     some 0
    else
     some (-1)
   else
    bif r1 then
     some 1
    else
     bif (decide (a0<a1)) then
      some (-1)
     else
      bif (decide (a0>a1)) then
       some 1
      else
       some 0
def A127:FnA:=⟨[.v i6,.v i6],true,[.int .i64],fun x=>cmp_Compare x.1 x.2.1⟩
theorem A127_ok:FnOk prog 127 A127:=fo (L:=L0) (by kernel_rfl) func127 E127_ok allNil
def sh126_3:List Fm:=d::d::d::.cell (.val i6)::d::d::.cell (.val sI)::.cell (.val i6)::.cell (.val i6)::D 9 []
def xs126_3:List (Ex×List Fm):=[(.ret,(d::d::.cell (.val i6)::D 15 [])),(.exit 0,(d::d::d::.cell (.val i6)::D 14 []))]
def cmp_Or_l3:(Int×LI×Int×Int×Unit)→Option ((Int×LI×Int×Int×Unit)⊕((Int×Unit)⊕(Int×Unit))):=fun(v3,v6,v7,v8,_)=>
 bif (decide (v8<v7)) then
  if(((0:Int)≤v8)∧(v8<(((List.length v6):Nat):Int))) then
   bif ((List.getD v6 (Int.toNat v8) 0) != v3) then
    some (Sum.inr (Sum.inl ((List.getD v6 (Int.toNat v8) 0),())))
   else
    some (Sum.inl (v3,v6,v7,(IntKind.wrap .i64 (v8+1)),()))
  else
   none
 else
  some (Sum.inr (Sum.inr (v3,())))
theorem loop126_3{L}(h:L 3=some ⟨18,sh126_3,xs126_3,cmp_Or_l3⟩):LoopOk prog L (loopOf f126 3):=lo (L':=L0) (by kernel_rfl) E0_ok allNil h
def L126_1:Nat→Option LoopD:=fun n=>ifEq n 3 (some ⟨18,sh126_3,xs126_3,cmp_Or_l3⟩) (L0 n)
def cmp_Or:LI→Option (Int):=fun a0=>
 Option.bind (loopF cmp_Or_l3 ((0:Int),a0,(((List.length a0):Nat):Int),0,())) fun r0=>
  (match r0 with
  |.inl (d1,_)=>
    some d1
  |.inr (d2,_)=>
    some d2)
def A126:FnA:=⟨[.v sI],true,[.int .i64],fun x=>cmp_Or x.1⟩
theorem A126_ok:FnOk prog 126 A126:=fo (L:=L126_1) (by kernel_rfl) func126 E0_ok (allCons (loop126_3 rfl) allNil)
def E52:Env:=ev fun g=>ifEq g 127 (some A127) (ifEq g 128 (some A128) (ifEq g 126 (some A126) (none)))
theorem E52_ok:FnsOk prog E52:=(oF A127_ok func127 (oF A128_ok func128 (oF A126_ok func126 (noFns _ _))))
def impl_stepOrder:TS→TS→Option (Int):=fun(a0_0,a0_1,a0_2,a0_3) (a1_0,a1_1,a1_2,a1_3)=>
 Option.bind (cmp_Compare a0_0 a1_0) fun r0=>
  Option.bind (strings_Compare a0_1 a1_1) fun r1=>
   Option.bind (cmp_Compare a0_2 a1_2) fun r2=>
    Option.bind (cmp_Or (List.take 3 (List.drop 0 [r0,r1,r2]))) fun r3=>
     some r3
def A52:FnA:=⟨[.v kS,.v kS],true,[.int .i64],fun x=>impl_stepOrder x.1 x.2.1⟩
theorem A52_ok:FnOk prog 52 A52:=fo (L:=L0) (by kernel_rfl) func52 E52_ok allNil
def E20:Env:=ev fun g=>ifEq g 51 (some A51) (ifEq g 52 (some A52) (none))
theorem E20_ok:FnsOk prog E20:=(oF A51_ok func51 (oF A52_ok func52 (noFns _ _)))
def sh20_4:List Fm:=d::.box 100100 [.val i6,.val sI,.val sI,.val sS]::D 34 (.cell (.val sS)::.cell (.val i6)::.cell (.val i6)::D 62 [])
def xs20_4:List (Ex×List Fm):=[(.ret,(d::d::.cell (.val .bool)::D 98 [])),(.exit 0,(D 101 []))]
def impl_AutomatonValid_l4:((Int×LI×LI×LS×Unit)×LS×Int×Int×Unit)→Option (((Int×LI×LI×LS×Unit)×LS×Int×Int×Unit)⊕((Bool×Unit)⊕(Unit))):=fun((v1_0,v1_1,v1_2,v1_3,_),v36,v37,v38,_)=>
 bif (decide (v38<v37)) then
  if(((0:Int)≤v38)∧(v38<(((List.length v36):Nat):Int))) then
   bif (decide ((List.getD v36 (Int.toNat v38) ((0:Int),⟨Array.empty⟩,0,0)).1<0)) then
    some (Sum.inr (Sum.inl (false,())))
   else
    bif (decide ((List.getD v36 (Int.toNat v38) ((0:Int),⟨Array.empty⟩,0,0)).1≥v1_0)) then
     some (Sum.inr (Sum.inl (false,())))
    else
     bif (decide ((List.getD v36 (Int.toNat v38) ((0:Int),⟨Array.empty⟩,0,0)).2.2.1<0)) then
      some (Sum.inr (Sum.inl (false,())))
     else
      bif (decide ((List.getD v36 (Int.toNat v38) ((0:Int),⟨Array.empty⟩,0,0)).2.2.1≥v1_0)) then
       some (Sum.inr (Sum.inl (false,())))
      else
       bif (!((ByteArray.toList (List.getD v36 (Int.toNat v38) ((0:Int),⟨Array.empty⟩,0,0)).2.1)==(ByteArray.toList (⟨#[(97:UInt8)]⟩:ByteArray)))) then
        bif (!((ByteArray.toList (List.getD v36 (Int.toNat v38) ((0:Int),⟨Array.empty⟩,0,0)).2.1)==(ByteArray.toList (⟨#[(98:UInt8)]⟩:ByteArray)))) then
         some (Sum.inr (Sum.inl (false,())))
        else
         bif (decide ((List.getD v36 (Int.toNat v38) ((0:Int),⟨Array.empty⟩,0,0)).2.2.2<0)) then
          some (Sum.inr (Sum.inl (false,())))
         else
          bif (decide ((List.getD v36 (Int.toNat v38) ((0:Int),⟨Array.empty⟩,0,0)).2.2.2>3)) then
           some (Sum.inr (Sum.inl (false,())))
          else
           bif (decide (v38>0)) then
            if(((0:Int)≤(IntKind.wrap .i64 (v38-1)))∧((IntKind.wrap .i64 (v38-1))<(((List.length v1_3):Nat):Int))) then
             Option.bind (impl_stepOrder (List.getD v1_3 (Int.toNat (IntKind.wrap .i64 (v38-1))) ((0:Int),⟨Array.empty⟩,0,0)) ((List.getD v36 (Int.toNat v38) ((0:Int),⟨Array.empty⟩,0,0)).1,(List.getD v36 (Int.toNat v38) ((0:Int),⟨Array.empty⟩,0,0)).2.1,(List.getD v36 (Int.toNat v38) ((0:Int),⟨Array.empty⟩,0,0)).2.2.1,(List.getD v36 (Int.toNat v38) ((0:Int),⟨Array.empty⟩,0,0)).2.2.2)) fun r0=>
              bif (decide (r0≥0)) then
               some (Sum.inr (Sum.inl (false,())))
              else
               some (Sum.inl ((v1_0,v1_1,v1_2,v1_3,()),v36,v37,(IntKind.wrap .i64 (v38+1)),()))
            else
             none
           else
            some (Sum.inl ((v1_0,v1_1,v1_2,v1_3,()),v36,v37,(IntKind.wrap .i64 (v38+1)),()))
       else
        bif (decide ((List.getD v36 (Int.toNat v38) ((0:Int),⟨Array.empty⟩,0,0)).2.2.2<0)) then
         some (Sum.inr (Sum.inl (false,())))
        else
         bif (decide ((List.getD v36 (Int.toNat v38) ((0:Int),⟨Array.empty⟩,0,0)).2.2.2>3)) then
          some (Sum.inr (Sum.inl (false,())))
         else
          bif (decide (v38>0)) then
           if(((0:Int)≤(IntKind.wrap .i64 (v38-1)))∧((IntKind.wrap .i64 (v38-1))<(((List.length v1_3):Nat):Int))) then
            Option.bind (impl_stepOrder (List.getD v1_3 (Int.toNat (IntKind.wrap .i64 (v38-1))) ((0:Int),⟨Array.empty⟩,0,0)) ((List.getD v36 (Int.toNat v38) ((0:Int),⟨Array.empty⟩,0,0)).1,(List.getD v36 (Int.toNat v38) ((0:Int),⟨Array.empty⟩,0,0)).2.1,(List.getD v36 (Int.toNat v38) ((0:Int),⟨Array.empty⟩,0,0)).2.2.1,(List.getD v36 (Int.toNat v38) ((0:Int),⟨Array.empty⟩,0,0)).2.2.2)) fun r1=>
             bif (decide (r1≥0)) then
              some (Sum.inr (Sum.inl (false,())))
             else
              some (Sum.inl ((v1_0,v1_1,v1_2,v1_3,()),v36,v37,(IntKind.wrap .i64 (v38+1)),()))
           else
            none
          else
           some (Sum.inl ((v1_0,v1_1,v1_2,v1_3,()),v36,v37,(IntKind.wrap .i64 (v38+1)),()))
  else
   none
 else
  some (Sum.inr (Sum.inr ()))
theorem loop20_4{L}(h:L 4=some ⟨101,sh20_4,xs20_4,impl_AutomatonValid_l4⟩):LoopOk prog L (loopOf f20 4):=lo (L':=L0) (by kernel_rfl) E20_ok allNil h
def L20_1:Nat→Option LoopD:=fun n=>ifEq n 4 (some ⟨101,sh20_4,xs20_4,impl_AutomatonValid_l4⟩) (L0 n)
def impl_AutomatonValid:TA→Option (Bool):=fun(a0_0,a0_1,a0_2,a0_3)=>
 bif (decide (a0_0<1)) then
  some false
 else
  bif (decide (a0_0>4)) then
   some false
  else
   bif (decide ((((List.length a0_3):Nat):Int)>24)) then
    some false
   else
    Option.bind (impl_statesOk a0_1 a0_0) fun r0=>
     bif (!r0) then
      some false
     else
      Option.bind (impl_statesOk a0_2 a0_0) fun r1=>
       bif (!r1) then
        some false
       else
        Option.bind (loopF impl_AutomatonValid_l4 ((a0_0,a0_1,a0_2,a0_3,()),a0_3,(((List.length a0_3):Nat):Int),0,())) fun r2=>
         (match r2 with
         |.inl (d3,_)=>
           some d3
         |.inr _=>
           some true)
def A20:FnA:=⟨[.v kA],true,[.bool],fun x=>impl_AutomatonValid x.1⟩
theorem A20_ok:FnOk prog 20 A20:=fo (L:=L20_1) (by kernel_rfl) func20 E20_ok (allCons (loop20_4 rfl) allNil)
def internal_stringslite_HasPrefix:ByteArray→ByteArray→Option (Bool):=fun a0 a1=>
 bif (decide ((((ByteArray.size a0):Nat):Int)≥(((ByteArray.size a1):Nat):Int))) then
  if(((0:Int)≤(((ByteArray.size a1):Nat):Int))∧((((ByteArray.size a1):Nat):Int)≤(((ByteArray.size a0):Nat):Int))) then
   some ((ByteArray.toList (ByteArray.extract a0 0 (Int.toNat (((ByteArray.size a1):Nat):Int))))==(ByteArray.toList a1))
  else
   none
 else
  some false
def A211:FnA:=⟨[.v .str,.v .str],true,[.bool],fun x=>internal_stringslite_HasPrefix x.1 x.2.1⟩
theorem A211_ok:FnOk prog 211 A211:=fo (L:=L0) (by kernel_rfl) func211 E0_ok allNil
def E134:Env:=ev fun g=>ifEq g 211 (some A211) (none)
theorem E134_ok:FnsOk prog E134:=(oF A211_ok func211 (noFns _ _))
def strings_HasPrefix:ByteArray→ByteArray→Option (Bool):=fun a0 a1=>
 Option.bind (internal_stringslite_HasPrefix a0 a1) fun r0=>
  some r0
def A134:FnA:=⟨[.v .str,.v .str],true,[.bool],fun x=>strings_HasPrefix x.1 x.2.1⟩
theorem A134_ok:FnOk prog 134 A134:=fo (L:=L0) (by kernel_rfl) func134 E134_ok allNil
end
end Go.Proofs.YthkflageghfbgaaGreatDoor
