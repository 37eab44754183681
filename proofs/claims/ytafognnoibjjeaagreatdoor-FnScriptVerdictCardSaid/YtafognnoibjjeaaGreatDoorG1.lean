/- What Go functions that the laws reach compute, and that they do: written by a program of this session. -/
import Derived.Test.YtafognnoibjjeaaGreatDoorG0
import Derived.Test.YtafognnoibjjeaaGreatDoorSort
import Derived.KernelRfl
set_option linter.unusedVariables false
namespace Go.Proofs.YtafognnoibjjeaaGreatDoor
open Go Go.Proofs.YtafognnoibjjeaaGreatDoor.Am Go.Proofs.Tryz
set_option maxRecDepth 100000
noncomputable section
def y1e:LI→Option ((LI×Int)):=fun a0=>
 bif (decide ((((List.length a0):Nat):Int)>2000)) then
  if(((0:Int)≤2000)∧((2000:Int)≤(((List.length a0):Nat):Int))) then
   some ((List.take ((Int.toNat 2000)-0) (List.drop 0 a0)),0)
  else
   none
 else
  some (a0,0)
def A18:FnB:=⟨[.v (.sl (.int .u8))],.pair (.sl (.int .u8)) i6,fun x=>y1e x.1⟩
theorem zn8:fnBF E0 L0 [.v (.sl (.int .u8))] kR f18.ntmps f18.results.toList (yc9 f18)=fun x=>y1e x.1:=by kernel_rfl
theorem A18_ok:FnBOk prog 18 A18:=by
 have h:=z2j (P:=prog) (E:=E0) (yb9 yg1) yh3 (L:=L0) (ps:=[.v (.sl (.int .u8))]) (k:=.pair (.sl (.int .u8)) i6) func18 (c:=yc9 f18) (by kernel_rfl) (yf0 (L:=L0) (yb9 yg1) yh3 mixed (c:=yc9 f18) (bs:=[]) (by kernel_rfl) ya0 (by kernel_rfl));rw[zn8] at h;exact h
def yb5:(LI×Int)→Int→Option ((Int)×((LI×Int)×Unit)):=fun(a0_0,a0_1) a1=>
 bif (decide (a1<1)) then
  some ((0:Int),(a0_0,(IntKind.wrap .i64 (a0_1+1))),())
 else
  bif ((((List.length a0_0):Nat):Int)==0) then
   some ((0:Int),(a0_0,(IntKind.wrap .i64 (a0_1+1))),())
  else
   bif (decide ((IntKind.wrap .i64 ((IntKind.wrap .i64 (a0_1+1))-1))<(((List.length a0_0):Nat):Int))) then
    if(((0:Int)≤(IntKind.wrap .i64 ((IntKind.wrap .i64 (a0_1+1))-1)))∧((IntKind.wrap .i64 ((IntKind.wrap .i64 (a0_1+1))-1))<(((List.length a0_0):Nat):Int))) then
     if(a1=0) then
      none
     else
      some ((Int.tmod (IntKind.wrap .i64 (List.getD a0_0 (Int.toNat (IntKind.wrap .i64 ((IntKind.wrap .i64 (a0_1+1))-1))) 0)) a1),(a0_0,(IntKind.wrap .i64 (a0_1+1))),())
    else
     none
   else
    if((((List.length a0_0):Nat):Int)=0) then
     none
    else
     if(((0:Int)≤(Int.tmod (IntKind.wrap .i64 ((IntKind.wrap .i64 (a0_1+1))-1)) (((List.length a0_0):Nat):Int)))∧((Int.tmod (IntKind.wrap .i64 ((IntKind.wrap .i64 (a0_1+1))-1)) (((List.length a0_0):Nat):Int))<(((List.length a0_0):Nat):Int))) then
      if((((List.length a0_0):Nat):Int)=0) then
       none
      else
       if(((0:Int)≤(Int.tmod (IntKind.wrap .i64 ((IntKind.wrap .i64 ((IntKind.wrap .i64 ((IntKind.wrap .i64 (a0_1+1))-1))*7))+3)) (((List.length a0_0):Nat):Int)))∧((Int.tmod (IntKind.wrap .i64 ((IntKind.wrap .i64 ((IntKind.wrap .i64 ((IntKind.wrap .i64 (a0_1+1))-1))*7))+3)) (((List.length a0_0):Nat):Int))<(((List.length a0_0):Nat):Int))) then
        if((((List.length a0_0):Nat):Int)=0) then
         none
        else
         if((64:Int)=0) then
          none
         else
          if(a1=0) then
           none
          else
           some ((Int.tmod (Decidable.rec (fun y0=>((((BitVec.toNat ((BitVec.ofInt (IntKind.bits .i64) (IntKind.wrap .i64 ((IntKind.wrap .i64 ((IntKind.wrap .i64 ((IntKind.wrap .i64 ((IntKind.wrap .i64 (List.getD a0_0 (Int.toNat (Int.tmod (IntKind.wrap .i64 ((IntKind.wrap .i64 (a0_1+1))-1)) (((List.length a0_0):Nat):Int))) 0))*131))+(IntKind.wrap .i64 ((IntKind.wrap .i64 (List.getD a0_0 (Int.toNat (Int.tmod (IntKind.wrap .i64 ((IntKind.wrap .i64 ((IntKind.wrap .i64 ((IntKind.wrap .i64 (a0_1+1))-1))*7))+3)) (((List.length a0_0):Nat):Int))) 0))*1117))))+(IntKind.wrap .i64 ((IntKind.wrap .i64 ((IntKind.wrap .i64 (a0_1+1))-1))*29))))+(IntKind.wrap .i64 ((IntKind.wrap .i64 (Int.tdiv (IntKind.wrap .i64 ((IntKind.wrap .i64 (a0_1+1))-1)) (((List.length a0_0):Nat):Int)))*53)))))^^^(BitVec.ofInt (IntKind.bits .i64) (IntKind.wrap .i64 (Int.tdiv (IntKind.wrap .i64 ((IntKind.wrap .i64 ((IntKind.wrap .i64 ((IntKind.wrap .i64 ((IntKind.wrap .i64 (List.getD a0_0 (Int.toNat (Int.tmod (IntKind.wrap .i64 ((IntKind.wrap .i64 (a0_1+1))-1)) (((List.length a0_0):Nat):Int))) 0))*131))+(IntKind.wrap .i64 ((IntKind.wrap .i64 (List.getD a0_0 (Int.toNat (Int.tmod (IntKind.wrap .i64 ((IntKind.wrap .i64 ((IntKind.wrap .i64 ((IntKind.wrap .i64 (a0_1+1))-1))*7))+3)) (((List.length a0_0):Nat):Int))) 0))*1117))))+(IntKind.wrap .i64 ((IntKind.wrap .i64 ((IntKind.wrap .i64 (a0_1+1))-1))*29))))+(IntKind.wrap .i64 ((IntKind.wrap .i64 (Int.tdiv (IntKind.wrap .i64 ((IntKind.wrap .i64 (a0_1+1))-1)) (((List.length a0_0):Nat):Int)))*53)))) 64))))):Nat):Int)%((2:Int)^(IntKind.bits .i64)))) (fun y1=>(((((BitVec.toNat ((BitVec.ofInt (IntKind.bits .i64) (IntKind.wrap .i64 ((IntKind.wrap .i64 ((IntKind.wrap .i64 ((IntKind.wrap .i64 ((IntKind.wrap .i64 (List.getD a0_0 (Int.toNat (Int.tmod (IntKind.wrap .i64 ((IntKind.wrap .i64 (a0_1+1))-1)) (((List.length a0_0):Nat):Int))) 0))*131))+(IntKind.wrap .i64 ((IntKind.wrap .i64 (List.getD a0_0 (Int.toNat (Int.tmod (IntKind.wrap .i64 ((IntKind.wrap .i64 ((IntKind.wrap .i64 ((IntKind.wrap .i64 (a0_1+1))-1))*7))+3)) (((List.length a0_0):Nat):Int))) 0))*1117))))+(IntKind.wrap .i64 ((IntKind.wrap .i64 ((IntKind.wrap .i64 (a0_1+1))-1))*29))))+(IntKind.wrap .i64 ((IntKind.wrap .i64 (Int.tdiv (IntKind.wrap .i64 ((IntKind.wrap .i64 (a0_1+1))-1)) (((List.length a0_0):Nat):Int)))*53)))))^^^(BitVec.ofInt (IntKind.bits .i64) (IntKind.wrap .i64 (Int.tdiv (IntKind.wrap .i64 ((IntKind.wrap .i64 ((IntKind.wrap .i64 ((IntKind.wrap .i64 ((IntKind.wrap .i64 (List.getD a0_0 (Int.toNat (Int.tmod (IntKind.wrap .i64 ((IntKind.wrap .i64 (a0_1+1))-1)) (((List.length a0_0):Nat):Int))) 0))*131))+(IntKind.wrap .i64 ((IntKind.wrap .i64 (List.getD a0_0 (Int.toNat (Int.tmod (IntKind.wrap .i64 ((IntKind.wrap .i64 ((IntKind.wrap .i64 ((IntKind.wrap .i64 (a0_1+1))-1))*7))+3)) (((List.length a0_0):Nat):Int))) 0))*1117))))+(IntKind.wrap .i64 ((IntKind.wrap .i64 ((IntKind.wrap .i64 (a0_1+1))-1))*29))))+(IntKind.wrap .i64 ((IntKind.wrap .i64 (Int.tdiv (IntKind.wrap .i64 ((IntKind.wrap .i64 (a0_1+1))-1)) (((List.length a0_0):Nat):Int)))*53)))) 64))))):Nat):Int)%((2:Int)^(IntKind.bits .i64)))-((2:Int)^(IntKind.bits .i64)))) (instDecidableEqBool ((IntKind.signed .i64)&&(decide (((((BitVec.toNat ((BitVec.ofInt (IntKind.bits .i64) (IntKind.wrap .i64 ((IntKind.wrap .i64 ((IntKind.wrap .i64 ((IntKind.wrap .i64 ((IntKind.wrap .i64 (List.getD a0_0 (Int.toNat (Int.tmod (IntKind.wrap .i64 ((IntKind.wrap .i64 (a0_1+1))-1)) (((List.length a0_0):Nat):Int))) 0))*131))+(IntKind.wrap .i64 ((IntKind.wrap .i64 (List.getD a0_0 (Int.toNat (Int.tmod (IntKind.wrap .i64 ((IntKind.wrap .i64 ((IntKind.wrap .i64 ((IntKind.wrap .i64 (a0_1+1))-1))*7))+3)) (((List.length a0_0):Nat):Int))) 0))*1117))))+(IntKind.wrap .i64 ((IntKind.wrap .i64 ((IntKind.wrap .i64 (a0_1+1))-1))*29))))+(IntKind.wrap .i64 ((IntKind.wrap .i64 (Int.tdiv (IntKind.wrap .i64 ((IntKind.wrap .i64 (a0_1+1))-1)) (((List.length a0_0):Nat):Int)))*53)))))^^^(BitVec.ofInt (IntKind.bits .i64) (IntKind.wrap .i64 (Int.tdiv (IntKind.wrap .i64 ((IntKind.wrap .i64 ((IntKind.wrap .i64 ((IntKind.wrap .i64 ((IntKind.wrap .i64 (List.getD a0_0 (Int.toNat (Int.tmod (IntKind.wrap .i64 ((IntKind.wrap .i64 (a0_1+1))-1)) (((List.length a0_0):Nat):Int))) 0))*131))+(IntKind.wrap .i64 ((IntKind.wrap .i64 (List.getD a0_0 (Int.toNat (Int.tmod (IntKind.wrap .i64 ((IntKind.wrap .i64 ((IntKind.wrap .i64 ((IntKind.wrap .i64 (a0_1+1))-1))*7))+3)) (((List.length a0_0):Nat):Int))) 0))*1117))))+(IntKind.wrap .i64 ((IntKind.wrap .i64 ((IntKind.wrap .i64 (a0_1+1))-1))*29))))+(IntKind.wrap .i64 ((IntKind.wrap .i64 (Int.tdiv (IntKind.wrap .i64 ((IntKind.wrap .i64 (a0_1+1))-1)) (((List.length a0_0):Nat):Int)))*53)))) 64))))):Nat):Int)%((2:Int)^(IntKind.bits .i64)))≥((2:Int)^((IntKind.bits .i64)-1))))) true)) a1),(a0_0,(IntKind.wrap .i64 (a0_1+1))),())
       else
        none
     else
      none
def A19:FnM:=⟨[.bx kR,.v i6],true,[.int .i64],none,fun x=>yb5 x.1 x.2.1⟩
theorem zn9:y5t prog 19 A19:=fm (L:=L0) (by kernel_rfl) func19 yh3 ya0
def kj3:List Fm:=.cell (.val .str)::.cell (.val (.int .u8))::d::d::d::.cell (.own .str 100500 false)::.cell (.val i6)::.cell (.val i6)::D 28 []
def kj4:List (Ex×List Fm):=[(.exit 0,(D 5 (.cell (.own .str 100500 false)::D 30 [])))]
def ym8:(ByteArray×Int×(List ByteArray)×Int×Int×Unit)→Option ((ByteArray×Int×(List ByteArray)×Int×Int×Unit)⊕(((List ByteArray)×Unit))):=fun(v0,v1,v5,v6,v7,_)=>
 bif (decide (v7≤(((ByteArray.size v0):Nat):Int))) then
  bif (v7==(((ByteArray.size v0):Nat):Int)) then
   if(((0:Int)≤v6)∧((v6≤v7)∧(v7≤(((ByteArray.size v0):Nat):Int)))) then
    if(((0+(List.length v5))=(List.length v5))∧((((List.length v5)+(List.length (List.take 1 (List.drop 0 [(ByteArray.extract v0 (Int.toNat v6) (Int.toNat v7))]))))*16)≤140737488355328)) then
     some (Sum.inl (v0,v1,(List.take ((List.length v5)+(List.length (List.take 1 (List.drop 0 [(ByteArray.extract v0 (Int.toNat v6) (Int.toNat v7))])))) (List.drop 0 ((List.drop 0 v5)++(List.take 1 (List.drop 0 [(ByteArray.extract v0 (Int.toNat v6) (Int.toNat v7))]))))),(IntKind.wrap .i64 (v7+1)),(IntKind.wrap .i64 (v7+1)),()))
    else
     none
   else
    none
  else
   if(((0:Int)≤v7)∧(v7<(((ByteArray.size v0):Nat):Int))) then
    bif ((((UInt8.toNat (Array.getD (ByteArray.data v0) (Int.toNat v7) (0:UInt8))):Nat):Int)==v1) then
     if(((0:Int)≤v6)∧((v6≤v7)∧(v7≤(((ByteArray.size v0):Nat):Int)))) then
      if(((0+(List.length v5))=(List.length v5))∧((((List.length v5)+(List.length (List.take 1 (List.drop 0 [(ByteArray.extract v0 (Int.toNat v6) (Int.toNat v7))]))))*16)≤140737488355328)) then
       some (Sum.inl (v0,v1,(List.take ((List.length v5)+(List.length (List.take 1 (List.drop 0 [(ByteArray.extract v0 (Int.toNat v6) (Int.toNat v7))])))) (List.drop 0 ((List.drop 0 v5)++(List.take 1 (List.drop 0 [(ByteArray.extract v0 (Int.toNat v6) (Int.toNat v7))]))))),(IntKind.wrap .i64 (v7+1)),(IntKind.wrap .i64 (v7+1)),()))
      else
       none
     else
      none
    else
     some (Sum.inl (v0,v1,(List.take (List.length v5) (List.drop 0 v5)),v6,(IntKind.wrap .i64 (v7+1)),()))
   else
    none
 else
  some (Sum.inr ((List.take (List.length v5) (List.drop 0 v5)),()))
theorem kj5{L}(h:L 4=some ⟨36,kj3,kj4,ym8⟩):yb7 prog L (ya9 f254 4):=lo (L':=L0) (by kernel_rfl) yh3 ya0 h
def L254_1:Nat→Option LoopD:=fun n=>ifEq n 4 (some ⟨36,kj3,kj4,ym8⟩) (L0 n)
def yu9:ByteArray→Int→Option ((List ByteArray)):=fun a0 a1=>
 Option.bind (ya2 ym8 (a0,a1,(List.take 0 (List.drop 0 [])),0,0,())) fun(r0,_)=>
  some (List.take (List.length r0) (List.drop 0 r0))
def A254:FnA:=⟨[.v .str,.v (.int .u8)],true,[.sl .str],fun x=>yu9 x.1 x.2.1⟩
theorem kj6:FnOk prog 254 A254:=fo (L:=L254_1) (by kernel_rfl) func254 yh3 (ya8 (kj5 rfl) ya0)
def kj7:List Fm:=.cell (.val .str)::d::d::d::.cell (.val .bool)::.cell (.val i6)::.cell (.val i6)::D 60 []
def kj8:List (Ex×List Fm):=[(.ret,(d::d::.cell (.val i6)::.cell (.val .bool)::D 63 [])),(.exit 0,(D 4 (.cell (.val .bool)::.cell (.val i6)::D 61 [])))]
def ye0:(ByteArray×Bool×Int×Int×Unit)→Option ((ByteArray×Bool×Int×Int×Unit)⊕((Int×Bool×Unit)⊕(Bool×Int×Unit))):=fun(v0,v4,v5,v6,_)=>
 bif (decide (v6<(((ByteArray.size v0):Nat):Int))) then
  if(((0:Int)≤v6)∧(v6<(((ByteArray.size v0):Nat):Int))) then
   bif (decide ((((UInt8.toNat (Array.getD (ByteArray.data v0) (Int.toNat v6) (0:UInt8))):Nat):Int)<48)) then
    some (Sum.inr (Sum.inl ((0:Int),false,())))
   else
    if(((0:Int)≤v6)∧(v6<(((ByteArray.size v0):Nat):Int))) then
     bif (decide ((((UInt8.toNat (Array.getD (ByteArray.data v0) (Int.toNat v6) (0:UInt8))):Nat):Int)>57)) then
      some (Sum.inr (Sum.inl ((0:Int),false,())))
     else
      if(((0:Int)≤v6)∧(v6<(((ByteArray.size v0):Nat):Int))) then
       some (Sum.inl (v0,v4,(IntKind.wrap .i64 ((IntKind.wrap .i64 (v5*10))+(IntKind.wrap .i64 (IntKind.wrap .u8 ((((UInt8.toNat (Array.getD (ByteArray.data v0) (Int.toNat v6) (0:UInt8))):Nat):Int)-48))))),(IntKind.wrap .i64 (v6+1)),()))
      else
       none
    else
     none
  else
   none
 else
  some (Sum.inr (Sum.inr (v4,v5,())))
theorem kj9{L}(h:L 8=some ⟨67,kj7,kj8,ye0⟩):yb7 prog L (ya9 f255 8):=lo (L':=L0) (by kernel_rfl) yh3 ya0 h
def L255_1:Nat→Option LoopD:=fun n=>ifEq n 8 (some ⟨67,kj7,kj8,ye0⟩) (L0 n)
def yv0:ByteArray→Option (Int×Bool):=fun a0=>
 bif (decide ((((ByteArray.size a0):Nat):Int)>0)) then
  if(((0:Int)≤0)∧((0:Int)<(((ByteArray.size a0):Nat):Int))) then
   bif ((((UInt8.toNat (Array.getD (ByteArray.data a0) (Int.toNat 0) (0:UInt8))):Nat):Int)==45) then
    if(((0:Int)≤1)∧((1:Int)≤(((ByteArray.size a0):Nat):Int))) then
     bif ((((ByteArray.size (ByteArray.extract a0 (Int.toNat 1) (ByteArray.size a0))):Nat):Int)==0) then
      some ((0:Int),false)
     else
      bif (decide ((((ByteArray.size (ByteArray.extract a0 (Int.toNat 1) (ByteArray.size a0))):Nat):Int)>17)) then
       some ((0:Int),false)
      else
       if(((0:Int)≤0)∧((0:Int)<(((ByteArray.size (ByteArray.extract a0 (Int.toNat 1) (ByteArray.size a0))):Nat):Int))) then
        bif ((((UInt8.toNat (Array.getD (ByteArray.data (ByteArray.extract a0 (Int.toNat 1) (ByteArray.size a0))) (Int.toNat 0) (0:UInt8))):Nat):Int)==48) then
         bif (decide ((((ByteArray.size (ByteArray.extract a0 (Int.toNat 1) (ByteArray.size a0))):Nat):Int)>1)) then
          some ((0:Int),false)
         else
          bif ((((UInt8.toNat (Array.getD (ByteArray.data a0) (Int.toNat 0) (0:UInt8))):Nat):Int)==45) then
           some ((0:Int),false)
          else
           Option.bind (ya2 ye0 ((ByteArray.extract a0 (Int.toNat 1) (ByteArray.size a0)),((((UInt8.toNat (Array.getD (ByteArray.data a0) (Int.toNat 0) (0:UInt8))):Nat):Int)==45),0,0,())) fun r0=>
            (match r0 with
            |.inl (d1,d2,_)=>
              some (d1,d2)
            |.inr (d3,d4,_)=>
              bif d3 then
               some ((IntKind.wrap .i64 ((0:Int)-d4)),true)
              else
               some (d4,true))
        else
         Option.bind (ya2 ye0 ((ByteArray.extract a0 (Int.toNat 1) (ByteArray.size a0)),((((UInt8.toNat (Array.getD (ByteArray.data a0) (Int.toNat 0) (0:UInt8))):Nat):Int)==45),0,0,())) fun r5=>
          (match r5 with
          |.inl (d6,d7,_)=>
            some (d6,d7)
          |.inr (d8,d9,_)=>
            bif d8 then
             some ((IntKind.wrap .i64 ((0:Int)-d9)),true)
            else
             some (d9,true))
       else
        none
    else
     none
   else
    bif ((((ByteArray.size a0):Nat):Int)==0) then
     some ((0:Int),false)
    else
     bif (decide ((((ByteArray.size a0):Nat):Int)>17)) then
      some ((0:Int),false)
     else
      if(((0:Int)≤0)∧((0:Int)<(((ByteArray.size a0):Nat):Int))) then
       bif ((((UInt8.toNat (Array.getD (ByteArray.data a0) (Int.toNat 0) (0:UInt8))):Nat):Int)==48) then
        bif (decide ((((ByteArray.size a0):Nat):Int)>1)) then
         some ((0:Int),false)
        else
         bif ((((UInt8.toNat (Array.getD (ByteArray.data a0) (Int.toNat 0) (0:UInt8))):Nat):Int)==45) then
          some ((0:Int),false)
         else
          Option.bind (ya2 ye0 (a0,((((UInt8.toNat (Array.getD (ByteArray.data a0) (Int.toNat 0) (0:UInt8))):Nat):Int)==45),0,0,())) fun r10=>
           (match r10 with
           |.inl (d11,d12,_)=>
             some (d11,d12)
           |.inr (d13,d14,_)=>
             bif d13 then
              some ((IntKind.wrap .i64 ((0:Int)-d14)),true)
             else
              some (d14,true))
       else
        Option.bind (ya2 ye0 (a0,((((UInt8.toNat (Array.getD (ByteArray.data a0) (Int.toNat 0) (0:UInt8))):Nat):Int)==45),0,0,())) fun r15=>
         (match r15 with
         |.inl (d16,d17,_)=>
           some (d16,d17)
         |.inr (d18,d19,_)=>
           bif d18 then
            some ((IntKind.wrap .i64 ((0:Int)-d19)),true)
           else
            some (d19,true))
      else
       none
  else
   none
 else
  bif ((((ByteArray.size a0):Nat):Int)==0) then
   some ((0:Int),false)
  else
   bif (decide ((((ByteArray.size a0):Nat):Int)>17)) then
    some ((0:Int),false)
   else
    if(((0:Int)≤0)∧((0:Int)<(((ByteArray.size a0):Nat):Int))) then
     bif ((((UInt8.toNat (Array.getD (ByteArray.data a0) (Int.toNat 0) (0:UInt8))):Nat):Int)==48) then
      bif (decide ((((ByteArray.size a0):Nat):Int)>1)) then
       some ((0:Int),false)
      else
       Option.bind (ya2 ye0 (a0,false,0,0,())) fun r20=>
        (match r20 with
        |.inl (d21,d22,_)=>
          some (d21,d22)
        |.inr (d23,d24,_)=>
          bif d23 then
           some ((IntKind.wrap .i64 ((0:Int)-d24)),true)
          else
           some (d24,true))
     else
      Option.bind (ya2 ye0 (a0,false,0,0,())) fun r25=>
       (match r25 with
       |.inl (d26,d27,_)=>
         some (d26,d27)
       |.inr (d28,d29,_)=>
         bif d28 then
          some ((IntKind.wrap .i64 ((0:Int)-d29)),true)
         else
          some (d29,true))
    else
     none
def A255:FnA:=⟨[.v .str],true,[.int .i64,.bool],fun x=>yv0 x.1⟩
theorem kk0:FnOk prog 255 A255:=fo (L:=L255_1) (by kernel_rfl) func255 yh3 (ya8 (kj9 rfl) ya0)
def E256:Env:=ev fun g=>ifEq g 254 (some A254) (ifEq g 255 (some A255) (none))
theorem kk1:FnsOk prog E256:=(oF kj6 func254 (oF kk0 func255 (yc7 _ _)))
def kk2:List Fm:=D 4 (.cell (.own i6 100400 false)::D 9 (.cell (.own .str 101400 false)::.cell (.val i6)::.cell (.val i6)::D 17 []))
def kk3:List (Ex×List Fm):=[(.ret,(d::d::.cell (.own i6 100200 false)::.cell (.val .bool)::D 30 [])),(.exit 0,(D 4 (.cell (.own i6 100400 false)::D 29 [])))]
def yp8:(LI×(List ByteArray)×Int×Int×Unit)→Option ((LI×(List ByteArray)×Int×Int×Unit)⊕((LI×Bool×Unit)⊕(LI×Unit))):=fun(v4,v14,v15,v16,_)=>
 bif (decide (v16<v15)) then
  if(((0:Int)≤v16)∧(v16<(((List.length v14):Nat):Int))) then
   Option.bind (yv0 (List.getD v14 (0+(Int.toNat v16)) ⟨Array.empty⟩)) fun(r0,r1)=>
    bif (!r1) then
     some (Sum.inr (Sum.inl ((List.take 0 (List.drop 0 [])),false,())))
    else
     if(((0+(List.length v4))=(List.length v4))∧((((List.length v4)+(List.length (List.take 1 (List.drop 0 [r0]))))*8)≤140737488355328)) then
      some (Sum.inl ((List.take ((List.length v4)+(List.length (List.take 1 (List.drop 0 [r0])))) (List.drop 0 ((List.drop 0 v4)++(List.take 1 (List.drop 0 [r0]))))),(List.take (List.length v14) (List.drop 0 v14)),v15,(IntKind.wrap .i64 (v16+1)),()))
     else
      none
  else
   none
 else
  some (Sum.inr (Sum.inr ((List.take (List.length v4) (List.drop 0 v4)),())))
theorem kk4{L}(h:L 5=some ⟨34,kk2,kk3,yp8⟩):yb7 prog L (ya9 f256 5):=lo (L':=L0) (by kernel_rfl) kk1 ya0 h
def L256_1:Nat→Option LoopD:=fun n=>ifEq n 5 (some ⟨34,kk2,kk3,yp8⟩) (L0 n)
def y2x:ByteArray→Option (LI×Bool):=fun a0=>
 bif ((ByteArray.toList a0)==(ByteArray.toList (⟨#[]⟩:ByteArray))) then
  some ((List.take 0 (List.drop 0 [])),true)
 else
  Option.bind (yu9 a0 32) fun r0=>
   Option.bind (ya2 yp8 ((List.take 0 (List.drop 0 [])),(List.take (List.length r0) (List.drop 0 r0)),(((List.length r0):Nat):Int),0,())) fun r1=>
    (match r1 with
    |.inl (d2,d3,_)=>
      some ((List.take (List.length d2) (List.drop 0 d2)),d3)
    |.inr (d4,_)=>
      some ((List.take (List.length d4) (List.drop 0 d4)),true))
def A256:FnA:=⟨[.v .str],true,[.sl i6,.bool],fun x=>y2x x.1⟩
theorem A256_ok:FnOk prog 256 A256:=fo (L:=L256_1) (by kernel_rfl) func256 kk1 (ya8 (kk4 rfl) ya0)
def y1f:Int→Int→Int→Option (Bool):=fun a0 a1 a2=>
 bif (decide (a0≥a1)) then
  some (decide (a0≤a2))
 else
  some false
def A63:FnA:=⟨[.v i6,.v i6,.v i6],true,[.bool],fun x=>y1f x.1 x.2.1 x.2.2.1⟩
theorem kk5:FnOk prog 63 A63:=fo (L:=L0) (by kernel_rfl) func63 yh3 ya0
def E64:Env:=ev fun g=>ifEq g 63 (some A63) (none)
theorem E64_ok:FnsOk prog E64:=(oF kk5 func63 (yc7 _ _))
def sh64_2:List Fm:=.cell (.val i6)::.cell (.val sI)::D 5 (.cell (.val sI)::.cell (.val i6)::.cell (.val i6)::D 23 [])
def xs64_2:List (Ex×List Fm):=[(.ret,(D 4 (.cell (.val .bool)::D 28 []))),(.exit 0,(D 33 []))]
def yq6:(Int×LI×LI×Int×Int×Unit)→Option ((Int×LI×LI×Int×Int×Unit)⊕((Bool×Unit)⊕(Unit))):=fun(v0,v1,v7,v8,v9,_)=>
 bif (decide (v9<v8)) then
  if(((0:Int)≤v9)∧(v9<(((List.length v7):Nat):Int))) then
   Option.bind (y1f (List.getD v7 (Int.toNat v9) 0) 0 (IntKind.wrap .i64 (v0-1))) fun r0=>
    bif (!r0) then
     some (Sum.inr (Sum.inl (false,())))
    else
     bif (decide (v9>0)) then
      if(((0:Int)≤(IntKind.wrap .i64 (v9-1)))∧((IntKind.wrap .i64 (v9-1))<(((List.length v1):Nat):Int))) then
       bif (decide ((List.getD v1 (Int.toNat (IntKind.wrap .i64 (v9-1))) 0)≥(List.getD v7 (Int.toNat v9) 0))) then
        some (Sum.inr (Sum.inl (false,())))
       else
        some (Sum.inl (v0,v1,v7,v8,(IntKind.wrap .i64 (v9+1)),()))
      else
       none
     else
      some (Sum.inl (v0,v1,v7,v8,(IntKind.wrap .i64 (v9+1)),()))
  else
   none
 else
  some (Sum.inr (Sum.inr ()))
theorem k0o{L}(h:L 2=some ⟨33,sh64_2,xs64_2,yq6⟩):yb7 prog L (ya9 f64 2):=lo (L':=L0) (by kernel_rfl) E64_ok ya0 h
def L64_1:Nat→Option LoopD:=fun n=>ifEq n 2 (some ⟨33,sh64_2,xs64_2,yq6⟩) (L0 n)
def y1g:Int→LI→Option (Bool):=fun a0 a1=>
 Option.bind (ya2 yq6 (a0,a1,a1,(((List.length a1):Nat):Int),0,())) fun r0=>
  (match r0 with
  |.inl (d1,_)=>
    some d1
  |.inr _=>
    some true)
def A64:FnA:=⟨[.v i6,.v sI],true,[.bool],fun x=>y1g x.1 x.2.1⟩
theorem A64_ok:FnOk prog 64 A64:=fo (L:=L64_1) (by kernel_rfl) func64 E64_ok (ya8 (k0o rfl) ya0)
def E65:Env:=ev fun g=>ifEq g 63 (some A63) (none)
theorem E65_ok:FnsOk prog E65:=(oF kk5 func63 (yc7 _ _))
def y5a:Int→TS→Option (Bool):=fun a0 (a1_0,a1_1,a1_2,a1_3)=>
 Option.bind (y1f a1_0 0 (IntKind.wrap .i64 (a0-1))) fun r0=>
  bif r0 then
   Option.bind (y1f a1_2 0 (IntKind.wrap .i64 (a0-1))) fun r1=>
    bif r1 then
     Option.bind (y1f a1_3 0 3) fun r2=>
      bif r2 then
       bif ((ByteArray.toList a1_1)==(ByteArray.toList (⟨#[(97:UInt8)]⟩:ByteArray))) then
        some true
       else
        some ((ByteArray.toList a1_1)==(ByteArray.toList (⟨#[(98:UInt8)]⟩:ByteArray)))
      else
       some false
    else
     some false
  else
   some false
def A65:FnA:=⟨[.v i6,.v kS],true,[.bool],fun x=>y5a x.1 x.2.1⟩
theorem A65_ok:FnOk prog 65 A65:=fo (L:=L0) (by kernel_rfl) func65 E65_ok ya0
def yw6:TS→TS→Option (Bool):=fun(a0_0,a0_1,a0_2,a0_3) (a1_0,a1_1,a1_2,a1_3)=>
 bif (a0_0 != a1_0) then
  some (decide (a0_0<a1_0))
 else
  bif (!((ByteArray.toList a0_1)==(ByteArray.toList a1_1))) then
   some (Op.bytesLess (ByteArray.toList a0_1) (ByteArray.toList a1_1))
  else
   some (decide (a0_2<a1_2))
def A66:FnA:=⟨[.v kS,.v kS],true,[.bool],fun x=>yw6 x.1 x.2.1⟩
theorem A66_ok:FnOk prog 66 A66:=fo (L:=L0) (by kernel_rfl) func66 yh3 ya0
def E27:Env:=ev fun g=>ifEq g 63 (some A63) (ifEq g 64 (some A64) (ifEq g 65 (some A65) (ifEq g 66 (some A66) (none))))
theorem E27_ok:FnsOk prog E27:=(oF kk5 func63 (oF A64_ok func64 (oF A65_ok func65 (oF A66_ok func66 (yc7 _ _)))))
def sh27_4:List Fm:=d::.box 100100 [.val i6,.val sI,.val sI,.val sS]::D 30 (.cell (.val sS)::.cell (.val i6)::.cell (.val i6)::D 25 [])
def xs27_4:List (Ex×List Fm):=[(.ret,(d::d::.cell (.val .bool)::D 57 [])),(.exit 0,(D 60 []))]
def yh4:((Int×LI×LI×LS×Unit)×LS×Int×Int×Unit)→Option (((Int×LI×LI×LS×Unit)×LS×Int×Int×Unit)⊕((Bool×Unit)⊕(Unit))):=fun((v1_0,v1_1,v1_2,v1_3,_),v32,v33,v34,_)=>
 bif (decide (v34<v33)) then
  if(((0:Int)≤v34)∧(v34<(((List.length v32):Nat):Int))) then
   Option.bind (y5a v1_0 ((List.getD v32 (Int.toNat v34) ((0:Int),⟨Array.empty⟩,0,0)).1,(List.getD v32 (Int.toNat v34) ((0:Int),⟨Array.empty⟩,0,0)).2.1,(List.getD v32 (Int.toNat v34) ((0:Int),⟨Array.empty⟩,0,0)).2.2.1,(List.getD v32 (Int.toNat v34) ((0:Int),⟨Array.empty⟩,0,0)).2.2.2)) fun r0=>
    bif (!r0) then
     some (Sum.inr (Sum.inl (false,())))
    else
     bif (decide (v34>0)) then
      if(((0:Int)≤(IntKind.wrap .i64 (v34-1)))∧((IntKind.wrap .i64 (v34-1))<(((List.length v1_3):Nat):Int))) then
       Option.bind (yw6 (List.getD v1_3 (Int.toNat (IntKind.wrap .i64 (v34-1))) ((0:Int),⟨Array.empty⟩,0,0)) ((List.getD v32 (Int.toNat v34) ((0:Int),⟨Array.empty⟩,0,0)).1,(List.getD v32 (Int.toNat v34) ((0:Int),⟨Array.empty⟩,0,0)).2.1,(List.getD v32 (Int.toNat v34) ((0:Int),⟨Array.empty⟩,0,0)).2.2.1,(List.getD v32 (Int.toNat v34) ((0:Int),⟨Array.empty⟩,0,0)).2.2.2)) fun r1=>
        bif (!r1) then
         some (Sum.inr (Sum.inl (false,())))
        else
         some (Sum.inl ((v1_0,v1_1,v1_2,v1_3,()),v32,v33,(IntKind.wrap .i64 (v34+1)),()))
      else
       none
     else
      some (Sum.inl ((v1_0,v1_1,v1_2,v1_3,()),v32,v33,(IntKind.wrap .i64 (v34+1)),()))
  else
   none
 else
  some (Sum.inr (Sum.inr ()))
theorem k0p{L}(h:L 4=some ⟨60,sh27_4,xs27_4,yh4⟩):yb7 prog L (ya9 f27 4):=lo (L':=L0) (by kernel_rfl) E27_ok ya0 h
def L27_1:Nat→Option LoopD:=fun n=>ifEq n 4 (some ⟨60,sh27_4,xs27_4,yh4⟩) (L0 n)
def yd0:TA→Option (Bool):=fun(a0_0,a0_1,a0_2,a0_3)=>
 Option.bind (y1f a0_0 1 4) fun r0=>
  bif (!r0) then
   some false
  else
   Option.bind (y1g a0_0 a0_1) fun r1=>
    bif (!r1) then
     some false
    else
     Option.bind (y1g a0_0 a0_2) fun r2=>
      bif (!r2) then
       some false
      else
       bif (decide ((((List.length a0_3):Nat):Int)>24)) then
        some false
       else
        Option.bind (ya2 yh4 ((a0_0,a0_1,a0_2,a0_3,()),a0_3,(((List.length a0_3):Nat):Int),0,())) fun r3=>
         (match r3 with
         |.inl (d4,_)=>
           some d4
         |.inr _=>
           some true)
def A27:FnA:=⟨[.v kA],true,[.bool],fun x=>yd0 x.1⟩
theorem kk6:FnOk prog 27 A27:=fo (L:=L27_1) (by kernel_rfl) func27 E27_ok (ya8 (k0p rfl) ya0)
def E200:Env:=ev fun g=>ifEq g 254 (some A254) (ifEq g 255 (some A255) (ifEq g 256 (some A256) (ifEq g 27 (some A27) (none))))
theorem kk7:FnsOk prog E200:=(oF kj6 func254 (oF kk0 func255 (oF A256_ok func256 (oF kk6 func27 (yc7 _ _)))))
def z7t:List Fm:=d::d::.box 100200 [.val i6,.own i6 100202 false,.own i6 100203 false,.own kS 100204 false]::D 8 (.box 101100 [.val i6,.own i6 101102 false,.own i6 101103 false,.own kS 101104 false]::.cell (.val .bool)::D 54 (.cell (.own .str 106700 false)::.cell (.val i6)::.cell (.val i6)::D 61 []))
def z7u:List (Ex×List Fm):=[(.ret,[d,d,.box 100200 [.val i6,.own i6 100202 false,.own i6 100203 false,.own kS 100204 false],.cell (.val .bool),d,d,d,d,d,d,d,d,d,d,d,d,d,d,d,d,d,d,d,d,d,d,d,d,d,d,d,d,d,d,d,d,d,d,d,d,d,d,d,d,d,d,d,d,d,d,d,d,d,d,d,d,d,d,d,d,d,d,d,d,d,d,d,d,d,d,d,d,d,d,d,d,d,d,d,d,d,d,d,d,d,d,d,d,d,d,d,d,d,d,d,d,d,d,d,d,d,d,d,d,d,d,d,d,d,d,d,d,d,d,d,d,d,d,d,d,d,d,d,d,d,d,d,d,d,d,d]),(.exit 0,[d,d,.box 100200 [.val i6,.own i6 100202 false,.own i6 100203 false,.own kS 100204 false],d,d,d,d,d,d,d,d,.box 101100 [.val i6,.own i6 101102 false,.own i6 101103 false,.own kS 101104 false],.cell (.val .bool),d,d,d,d,d,d,d,d,d,d,d,d,d,d,d,d,d,d,d,d,d,d,d,d,d,d,d,d,d,d,d,d,d,d,d,d,d,d,d,d,d,d,d,d,d,d,d,d,d,d,d,d,d,d,d,d,d,d,d,d,d,d,d,d,d,d,d,d,d,d,d,d,d,d,d,d,d,d,d,d,d,d,d,d,d,d,d,d,d,d,d,d,d,d,d,d,d,d,d,d,d,d,d,d,d,d,d,d,d,d,d,d,d,d,d,d,d,d])]
def yc0:((Int×LI×LI×LS×Unit)×(Int×LI×LI×LS×Unit)×Bool×(List ByteArray)×Int×Int×Unit)→Option (((Int×LI×LI×LS×Unit)×(Int×LI×LI×LS×Unit)×Bool×(List ByteArray)×Int×Int×Unit)⊕(((Int×LI×LI×LS×Unit)×Bool×Unit)⊕((Int×LI×LI×LS×Unit)×(Int×LI×LI×LS×Unit)×Bool×Unit))):=fun((v2_0,v2_1,v2_2,v2_3,_),(v11_0,v11_1,v11_2,v11_3,_),v12,v67,v68,v69,_)=>
 bif (decide (v69<v68)) then
  if(((0:Int)≤v69)∧(v69<(((List.length v67):Nat):Int))) then
   bif ((((ByteArray.size (List.getD v67 (0+(Int.toNat v69)) ⟨Array.empty⟩)):Nat):Int) != 5) then
    some (Sum.inr (Sum.inl (((0:Int),[],[],[],()),false,())))
   else
    if(((0:Int)≤3)∧((3:Int)<(((ByteArray.size (List.getD v67 (0+(Int.toNat v69)) ⟨Array.empty⟩)):Nat):Int))) then
     bif ((((UInt8.toNat (Array.getD (ByteArray.data (List.getD v67 (0+(Int.toNat v69)) ⟨Array.empty⟩)) (Int.toNat 3) (0:UInt8))):Nat):Int) != 58) then
      some (Sum.inr (Sum.inl (((0:Int),[],[],[],()),false,())))
     else
      if(((0:Int)≤1)∧((1:Int)≤(((ByteArray.size (List.getD v67 (0+(Int.toNat v69)) ⟨Array.empty⟩)):Nat):Int))) then
       Option.bind (yv0 (ByteArray.extract (List.getD v67 (0+(Int.toNat v69)) ⟨Array.empty⟩) 0 (Int.toNat 1))) fun(r0,r1)=>
        if(((0:Int)≤2)∧(((2:Int)≤3)∧((3:Int)≤(((ByteArray.size (List.getD v67 (0+(Int.toNat v69)) ⟨Array.empty⟩)):Nat):Int)))) then
         Option.bind (yv0 (ByteArray.extract (List.getD v67 (0+(Int.toNat v69)) ⟨Array.empty⟩) (Int.toNat 2) (Int.toNat 3))) fun(r2,r3)=>
          if(((0:Int)≤4)∧((4:Int)≤(((ByteArray.size (List.getD v67 (0+(Int.toNat v69)) ⟨Array.empty⟩)):Nat):Int))) then
           Option.bind (yv0 (ByteArray.extract (List.getD v67 (0+(Int.toNat v69)) ⟨Array.empty⟩) (Int.toNat 4) (ByteArray.size (List.getD v67 (0+(Int.toNat v69)) ⟨Array.empty⟩)))) fun(r4,r5)=>
            bif v12 then
             bif r1 then
              bif r3 then
               if(((0:Int)≤1)∧(((1:Int)≤2)∧((2:Int)≤(((ByteArray.size (List.getD v67 (0+(Int.toNat v69)) ⟨Array.empty⟩)):Nat):Int)))) then
                if(((0+(List.length v11_3))=(List.length v11_3))∧((((List.length v11_3)+(List.length (List.take 1 (List.drop 0 [(r0,(ByteArray.extract (List.getD v67 (0+(Int.toNat v69)) (⟨Array.empty⟩:ByteArray)) (Int.toNat (1:Int)) (Int.toNat (2:Int))),r2,r4)]))))*40)≤140737488355328)) then
                 some (Sum.inl ((v2_0,(List.take (List.length v2_1) (List.drop 0 v2_1)),(List.take (List.length v2_2) (List.drop 0 v2_2)),(List.take (List.length v2_3) (List.drop 0 v2_3)),()),(v11_0,(List.take (List.length v11_1) (List.drop 0 v11_1)),(List.take (List.length v11_2) (List.drop 0 v11_2)),(List.take ((List.length v11_3)+(List.length (List.take 1 (List.drop 0 [(r0,(ByteArray.extract (List.getD v67 (0+(Int.toNat v69)) (⟨Array.empty⟩:ByteArray)) (Int.toNat (1:Int)) (Int.toNat (2:Int))),r2,r4)])))) (List.drop 0 ((List.drop 0 v11_3)++(List.take 1 (List.drop 0 [(r0,(ByteArray.extract (List.getD v67 (0+(Int.toNat v69)) (⟨Array.empty⟩:ByteArray)) (Int.toNat (1:Int)) (Int.toNat (2:Int))),r2,r4)]))))),()),r5,(List.take (List.length v67) (List.drop 0 v67)),v68,(IntKind.wrap .i64 (v69+1)),()))
                else
                 none
               else
                none
              else
               if(((0:Int)≤1)∧(((1:Int)≤2)∧((2:Int)≤(((ByteArray.size (List.getD v67 (0+(Int.toNat v69)) ⟨Array.empty⟩)):Nat):Int)))) then
                if(((0+(List.length v11_3))=(List.length v11_3))∧((((List.length v11_3)+(List.length (List.take 1 (List.drop 0 [(r0,(ByteArray.extract (List.getD v67 (0+(Int.toNat v69)) (⟨Array.empty⟩:ByteArray)) (Int.toNat (1:Int)) (Int.toNat (2:Int))),r2,r4)]))))*40)≤140737488355328)) then
                 some (Sum.inl ((v2_0,(List.take (List.length v2_1) (List.drop 0 v2_1)),(List.take (List.length v2_2) (List.drop 0 v2_2)),(List.take (List.length v2_3) (List.drop 0 v2_3)),()),(v11_0,(List.take (List.length v11_1) (List.drop 0 v11_1)),(List.take (List.length v11_2) (List.drop 0 v11_2)),(List.take ((List.length v11_3)+(List.length (List.take 1 (List.drop 0 [(r0,(ByteArray.extract (List.getD v67 (0+(Int.toNat v69)) (⟨Array.empty⟩:ByteArray)) (Int.toNat (1:Int)) (Int.toNat (2:Int))),r2,r4)])))) (List.drop 0 ((List.drop 0 v11_3)++(List.take 1 (List.drop 0 [(r0,(ByteArray.extract (List.getD v67 (0+(Int.toNat v69)) (⟨Array.empty⟩:ByteArray)) (Int.toNat (1:Int)) (Int.toNat (2:Int))),r2,r4)]))))),()),false,(List.take (List.length v67) (List.drop 0 v67)),v68,(IntKind.wrap .i64 (v69+1)),()))
                else
                 none
               else
                none
             else
              if(((0:Int)≤1)∧(((1:Int)≤2)∧((2:Int)≤(((ByteArray.size (List.getD v67 (0+(Int.toNat v69)) ⟨Array.empty⟩)):Nat):Int)))) then
               if(((0+(List.length v11_3))=(List.length v11_3))∧((((List.length v11_3)+(List.length (List.take 1 (List.drop 0 [(r0,(ByteArray.extract (List.getD v67 (0+(Int.toNat v69)) (⟨Array.empty⟩:ByteArray)) (Int.toNat (1:Int)) (Int.toNat (2:Int))),r2,r4)]))))*40)≤140737488355328)) then
                some (Sum.inl ((v2_0,(List.take (List.length v2_1) (List.drop 0 v2_1)),(List.take (List.length v2_2) (List.drop 0 v2_2)),(List.take (List.length v2_3) (List.drop 0 v2_3)),()),(v11_0,(List.take (List.length v11_1) (List.drop 0 v11_1)),(List.take (List.length v11_2) (List.drop 0 v11_2)),(List.take ((List.length v11_3)+(List.length (List.take 1 (List.drop 0 [(r0,(ByteArray.extract (List.getD v67 (0+(Int.toNat v69)) (⟨Array.empty⟩:ByteArray)) (Int.toNat (1:Int)) (Int.toNat (2:Int))),r2,r4)])))) (List.drop 0 ((List.drop 0 v11_3)++(List.take 1 (List.drop 0 [(r0,(ByteArray.extract (List.getD v67 (0+(Int.toNat v69)) (⟨Array.empty⟩:ByteArray)) (Int.toNat (1:Int)) (Int.toNat (2:Int))),r2,r4)]))))),()),false,(List.take (List.length v67) (List.drop 0 v67)),v68,(IntKind.wrap .i64 (v69+1)),()))
               else
                none
              else
               none
            else
             if(((0:Int)≤1)∧(((1:Int)≤2)∧((2:Int)≤(((ByteArray.size (List.getD v67 (0+(Int.toNat v69)) ⟨Array.empty⟩)):Nat):Int)))) then
              if(((0+(List.length v11_3))=(List.length v11_3))∧((((List.length v11_3)+(List.length (List.take 1 (List.drop 0 [(r0,(ByteArray.extract (List.getD v67 (0+(Int.toNat v69)) (⟨Array.empty⟩:ByteArray)) (Int.toNat (1:Int)) (Int.toNat (2:Int))),r2,r4)]))))*40)≤140737488355328)) then
               some (Sum.inl ((v2_0,(List.take (List.length v2_1) (List.drop 0 v2_1)),(List.take (List.length v2_2) (List.drop 0 v2_2)),(List.take (List.length v2_3) (List.drop 0 v2_3)),()),(v11_0,(List.take (List.length v11_1) (List.drop 0 v11_1)),(List.take (List.length v11_2) (List.drop 0 v11_2)),(List.take ((List.length v11_3)+(List.length (List.take 1 (List.drop 0 [(r0,(ByteArray.extract (List.getD v67 (0+(Int.toNat v69)) (⟨Array.empty⟩:ByteArray)) (Int.toNat (1:Int)) (Int.toNat (2:Int))),r2,r4)])))) (List.drop 0 ((List.drop 0 v11_3)++(List.take 1 (List.drop 0 [(r0,(ByteArray.extract (List.getD v67 (0+(Int.toNat v69)) (⟨Array.empty⟩:ByteArray)) (Int.toNat (1:Int)) (Int.toNat (2:Int))),r2,r4)]))))),()),false,(List.take (List.length v67) (List.drop 0 v67)),v68,(IntKind.wrap .i64 (v69+1)),()))
              else
               none
             else
              none
          else
           none
        else
         none
      else
       none
    else
     none
  else
   none
 else
  some (Sum.inr (Sum.inr ((v2_0,(List.take (List.length v2_1) (List.drop 0 v2_1)),(List.take (List.length v2_2) (List.drop 0 v2_2)),(List.take (List.length v2_3) (List.drop 0 v2_3)),()),(v11_0,(List.take (List.length v11_1) (List.drop 0 v11_1)),(List.take (List.length v11_2) (List.drop 0 v11_2)),(List.take (List.length v11_3) (List.drop 0 v11_3)),()),v12,())))
theorem z9p{L}(h:L 11=some ⟨131,z7t,z7u,yc0⟩):yb7 prog L (ya9 f200 11):=lo (L':=L0) (by kernel_rfl) kk7 ya0 h
def L200_1:Nat→Option LoopD:=fun n=>ifEq n 11 (some ⟨131,z7t,z7u,yc0⟩) (L0 n)
def yr3:ByteArray→Option (TA×Bool):=fun a0=>
 Option.bind (yu9 a0 59) fun r0=>
  bif ((((List.length r0):Nat):Int) != 4) then
   some (((0:Int),[],[],[]),false)
  else
   if(((0:Int)≤0)∧((0:Int)<(((List.length r0):Nat):Int))) then
    Option.bind (yv0 (List.getD r0 (0+(Int.toNat 0)) ⟨Array.empty⟩)) fun(r1,r2)=>
     if(((0:Int)≤1)∧((1:Int)<(((List.length r0):Nat):Int))) then
      Option.bind (y2x (List.getD r0 (0+(Int.toNat 1)) ⟨Array.empty⟩)) fun(r3,r4)=>
       if(((0:Int)≤2)∧((2:Int)<(((List.length r0):Nat):Int))) then
        Option.bind (y2x (List.getD r0 (0+(Int.toNat 2)) ⟨Array.empty⟩)) fun(r5,r6)=>
         bif r2 then
          bif r4 then
           if(((0:Int)≤3)∧((3:Int)<(((List.length r0):Nat):Int))) then
            bif (!((ByteArray.toList (List.getD r0 (0+(Int.toNat 3)) ⟨Array.empty⟩))==(ByteArray.toList (⟨#[]⟩:ByteArray)))) then
             if(((0:Int)≤3)∧((3:Int)<(((List.length r0):Nat):Int))) then
              Option.bind (yu9 (List.getD r0 (0+(Int.toNat 3)) ⟨Array.empty⟩) 32) fun r7=>
               Option.bind (ya2 yc0 (((0:Int),[],[],[],()),(r1,(List.take (List.length r3) (List.drop 0 r3)),(List.take (List.length r5) (List.drop 0 r5)),(List.take 0 (List.drop 0 [])),()),r6,(List.take (List.length r7) (List.drop 0 r7)),(((List.length r7):Nat):Int),0,())) fun r8=>
                (match r8 with
                |.inl ((d9,d10,d11,d12,_),d13,_)=>
                  some ((d9,(List.take (List.length d10) (List.drop 0 d10)),(List.take (List.length d11) (List.drop 0 d11)),(List.take (List.length d12) (List.drop 0 d12))),d13)
                |.inr ((d14,d15,d16,d17,_),(d18,d19,d20,d21,_),d22,_)=>
                  bif (!d22) then
                   some (((0:Int),[],[],[]),false)
                  else
                   Option.bind (yd0 (d18,(List.take (List.length d19) (List.drop 0 d19)),(List.take (List.length d20) (List.drop 0 d20)),(List.take (List.length d21) (List.drop 0 d21)))) fun r23=>
                    bif (!r23) then
                     some (((0:Int),[],[],[]),false)
                    else
                     some ((d18,(List.take (List.length d19) (List.drop 0 d19)),(List.take (List.length d20) (List.drop 0 d20)),(List.take (List.length d21) (List.drop 0 d21))),true))
             else
              none
            else
             bif (!r6) then
              some (((0:Int),[],[],[]),false)
             else
              Option.bind (yd0 (r1,(List.take (List.length r3) (List.drop 0 r3)),(List.take (List.length r5) (List.drop 0 r5)),(List.take 0 (List.drop 0 [])))) fun r24=>
               bif (!r24) then
                some (((0:Int),[],[],[]),false)
               else
                some ((r1,(List.take (List.length r3) (List.drop 0 r3)),(List.take (List.length r5) (List.drop 0 r5)),(List.take 0 (List.drop 0 []))),true)
           else
            none
          else
           if(((0:Int)≤3)∧((3:Int)<(((List.length r0):Nat):Int))) then
            bif (!((ByteArray.toList (List.getD r0 (0+(Int.toNat 3)) ⟨Array.empty⟩))==(ByteArray.toList (⟨#[]⟩:ByteArray)))) then
             if(((0:Int)≤3)∧((3:Int)<(((List.length r0):Nat):Int))) then
              Option.bind (yu9 (List.getD r0 (0+(Int.toNat 3)) ⟨Array.empty⟩) 32) fun r25=>
               Option.bind (ya2 yc0 (((0:Int),[],[],[],()),(r1,(List.take (List.length r3) (List.drop 0 r3)),(List.take (List.length r5) (List.drop 0 r5)),(List.take 0 (List.drop 0 [])),()),false,(List.take (List.length r25) (List.drop 0 r25)),(((List.length r25):Nat):Int),0,())) fun r26=>
                (match r26 with
                |.inl ((d27,d28,d29,d30,_),d31,_)=>
                  some ((d27,(List.take (List.length d28) (List.drop 0 d28)),(List.take (List.length d29) (List.drop 0 d29)),(List.take (List.length d30) (List.drop 0 d30))),d31)
                |.inr ((d32,d33,d34,d35,_),(d36,d37,d38,d39,_),d40,_)=>
                  bif (!d40) then
                   some (((0:Int),[],[],[]),false)
                  else
                   Option.bind (yd0 (d36,(List.take (List.length d37) (List.drop 0 d37)),(List.take (List.length d38) (List.drop 0 d38)),(List.take (List.length d39) (List.drop 0 d39)))) fun r41=>
                    bif (!r41) then
                     some (((0:Int),[],[],[]),false)
                    else
                     some ((d36,(List.take (List.length d37) (List.drop 0 d37)),(List.take (List.length d38) (List.drop 0 d38)),(List.take (List.length d39) (List.drop 0 d39))),true))
             else
              none
            else
             some (((0:Int),[],[],[]),false)
           else
            none
         else
          if(((0:Int)≤3)∧((3:Int)<(((List.length r0):Nat):Int))) then
           bif (!((ByteArray.toList (List.getD r0 (0+(Int.toNat 3)) ⟨Array.empty⟩))==(ByteArray.toList (⟨#[]⟩:ByteArray)))) then
            if(((0:Int)≤3)∧((3:Int)<(((List.length r0):Nat):Int))) then
             Option.bind (yu9 (List.getD r0 (0+(Int.toNat 3)) ⟨Array.empty⟩) 32) fun r42=>
              Option.bind (ya2 yc0 (((0:Int),[],[],[],()),(r1,(List.take (List.length r3) (List.drop 0 r3)),(List.take (List.length r5) (List.drop 0 r5)),(List.take 0 (List.drop 0 [])),()),false,(List.take (List.length r42) (List.drop 0 r42)),(((List.length r42):Nat):Int),0,())) fun r43=>
               (match r43 with
               |.inl ((d44,d45,d46,d47,_),d48,_)=>
                 some ((d44,(List.take (List.length d45) (List.drop 0 d45)),(List.take (List.length d46) (List.drop 0 d46)),(List.take (List.length d47) (List.drop 0 d47))),d48)
               |.inr ((d49,d50,d51,d52,_),(d53,d54,d55,d56,_),d57,_)=>
                 bif (!d57) then
                  some (((0:Int),[],[],[]),false)
                 else
                  Option.bind (yd0 (d53,(List.take (List.length d54) (List.drop 0 d54)),(List.take (List.length d55) (List.drop 0 d55)),(List.take (List.length d56) (List.drop 0 d56)))) fun r58=>
                   bif (!r58) then
                    some (((0:Int),[],[],[]),false)
                   else
                    some ((d53,(List.take (List.length d54) (List.drop 0 d54)),(List.take (List.length d55) (List.drop 0 d55)),(List.take (List.length d56) (List.drop 0 d56))),true))
            else
             none
           else
            some (((0:Int),[],[],[]),false)
          else
           none
       else
        none
     else
      none
   else
    none
def A200:FnA:=⟨[.v .str],true,[.pair i6 (.pair sI (.pair sI sS)),.bool],fun x=>yr3 x.1⟩
theorem A200_ok:FnOk prog 200 A200:=fo (L:=L200_1) (by kernel_rfl) func200 kk7 (ya8 (z9p rfl) ya0)
def E133:Env:=ev fun g=>ifEq g 200 (some A200) (none)
theorem E133_ok:FnsOk prog E133:=(oF A200_ok func200 (yc7 _ _))
def y3f:Int→Option (TA):=fun a0=>
 if(((9:Nat):Int)=0) then
  none
 else
  if(((0:Int)≤(Int.tmod a0 ((9:Nat):Int)))∧((Int.tmod a0 ((9:Nat):Int))<((9:Nat):Int))) then
   Option.bind (yr3 (List.getD [(⟨#[(49:UInt8),(59:UInt8),(48:UInt8),(59:UInt8),(48:UInt8),(59:UInt8),(48:UInt8),(97:UInt8),(48:UInt8),(58:UInt8),(49:UInt8),(32:UInt8),(48:UInt8),(98:UInt8),(48:UInt8),(58:UInt8),(48:UInt8)]⟩:ByteArray),(⟨#[(50:UInt8),(59:UInt8),(48:UInt8),(59:UInt8),(49:UInt8),(59:UInt8),(48:UInt8),(97:UInt8),(48:UInt8),(58:UInt8),(48:UInt8),(32:UInt8),(48:UInt8),(97:UInt8),(49:UInt8),(58:UInt8),(49:UInt8),(32:UInt8),(49:UInt8),(98:UInt8),(49:UInt8),(58:UInt8),(48:UInt8)]⟩:ByteArray),(⟨#[(50:UInt8),(59:UInt8),(48:UInt8),(32:UInt8),(49:UInt8),(59:UInt8),(48:UInt8),(32:UInt8),(49:UInt8),(59:UInt8),(48:UInt8),(97:UInt8),(48:UInt8),(58:UInt8),(49:UInt8),(32:UInt8),(48:UInt8),(98:UInt8),(48:UInt8),(58:UInt8),(48:UInt8),(32:UInt8),(49:UInt8),(97:UInt8),(49:UInt8),(58:UInt8),(48:UInt8),(32:UInt8),(49:UInt8),(98:UInt8),(49:UInt8),(58:UInt8),(49:UInt8)]⟩:ByteArray),(⟨#[(51:UInt8),(59:UInt8),(48:UInt8),(59:UInt8),(48:UInt8),(32:UInt8),(50:UInt8),(59:UInt8),(48:UInt8),(97:UInt8),(48:UInt8),(58:UInt8),(48:UInt8),(32:UInt8),(48:UInt8),(97:UInt8),(49:UInt8),(58:UInt8),(48:UInt8),(32:UInt8),(48:UInt8),(98:UInt8),(48:UInt8),(58:UInt8),(49:UInt8),(32:UInt8),(49:UInt8),(97:UInt8),(49:UInt8),(58:UInt8),(49:UInt8),(32:UInt8),(49:UInt8),(98:UInt8),(50:UInt8),(58:UInt8),(48:UInt8),(32:UInt8),(50:UInt8),(97:UInt8),(50:UInt8),(58:UInt8),(48:UInt8),(32:UInt8),(50:UInt8),(98:UInt8),(50:UInt8),(58:UInt8),(48:UInt8)]⟩:ByteArray),(⟨#[(50:UInt8),(59:UInt8),(48:UInt8),(59:UInt8),(48:UInt8),(59:UInt8),(48:UInt8),(97:UInt8),(49:UInt8),(58:UInt8),(49:UInt8),(32:UInt8),(49:UInt8),(98:UInt8),(48:UInt8),(58:UInt8),(48:UInt8)]⟩:ByteArray),(⟨#[(51:UInt8),(59:UInt8),(48:UInt8),(59:UInt8),(50:UInt8),(59:UInt8),(48:UInt8),(97:UInt8),(48:UInt8),(58:UInt8),(48:UInt8),(32:UInt8),(48:UInt8),(98:UInt8),(48:UInt8),(58:UInt8),(48:UInt8),(32:UInt8),(48:UInt8),(98:UInt8),(49:UInt8),(58:UInt8),(48:UInt8),(32:UInt8),(49:UInt8),(97:UInt8),(49:UInt8),(58:UInt8),(49:UInt8),(32:UInt8),(49:UInt8),(98:UInt8),(50:UInt8),(58:UInt8),(48:UInt8),(32:UInt8),(50:UInt8),(97:UInt8),(50:UInt8),(58:UInt8),(48:UInt8),(32:UInt8),(50:UInt8),(98:UInt8),(50:UInt8),(58:UInt8),(48:UInt8)]⟩:ByteArray),(⟨#[(49:UInt8),(59:UInt8),(48:UInt8),(59:UInt8),(48:UInt8),(59:UInt8),(48:UInt8),(97:UInt8),(48:UInt8),(58:UInt8),(48:UInt8)]⟩:ByteArray),(⟨#[(50:UInt8),(59:UInt8),(48:UInt8),(59:UInt8),(48:UInt8),(32:UInt8),(49:UInt8),(59:UInt8),(48:UInt8),(97:UInt8),(48:UInt8),(58:UInt8),(48:UInt8),(32:UInt8),(48:UInt8),(98:UInt8),(49:UInt8),(58:UInt8),(49:UInt8),(32:UInt8),(49:UInt8),(97:UInt8),(48:UInt8),(58:UInt8),(48:UInt8),(32:UInt8),(49:UInt8),(98:UInt8),(49:UInt8),(58:UInt8),(48:UInt8)]⟩:ByteArray),(⟨#[(50:UInt8),(59:UInt8),(48:UInt8),(59:UInt8),(49:UInt8),(59:UInt8),(48:UInt8),(97:UInt8),(49:UInt8),(58:UInt8),(50:UInt8),(32:UInt8),(49:UInt8),(97:UInt8),(49:UInt8),(58:UInt8),(48:UInt8),(32:UInt8),(49:UInt8),(98:UInt8),(48:UInt8),(58:UInt8),(49:UInt8)]⟩:ByteArray)] (0+(Int.toNat (Int.tmod a0 ((9:Nat):Int)))) ⟨Array.empty⟩)) fun((r0,r1,r2,r3),r4)=>
    some (r0,(List.take (List.length r1) (List.drop 0 r1)),(List.take (List.length r2) (List.drop 0 r2)),(List.take (List.length r3) (List.drop 0 r3)))
  else
   none
def A133:FnA:=⟨[.v i6],true,[.pair i6 (.pair sI (.pair sI sS))],fun x=>y3f x.1⟩
theorem A133_ok:FnOk prog 133 A133:=fo (L:=L0) (by kernel_rfl) func133 E133_ok ya0
def E134:Env:=⟨ty0,fun _=>none,fun g=>ifEq g 19 (some A19) (none),fun _=>none,fun _=>none,fun _=>0⟩
theorem kk8:FnsOk prog E134:=(y1u zn9 (by kernel_rfl) func19 (by kernel_rfl) (by kernel_rfl) (yc7 _ _))
def kk9:List Fm:=.box 200000 [.val (.sl (.int .u8)),.val i6]::D 4 (.cell (.own i6 100500 false)::d::d::.cell (.val i6)::.cell (.val i6)::D 11 [])
def kl0:List (Ex×List Fm):=[(.exit 0,[.box 200000 [.val (.sl (.int .u8)),.val i6],d,d,d,d,.cell (.own i6 100500 false),d,d,d,d,d,d,d,d,d,d,d,d,d,d,d])]
def ym9:((LI×Int×Unit)×LI×Int×Int×Unit)→Option (((LI×Int×Unit)×LI×Int×Int×Unit)⊕(((LI×Int×Unit)×LI×Unit))):=fun((v0_0,v0_1,_),v5,v8,v9,_)=>
 bif (decide (v9<v8)) then
  Option.bind (yb5 (v0_0,v0_1) 2) fun(r0,(r1,r2),_)=>
   bif (r0==0) then
    if(((0+(List.length v5))=(List.length v5))∧((((List.length v5)+(List.length (List.take 1 (List.drop 0 [v9]))))*8)≤140737488355328)) then
     some (Sum.inl ((r1,r2,()),(List.take ((List.length v5)+(List.length (List.take 1 (List.drop 0 [v9])))) (List.drop 0 ((List.drop 0 v5)++(List.take 1 (List.drop 0 [v9]))))),v8,(IntKind.wrap .i64 (v9+1)),()))
    else
     none
   else
    some (Sum.inl ((r1,r2,()),(List.take (List.length v5) (List.drop 0 v5)),v8,(IntKind.wrap .i64 (v9+1)),()))
 else
  some (Sum.inr ((v0_0,v0_1,()),(List.take (List.length v5) (List.drop 0 v5)),()))
theorem kl1{L}(h:L 3=some ⟨21,kk9,kl0,ym9⟩):yb7 prog L (ya9 f134 3):=lo (L':=L0) (by kernel_rfl) kk8 ya0 h
def L134_1:Nat→Option LoopD:=fun n=>ifEq n 3 (some ⟨21,kk9,kl0,ym9⟩) (L0 n)
def yr4:(LI×Int)→Int→Option ((LI)×((LI×Int)×Unit)):=fun(a0_0,a0_1) a1=>
 Option.bind (ya2 ym9 ((a0_0,a0_1,()),(List.take 0 (List.drop 0 [])),a1,0,())) fun((r0,r1,_),r2,_)=>
  some ((List.take (List.length r2) (List.drop 0 r2)),(r0,r1),())
def A134:FnM:=⟨[.bx kR,.v i6],true,[.sl i6],none,fun x=>yr4 x.1 x.2.1⟩
theorem A134_ok:y5t prog 134 A134:=fm (L:=L134_1) (by kernel_rfl) func134 kk8 (ya8 (kl1 rfl) ya0)
def E132:Env:=⟨ty0,fun _=>none,fun g=>ifEq g 19 (some A19) (none),fun _=>none,fun _=>none,fun _=>0⟩
theorem E132_ok:FnsOk prog E132:=(y1u zn9 (by kernel_rfl) func19 (by kernel_rfl) (by kernel_rfl) (yc7 _ _))
def y0g:(LI×Int)→(List ByteArray)→Option ((ByteArray)×((LI×Int)×Unit)):=fun(a0_0,a0_1) a1=>
 Option.bind (yb5 (a0_0,a0_1) (((List.length a1):Nat):Int)) fun(r0,(r1,r2),_)=>
  if(((0:Int)≤r0)∧(r0<(((List.length a1):Nat):Int))) then
   some ((List.getD a1 (Int.toNat r0) ⟨Array.empty⟩),(r1,r2),())
  else
   none
def A132:FnM:=⟨[.bx kR,.v (.sl .str)],true,[.str],none,fun x=>y0g x.1 x.2.1⟩
theorem kl2:y5t prog 132 A132:=fm (L:=L0) (by kernel_rfl) func132 E132_ok ya0
def E131:Env:=⟨ty0,fun _=>none,fun g=>ifEq g 19 (some A19) (none),fun _=>none,fun _=>none,fun _=>0⟩
theorem E131_ok:FnsOk prog E131:=(y1u zn9 (by kernel_rfl) func19 (by kernel_rfl) (by kernel_rfl) (yc7 _ _))
def yn0:(LI×Int)→LI→Option ((Int)×((LI×Int)×Unit)):=fun(a0_0,a0_1) a1=>
 Option.bind (yb5 (a0_0,a0_1) (((List.length a1):Nat):Int)) fun(r0,(r1,r2),_)=>
  if(((0:Int)≤r0)∧(r0<(((List.length a1):Nat):Int))) then
   some ((List.getD a1 (Int.toNat r0) 0),(r1,r2),())
  else
   none
def A131:FnM:=⟨[.bx kR,.v sI],true,[.int .i64],none,fun x=>yn0 x.1 x.2.1⟩
theorem kl3:y5t prog 131 A131:=fm (L:=L0) (by kernel_rfl) func131 E131_ok ya0
def E135:Env:=ev fun g=>ifEq g 66 (some A66) (none)
theorem kl4:FnsOk prog E135:=(oF A66_ok func66 (yc7 _ _))
def kl5:List Fm:=.cell (.val sS)::d::d::.box 100300 [.val i6,.val .str,.val i6,.val i6]::d::.cell (.val i6)::D 56 []
def kl6:List (Ex×List Fm):=[(.exit 0,[.cell (.val sS),d,d,.box 100300 [.val i6,.val .str,.val i6,.val i6],d,.cell (.val i6),d,d,d,d,d,d,d,d,d,d,d,d,d,d,d,d,d,d,d,d,d,d,d,d,d,d,d,d,d,d,d,d,d,d,d,d,d,d,d,d,d,d,d,d,d,d,d,d,d,d,d,d,d,d,d,d])]
def yr5:(LS×(Int×ByteArray×Int×Int×Unit)×Int×Unit)→Option ((LS×(Int×ByteArray×Int×Int×Unit)×Int×Unit)⊕((LS×(Int×ByteArray×Int×Int×Unit)×Int×Unit))):=fun(v0,(v3_0,v3_1,v3_2,v3_3,_),v5,_)=>
 bif (decide (v5<(((List.length v0):Nat):Int))) then
  if(((0:Int)≤v5)∧(v5<(((List.length v0):Nat):Int))) then
   Option.bind (yw6 (List.getD v0 (Int.toNat v5) ((0:Int),⟨Array.empty⟩,0,0)) (v3_0,v3_1,v3_2,v3_3)) fun r0=>
    bif r0 then
     some (Sum.inl (v0,(v3_0,v3_1,v3_2,v3_3,()),(IntKind.wrap .i64 (v5+1)),()))
    else
     some (Sum.inr (v0,(v3_0,v3_1,v3_2,v3_3,()),v5,()))
  else
   none
 else
  some (Sum.inr (v0,(v3_0,v3_1,v3_2,v3_3,()),v5,()))
theorem kl7{L}(h:L 2=some ⟨62,kl5,kl6,yr5⟩):yb7 prog L (ya9 f135 2):=lo (L':=L0) (by kernel_rfl) kl4 ya0 h
def L135_1:Nat→Option LoopD:=fun n=>ifEq n 2 (some ⟨62,kl5,kl6,yr5⟩) (L0 n)
def y69:LS→TS→Option (LS):=fun a0 (a1_0,a1_1,a1_2,a1_3)=>
 Option.bind (ya2 yr5 (a0,(a1_0,a1_1,a1_2,a1_3,()),0,())) fun(r0,(r1,r2,r3,r4,_),r5,_)=>
  bif (decide (r5<(((List.length r0):Nat):Int))) then
   if(((0:Int)≤r5)∧(r5<(((List.length r0):Nat):Int))) then
    Option.bind (yw6 (r1,r2,r3,r4) (List.getD r0 (Int.toNat r5) ((0:Int),⟨Array.empty⟩,0,0))) fun r6=>
     bif (!r6) then
      if(((0+0)=(List.length ([]:List Unit)))∧(((0+(List.length r0))*40)≤140737488355328)) then
       if(((0:Int)≤r5)∧(r5<(((0+(List.length r0)):Nat):Int))) then
        if(((0:Int)≤r5)∧(r5<(((0+(List.length r0)):Nat):Int))) then
         Option.bind (Option.some (List.set ((List.drop 0 [])++r0) (0+(Int.toNat r5)) ((List.getD ((List.drop 0 [])++r0) (0+(Int.toNat r5)) ((0:Int),⟨Array.empty⟩,0,0)).1,(List.getD ((List.drop 0 [])++r0) (0+(Int.toNat r5)) ((0:Int),⟨Array.empty⟩,0,0)).2.1,(List.getD ((List.drop 0 [])++r0) (0+(Int.toNat r5)) ((0:Int),⟨Array.empty⟩,0,0)).2.2.1,(if(r4<(List.getD ((List.drop 0 [])++r0) (0+(Int.toNat r5)) ((0:Int),⟨Array.empty⟩,0,0)).2.2.2) then r4 else(List.getD ((List.drop 0 [])++r0) (0+(Int.toNat r5)) ((0:Int),⟨Array.empty⟩,0,0)).2.2.2)))) fun r7=>
          some (List.take (0+(List.length r0)) (List.drop 0 r7))
        else
         none
       else
        none
      else
       none
     else
      if(((0:Int)≤r5)∧(r5≤(((List.length r0):Nat):Int))) then
       if(((0+0)=(List.length ([]:List Unit)))∧(((0+(List.length (List.take ((Int.toNat r5)-0) (List.drop 0 r0))))*40)≤140737488355328)) then
        if(((0+(0+(List.length (List.take ((Int.toNat r5)-0) (List.drop 0 r0)))))=(List.length ((List.drop 0 [])++(List.take ((Int.toNat r5)-0) (List.drop 0 r0)))))∧((((0+(List.length (List.take ((Int.toNat r5)-0) (List.drop 0 r0))))+(List.length (List.take 1 (List.drop 0 [(r1,r2,r3,r4)]))))*40)≤140737488355328)) then
         if(((0:Int)≤r5)∧(r5≤(((List.length r0):Nat):Int))) then
          if(((0+((0+(List.length (List.take ((Int.toNat r5)-0) (List.drop 0 r0))))+(List.length (List.take 1 (List.drop 0 [(r1,r2,r3,r4)])))))=(List.length ((List.drop 0 ((List.drop 0 [])++(List.take ((Int.toNat r5)-0) (List.drop 0 r0))))++(List.take 1 (List.drop 0 [(r1,r2,r3,r4)])))))∧(((((0+(List.length (List.take ((Int.toNat r5)-0) (List.drop 0 r0))))+(List.length (List.take 1 (List.drop 0 [(r1,r2,r3,r4)]))))+(List.length (List.take ((List.length r0)-(Int.toNat r5)) (List.drop (Int.toNat r5) r0))))*40)≤140737488355328)) then
           some (List.take (((0+(List.length (List.take ((Int.toNat r5)-0) (List.drop 0 r0))))+(List.length (List.take 1 (List.drop 0 [(r1,r2,r3,r4)]))))+(List.length (List.take ((List.length r0)-(Int.toNat r5)) (List.drop (Int.toNat r5) r0)))) (List.drop 0 ((List.drop 0 ((List.drop 0 ((List.drop 0 [])++(List.take ((Int.toNat r5)-0) (List.drop 0 r0))))++(List.take 1 (List.drop 0 [(r1,r2,r3,r4)]))))++(List.take ((List.length r0)-(Int.toNat r5)) (List.drop (Int.toNat r5) r0)))))
          else
           none
         else
          none
        else
         none
       else
        none
      else
       none
   else
    none
  else
   if(((0:Int)≤r5)∧(r5≤(((List.length r0):Nat):Int))) then
    if(((0+0)=(List.length ([]:List Unit)))∧(((0+(List.length (List.take ((Int.toNat r5)-0) (List.drop 0 r0))))*40)≤140737488355328)) then
     if(((0+(0+(List.length (List.take ((Int.toNat r5)-0) (List.drop 0 r0)))))=(List.length ((List.drop 0 [])++(List.take ((Int.toNat r5)-0) (List.drop 0 r0)))))∧((((0+(List.length (List.take ((Int.toNat r5)-0) (List.drop 0 r0))))+(List.length (List.take 1 (List.drop 0 [(r1,r2,r3,r4)]))))*40)≤140737488355328)) then
      if(((0:Int)≤r5)∧(r5≤(((List.length r0):Nat):Int))) then
       if(((0+((0+(List.length (List.take ((Int.toNat r5)-0) (List.drop 0 r0))))+(List.length (List.take 1 (List.drop 0 [(r1,r2,r3,r4)])))))=(List.length ((List.drop 0 ((List.drop 0 [])++(List.take ((Int.toNat r5)-0) (List.drop 0 r0))))++(List.take 1 (List.drop 0 [(r1,r2,r3,r4)])))))∧(((((0+(List.length (List.take ((Int.toNat r5)-0) (List.drop 0 r0))))+(List.length (List.take 1 (List.drop 0 [(r1,r2,r3,r4)]))))+(List.length (List.take ((List.length r0)-(Int.toNat r5)) (List.drop (Int.toNat r5) r0))))*40)≤140737488355328)) then
        some (List.take (((0+(List.length (List.take ((Int.toNat r5)-0) (List.drop 0 r0))))+(List.length (List.take 1 (List.drop 0 [(r1,r2,r3,r4)]))))+(List.length (List.take ((List.length r0)-(Int.toNat r5)) (List.drop (Int.toNat r5) r0)))) (List.drop 0 ((List.drop 0 ((List.drop 0 ((List.drop 0 [])++(List.take ((Int.toNat r5)-0) (List.drop 0 r0))))++(List.take 1 (List.drop 0 [(r1,r2,r3,r4)]))))++(List.take ((List.length r0)-(Int.toNat r5)) (List.drop (Int.toNat r5) r0)))))
       else
        none
      else
       none
     else
      none
    else
     none
   else
    none
def A135:FnA:=⟨[.v sS,.v kS],true,[.sl kS],fun x=>y69 x.1 x.2.1⟩
theorem A135_ok:FnOk prog 135 A135:=fo (L:=L135_1) (by kernel_rfl) func135 kl4 (ya8 (kl7 rfl) ya0)
def E52:Env:=⟨ty0,fun g=>ifEq g 133 (some A133) (ifEq g 135 (some A135) (none)),fun g=>ifEq g 19 (some A19) (ifEq g 134 (some A134) (ifEq g 132 (some A132) (ifEq g 131 (some A131) (none)))),fun _=>none,fun _=>none,fun _=>0⟩
theorem E52_ok:FnsOk prog E52:=(oF A133_ok func133 (oF A135_ok func135 (y1u zn9 (by kernel_rfl) func19 (by kernel_rfl) (by kernel_rfl) (y1u A134_ok (by kernel_rfl) func134 (by kernel_rfl) (by kernel_rfl) (y1u kl2 (by kernel_rfl) func132 (by kernel_rfl) (by kernel_rfl) (y1u kl3 (by kernel_rfl) func131 (by kernel_rfl) (by kernel_rfl) (yc7 _ _)))))))
def sh52_8:List Fm:=.box 200000 [.val (.sl (.int .u8)),.val i6]::d::d::d::.box 100400 [.val i6,.own i6 100402 false,.own i6 100403 false,.own kS 100404 false]::d::.cell (.val i6)::.box 100700 [.val i6,.own i6 100702 false,.own i6 100703 false,.own kS 100704 false]::D 30 (.cell (.val i6)::.cell (.val i6)::D 21 [])
def xs52_8:List (Ex×List Fm):=[(.exit 0,[.box 200000 [.val (.sl (.int .u8)),.val i6],d,d,d,.box 100400 [.val i6,.own i6 100402 false,.own i6 100403 false,.own kS 100404 false],d,d,.box 100700 [.val i6,.own i6 100702 false,.own i6 100703 false,.own kS 100704 false],d,d,d,d,d,d,d,d,d,d,d,d,d,d,d,d,d,d,d,d,d,d,d,d,d,d,d,d,d,d,d,d,d,d,d,d,d,d,d,d,d,d,d,d,d,d,d,d,d,d,d,d,d])]
def yi9:((LI×Int×Unit)×(Int×LI×LI×LS×Unit)×Int×(Int×LI×LI×LS×Unit)×Int×Int×Unit)→Option (((LI×Int×Unit)×(Int×LI×LI×LS×Unit)×Int×(Int×LI×LI×LS×Unit)×Int×Int×Unit)⊕(((LI×Int×Unit)×(Int×LI×LI×LS×Unit)×(Int×LI×LI×LS×Unit)×Unit))):=fun((v0_0,v0_1,_),(v4_0,v4_1,v4_2,v4_3,_),v6,(v7_0,v7_1,v7_2,v7_3,_),v38,v39,_)=>
 bif (decide (v39<v38)) then
  Option.bind (yb5 (v0_0,v0_1) v6) fun(r0,(r1,r2),_)=>
   Option.bind (y0g (r1,r2) (List.take 2 (List.drop 0 [(⟨#[(97:UInt8)]⟩:ByteArray),(⟨#[(98:UInt8)]⟩:ByteArray)]))) fun(r3,(r4,r5),_)=>
    Option.bind (yb5 (r4,r5) v6) fun(r6,(r7,r8),_)=>
     Option.bind (yn0 (r7,r8) (List.take 6 (List.drop 0 [(0:Int),(1:Int),(0:Int),(1:Int),(2:Int),(0:Int)]))) fun(r9,(r10,r11),_)=>
      Option.bind (y69 (List.take (List.length v7_3) (List.drop 0 v7_3)) (r0,r3,r6,r9)) fun r12=>
       some (Sum.inl ((r10,r11,()),(v4_0,(List.take (List.length v4_1) (List.drop 0 v4_1)),(List.take (List.length v4_2) (List.drop 0 v4_2)),(List.take (List.length v4_3) (List.drop 0 v4_3)),()),v6,(v7_0,(List.take (List.length v7_1) (List.drop 0 v7_1)),(List.take (List.length v7_2) (List.drop 0 v7_2)),(List.take (List.length r12) (List.drop 0 r12)),()),v38,(IntKind.wrap .i64 (v39+1)),()))
 else
  some (Sum.inr ((v0_0,v0_1,()),(v4_0,(List.take (List.length v4_1) (List.drop 0 v4_1)),(List.take (List.length v4_2) (List.drop 0 v4_2)),(List.take (List.length v4_3) (List.drop 0 v4_3)),()),(v7_0,(List.take (List.length v7_1) (List.drop 0 v7_1)),(List.take (List.length v7_2) (List.drop 0 v7_2)),(List.take (List.length v7_3) (List.drop 0 v7_3)),()),()))
theorem k0q{L}(h:L 8=some ⟨61,sh52_8,xs52_8,yi9⟩):yb7 prog L (ya9 f52 8):=lo (L':=L0) (by kernel_rfl) E52_ok ya0 h
def L52_1:Nat→Option LoopD:=fun n=>ifEq n 8 (some ⟨61,sh52_8,xs52_8,yi9⟩) (L0 n)
def y02:(LI×Int)→Int→Option ((TA)×((LI×Int)×Unit)):=fun(a0_0,a0_1) a1=>
 Option.bind (yb5 (a0_0,a0_1) 3) fun(r0,(r1,r2),_)=>
  bif (r0==0) then
   Option.bind (yb5 (r1,r2) 9) fun(r3,(r4,r5),_)=>
    Option.bind (y3f r3) fun(r6,r7,r8,r9)=>
     bif (decide (r6≤a1)) then
      some ((r6,(List.take (List.length r7) (List.drop 0 r7)),(List.take (List.length r8) (List.drop 0 r8)),(List.take (List.length r9) (List.drop 0 r9))),(r4,r5),())
     else
      Option.bind (yb5 (r4,r5) a1) fun(r10,(r11,r12),_)=>
       Option.bind (yr4 (r11,r12) (IntKind.wrap .i64 ((1:Int)+r10))) fun(r13,(r14,r15),_)=>
        Option.bind (yr4 (r14,r15) (IntKind.wrap .i64 ((1:Int)+r10))) fun(r16,(r17,r18),_)=>
         Option.bind (yb5 (r17,r18) (IntKind.wrap .i64 ((IntKind.wrap .i64 ((2:Int)*(IntKind.wrap .i64 ((1:Int)+r10))))+1))) fun(r19,(r20,r21),_)=>
          Option.bind (ya2 yi9 ((r20,r21,()),((0:Int),[],[],[],()),(IntKind.wrap .i64 ((1:Int)+r10)),((IntKind.wrap .i64 ((1:Int)+r10)),(List.take (List.length r13) (List.drop 0 r13)),(List.take (List.length r16) (List.drop 0 r16)),(List.take 0 (List.drop 0 [])),()),(IntKind.wrap .i64 ((1:Int)+r19)),0,())) fun((r22,r23,_),(r24,r25,r26,r27,_),(r28,r29,r30,r31,_),_)=>
           some ((r28,(List.take (List.length r29) (List.drop 0 r29)),(List.take (List.length r30) (List.drop 0 r30)),(List.take (List.length r31) (List.drop 0 r31))),(r22,r23),())
  else
   Option.bind (yb5 (r1,r2) a1) fun(r32,(r33,r34),_)=>
    Option.bind (yr4 (r33,r34) (IntKind.wrap .i64 ((1:Int)+r32))) fun(r35,(r36,r37),_)=>
     Option.bind (yr4 (r36,r37) (IntKind.wrap .i64 ((1:Int)+r32))) fun(r38,(r39,r40),_)=>
      Option.bind (yb5 (r39,r40) (IntKind.wrap .i64 ((IntKind.wrap .i64 ((2:Int)*(IntKind.wrap .i64 ((1:Int)+r32))))+1))) fun(r41,(r42,r43),_)=>
       Option.bind (ya2 yi9 ((r42,r43,()),((0:Int),[],[],[],()),(IntKind.wrap .i64 ((1:Int)+r32)),((IntKind.wrap .i64 ((1:Int)+r32)),(List.take (List.length r35) (List.drop 0 r35)),(List.take (List.length r38) (List.drop 0 r38)),(List.take 0 (List.drop 0 [])),()),(IntKind.wrap .i64 ((1:Int)+r41)),0,())) fun((r44,r45,_),(r46,r47,r48,r49,_),(r50,r51,r52,r53,_),_)=>
        some ((r50,(List.take (List.length r51) (List.drop 0 r51)),(List.take (List.length r52) (List.drop 0 r52)),(List.take (List.length r53) (List.drop 0 r53))),(r44,r45),())
def A52:FnM:=⟨[.bx kR,.v i6],true,[.pair i6 (.pair sI (.pair sI sS))],none,fun x=>y02 x.1 x.2.1⟩
theorem A52_ok:y5t prog 52 A52:=fm (L:=L52_1) (by kernel_rfl) func52 E52_ok (ya8 (k0q rfl) ya0)
def E51:Env:=⟨ty0,fun _=>none,fun g=>ifEq g 19 (some A19) (ifEq g 131 (some A131) (ifEq g 132 (some A132) (none))),fun _=>none,fun _=>none,fun _=>0⟩
theorem E51_ok:FnsOk prog E51:=(y1u zn9 (by kernel_rfl) func19 (by kernel_rfl) (by kernel_rfl) (y1u kl3 (by kernel_rfl) func131 (by kernel_rfl) (by kernel_rfl) (y1u kl2 (by kernel_rfl) func132 (by kernel_rfl) (by kernel_rfl) (yc7 _ _))))
def y2e:(LI×Int)→TA→Option ((TA)×((LI×Int)×Unit)):=fun(a0_0,a0_1) (a1_0,a1_1,a1_2,a1_3)=>
 Option.bind (yb5 (a0_0,a0_1) 36) fun(r0,(r1,r2),_)=>
  bif (r0==0) then
   Option.bind (yn0 (r1,r2) (List.take 5 (List.drop 0 [(0:Int),(5:Int),(-1:Int),(1:Int),(9223372036854775807:Int)]))) fun(r3,(r4,r5),_)=>
    some ((r3,a1_1,a1_2,a1_3),(r4,r5),())
  else
   bif (r0==1) then
    if(((0+0)=(List.length ([]:List Unit)))∧(((0+(List.length a1_3))*40)≤140737488355328)) then
     Option.bind (yb5 (r1,r2) 2) fun(r6,(r7,r8),_)=>
      Option.bind (y0g (r7,r8) (List.take 3 (List.drop 0 [(⟨#[(97:UInt8)]⟩:ByteArray),(⟨#[(99:UInt8)]⟩:ByteArray),(⟨#[]⟩:ByteArray)]))) fun(r9,(r10,r11),_)=>
       Option.bind (yn0 (r10,r11) (List.take 3 (List.drop 0 [(0:Int),(4:Int),(-1:Int)]))) fun(r12,(r13,r14),_)=>
        Option.bind (yn0 (r13,r14) (List.take 3 (List.drop 0 [(0:Int),(4:Int),(-1:Int)]))) fun(r15,(r16,r17),_)=>
         if(((0+(0+(List.length a1_3)))=(List.length ((List.drop 0 [])++a1_3)))∧((((0+(List.length a1_3))+(List.length (List.take 1 (List.drop 0 [(r6,r9,r12,r15)]))))*40)≤140737488355328)) then
          some ((a1_0,a1_1,a1_2,(List.take ((0+(List.length a1_3))+(List.length (List.take 1 (List.drop 0 [(r6,r9,r12,r15)])))) (List.drop 0 ((List.drop 0 ((List.drop 0 [])++a1_3))++(List.take 1 (List.drop 0 [(r6,r9,r12,r15)])))))),(r16,r17),())
         else
          none
    else
     none
   else
    bif (r0==2) then
     if(((0+0)=(List.length ([]:List Unit)))∧(((0+(List.length a1_1))*8)≤140737488355328)) then
      Option.bind (yn0 (r1,r2) (List.take 3 (List.drop 0 [(0:Int),(4:Int),(-1:Int)]))) fun(r18,(r19,r20),_)=>
       if(((0+(0+(List.length a1_1)))=(List.length ((List.drop 0 [])++a1_1)))∧((((0+(List.length a1_1))+(List.length (List.take 1 (List.drop 0 [r18]))))*8)≤140737488355328)) then
        some ((a1_0,(List.take ((0+(List.length a1_1))+(List.length (List.take 1 (List.drop 0 [r18])))) (List.drop 0 ((List.drop 0 ((List.drop 0 [])++a1_1))++(List.take 1 (List.drop 0 [r18]))))),a1_2,a1_3),(r19,r20),())
       else
        none
     else
      none
    else
     some ((a1_0,a1_1,a1_2,a1_3),(r1,r2),())
def A51:FnM:=⟨[.bx kR,.v kA],false,[.pair i6 (.pair sI (.pair sI sS))],none,fun x=>y2e x.1 x.2.1⟩
theorem A51_ok:y5t prog 51 A51:=fm (L:=L0) (by kernel_rfl) func51 E51_ok ya0
def E20:Env:=⟨ty0,fun _=>none,fun g=>ifEq g 52 (some A52) (ifEq g 51 (some A51) (none)),fun _=>none,fun _=>none,fun _=>0⟩
theorem E20_ok:FnsOk prog E20:=(y1u A52_ok (by kernel_rfl) func52 (by kernel_rfl) (by kernel_rfl) (y1u A51_ok (by kernel_rfl) func51 (by kernel_rfl) (by kernel_rfl) (yc7 _ _)))
def y7a:(LI×Int)→Option ((TA)×((LI×Int)×Unit)):=fun(a0_0,a0_1)=>
 Option.bind (y02 (a0_0,a0_1) 3) fun((r0,r1,r2,r3),(r4,r5),_)=>
  Option.bind (y2e (r4,r5) (r0,(List.take (List.length r1) (List.drop 0 r1)),(List.take (List.length r2) (List.drop 0 r2)),(List.take (List.length r3) (List.drop 0 r3)))) fun((r6,r7,r8,r9),(r10,r11),_)=>
   some ((r6,r7,r8,r9),(r10,r11),())
def A20:FnM:=⟨[.bx kR],false,[.pair i6 (.pair sI (.pair sI sS))],none,fun x=>y7a x.1⟩
theorem A20_ok:y5t prog 20 A20:=fm (L:=L0) (by kernel_rfl) func20 E20_ok ya0
def E21:Env:=⟨ty0,fun _=>none,fun g=>ifEq g 19 (some A19) (ifEq g 52 (some A52) (ifEq g 51 (some A51) (none))),fun _=>none,fun _=>none,fun _=>0⟩
theorem E21_ok:FnsOk prog E21:=(y1u zn9 (by kernel_rfl) func19 (by kernel_rfl) (by kernel_rfl) (y1u A52_ok (by kernel_rfl) func52 (by kernel_rfl) (by kernel_rfl) (y1u A51_ok (by kernel_rfl) func51 (by kernel_rfl) (by kernel_rfl) (yc7 _ _))))
def y5b:(LI×Int)→Option ((TA)×((LI×Int)×Unit)):=fun(a0_0,a0_1)=>
 Option.bind (yb5 (a0_0,a0_1) 3) fun(r0,(r1,r2),_)=>
  bif (r0==0) then
   Option.bind (y02 (r1,r2) 3) fun((r3,r4,r5,r6),(r7,r8),_)=>
    Option.bind (y2e (r7,r8) (r3,(List.take (List.length r4) (List.drop 0 r4)),(List.take (List.length r5) (List.drop 0 r5)),(List.take (List.length r6) (List.drop 0 r6)))) fun((r9,r10,r11,r12),(r13,r14),_)=>
     some ((r9,r10,r11,r12),(r13,r14),())
  else
   Option.bind (y02 (r1,r2) 2) fun((r15,r16,r17,r18),(r19,r20),_)=>
    Option.bind (y2e (r19,r20) (r15,(List.take (List.length r16) (List.drop 0 r16)),(List.take (List.length r17) (List.drop 0 r17)),(List.take (List.length r18) (List.drop 0 r18)))) fun((r21,r22,r23,r24),(r25,r26),_)=>
     some ((r21,r22,r23,r24),(r25,r26),())
def A21:FnM:=⟨[.bx kR],false,[.pair i6 (.pair sI (.pair sI sS))],none,fun x=>y5b x.1⟩
theorem A21_ok:y5t prog 21 A21:=fm (L:=L0) (by kernel_rfl) func21 E21_ok ya0
def E4:Env:=⟨ty0,fun _=>none,fun g=>ifEq g 19 (some A19) (ifEq g 20 (some A20) (ifEq g 21 (some A21) (none))),fun g=>ifEq g 18 (some A18) (none),fun _=>none,fun _=>0⟩
theorem E4_ok:FnsOk prog E4:=(oneBs A18_ok func18 (by kernel_rfl) (by kernel_rfl) (y1u zn9 (by kernel_rfl) func19 (by kernel_rfl) (by kernel_rfl) (y1u A20_ok (by kernel_rfl) func20 (by kernel_rfl) (by kernel_rfl) (y1u A21_ok (by kernel_rfl) func21 (by kernel_rfl) (by kernel_rfl) (yc7 _ _)))))
def yt6:LI→Option (TA):=fun a0=>
 Option.bind (y1e a0) fun(r0,r1)=>
  Option.bind (yb5 (r0,r1) 8) fun(r2,(r3,r4),_)=>
   bif (r2==0) then
    Option.bind (y7a (r3,r4)) fun((r5,r6,r7,r8),(r9,r10),_)=>
     some (r5,r6,r7,r8)
   else
    Option.bind (y5b (r3,r4)) fun((r11,r12,r13,r14),(r15,r16),_)=>
     some (r11,r12,r13,r14)
def A4:FnA:=⟨[.v (.sl (.int .u8))],false,[.pair i6 (.pair sI (.pair sI sS))],fun x=>yt6 x.1⟩
theorem A4_ok:FnOk prog 4 A4:=fo (L:=L0) (by kernel_rfl) func4 E4_ok ya0
def sh53_2:List Fm:=.cell (.val sI)::.cell (.val i6)::D 5 (.cell (.val sI)::.cell (.val i6)::.cell (.val i6)::D 25 [])
def xs53_2:List (Ex×List Fm):=[(.ret,(D 4 (.cell (.val .bool)::D 30 []))),(.exit 0,(D 35 []))]
def yp1:(LI×Int×LI×Int×Int×Unit)→Option ((LI×Int×LI×Int×Int×Unit)⊕((Bool×Unit)⊕(Unit))):=fun(v0,v1,v7,v8,v9,_)=>
 bif (decide (v9<v8)) then
  if(((0:Int)≤v9)∧(v9<(((List.length v7):Nat):Int))) then
   bif (decide ((List.getD v7 (Int.toNat v9) 0)<0)) then
    some (Sum.inr (Sum.inl (false,())))
   else
    bif (decide ((List.getD v7 (Int.toNat v9) 0)≥v1)) then
     some (Sum.inr (Sum.inl (false,())))
    else
     bif (decide (v9>0)) then
      if(((0:Int)≤(IntKind.wrap .i64 (v9-1)))∧((IntKind.wrap .i64 (v9-1))<(((List.length v0):Nat):Int))) then
       bif (decide ((List.getD v0 (Int.toNat (IntKind.wrap .i64 (v9-1))) 0)≥(List.getD v7 (Int.toNat v9) 0))) then
        some (Sum.inr (Sum.inl (false,())))
       else
        some (Sum.inl (v0,v1,v7,v8,(IntKind.wrap .i64 (v9+1)),()))
      else
       none
     else
      some (Sum.inl (v0,v1,v7,v8,(IntKind.wrap .i64 (v9+1)),()))
  else
   none
 else
  some (Sum.inr (Sum.inr ()))
theorem k0r{L}(h:L 2=some ⟨35,sh53_2,xs53_2,yp1⟩):yb7 prog L (ya9 f53 2):=lo (L':=L0) (by kernel_rfl) yh3 ya0 h
def L53_1:Nat→Option LoopD:=fun n=>ifEq n 2 (some ⟨35,sh53_2,xs53_2,yp1⟩) (L0 n)
def y0h:LI→Int→Option (Bool):=fun a0 a1=>
 Option.bind (ya2 yp1 (a0,a1,a0,(((List.length a0):Nat):Int),0,())) fun r0=>
  (match r0 with
  |.inl (d1,_)=>
    some d1
  |.inr _=>
    some true)
def A53:FnA:=⟨[.v sI,.v i6],true,[.bool],fun x=>y0h x.1 x.2.1⟩
theorem A53_ok:FnOk prog 53 A53:=fo (L:=L53_1) (by kernel_rfl) func53 yh3 (ya8 (k0r rfl) ya0)
def E22:Env:=ev fun g=>ifEq g 53 (some A53) (ifEq g 54 (some A54) (none))
theorem E22_ok:FnsOk prog E22:=(oF A53_ok func53 (oF ki8 func54 (yc7 _ _)))
def sh22_4:List Fm:=d::.box 100100 [.val i6,.val sI,.val sI,.val sS]::D 34 (.cell (.val sS)::.cell (.val i6)::.cell (.val i6)::D 62 [])
def xs22_4:List (Ex×List Fm):=[(.ret,(d::d::.cell (.val .bool)::D 98 [])),(.exit 0,(D 101 []))]
def yh5:((Int×LI×LI×LS×Unit)×LS×Int×Int×Unit)→Option (((Int×LI×LI×LS×Unit)×LS×Int×Int×Unit)⊕((Bool×Unit)⊕(Unit))):=fun((v1_0,v1_1,v1_2,v1_3,_),v36,v37,v38,_)=>
 bif (decide (v38<v37)) then
  if(((0:Int)≤v38)∧(v38<(((List.length v36):Nat):Int))) then
   bif (decide ((List.getD v36 (Int.toNat v38) ((0:Int),⟨Array.empty⟩,0,0)).1<0)) then
    some (Sum.inr (Sum.inl (false,())))
   else
    bif (decide ((List.getD v36 (Int.toNat v38) ((0:Int),⟨Array.empty⟩,0,0)).1≥v1_0)) then
     some (Sum.inr (Sum.inl (false,())))
    else
     bif (decide ((List.getD v36 (Int.toNat v38) ((0:Int),⟨Array.empty⟩,0,0)).2.2.1<0)) then
      some (Sum.inr (Sum.inl (false,())))
     else
      bif (decide ((List.getD v36 (Int.toNat v38) ((0:Int),⟨Array.empty⟩,0,0)).2.2.1≥v1_0)) then
       some (Sum.inr (Sum.inl (false,())))
      else
       bif (!((ByteArray.toList (List.getD v36 (Int.toNat v38) ((0:Int),⟨Array.empty⟩,0,0)).2.1)==(ByteArray.toList (⟨#[(97:UInt8)]⟩:ByteArray)))) then
        bif (!((ByteArray.toList (List.getD v36 (Int.toNat v38) ((0:Int),⟨Array.empty⟩,0,0)).2.1)==(ByteArray.toList (⟨#[(98:UInt8)]⟩:ByteArray)))) then
         some (Sum.inr (Sum.inl (false,())))
        else
         bif (decide ((List.getD v36 (Int.toNat v38) ((0:Int),⟨Array.empty⟩,0,0)).2.2.2<0)) then
          some (Sum.inr (Sum.inl (false,())))
         else
          bif (decide ((List.getD v36 (Int.toNat v38) ((0:Int),⟨Array.empty⟩,0,0)).2.2.2>3)) then
           some (Sum.inr (Sum.inl (false,())))
          else
           bif (decide (v38>0)) then
            if(((0:Int)≤(IntKind.wrap .i64 (v38-1)))∧((IntKind.wrap .i64 (v38-1))<(((List.length v1_3):Nat):Int))) then
             Option.bind (yk1 (List.getD v1_3 (Int.toNat (IntKind.wrap .i64 (v38-1))) ((0:Int),⟨Array.empty⟩,0,0)) ((List.getD v36 (Int.toNat v38) ((0:Int),⟨Array.empty⟩,0,0)).1,(List.getD v36 (Int.toNat v38) ((0:Int),⟨Array.empty⟩,0,0)).2.1,(List.getD v36 (Int.toNat v38) ((0:Int),⟨Array.empty⟩,0,0)).2.2.1,(List.getD v36 (Int.toNat v38) ((0:Int),⟨Array.empty⟩,0,0)).2.2.2)) fun r0=>
              bif (decide (r0≥0)) then
               some (Sum.inr (Sum.inl (false,())))
              else
               some (Sum.inl ((v1_0,v1_1,v1_2,v1_3,()),v36,v37,(IntKind.wrap .i64 (v38+1)),()))
            else
             none
           else
            some (Sum.inl ((v1_0,v1_1,v1_2,v1_3,()),v36,v37,(IntKind.wrap .i64 (v38+1)),()))
       else
        bif (decide ((List.getD v36 (Int.toNat v38) ((0:Int),⟨Array.empty⟩,0,0)).2.2.2<0)) then
         some (Sum.inr (Sum.inl (false,())))
        else
         bif (decide ((List.getD v36 (Int.toNat v38) ((0:Int),⟨Array.empty⟩,0,0)).2.2.2>3)) then
          some (Sum.inr (Sum.inl (false,())))
         else
          bif (decide (v38>0)) then
           if(((0:Int)≤(IntKind.wrap .i64 (v38-1)))∧((IntKind.wrap .i64 (v38-1))<(((List.length v1_3):Nat):Int))) then
            Option.bind (yk1 (List.getD v1_3 (Int.toNat (IntKind.wrap .i64 (v38-1))) ((0:Int),⟨Array.empty⟩,0,0)) ((List.getD v36 (Int.toNat v38) ((0:Int),⟨Array.empty⟩,0,0)).1,(List.getD v36 (Int.toNat v38) ((0:Int),⟨Array.empty⟩,0,0)).2.1,(List.getD v36 (Int.toNat v38) ((0:Int),⟨Array.empty⟩,0,0)).2.2.1,(List.getD v36 (Int.toNat v38) ((0:Int),⟨Array.empty⟩,0,0)).2.2.2)) fun r1=>
             bif (decide (r1≥0)) then
              some (Sum.inr (Sum.inl (false,())))
             else
              some (Sum.inl ((v1_0,v1_1,v1_2,v1_3,()),v36,v37,(IntKind.wrap .i64 (v38+1)),()))
           else
            none
          else
           some (Sum.inl ((v1_0,v1_1,v1_2,v1_3,()),v36,v37,(IntKind.wrap .i64 (v38+1)),()))
  else
   none
 else
  some (Sum.inr (Sum.inr ()))
theorem k0s{L}(h:L 4=some ⟨101,sh22_4,xs22_4,yh5⟩):yb7 prog L (ya9 f22 4):=lo (L':=L0) (by kernel_rfl) E22_ok ya0 h
def L22_1:Nat→Option LoopD:=fun n=>ifEq n 4 (some ⟨101,sh22_4,xs22_4,yh5⟩) (L0 n)
def yc6:TA→Option (Bool):=fun(a0_0,a0_1,a0_2,a0_3)=>
 bif (decide (a0_0<1)) then
  some false
 else
  bif (decide (a0_0>4)) then
   some false
  else
   bif (decide ((((List.length a0_3):Nat):Int)>24)) then
    some false
   else
    Option.bind (y0h a0_1 a0_0) fun r0=>
     bif (!r0) then
      some false
     else
      Option.bind (y0h a0_2 a0_0) fun r1=>
       bif (!r1) then
        some false
       else
        Option.bind (ya2 yh5 ((a0_0,a0_1,a0_2,a0_3,()),a0_3,(((List.length a0_3):Nat):Int),0,())) fun r2=>
         (match r2 with
         |.inl (d3,_)=>
           some d3
         |.inr _=>
           some true)
def A22:FnA:=⟨[.v kA],true,[.bool],fun x=>yc6 x.1⟩
theorem y2y:FnOk prog 22 A22:=fo (L:=L22_1) (by kernel_rfl) func22 E22_ok (ya8 (k0s rfl) ya0)
def yk8:ByteArray→ByteArray→Option (Bool):=fun a0 a1=>
 bif (decide ((((ByteArray.size a0):Nat):Int)≥(((ByteArray.size a1):Nat):Int))) then
  if(((0:Int)≤(((ByteArray.size a1):Nat):Int))∧((((ByteArray.size a1):Nat):Int)≤(((ByteArray.size a0):Nat):Int))) then
   some ((ByteArray.toList (ByteArray.extract a0 0 (Int.toNat (((ByteArray.size a1):Nat):Int))))==(ByteArray.toList a1))
  else
   none
 else
  some false
def A272:FnA:=⟨[.v .str,.v .str],true,[.bool],fun x=>yk8 x.1 x.2.1⟩
theorem A272_ok:FnOk prog 272 A272:=fo (L:=L0) (by kernel_rfl) func272 yh3 ya0
def E220:Env:=ev fun g=>ifEq g 272 (some A272) (none)
theorem E220_ok:FnsOk prog E220:=(oF A272_ok func272 (yc7 _ _))
def yq7:ByteArray→ByteArray→Option (Bool):=fun a0 a1=>
 Option.bind (yk8 a0 a1) fun r0=>
  some r0
def A220:FnA:=⟨[.v .str,.v .str],true,[.bool],fun x=>yq7 x.1 x.2.1⟩
theorem A220_ok:FnOk prog 220 A220:=fo (L:=L0) (by kernel_rfl) func220 E220_ok ya0
def R147(impl_readParts_rec:ByteArray→Option ((List (ByteArray×PT))×ByteArray)):FnA:=⟨[.v .str],true,[.sl (.pair .str .pt),.str],fun x=>impl_readParts_rec x.1⟩
def E147(impl_readParts_rec:ByteArray→Option ((List (ByteArray×PT))×ByteArray)):Env:=ev fun g=>ifEq g 147 (some (R147 impl_readParts_rec)) (ifEq g 220 (some A220) (none))
theorem z00(impl_readParts_rec:ByteArray→Option ((List (ByteArray×PT))×ByteArray))(hrec:FnOk prog 147 (R147 impl_readParts_rec)):FnsOk prog (E147 impl_readParts_rec):=(oF hrec func147 (oF A220_ok func220 (yc7 _ _)))
def kl8(impl_readParts_rec:ByteArray→Option ((List (ByteArray×PT))×ByteArray)):Nat→Option LoopD:=fun _=>none
def z5r:List Fm:=.cell (.val .str)::d::d::d::.cell (.own (.pair .str .pt) 100400 false)::D 44 []
def z5s:List (Ex×List Fm):=[(.ret,(d::d::.cell (.own (.pair .str .pt) 100200 false)::.cell (.val .str)::D 45 [])),(.exit 0,(.cell (.val .str)::d::d::d::.cell (.own (.pair .str .pt) 100400 false)::D 44 []))]
def yb0(impl_readParts_rec:ByteArray→Option ((List (ByteArray×PT))×ByteArray)):(ByteArray×(List (ByteArray×PT))×Unit)→Option ((ByteArray×(List (ByteArray×PT))×Unit)⊕(((List (ByteArray×PT))×ByteArray×Unit)⊕(ByteArray×(List (ByteArray×PT))×Unit))):=fun(v0,v4,_)=>
 bif (!((ByteArray.toList v0)==(ByteArray.toList (⟨#[]⟩:ByteArray)))) then
  if(((0:Int)≤0)∧((0:Int)<(((ByteArray.size v0):Nat):Int))) then
   bif ((((UInt8.toNat (Array.getD (ByteArray.data v0) (Int.toNat 0) (0:UInt8))):Nat):Int)==97) then
    bif ((((UInt8.toNat (Array.getD (ByteArray.data v0) (Int.toNat 0) (0:UInt8))):Nat):Int)==97) then
     if(((0:Int)≤1)∧((1:Int)≤(((ByteArray.size v0):Nat):Int))) then
      if(((0+(List.length v4))=(List.length v4))∧((((List.length v4)+(List.length (List.take 1 (List.drop 0 [((ByteArray.extract v0 0 (Int.toNat (1:Int))),(PT.mk []))]))))*40)≤140737488355328)) then
       if(((0:Int)≤1)∧((1:Int)≤(((ByteArray.size v0):Nat):Int))) then
        some (Sum.inl ((ByteArray.extract v0 (Int.toNat 1) (ByteArray.size v0)),(List.take ((List.length v4)+(List.length (List.take 1 (List.drop 0 [((ByteArray.extract v0 0 (Int.toNat (1:Int))),(PT.mk []))])))) (List.drop 0 ((List.drop 0 v4)++(List.take 1 (List.drop 0 [((ByteArray.extract v0 0 (Int.toNat (1:Int))),(PT.mk []))]))))),()))
       else
        none
      else
       none
     else
      none
    else
     bif ((((UInt8.toNat (Array.getD (ByteArray.data v0) (Int.toNat 0) (0:UInt8))):Nat):Int)==40) then
      if(((0:Int)≤1)∧((1:Int)≤(((ByteArray.size v0):Nat):Int))) then
       Option.bind (impl_readParts_rec (ByteArray.extract v0 (Int.toNat 1) (ByteArray.size v0))) fun(r0,r1)=>
        bif (decide ((((List.length r0):Nat):Int)>0)) then
         Option.bind (yq7 r1 (⟨#[(41:UInt8),(35:UInt8)]⟩:ByteArray)) fun r2=>
          bif r2 then
           if(((0+(List.length v4))=(List.length v4))∧((((List.length v4)+(List.length (List.take 1 (List.drop 0 [((⟨Array.empty⟩:ByteArray),(PT.mk (List.take (List.length r0) (List.drop 0 r0))))]))))*40)≤140737488355328)) then
            if(((0:Int)≤2)∧((2:Int)≤(((ByteArray.size r1):Nat):Int))) then
             some (Sum.inl ((ByteArray.extract r1 (Int.toNat 2) (ByteArray.size r1)),(List.take ((List.length v4)+(List.length (List.take 1 (List.drop 0 [((⟨Array.empty⟩:ByteArray),(PT.mk (List.take (List.length r0) (List.drop 0 r0))))])))) (List.drop 0 ((List.drop 0 v4)++(List.take 1 (List.drop 0 [((⟨Array.empty⟩:ByteArray),(PT.mk (List.take (List.length r0) (List.drop 0 r0))))]))))),()))
            else
             none
           else
            none
          else
           some (Sum.inr (Sum.inl ((List.take (List.length v4) (List.drop 0 v4)),v0,())))
        else
         some (Sum.inr (Sum.inl ((List.take (List.length v4) (List.drop 0 v4)),v0,())))
      else
       none
     else
      some (Sum.inr (Sum.inl ((List.take (List.length v4) (List.drop 0 v4)),v0,())))
   else
    bif ((((UInt8.toNat (Array.getD (ByteArray.data v0) (Int.toNat 0) (0:UInt8))):Nat):Int)==98) then
     if(((0:Int)≤1)∧((1:Int)≤(((ByteArray.size v0):Nat):Int))) then
      if(((0+(List.length v4))=(List.length v4))∧((((List.length v4)+(List.length (List.take 1 (List.drop 0 [((ByteArray.extract v0 0 (Int.toNat (1:Int))),(PT.mk []))]))))*40)≤140737488355328)) then
       if(((0:Int)≤1)∧((1:Int)≤(((ByteArray.size v0):Nat):Int))) then
        some (Sum.inl ((ByteArray.extract v0 (Int.toNat 1) (ByteArray.size v0)),(List.take ((List.length v4)+(List.length (List.take 1 (List.drop 0 [((ByteArray.extract v0 0 (Int.toNat (1:Int))),(PT.mk []))])))) (List.drop 0 ((List.drop 0 v4)++(List.take 1 (List.drop 0 [((ByteArray.extract v0 0 (Int.toNat (1:Int))),(PT.mk []))]))))),()))
       else
        none
      else
       none
     else
      none
    else
     bif ((((UInt8.toNat (Array.getD (ByteArray.data v0) (Int.toNat 0) (0:UInt8))):Nat):Int)==40) then
      if(((0:Int)≤1)∧((1:Int)≤(((ByteArray.size v0):Nat):Int))) then
       Option.bind (impl_readParts_rec (ByteArray.extract v0 (Int.toNat 1) (ByteArray.size v0))) fun(r3,r4)=>
        bif (decide ((((List.length r3):Nat):Int)>0)) then
         Option.bind (yq7 r4 (⟨#[(41:UInt8),(35:UInt8)]⟩:ByteArray)) fun r5=>
          bif r5 then
           if(((0+(List.length v4))=(List.length v4))∧((((List.length v4)+(List.length (List.take 1 (List.drop 0 [((⟨Array.empty⟩:ByteArray),(PT.mk (List.take (List.length r3) (List.drop 0 r3))))]))))*40)≤140737488355328)) then
            if(((0:Int)≤2)∧((2:Int)≤(((ByteArray.size r4):Nat):Int))) then
             some (Sum.inl ((ByteArray.extract r4 (Int.toNat 2) (ByteArray.size r4)),(List.take ((List.length v4)+(List.length (List.take 1 (List.drop 0 [((⟨Array.empty⟩:ByteArray),(PT.mk (List.take (List.length r3) (List.drop 0 r3))))])))) (List.drop 0 ((List.drop 0 v4)++(List.take 1 (List.drop 0 [((⟨Array.empty⟩:ByteArray),(PT.mk (List.take (List.length r3) (List.drop 0 r3))))]))))),()))
            else
             none
           else
            none
          else
           some (Sum.inr (Sum.inl ((List.take (List.length v4) (List.drop 0 v4)),v0,())))
        else
         some (Sum.inr (Sum.inl ((List.take (List.length v4) (List.drop 0 v4)),v0,())))
      else
       none
     else
      some (Sum.inr (Sum.inl ((List.take (List.length v4) (List.drop 0 v4)),v0,())))
  else
   none
 else
  some (Sum.inr (Sum.inr (v0,(List.take (List.length v4) (List.drop 0 v4)),())))
theorem y7n(impl_readParts_rec:ByteArray→Option ((List (ByteArray×PT))×ByteArray)):y63 49 (E147 impl_readParts_rec) (kl8 impl_readParts_rec) (ya9 f147 2) z5r z5s=(yb0 impl_readParts_rec):=by kernel_rfl
theorem kl9(impl_readParts_rec:ByteArray→Option ((List (ByteArray×PT))×ByteArray))(hrec:FnOk prog 147 (R147 impl_readParts_rec)){L:Nat→Option LoopD}(h:L 2=some ⟨49,z5r,z5s,(yb0 impl_readParts_rec)⟩):yb7 prog L (ya9 f147 2):=
 z2l (yb9 yg1) (z00 impl_readParts_rec hrec) (yf0 (L:=(kl8 impl_readParts_rec)) (yb9 yg1) (z00 impl_readParts_rec hrec) mixed (c:=ya9 f147 2) (bs:=[]) (by kernel_rfl) ya0 (by kernel_rfl)) (by kernel_rfl) (by kernel_rfl) (y7n impl_readParts_rec) (by rw[show y0t (ya9 f147 2)=2 from by kernel_rfl];exact h)
def km0(impl_readParts_rec:ByteArray→Option ((List (ByteArray×PT))×ByteArray)):Nat→Option LoopD:=fun n=>ifEq n 2 (some ⟨49,z5r,z5s,(yb0 impl_readParts_rec)⟩) ((kl8 impl_readParts_rec) n)
def yh9(impl_readParts_rec:ByteArray→Option ((List (ByteArray×PT))×ByteArray)):ByteArray→Option ((List (ByteArray×PT))×ByteArray):=fun a0=>
 Option.bind (ya2 (yb0 impl_readParts_rec) (a0,(List.take 0 (List.drop 0 [])),())) fun r0=>
  (match r0 with
  |.inl (d1,d2,_)=>
    some ((List.take (List.length d1) (List.drop 0 d1)),d2)
  |.inr (d3,d4,_)=>
    some ((List.take (List.length d4) (List.drop 0 d4)),d3))
theorem y5v(impl_readParts_rec:ByteArray→Option ((List (ByteArray×PT))×ByteArray)):fnF (E147 impl_readParts_rec) (km0 impl_readParts_rec) [.v .str] true [.sl (.pair .str .pt),.str] f147.ntmps f147.results.toList (yc9 f147)=fun x=>(yh9 impl_readParts_rec) x.1:=by kernel_rfl
theorem y5w(impl_readParts_rec:ByteArray→Option ((List (ByteArray×PT))×ByteArray))(hrec:FnOk prog 147 (R147 impl_readParts_rec)):FnOk prog 147 ⟨[.v .str],true,[.sl (.pair .str .pt),.str],fun x=>(yh9 impl_readParts_rec) x.1⟩:=by
 have h:=yu6 (P:=prog) (E:=(E147 impl_readParts_rec)) (yb9 yg1) (z00 impl_readParts_rec hrec) (L:=(km0 impl_readParts_rec)) (ps:=[.v .str]) (own:=true) (outs:=[.sl (.pair .str .pt),.str]) func147 (c:=yc9 f147) (by kernel_rfl) (yf0 (L:=(km0 impl_readParts_rec)) (yb9 yg1) (z00 impl_readParts_rec hrec) mixed (c:=yc9 f147) (bs:=[ya9 f147 2]) (by kernel_rfl) (ya8 (kl9 impl_readParts_rec hrec rfl) ya0) (by kernel_rfl));rw[(y5v impl_readParts_rec)] at h;exact h
/-- so many calls within each other -/
def yf1:Nat→ByteArray→Option ((List (ByteArray×PT))×ByteArray)
 |0=>fun _=>none
 |n+1=>yh9 (yf1 n)
theorem y0s:∀n,FnOk prog 147 (R147 (yf1 n))
 |0=>fun xs r h=>by cases h
 |n+1=>y5w (yf1 n) (y0s n)
def yx7:ByteArray→Option ((List (ByteArray×PT))×ByteArray):=yf1 200
def A147:FnA:=R147 yx7
theorem A147_ok:FnOk prog 147 A147:=y0s 200
def E69:Env:=ev fun g=>ifEq g 147 (some A147) (none)
theorem E69_ok:FnsOk prog E69:=(oF A147_ok func147 (yc7 _ _))
def y03:ByteArray→Option ((List (ByteArray×PT))×Bool):=fun a0=>
 bif (decide ((((ByteArray.size a0):Nat):Int)>120)) then
  some ([],false)
 else
  Option.bind (yx7 a0) fun(r0,r1)=>
   bif (decide ((((List.length r0):Nat):Int)>0)) then
    some ((List.take (List.length r0) (List.drop 0 r0)),((ByteArray.toList r1)==(ByteArray.toList (⟨#[]⟩:ByteArray))))
   else
    some ((List.take (List.length r0) (List.drop 0 r0)),false)
def A69:FnA:=⟨[.v .str],true,[.sl (.pair .str .pt),.bool],fun x=>y03 x.1⟩
theorem A69_ok:FnOk prog 69 A69:=fo (L:=L0) (by kernel_rfl) func69 E69_ok ya0
def sh73_6:List Fm:=.cell (.val i6)::.clo [.int .i64,.int .i64] i6::d::d::.box 100400 [.val i6,.own i6 100402 false]::.box 100500 [.val i6,.own i6 100502 false]::.cell (.val i6)::d::d::d::.cell (.val i6)::.cell (.val i6)::d::d::.cell (.val i6)::.cell (.val i6)::D 14 []
def xs73_6:List (Ex×List Fm):=[(.exit 2,[.cell (.val i6),.clo [.int .i64,.int .i64] i6,d,d,.box 100400 [.val i6,.own i6 100402 false],.box 100500 [.val i6,.own i6 100502 false],d,d,d,d,.cell (.val i6),.cell (.val i6),d,d,d,d,d,d,d,d,d,d,d,d,d,d,d,d,d,d])]
def yp9:(Int×((Int×Int×Unit)→Option (Int))×(Int×LI×Unit)×(Int×LI×Unit)×Int×Int×Int×Int×Int×Unit)→Option ((Int×((Int×Int×Unit)→Option (Int))×(Int×LI×Unit)×(Int×LI×Unit)×Int×Int×Int×Int×Int×Unit)⊕((Int×((Int×Int×Unit)→Option (Int))×(Int×LI×Unit)×(Int×LI×Unit)×Int×Int×Unit))):=fun(v0,v1,(v4_0,v4_1,_),(v5_0,v5_1,_),v6,v10,v11,v14,v15,_)=>
 bif (decide (v15<v14)) then
  Option.bind (v1 (v6,v15,())) fun r0=>
   if(((0+(List.length v5_1))=(List.length v5_1))∧((((List.length v5_1)+(List.length (List.take 1 (List.drop 0 [r0]))))*8)≤140737488355328)) then
    some (Sum.inl (v0,v1,(v4_0,(List.take (List.length v4_1) (List.drop 0 v4_1)),()),(v5_0,(List.take ((List.length v5_1)+(List.length (List.take 1 (List.drop 0 [r0])))) (List.drop 0 ((List.drop 0 v5_1)++(List.take 1 (List.drop 0 [r0]))))),()),v6,v10,v11,v14,(IntKind.wrap .i64 (v15+1)),()))
   else
    none
 else
  some (Sum.inr (v0,v1,(v4_0,(List.take (List.length v4_1) (List.drop 0 v4_1)),()),(v5_0,(List.take (List.length v5_1) (List.drop 0 v5_1)),()),v10,v11,()))
theorem k0t{L}(h:L 6=some ⟨30,sh73_6,xs73_6,yp9⟩):yb7 prog L (ya9 f73 6):=lo (L':=L0) (by kernel_rfl) yh3 ya0 h
def L73_1:Nat→Option LoopD:=fun n=>ifEq n 6 (some ⟨30,sh73_6,xs73_6,yp9⟩) (L0 n)
def sh73_3:List Fm:=.cell (.val i6)::.clo [.int .i64,.int .i64] i6::d::d::.box 100400 [.val i6,.own i6 100402 false]::.box 100500 [.val i6,.own i6 100502 false]::D 4 (.cell (.val i6)::.cell (.val i6)::D 18 [])
def xs73_3:List (Ex×List Fm):=[(.exit 0,[d,d,d,d,.box 100400 [.val i6,.own i6 100402 false],.box 100500 [.val i6,.own i6 100502 false],d,d,d,d,d,d,d,d,d,d,d,d,d,d,d,d,d,d,d,d,d,d,d,d])]
def yq0:(Int×((Int×Int×Unit)→Option (Int))×(Int×LI×Unit)×(Int×LI×Unit)×Int×Int×Unit)→Option ((Int×((Int×Int×Unit)→Option (Int))×(Int×LI×Unit)×(Int×LI×Unit)×Int×Int×Unit)⊕(((Int×LI×Unit)×(Int×LI×Unit)×Unit))):=fun(v0,v1,(v4_0,v4_1,_),(v5_0,v5_1,_),v10,v11,_)=>
 bif (decide (v11<v10)) then
  Option.bind (ya2 yp9 (v0,v1,(v4_0,(List.take (List.length v4_1) (List.drop 0 v4_1)),()),(v5_0,(List.take (List.length v5_1) (List.drop 0 v5_1)),()),v11,v10,v11,v0,0,())) fun(r0,r1,(r2,r3,_),(r4,r5,_),r6,r7,_)=>
   some (Sum.inl (r0,r1,(r2,(List.take (List.length r3) (List.drop 0 r3)),()),(r4,(List.take (List.length r5) (List.drop 0 r5)),()),r6,(IntKind.wrap .i64 (r7+1)),()))
 else
  some (Sum.inr ((v4_0,(List.take (List.length v4_1) (List.drop 0 v4_1)),()),(v5_0,(List.take (List.length v5_1) (List.drop 0 v5_1)),()),()))
theorem k0u{L}(h:L 3=some ⟨30,sh73_3,xs73_3,yq0⟩):yb7 prog L (ya9 f73 3):=lo (L':=L73_1) (by kernel_rfl) yh3 (ya8 (k0t rfl) ya0) h
def L73_2:Nat→Option LoopD:=fun n=>ifEq n 3 (some ⟨30,sh73_3,xs73_3,yq0⟩) (L73_1 n)
def yr6:Int→((Int×Int×Unit)→Option (Int))→Option (TM):=fun a0 a1=>
 Option.bind (ya2 yq0 (a0,a1,((0:Int),[],()),(a0,[],()),a0,0,())) fun((r0,r1,_),(r2,r3,_),_)=>
  some (r2,(List.take (List.length r3) (List.drop 0 r3)))
def A73:FnA:=⟨[.v i6,.clo [.int .i64,.int .i64] i6],true,[.pair i6 sI],fun x=>yr6 x.1 x.2.1⟩
theorem z7v:FnOk prog 73 A73:=fo (L:=L73_2) (by kernel_rfl) func73 yh3 (ya8 (k0u rfl) ya0)
def yw7:Int→Int→Option (Int):=fun a0 a1=>
 some 1000000
def A249:FnA:=⟨[.v i6,.v i6],true,[.int .i64],fun x=>yw7 x.1 x.2.1⟩
theorem A249_ok:FnOk prog 249 A249:=fo (L:=L0) (by kernel_rfl) func249 yh3 ya0
def E187:Env:=ev fun g=>ifEq g 22 (some A22) (ifEq g 73 (some A73) (ifEq g 249 (some A249) (none)))
theorem km1:FnsOk prog E187:=(oF y2y func22 (oF z7v func73 (oF A249_ok func249 (yc7 _ _))))
def km2:List Fm:=d::.cell (.val .str)::d::d::.box 100400 [.val i6,.own i6 100402 false]::d::.box 100600 [.val i6,.own i6 100602 false]::D 18 (.cell (.val sS)::.cell (.val i6)::.cell (.val i6)::D 22 [])
def km3:List (Ex×List Fm):=[(.exit 0,[d,d,d,d,.box 100400 [.val i6,.own i6 100402 false],d,.box 100600 [.val i6,.own i6 100602 false],d,d,d,d,d,d,d,d,d,d,d,d,d,d,d,d,d,d,d,d,d,d,d,d,d,d,d,d,d,d,d,d,d,d,d,d,d,d,d,d,d,d,d])]
def yg0:(ByteArray×(Int×LI×Unit)×(Int×LI×Unit)×LS×Int×Int×Unit)→Option ((ByteArray×(Int×LI×Unit)×(Int×LI×Unit)×LS×Int×Int×Unit)⊕(((Int×LI×Unit)×(Int×LI×Unit)×Unit))):=fun(v1,(v4_0,v4_1,_),(v6_0,v6_1,_),v25,v26,v27,_)=>
 bif (decide (v27<v26)) then
  if(((0:Int)≤v27)∧(v27<(((List.length v25):Nat):Int))) then
   bif ((ByteArray.toList (List.getD v25 (Int.toNat v27) ((0:Int),⟨Array.empty⟩,0,0)).2.1)==(ByteArray.toList v1)) then
    if(((0:Int)≤(IntKind.wrap .i64 ((IntKind.wrap .i64 ((List.getD v25 (Int.toNat v27) ((0:Int),⟨Array.empty⟩,0,0)).1*v6_0))+(List.getD v25 (Int.toNat v27) ((0:Int),⟨Array.empty⟩,0,0)).2.2.1)))∧((IntKind.wrap .i64 ((IntKind.wrap .i64 ((List.getD v25 (Int.toNat v27) ((0:Int),⟨Array.empty⟩,0,0)).1*v6_0))+(List.getD v25 (Int.toNat v27) ((0:Int),⟨Array.empty⟩,0,0)).2.2.1))<(((List.length v6_1):Nat):Int))) then
     some (Sum.inl (v1,(v4_0,(List.take (List.length v4_1) (List.drop 0 v4_1)),()),(v6_0,(List.take (List.length v6_1) (List.drop 0 (List.set v6_1 (0+(Int.toNat (IntKind.wrap .i64 ((IntKind.wrap .i64 ((List.getD v25 (Int.toNat v27) ((0:Int),⟨Array.empty⟩,0,0)).1*v6_0))+(List.getD v25 (Int.toNat v27) ((0:Int),⟨Array.empty⟩,0,0)).2.2.1)))) (List.getD v25 (Int.toNat v27) ((0:Int),⟨Array.empty⟩,0,0)).2.2.2))),()),v25,v26,(IntKind.wrap .i64 (v27+1)),()))
    else
     none
   else
    some (Sum.inl (v1,(v4_0,(List.take (List.length v4_1) (List.drop 0 v4_1)),()),(v6_0,(List.take (List.length v6_1) (List.drop 0 v6_1)),()),v25,v26,(IntKind.wrap .i64 (v27+1)),()))
  else
   none
 else
  some (Sum.inr ((v4_0,(List.take (List.length v4_1) (List.drop 0 v4_1)),()),(v6_0,(List.take (List.length v6_1) (List.drop 0 v6_1)),()),()))
theorem km4{L}(h:L 5=some ⟨50,km2,km3,yg0⟩):yb7 prog L (ya9 f187 5):=lo (L':=L0) (by kernel_rfl) km1 ya0 h
def L187_1:Nat→Option LoopD:=fun n=>ifEq n 5 (some ⟨50,km2,km3,yg0⟩) (L0 n)
def y0i:TA→ByteArray→Option (TM×Bool):=fun(a0_0,a0_1,a0_2,a0_3) a1=>
 Option.bind (yc6 (a0_0,a0_1,a0_2,a0_3)) fun r0=>
  bif (!r0) then
   some (((0:Int),[]),false)
  else
   bif (!((ByteArray.toList a1)==(ByteArray.toList (⟨#[(97:UInt8)]⟩:ByteArray)))) then
    bif (!((ByteArray.toList a1)==(ByteArray.toList (⟨#[(98:UInt8)]⟩:ByteArray)))) then
     some (((0:Int),[]),false)
    else
     Option.bind (yr6 a0_0 (fun y1=>(yw7 y1.1 y1.2.1))) fun(r2,r3)=>
      Option.bind (ya2 yg0 (a1,((0:Int),[],()),(r2,(List.take (List.length r3) (List.drop 0 r3)),()),a0_3,(((List.length a0_3):Nat):Int),0,())) fun((r4,r5,_),(r6,r7,_),_)=>
       some ((r6,(List.take (List.length r7) (List.drop 0 r7))),true)
   else
    Option.bind (yr6 a0_0 (fun y8=>(yw7 y8.1 y8.2.1))) fun(r9,r10)=>
     Option.bind (ya2 yg0 (a1,((0:Int),[],()),(r9,(List.take (List.length r10) (List.drop 0 r10)),()),a0_3,(((List.length a0_3):Nat):Int),0,())) fun((r11,r12,_),(r13,r14,_),_)=>
      some ((r13,(List.take (List.length r14) (List.drop 0 r14))),true)
def A187:FnA:=⟨[.v kA,.v .str],true,[.pair i6 sI,.bool],fun x=>y0i x.1 x.2.1⟩
theorem A187_ok:FnOk prog 187 A187:=fo (L:=L187_1) (by kernel_rfl) func187 km1 (ya8 (km4 rfl) ya0)
def km5:List Fm:=.cell (.val sI)::.clo [.int .i64] .bool::D 5 (.cell (.val i6)::.cell (.val i6)::D 10 [])
def km6:List (Ex×List Fm):=[(.ret,(D 4 (.cell (.val i6)::D 14 []))),(.exit 0,(D 19 []))]
def yi0:(LI×((Int×Unit)→Option (Bool))×Int×Int×Unit)→Option ((LI×((Int×Unit)→Option (Bool))×Int×Int×Unit)⊕((Int×Unit)⊕(Unit))):=fun(v0,v1,v7,v8,_)=>
 bif (decide (v8<v7)) then
  if(((0:Int)≤v8)∧(v8<(((List.length v0):Nat):Int))) then
   Option.bind (v1 ((List.getD v0 (Int.toNat v8) 0),())) fun r0=>
    bif r0 then
     some (Sum.inr (Sum.inl (v8,())))
    else
     some (Sum.inl (v0,v1,v7,(IntKind.wrap .i64 (v8+1)),()))
  else
   none
 else
  some (Sum.inr (Sum.inr ()))
theorem km7{L}(h:L 2=some ⟨19,km5,km6,yi0⟩):yb7 prog L (ya9 f219 2):=lo (L':=L0) (by kernel_rfl) yh3 ya0 h
def L219_1:Nat→Option LoopD:=fun n=>ifEq n 2 (some ⟨19,km5,km6,yi0⟩) (L0 n)
def y1v:LI→((Int×Unit)→Option (Bool))→Option (Int):=fun a0 a1=>
 Option.bind (ya2 yi0 (a0,a1,(((List.length a0):Nat):Int),0,())) fun r0=>
  (match r0 with
  |.inl (d1,_)=>
    some d1
  |.inr _=>
    some (-1))
def A219:FnA:=⟨[.v sI,.clo [.int .i64] .bool],true,[.int .i64],fun x=>y1v x.1 x.2.1⟩
theorem A219_ok:FnOk prog 219 A219:=fo (L:=L219_1) (by kernel_rfl) func219 yh3 (ya8 (km7 rfl) ya0)
def E145:Env:=ev fun g=>ifEq g 219 (some A219) (none)
theorem E145_ok:FnsOk prog E145:=(oF A219_ok func219 (yc7 _ _))
def yn7:LI→((Int×Unit)→Option (Bool))→Option (Bool):=fun a0 a1=>
 Option.bind (y1v a0 a1) fun r0=>
  some (decide (r0≥0))
def A145:FnA:=⟨[.v sI,.clo [.int .i64] .bool],true,[.bool],fun x=>yn7 x.1 x.2.1⟩
theorem km8:FnOk prog 145 A145:=fo (L:=L0) (by kernel_rfl) func145 E145_ok ya0
def yn1:Int→Option (Bool):=fun a0=>
 bif (decide (a0≥0)) then
  some (decide (a0≤1000000))
 else
  some false
def A218:FnA:=⟨[.v i6],true,[.bool],fun x=>yn1 x.1⟩
theorem z5t:FnOk prog 218 A218:=fo (L:=L0) (by kernel_rfl) func218 yh3 ya0
def E217:Env:=ev fun g=>ifEq g 218 (some A218) (none)
theorem E217_ok:FnsOk prog E217:=(oF z5t func218 (yc7 _ _))
def y0j:Int→Option (Bool):=fun a0=>
 Option.bind (yn1 a0) fun r0=>
  some (!r0)
def A217:FnA:=⟨[.v i6],true,[.bool],fun x=>y0j x.1⟩
theorem A217_ok:FnOk prog 217 A217:=fo (L:=L0) (by kernel_rfl) func217 E217_ok ya0
def E144:Env:=ev fun g=>ifEq g 145 (some A145) (ifEq g 217 (some A217) (none))
theorem E144_ok:FnsOk prog E144:=(oF km8 func145 (oF A217_ok func217 (yc7 _ _)))
def ys9:TM→Option (Bool):=fun(a0_0,a0_1)=>
 bif (decide (a0_0<1)) then
  some false
 else
  bif (decide (a0_0>4)) then
   some false
  else
   bif ((((List.length a0_1):Nat):Int) != (IntKind.wrap .i64 (a0_0*a0_0))) then
    some false
   else
    Option.bind (yn7 a0_1 (fun y0=>(y0j y0.1))) fun r1=>
     some (!r1)
def A144:FnA:=⟨[.v kM],true,[.bool],fun x=>ys9 x.1⟩
theorem km9:FnOk prog 144 A144:=fo (L:=L0) (by kernel_rfl) func144 E144_ok ya0
def yf6:TM→Int→Int→Option (Int):=fun(a0_0,a0_1) a1 a2=>
 if(((0:Int)≤(IntKind.wrap .i64 ((IntKind.wrap .i64 (a1*a0_0))+a2)))∧((IntKind.wrap .i64 ((IntKind.wrap .i64 (a1*a0_0))+a2))<(((List.length a0_1):Nat):Int))) then
  some (List.getD a0_1 (Int.toNat (IntKind.wrap .i64 ((IntKind.wrap .i64 (a1*a0_0))+a2))) 0)
 else
  none
def A68:FnA:=⟨[.v kM,.v i6,.v i6],true,[.int .i64],fun x=>yf6 x.1 x.2.1 x.2.2.1⟩
theorem z7w:FnOk prog 68 A68:=fo (L:=L0) (by kernel_rfl) func68 yh3 ya0
def E273:Env:=ev fun g=>ifEq g 68 (some A68) (none)
theorem E273_ok:FnsOk prog E273:=(oF z7w func68 (yc7 _ _))
def y2z:Int→Int→TM→Option (Int):=fun a0 a1 (a2_0,a2_1)=>
 Option.bind (yf6 (a2_0,a2_1) a0 a1) fun r0=>
  bif (r0==0) then
   some 0
  else
   bif (r0==1000000) then
    some 3
   else
    some 1
def A273:FnA:=⟨[.v i6,.v i6,.cap kM],true,[.int .i64],fun x=>y2z x.1 x.2.1 x.2.2.1⟩
theorem A273_ok:FnOk prog 273 A273:=fo (L:=L0) (by kernel_rfl) func273 E273_ok ya0
def E222:Env:=ev fun g=>ifEq g 144 (some A144) (ifEq g 73 (some A73) (ifEq g 273 (some A273) (none)))
theorem E222_ok:FnsOk prog E222:=(oF km9 func144 (oF z7v func73 (oF A273_ok func273 (yc7 _ _))))
def y17:TM→Option (TM×Bool):=fun(a0_0,a0_1)=>
 Option.bind (ys9 (a0_0,a0_1)) fun r0=>
  bif (!r0) then
   some (((0:Int),[]),false)
  else
   Option.bind (yr6 a0_0 (fun y1=>(y2z y1.1 y1.2.1 (a0_0,a0_1)))) fun(r2,r3)=>
    some ((r2,(List.take (List.length r3) (List.drop 0 r3))),true)
def A222:FnA:=⟨[.v kM],true,[.pair i6 sI,.bool],fun x=>y17 x.1⟩
theorem A222_ok:FnOk prog 222 A222:=fo (L:=L0) (by kernel_rfl) func222 E222_ok ya0
def y0k:Int→Option (Bool):=fun a0=>
 some (decide (a0>3))
def A146:FnA:=⟨[.v i6],true,[.bool],fun x=>y0k x.1⟩
theorem A146_ok:FnOk prog 146 A146:=fo (L:=L0) (by kernel_rfl) func146 yh3 ya0
def E67:Env:=ev fun g=>ifEq g 144 (some A144) (ifEq g 145 (some A145) (ifEq g 146 (some A146) (none)))
theorem E67_ok:FnsOk prog E67:=(oF km9 func144 (oF km8 func145 (oF A146_ok func146 (yc7 _ _))))
def yl5:TM→Option (Bool):=fun(a0_0,a0_1)=>
 Option.bind (ys9 (a0_0,a0_1)) fun r0=>
  bif r0 then
   Option.bind (yn7 a0_1 (fun y1=>(y0k y1.1))) fun r2=>
    some (!r2)
  else
   some false
def A67:FnA:=⟨[.v kM],true,[.bool],fun x=>yl5 x.1⟩
theorem kn0:FnOk prog 67 A67:=fo (L:=L0) (by kernel_rfl) func67 E67_ok ya0
def E78:Env:=ev fun g=>ifEq g 68 (some A68) (none)
theorem E78_ok:FnsOk prog E78:=(oF z7w func68 (yc7 _ _))
def sh78_3:List Fm:=.cell (.val i6)::.cell (.val i6)::.fp kM::.fp kM::d::d::d::.cell (.val i6)::d::d::.cell (.val i6)::.cell (.val i6)::D 15 []
def xs78_3:List (Ex×List Fm):=[(.exit 0,(D 7 (.cell (.val i6)::D 19 [])))]
def yi1:(Int×Int×TM×TM×Int×Int×Int×Unit)→Option ((Int×Int×TM×TM×Int×Int×Int×Unit)⊕((Int×Unit))):=fun(v0,v1,(v2_0,v2_1),(v3_0,v3_1),v7,v10,v11,_)=>
 bif (decide (v11<v10)) then
  Option.bind (yf6 (v2_0,v2_1) v0 v11) fun r0=>
   Option.bind (yf6 (v3_0,v3_1) v11 v1) fun r1=>
    some (Sum.inl (v0,v1,(v2_0,v2_1),(v3_0,v3_1),(if((if(r1>r0) then r1 else r0)<v7) then(if(r1>r0) then r1 else r0) else v7),v10,(IntKind.wrap .i64 (v11+1)),()))
 else
  some (Sum.inr (v7,()))
theorem k0v{L}(h:L 3=some ⟨27,sh78_3,xs78_3,yi1⟩):yb7 prog L (ya9 f78 3):=lo (L':=L0) (by kernel_rfl) E78_ok ya0 h
def L78_1:Nat→Option LoopD:=fun n=>ifEq n 3 (some ⟨27,sh78_3,xs78_3,yi1⟩) (L0 n)
def y1w:Int→Int→TM→TM→Option (Int):=fun a0 a1 (a2_0,a2_1) (a3_0,a3_1)=>
 Option.bind (ya2 yi1 (a0,a1,(a2_0,a2_1),(a3_0,a3_1),3,a2_0,0,())) fun(r0,_)=>
  some r0
def A78:FnA:=⟨[.v i6,.v i6,.cap kM,.cap kM],true,[.int .i64],fun x=>y1w x.1 x.2.1 x.2.2.1 x.2.2.2.1⟩
theorem A78_ok:FnOk prog 78 A78:=fo (L:=L78_1) (by kernel_rfl) func78 E78_ok (ya8 (k0v rfl) ya0)
def E38:Env:=ev fun g=>ifEq g 67 (some A67) (ifEq g 73 (some A73) (ifEq g 78 (some A78) (none)))
theorem E38_ok:FnsOk prog E38:=(oF kn0 func67 (oF z7v func73 (oF A78_ok func78 (yc7 _ _))))
def yk2:TM→TM→Option (TM×Bool):=fun(a0_0,a0_1) (a1_0,a1_1)=>
 Option.bind (yl5 (a0_0,a0_1)) fun r0=>
  bif (!r0) then
   some (((0:Int),[]),false)
  else
   Option.bind (yl5 (a1_0,a1_1)) fun r1=>
    bif (!r1) then
     some (((0:Int),[]),false)
    else
     bif (a0_0 != a1_0) then
      some (((0:Int),[]),false)
     else
      Option.bind (yr6 a0_0 (fun y2=>(y1w y2.1 y2.2.1 (a0_0,a0_1) (a1_0,a1_1)))) fun(r3,r4)=>
       some ((r3,(List.take (List.length r4) (List.drop 0 r4))),true)
def A38:FnA:=⟨[.v kM,.v kM],true,[.pair i6 sI,.bool],fun x=>yk2 x.1 x.2.1⟩
theorem y9b:FnOk prog 38 A38:=fo (L:=L0) (by kernel_rfl) func38 E38_ok ya0
def kn1:List Fm:=.cell (.val sI)::.cell (.val sI)::D 10 (.cell (.val i6)::.cell (.val i6)::D 12 [])
def kn2:List (Ex×List Fm):=[(.ret,(D 4 (.cell (.val .bool)::D 21 []))),(.exit 0,(D 26 []))]
def yn8:(LI×LI×Int×Int×Unit)→Option ((LI×LI×Int×Int×Unit)⊕((Bool×Unit)⊕(Unit))):=fun(v0,v1,v12,v13,_)=>
 bif (decide (v13<v12)) then
  if(((0:Int)≤v13)∧(v13<(((List.length v0):Nat):Int))) then
   if(((0:Int)≤v13)∧(v13<(((List.length v1):Nat):Int))) then
    bif ((List.getD v0 (Int.toNat v13) 0) != (List.getD v1 (Int.toNat v13) 0)) then
     some (Sum.inr (Sum.inl (false,())))
    else
     some (Sum.inl (v0,v1,v12,(IntKind.wrap .i64 (v13+1)),()))
   else
    none
  else
   none
 else
  some (Sum.inr (Sum.inr ()))
theorem kn3{L}(h:L 4=some ⟨26,kn1,kn2,yn8⟩):yb7 prog L (ya9 f152 4):=lo (L':=L0) (by kernel_rfl) yh3 ya0 h
def L152_1:Nat→Option LoopD:=fun n=>ifEq n 4 (some ⟨26,kn1,kn2,yn8⟩) (L0 n)
def y3g:LI→LI→Option (Bool):=fun a0 a1=>
 bif ((((List.length a0):Nat):Int) != (((List.length a1):Nat):Int)) then
  some false
 else
  Option.bind (ya2 yn8 (a0,a1,(((List.length a0):Nat):Int),0,())) fun r0=>
   (match r0 with
   |.inl (d1,_)=>
     some d1
   |.inr _=>
     some true)
def A152:FnA:=⟨[.v sI,.v sI],true,[.bool],fun x=>y3g x.1 x.2.1⟩
theorem A152_ok:FnOk prog 152 A152:=fo (L:=L152_1) (by kernel_rfl) func152 yh3 (ya8 (kn3 rfl) ya0)
def E77:Env:=ev fun g=>ifEq g 152 (some A152) (none)
theorem E77_ok:FnsOk prog E77:=(oF A152_ok func152 (yc7 _ _))
def yv1:TM→TM→Option (Bool):=fun(a0_0,a0_1) (a1_0,a1_1)=>
 bif (a0_0==a1_0) then
  Option.bind (y3g a0_1 a1_1) fun r0=>
   some r0
 else
  some false
def A77:FnA:=⟨[.v kM,.v kM],true,[.bool],fun x=>yv1 x.1 x.2.1⟩
theorem A77_ok:FnOk prog 77 A77:=fo (L:=L0) (by kernel_rfl) func77 E77_ok ya0
def E72:Env:=ev fun g=>ifEq g 38 (some A38) (ifEq g 77 (some A77) (none))
theorem E72_ok:FnsOk prog E72:=(oF y9b func38 (oF A77_ok func77 (yc7 _ _)))
def yw8:TM→Option (Bool):=fun(a0_0,a0_1)=>
 Option.bind (yk2 (a0_0,a0_1) (a0_0,a0_1)) fun((r0,r1),r2)=>
  bif r2 then
   Option.bind (yv1 (r0,(List.take (List.length r1) (List.drop 0 r1))) (a0_0,a0_1)) fun r3=>
    some r3
  else
   some false
def A72:FnA:=⟨[.v kM],true,[.bool],fun x=>yw8 x.1⟩
theorem A72_ok:FnOk prog 72 A72:=fo (L:=L0) (by kernel_rfl) func72 E72_ok ya0
def E74:Env:=ev fun g=>ifEq g 68 (some A68) (none)
theorem E74_ok:FnsOk prog E74:=(oF z7w func68 (yc7 _ _))
def sh74_3:List Fm:=.cell (.val i6)::.cell (.val i6)::.fp kM::d::d::d::.cell (.val i6)::d::d::d::.cell (.val i6)::.cell (.val i6)::D 22 []
def xs74_3:List (Ex×List Fm):=[(.exit 0,(D 6 (.cell (.val i6)::D 27 [])))]
def yi2:(Int×Int×TM×Int×Int×Int×Unit)→Option ((Int×Int×TM×Int×Int×Int×Unit)⊕((Int×Unit))):=fun(v0,v1,(v2_0,v2_1),v6,v10,v11,_)=>
 bif (decide (v11<v10)) then
  Option.bind (yf6 (v2_0,v2_1) v11 v11) fun r0=>
   bif (r0==1) then
    Option.bind (yf6 (v2_0,v2_1) v0 v11) fun r1=>
     Option.bind (yf6 (v2_0,v2_1) v11 v1) fun r2=>
      some (Sum.inl (v0,v1,(v2_0,v2_1),(if((if(r2>(if((2:Int)>r1) then 2 else r1)) then r2 else(if((2:Int)>r1) then 2 else r1))<v6) then(if(r2>(if((2:Int)>r1) then 2 else r1)) then r2 else(if((2:Int)>r1) then 2 else r1)) else v6),v10,(IntKind.wrap .i64 (v11+1)),()))
   else
    Option.bind (yf6 (v2_0,v2_1) v0 v11) fun r3=>
     Option.bind (yf6 (v2_0,v2_1) v11 v1) fun r4=>
      some (Sum.inl (v0,v1,(v2_0,v2_1),(if((if(r4>(if(r0>r3) then r0 else r3)) then r4 else(if(r0>r3) then r0 else r3))<v6) then(if(r4>(if(r0>r3) then r0 else r3)) then r4 else(if(r0>r3) then r0 else r3)) else v6),v10,(IntKind.wrap .i64 (v11+1)),()))
 else
  some (Sum.inr (v6,()))
theorem k0w{L}(h:L 3=some ⟨34,sh74_3,xs74_3,yi2⟩):yb7 prog L (ya9 f74 3):=lo (L':=L0) (by kernel_rfl) E74_ok ya0 h
def L74_1:Nat→Option LoopD:=fun n=>ifEq n 3 (some ⟨34,sh74_3,xs74_3,yi2⟩) (L0 n)
def y1x:Int→Int→TM→Option (Int):=fun a0 a1 (a2_0,a2_1)=>
 Option.bind (ya2 yi2 (a0,a1,(a2_0,a2_1),3,a2_0,0,())) fun(r0,_)=>
  some r0
def A74:FnA:=⟨[.v i6,.v i6,.cap kM],true,[.int .i64],fun x=>y1x x.1 x.2.1 x.2.2.1⟩
theorem A74_ok:FnOk prog 74 A74:=fo (L:=L74_1) (by kernel_rfl) func74 E74_ok (ya8 (k0w rfl) ya0)
def E36:Env:=ev fun g=>ifEq g 72 (some A72) (ifEq g 73 (some A73) (ifEq g 74 (some A74) (none)))
theorem E36_ok:FnsOk prog E36:=(oF A72_ok func72 (oF z7v func73 (oF A74_ok func74 (yc7 _ _))))
def yx8:TM→Option (TM×Bool):=fun(a0_0,a0_1)=>
 Option.bind (yw8 (a0_0,a0_1)) fun r0=>
  bif (!r0) then
   some (((0:Int),[]),false)
  else
   Option.bind (yr6 a0_0 (fun y1=>(y1x y1.1 y1.2.1 (a0_0,a0_1)))) fun(r2,r3)=>
    some ((r2,(List.take (List.length r3) (List.drop 0 r3))),true)
def A36:FnA:=⟨[.v kM],true,[.pair i6 sI,.bool],fun x=>yx8 x.1⟩
theorem ze4:FnOk prog 36 A36:=fo (L:=L0) (by kernel_rfl) func36 E36_ok ya0
def R150(impl_value_rec:TA→(List (ByteArray×PT))→Option (TM×Bool)):FnA:=⟨[.v kA,.v (.sl (.pair .str .pt))],true,[.pair i6 sI,.bool],fun x=>impl_value_rec x.1 x.2.1⟩
def E150(impl_value_rec:TA→(List (ByteArray×PT))→Option (TM×Bool)):Env:=ev fun g=>ifEq g 187 (some A187) (ifEq g 222 (some A222) (ifEq g 150 (some (R150 impl_value_rec)) (ifEq g 36 (some A36) (ifEq g 38 (some A38) (none)))))
theorem z01(impl_value_rec:TA→(List (ByteArray×PT))→Option (TM×Bool))(hrec:FnOk prog 150 (R150 impl_value_rec)):FnsOk prog (E150 impl_value_rec):=(oF A187_ok func187 (oF A222_ok func222 (oF hrec func150 (oF ze4 func36 (oF y9b func38 (yc7 _ _))))))
def kn4(impl_value_rec:TA→(List (ByteArray×PT))→Option (TM×Bool)):Nat→Option LoopD:=fun _=>none
def z5u:List Fm:=d::d::.box 100200 [.val i6,.val sI,.val sI,.val sS]::d::.box 100400 [.val i6,.own i6 100402 false]::d::.box 100600 [.val i6,.own i6 100602 false]::D 6 (.cell (.val (.sl (.pair .str .pt)))::.cell (.val i6)::.cell (.val i6)::D 46 [])
def z5v:List (Ex×List Fm):=[(.ret,[d,d,d,d,.box 100400 [.val i6,.own i6 100402 false],.cell (.val .bool),d,d,d,d,d,d,d,d,d,d,d,d,d,d,d,d,d,d,d,d,d,d,d,d,d,d,d,d,d,d,d,d,d,d,d,d,d,d,d,d,d,d,d,d,d,d,d,d,d,d,d,d,d,d,d,d]),(.exit 0,[d,d,d,d,.box 100400 [.val i6,.own i6 100402 false],d,.box 100600 [.val i6,.own i6 100602 false],d,d,d,d,d,d,d,d,d,d,d,d,d,d,d,d,d,d,d,d,d,d,d,d,d,d,d,d,d,d,d,d,d,d,d,d,d,d,d,d,d,d,d,d,d,d,d,d,d,d,d,d,d,d,d])]
def yp2(impl_value_rec:TA→(List (ByteArray×PT))→Option (TM×Bool)):((Int×LI×LI×LS×Unit)×(Int×LI×Unit)×(Int×LI×Unit)×(List (ByteArray×PT))×Int×Int×Unit)→Option (((Int×LI×LI×LS×Unit)×(Int×LI×Unit)×(Int×LI×Unit)×(List (ByteArray×PT))×Int×Int×Unit)⊕(((Int×LI×Unit)×Bool×Unit)⊕((Int×LI×Unit)×(Int×LI×Unit)×Unit))):=fun((v2_0,v2_1,v2_2,v2_3,_),(v4_0,v4_1,_),(v6_0,v6_1,_),v13,v14,v15,_)=>
 bif (decide (v15<v14)) then
  if(((0:Int)≤v15)∧(v15<(((List.length v13):Nat):Int))) then
   bif (!((ByteArray.toList (List.getD v13 (Int.toNat v15) (⟨Array.empty⟩,(PT.mk []))).1)==(ByteArray.toList (⟨#[]⟩:ByteArray)))) then
    Option.bind (y0i (v2_0,v2_1,v2_2,v2_3) (List.getD v13 (Int.toNat v15) (⟨Array.empty⟩,(PT.mk []))).1) fun((r0,r1),r2)=>
     Option.bind (y17 (r0,(List.take (List.length r1) (List.drop 0 r1)))) fun((r3,r4),r5)=>
      bif (decide (v15>0)) then
       Option.bind (yk2 (v6_0,(List.take (List.length v6_1) (List.drop 0 v6_1))) (r3,(List.take (List.length r4) (List.drop 0 r4)))) fun((r6,r7),r8)=>
        some (Sum.inl ((v2_0,v2_1,v2_2,v2_3,()),(v4_0,(List.take (List.length v4_1) (List.drop 0 v4_1)),()),(r6,(List.take (List.length r7) (List.drop 0 r7)),()),v13,v14,(IntKind.wrap .i64 (v15+1)),()))
      else
       some (Sum.inl ((v2_0,v2_1,v2_2,v2_3,()),(v4_0,(List.take (List.length v4_1) (List.drop 0 v4_1)),()),(r3,(List.take (List.length r4) (List.drop 0 r4)),()),v13,v14,(IntKind.wrap .i64 (v15+1)),()))
   else
    Option.bind (impl_value_rec (v2_0,v2_1,v2_2,v2_3) (PT.l (List.getD v13 (Int.toNat v15) (⟨Array.empty⟩,(PT.mk []))).2)) fun((r9,r10),r11)=>
     bif r11 then
      Option.bind (yx8 (r9,(List.take (List.length r10) (List.drop 0 r10)))) fun((r12,r13),r14)=>
       bif (!r14) then
        some (Sum.inr (Sum.inl (((0:Int),[],()),false,())))
       else
        bif (decide (v15>0)) then
         Option.bind (yk2 (v6_0,(List.take (List.length v6_1) (List.drop 0 v6_1))) (r12,(List.take (List.length r13) (List.drop 0 r13)))) fun((r15,r16),r17)=>
          some (Sum.inl ((v2_0,v2_1,v2_2,v2_3,()),(v4_0,(List.take (List.length v4_1) (List.drop 0 v4_1)),()),(r15,(List.take (List.length r16) (List.drop 0 r16)),()),v13,v14,(IntKind.wrap .i64 (v15+1)),()))
        else
         some (Sum.inl ((v2_0,v2_1,v2_2,v2_3,()),(v4_0,(List.take (List.length v4_1) (List.drop 0 v4_1)),()),(r12,(List.take (List.length r13) (List.drop 0 r13)),()),v13,v14,(IntKind.wrap .i64 (v15+1)),()))
     else
      bif (!r11) then
       some (Sum.inr (Sum.inl (((0:Int),[],()),false,())))
      else
       bif (decide (v15>0)) then
        Option.bind (yk2 (v6_0,(List.take (List.length v6_1) (List.drop 0 v6_1))) (r9,(List.take (List.length r10) (List.drop 0 r10)))) fun((r18,r19),r20)=>
         some (Sum.inl ((v2_0,v2_1,v2_2,v2_3,()),(v4_0,(List.take (List.length v4_1) (List.drop 0 v4_1)),()),(r18,(List.take (List.length r19) (List.drop 0 r19)),()),v13,v14,(IntKind.wrap .i64 (v15+1)),()))
       else
        some (Sum.inl ((v2_0,v2_1,v2_2,v2_3,()),(v4_0,(List.take (List.length v4_1) (List.drop 0 v4_1)),()),(r9,(List.take (List.length r10) (List.drop 0 r10)),()),v13,v14,(IntKind.wrap .i64 (v15+1)),()))
  else
   none
 else
  some (Sum.inr (Sum.inr ((v4_0,(List.take (List.length v4_1) (List.drop 0 v4_1)),()),(v6_0,(List.take (List.length v6_1) (List.drop 0 v6_1)),()),())))
theorem zg7(impl_value_rec:TA→(List (ByteArray×PT))→Option (TM×Bool)):y63 62 (E150 impl_value_rec) (kn4 impl_value_rec) (ya9 f150 3) z5u z5v=(yp2 impl_value_rec):=by kernel_rfl
theorem kn5(impl_value_rec:TA→(List (ByteArray×PT))→Option (TM×Bool))(hrec:FnOk prog 150 (R150 impl_value_rec)){L:Nat→Option LoopD}(h:L 3=some ⟨62,z5u,z5v,(yp2 impl_value_rec)⟩):yb7 prog L (ya9 f150 3):=
 z2l (yb9 yg1) (z01 impl_value_rec hrec) (yf0 (L:=(kn4 impl_value_rec)) (yb9 yg1) (z01 impl_value_rec hrec) mixed (c:=ya9 f150 3) (bs:=[]) (by kernel_rfl) ya0 (by kernel_rfl)) (by kernel_rfl) (by kernel_rfl) (zg7 impl_value_rec) (by rw[show y0t (ya9 f150 3)=3 from by kernel_rfl];exact h)
def kn6(impl_value_rec:TA→(List (ByteArray×PT))→Option (TM×Bool)):Nat→Option LoopD:=fun n=>ifEq n 3 (some ⟨62,z5u,z5v,(yp2 impl_value_rec)⟩) ((kn4 impl_value_rec) n)
def yv2(impl_value_rec:TA→(List (ByteArray×PT))→Option (TM×Bool)):TA→(List (ByteArray×PT))→Option (TM×Bool):=fun(a0_0,a0_1,a0_2,a0_3) a1=>
 Option.bind (ya2 (yp2 impl_value_rec) ((a0_0,a0_1,a0_2,a0_3,()),((0:Int),[],()),((0:Int),[],()),a1,(((List.length a1):Nat):Int),0,())) fun r0=>
  (match r0 with
  |.inl ((d1,d2,_),d3,_)=>
    some ((d1,(List.take (List.length d2) (List.drop 0 d2))),d3)
  |.inr ((d4,d5,_),(d6,d7,_),_)=>
    some ((d6,(List.take (List.length d7) (List.drop 0 d7))),true))
theorem y9c(impl_value_rec:TA→(List (ByteArray×PT))→Option (TM×Bool)):fnF (E150 impl_value_rec) (kn6 impl_value_rec) [.v kA,.v (.sl (.pair .str .pt))] true [.pair i6 sI,.bool] f150.ntmps f150.results.toList (yc9 f150)=fun x=>(yv2 impl_value_rec) x.1 x.2.1:=by kernel_rfl
theorem y9d(impl_value_rec:TA→(List (ByteArray×PT))→Option (TM×Bool))(hrec:FnOk prog 150 (R150 impl_value_rec)):FnOk prog 150 ⟨[.v kA,.v (.sl (.pair .str .pt))],true,[.pair i6 sI,.bool],fun x=>(yv2 impl_value_rec) x.1 x.2.1⟩:=by
 have h:=yu6 (P:=prog) (E:=(E150 impl_value_rec)) (yb9 yg1) (z01 impl_value_rec hrec) (L:=(kn6 impl_value_rec)) (ps:=[.v kA,.v (.sl (.pair .str .pt))]) (own:=true) (outs:=[.pair i6 sI,.bool]) func150 (c:=yc9 f150) (by kernel_rfl) (yf0 (L:=(kn6 impl_value_rec)) (yb9 yg1) (z01 impl_value_rec hrec) mixed (c:=yc9 f150) (bs:=[ya9 f150 3]) (by kernel_rfl) (ya8 (kn5 impl_value_rec hrec rfl) ya0) (by kernel_rfl));rw[(y9c impl_value_rec)] at h;exact h
/-- so many calls within each other -/
def yq8:Nat→TA→(List (ByteArray×PT))→Option (TM×Bool)
 |0=>fun _ _=>none
 |n+1=>yv2 (yq8 n)
theorem y3h:∀n,FnOk prog 150 (R150 (yq8 n))
 |0=>fun xs r h=>by cases h
 |n+1=>y9d (yq8 n) (y3h n)
def zb5:TA→(List (ByteArray×PT))→Option (TM×Bool):=yq8 200
def A150:FnA:=R150 zb5
theorem A150_ok:FnOk prog 150 A150:=y3h 200
def E71:Env:=ev fun g=>ifEq g 69 (some A69) (ifEq g 22 (some A22) (ifEq g 150 (some A150) (none)))
theorem E71_ok:FnsOk prog E71:=(oF A69_ok func69 (oF y2y func22 (oF A150_ok func150 (yc7 _ _))))
def y1h:TA→ByteArray→Option (TM×Bool):=fun(a0_0,a0_1,a0_2,a0_3) a1=>
 Option.bind (y03 a1) fun(r0,r1)=>
  bif (!r1) then
   some (((0:Int),[]),false)
  else
   Option.bind (yc6 (a0_0,a0_1,a0_2,a0_3)) fun r2=>
    bif (!r2) then
     some (((0:Int),[]),false)
    else
     Option.bind (zb5 (a0_0,a0_1,a0_2,a0_3) (List.take (List.length r0) (List.drop 0 r0))) fun((r3,r4),r5)=>
      some ((r3,(List.take (List.length r4) (List.drop 0 r4))),r5)
def A71:FnA:=⟨[.v kA,.v .str],true,[.pair i6 sI,.bool],fun x=>y1h x.1 x.2.1⟩
theorem zo0:FnOk prog 71 A71:=fo (L:=L0) (by kernel_rfl) func71 E71_ok ya0
def kn7:List Fm:=.cell (.val sE)::.clo [.pair kM .str] .bool::D 5 (.cell (.val i6)::.cell (.val i6)::D 10 [])
def kn8:List (Ex×List Fm):=[(.ret,(D 4 (.cell (.val i6)::D 14 []))),(.exit 0,(D 19 []))]
def yd1:(LE×((TE×Unit)→Option (Bool))×Int×Int×Unit)→Option ((LE×((TE×Unit)→Option (Bool))×Int×Int×Unit)⊕((Int×Unit)⊕(Unit))):=fun(v0,v1,v7,v8,_)=>
 bif (decide (v8<v7)) then
  if(((0:Int)≤v8)∧(v8<(((List.length v0):Nat):Int))) then
   Option.bind (v1 ((List.getD v0 (Int.toNat v8) (((0:Int),[]),⟨Array.empty⟩)),())) fun r0=>
    bif r0 then
     some (Sum.inr (Sum.inl (v8,())))
    else
     some (Sum.inl (v0,v1,v7,(IntKind.wrap .i64 (v8+1)),()))
  else
   none
 else
  some (Sum.inr (Sum.inr ()))
theorem kn9{L}(h:L 2=some ⟨19,kn7,kn8,yd1⟩):yb7 prog L (ya9 f151 2):=lo (L':=L0) (by kernel_rfl) yh3 ya0 h
def L151_1:Nat→Option LoopD:=fun n=>ifEq n 2 (some ⟨19,kn7,kn8,yd1⟩) (L0 n)
def yq9:LE→((TE×Unit)→Option (Bool))→Option (Int):=fun a0 a1=>
 Option.bind (ya2 yd1 (a0,a1,(((List.length a0):Nat):Int),0,())) fun r0=>
  (match r0 with
  |.inl (d1,_)=>
    some d1
  |.inr _=>
    some (-1))
def A151:FnA:=⟨[.v sE,.clo [.pair kM .str] .bool],true,[.int .i64],fun x=>yq9 x.1 x.2.1⟩
theorem A151_ok:FnOk prog 151 A151:=fo (L:=L151_1) (by kernel_rfl) func151 yh3 (ya8 (kn9 rfl) ya0)
def E75:Env:=ev fun g=>ifEq g 151 (some A151) (none)
theorem E75_ok:FnsOk prog E75:=(oF A151_ok func151 (yc7 _ _))
def yc5:LE→((TE×Unit)→Option (Bool))→Option (Bool):=fun a0 a1=>
 Option.bind (yq9 a0 a1) fun r0=>
  some (decide (r0≥0))
def A75:FnA:=⟨[.v sE,.clo [.pair kM .str] .bool],true,[.bool],fun x=>yc5 x.1 x.2.1⟩
theorem zo1:FnOk prog 75 A75:=fo (L:=L0) (by kernel_rfl) func75 E75_ok ya0
def E76:Env:=ev fun g=>ifEq g 77 (some A77) (none)
theorem E76_ok:FnsOk prog E76:=(oF A77_ok func77 (yc7 _ _))
def yj2:TE→TM→Option (Bool):=fun((a0_0,a0_1),a0_2) (a1_0,a1_1)=>
 Option.bind (yv1 (a0_0,a0_1) (a1_0,a1_1)) fun r0=>
  some r0
def A76:FnA:=⟨[.v kE,.cap kM],true,[.bool],fun x=>yj2 x.1 x.2.1⟩
theorem zo2:FnOk prog 76 A76:=fo (L:=L0) (by kernel_rfl) func76 E76_ok ya0
end
end Go.Proofs.YtafognnoibjjeaaGreatDoor
