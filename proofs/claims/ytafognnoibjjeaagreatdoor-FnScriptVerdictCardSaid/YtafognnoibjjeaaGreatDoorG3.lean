/- What Go functions that the laws reach compute, and that they do: written by a program of this session. -/
import Derived.Test.YtafognnoibjjeaaGreatDoorG2
import Derived.KernelRfl
set_option linter.unusedVariables false
namespace Go.Proofs.YtafognnoibjjeaaGreatDoor
open Go Go.Proofs.YtafognnoibjjeaaGreatDoor.Am Go.Proofs.Tryz
set_option maxRecDepth 100000
noncomputable section
def sh62_6:List Fm:=d::d::.box 100200 [.val i6,.val sI,.val sI,.val sS]::.box 100300 [.val i6,.val sI]::d::.cell (.val i6)::d::.cell (.val i6)::d::d::d::.cell (.val sI)::.cell (.val i6)::.cell (.val i6)::D 4 (.cell (.val sI)::.cell (.val i6)::.cell (.val i6)::D 18 [])
def xs62_6:List (Ex×List Fm):=[(.exit 2,[d,d,.box 100200 [.val i6,.val sI,.val sI,.val sS],.box 100300 [.val i6,.val sI],d,.cell (.val i6),d,d,d,d,d,.cell (.val sI),.cell (.val i6),.cell (.val i6),d,d,d,d,d,d,d,d,d,d,d,d,d,d,d,d,d,d,d,d,d,d,d,d,d])]
def yi6:((Int×LI×LI×LS×Unit)×(Int×LI×Unit)×Int×Int×LI×Int×Int×LI×Int×Int×Unit)→Option (((Int×LI×LI×LS×Unit)×(Int×LI×Unit)×Int×Int×LI×Int×Int×LI×Int×Int×Unit)⊕(((Int×LI×LI×LS×Unit)×(Int×LI×Unit)×Int×LI×Int×Int×Unit))):=fun((v2_0,v2_1,v2_2,v2_3,_),(v3_0,v3_1,_),v5,v7,v11,v12,v13,v18,v19,v20,_)=>
 bif (decide (v20<v19)) then
  if(((0:Int)≤v20)∧(v20<(((List.length v18):Nat):Int))) then
   if(((0:Int)≤(IntKind.wrap .i64 ((IntKind.wrap .i64 (v7*v2_0))+(List.getD v18 (Int.toNat v20) 0))))∧((IntKind.wrap .i64 ((IntKind.wrap .i64 (v7*v2_0))+(List.getD v18 (Int.toNat v20) 0)))<(((List.length v3_1):Nat):Int))) then
    some (Sum.inl ((v2_0,v2_1,v2_2,v2_3,()),(v3_0,v3_1,()),(if((List.getD v3_1 (Int.toNat (IntKind.wrap .i64 ((IntKind.wrap .i64 (v7*v2_0))+(List.getD v18 (Int.toNat v20) 0)))) 0)<v5) then(List.getD v3_1 (Int.toNat (IntKind.wrap .i64 ((IntKind.wrap .i64 (v7*v2_0))+(List.getD v18 (Int.toNat v20) 0)))) 0) else v5),v7,v11,v12,v13,v18,v19,(IntKind.wrap .i64 (v20+1)),()))
   else
    none
  else
   none
 else
  some (Sum.inr ((v2_0,v2_1,v2_2,v2_3,()),(v3_0,v3_1,()),v5,v11,v12,v13,()))
theorem k05{L}(h:L 6=some ⟨39,sh62_6,xs62_6,yi6⟩):yb7 prog L (ya9 f62 6):=lo (L':=L0) (by kernel_rfl) yh3 ya0 h
def L62_1:Nat→Option LoopD:=fun n=>ifEq n 6 (some ⟨39,sh62_6,xs62_6,yi6⟩) (L0 n)
def sh62_3:List Fm:=d::d::.box 100200 [.val i6,.val sI,.val sI,.val sS]::.box 100300 [.val i6,.val sI]::d::.cell (.val i6)::D 5 (.cell (.val sI)::.cell (.val i6)::.cell (.val i6)::D 25 [])
def xs62_3:List (Ex×List Fm):=[(.exit 0,(D 5 (.cell (.val i6)::D 33 [])))]
def yj9:((Int×LI×LI×LS×Unit)×(Int×LI×Unit)×Int×LI×Int×Int×Unit)→Option (((Int×LI×LI×LS×Unit)×(Int×LI×Unit)×Int×LI×Int×Int×Unit)⊕((Int×Unit))):=fun((v2_0,v2_1,v2_2,v2_3,_),(v3_0,v3_1,_),v5,v11,v12,v13,_)=>
 bif (decide (v13<v12)) then
  if(((0:Int)≤v13)∧(v13<(((List.length v11):Nat):Int))) then
   Option.bind (ya2 yi6 ((v2_0,v2_1,v2_2,v2_3,()),(v3_0,v3_1,()),v5,(List.getD v11 (Int.toNat v13) 0),v11,v12,v13,v2_2,(((List.length v2_2):Nat):Int),0,())) fun((r0,r1,r2,r3,_),(r4,r5,_),r6,r7,r8,r9,_)=>
    some (Sum.inl ((r0,r1,r2,r3,()),(r4,r5,()),r6,r7,r8,(IntKind.wrap .i64 (r9+1)),()))
  else
   none
 else
  some (Sum.inr (v5,()))
theorem k06{L}(h:L 3=some ⟨39,sh62_3,xs62_3,yj9⟩):yb7 prog L (ya9 f62 3):=lo (L':=L62_1) (by kernel_rfl) yh3 (ya8 (k05 rfl) ya0) h
def L62_2:Nat→Option LoopD:=fun n=>ifEq n 3 (some ⟨39,sh62_3,xs62_3,yj9⟩) (L62_1 n)
def y09:TA→TM→Option (Int):=fun(a0_0,a0_1,a0_2,a0_3) (a1_0,a1_1)=>
 Option.bind (ya2 yj9 ((a0_0,a0_1,a0_2,a0_3,()),(a1_0,a1_1,()),3,a0_1,(((List.length a0_1):Nat):Int),0,())) fun(r0,_)=>
  some r0
def A62:FnA:=⟨[.v kA,.v kM],true,[.int .i64],fun x=>y09 x.1 x.2.1⟩
theorem A62_ok:FnOk prog 62 A62:=fo (L:=L62_2) (by kernel_rfl) func62 yh3 (ya8 (k06 rfl) ya0)
def E26:Env:=ev fun g=>ifEq g 61 (some A61) (ifEq g 62 (some A62) (none))
theorem ks1:FnsOk prog E26:=(oF A61_ok func61 (oF A62_ok func62 (yc7 _ _)))
def sh26_7:List Fm:=d::.box 100100 [.val i6,.val sI,.val sI,.val sS]::d::d::.cell (.own i6 100400 false)::d::d::.box 100700 [.val .bool,.val .bool,.val .bool,.val .bool]::D 13 (.cell (.own kE 102100 false)::.cell (.val i6)::.cell (.val i6)::D 21 [])
def xs26_7:List (Ex×List Fm):=[(.exit 0,[d,d,d,d,.cell (.own i6 100400 false),d,d,.box 100700 [.val .bool,.val .bool,.val .bool,.val .bool],d,d,d,d,d,d,d,d,d,d,d,d,d,d,d,d,d,d,d,d,d,d,d,d,d,d,d,d,d,d,d,d,d,d,d,d,d])]
def ym0:((Int×LI×LI×LS×Unit)×LI×(Bool×Bool×Bool×Bool×Unit)×LE×Int×Int×Unit)→Option (((Int×LI×LI×LS×Unit)×LI×(Bool×Bool×Bool×Bool×Unit)×LE×Int×Int×Unit)⊕((LI×(Bool×Bool×Bool×Bool×Unit)×Unit))):=fun((v1_0,v1_1,v1_2,v1_3,_),v4,(v7_0,v7_1,v7_2,v7_3,_),v21,v22,v23,_)=>
 bif (decide (v23<v22)) then
  if(((0:Int)≤v23)∧(v23<(((List.length v21):Nat):Int))) then
   Option.bind (y09 (v1_0,v1_1,v1_2,v1_3) ((List.getD v21 (0+(Int.toNat v23)) (((0:Int),[]),⟨Array.empty⟩)).1.1,(List.getD v21 (0+(Int.toNat v23)) (((0:Int),[]),⟨Array.empty⟩)).1.2)) fun r0=>
    if(((0:Int)≤r0)∧(r0<((4:Nat):Int))) then
     some (Sum.inl ((v1_0,v1_1,v1_2,v1_3,()),(List.take (List.length v4) (List.drop 0 v4)),((bif (Nat.beq (Int.toNat r0) 0) then true else v7_0),(bif (Nat.beq (Int.toNat r0) (0+1)) then true else v7_1),(bif (Nat.beq (Int.toNat r0) ((0+1)+1)) then true else v7_2),(bif (Nat.beq (Int.toNat r0) (((0+1)+1)+1)) then true else v7_3),()),(List.take (List.length v21) (List.drop 0 v21)),v22,(IntKind.wrap .i64 (v23+1)),()))
    else
     none
  else
   none
 else
  some (Sum.inr ((List.take (List.length v4) (List.drop 0 v4)),(v7_0,v7_1,v7_2,v7_3,()),()))
theorem k07{L}(h:L 7=some ⟨45,sh26_7,xs26_7,ym0⟩):yb7 prog L (ya9 f26 7):=lo (L':=L0) (by kernel_rfl) ks1 ya0 h
def L26_1:Nat→Option LoopD:=fun n=>ifEq n 7 (some ⟨45,sh26_7,xs26_7,ym0⟩) (L0 n)
def ks2:List Fm:=D 4 (.cell (.own i6 100400 false)::D 28 (.cell (.val (.pair .bool (.pair .bool (.pair .bool .bool))))::.cell (.val i6)::D 10 []))
def ks3:List (Ex×List Fm):=[(.exit 2,(D 4 (.cell (.own i6 100400 false)::D 40 [])))]
def yi7:(LI×(Bool×(Bool×(Bool×Bool)))×Int×Unit)→Option ((LI×(Bool×(Bool×(Bool×Bool)))×Int×Unit)⊕((LI×Unit))):=fun(v4,(v33_0,v33_1,v33_2,v33_3),v34,_)=>
 bif (decide (v34<4)) then
  if(((0:Int)≤v34)∧(v34<((4:Nat):Int))) then
   bif (List.getD [v33_0,v33_1,v33_2,v33_3] (Int.toNat v34) false) then
    if(((0+(List.length v4))=(List.length v4))∧((((List.length v4)+(List.length (List.take 1 (List.drop 0 [v34]))))*8)≤140737488355328)) then
     some (Sum.inl ((List.take ((List.length v4)+(List.length (List.take 1 (List.drop 0 [v34])))) (List.drop 0 ((List.drop 0 v4)++(List.take 1 (List.drop 0 [v34]))))),(v33_0,v33_1,v33_2,v33_3),(IntKind.wrap .i64 (v34+1)),()))
    else
     none
   else
    some (Sum.inl ((List.take (List.length v4) (List.drop 0 v4)),(v33_0,v33_1,v33_2,v33_3),(IntKind.wrap .i64 (v34+1)),()))
  else
   none
 else
  some (Sum.inr ((List.take (List.length v4) (List.drop 0 v4)),()))
theorem ks4{L}(h:L 12=some ⟨45,ks2,ks3,yi7⟩):yb7 prog L (ya9 f26 12):=lo (L':=L26_1) (by kernel_rfl) ks1 ya0 h
def L26_2:Nat→Option LoopD:=fun n=>ifEq n 12 (some ⟨45,ks2,ks3,yi7⟩) (L26_1 n)
def ys2:TA→Option (LI×Bool):=fun(a0_0,a0_1,a0_2,a0_3)=>
 Option.bind (yd5 (a0_0,a0_1,a0_2,a0_3)) fun(r0,r1)=>
  bif (!r1) then
   some ((List.take 0 (List.drop 0 [])),false)
  else
   Option.bind (ya2 ym0 ((a0_0,a0_1,a0_2,a0_3,()),(List.take 0 (List.drop 0 [])),(false,false,false,false,()),(List.take (List.length r0) (List.drop 0 r0)),(((List.length r0):Nat):Int),0,())) fun(r2,(r3,r4,r5,r6,_),_)=>
    Option.bind (ya2 yi7 ((List.take (List.length r2) (List.drop 0 r2)),(r3,r4,r5,r6),0,())) fun(r7,_)=>
     some ((List.take (List.length r7) (List.drop 0 r7)),true)
def A26:FnA:=⟨[.v kA],true,[.sl i6,.bool],fun x=>ys2 x.1⟩
theorem A26_ok:FnOk prog 26 A26:=fo (L:=L26_2) (by kernel_rfl) func26 ks1 (ya8 (k07 rfl) (ya8 (ks4 rfl) ya0))
def sh28_2:List Fm:=d::.cell (.val i6)::D 5 (.cell (.val sI)::.cell (.val i6)::.cell (.val i6)::D 7 [])
def xs28_2:List (Ex×List Fm):=[(.ret,(D 4 (.cell (.val .bool)::D 12 []))),(.exit 0,(D 17 []))]
def yv4:(Int×LI×Int×Int×Unit)→Option ((Int×LI×Int×Int×Unit)⊕((Bool×Unit)⊕(Unit))):=fun(v1,v7,v8,v9,_)=>
 bif (decide (v9<v8)) then
  if(((0:Int)≤v9)∧(v9<(((List.length v7):Nat):Int))) then
   bif ((List.getD v7 (Int.toNat v9) 0)==v1) then
    some (Sum.inr (Sum.inl (true,())))
   else
    some (Sum.inl (v1,v7,v8,(IntKind.wrap .i64 (v9+1)),()))
  else
   none
 else
  some (Sum.inr (Sum.inr ()))
theorem k08{L}(h:L 2=some ⟨17,sh28_2,xs28_2,yv4⟩):yb7 prog L (ya9 f28 2):=lo (L':=L0) (by kernel_rfl) yh3 ya0 h
def L28_1:Nat→Option LoopD:=fun n=>ifEq n 2 (some ⟨17,sh28_2,xs28_2,yv4⟩) (L0 n)
def y3a:LI→Int→Option (Bool):=fun a0 a1=>
 Option.bind (ya2 yv4 (a1,a0,(((List.length a0):Nat):Int),0,())) fun r0=>
  (match r0 with
  |.inl (d1,_)=>
    some d1
  |.inr _=>
    some false)
def A28:FnA:=⟨[.v sI,.v i6],true,[.bool],fun x=>y3a x.1 x.2.1⟩
theorem A28_ok:FnOk prog 28 A28:=fo (L:=L28_1) (by kernel_rfl) func28 yh3 (ya8 (k08 rfl) ya0)
def E29:Env:=ev fun g=>ifEq g 28 (some A28) (none)
theorem E29_ok:FnsOk prog E29:=(oF A28_ok func28 (yc7 _ _))
def sh29_2:List Fm:=d::.box 100100 [.val i6,.val sI,.val sI,.val sS]::D 4 (.cell (.val sI)::.cell (.val i6)::.cell (.val i6)::D 8 [])
def xs29_2:List (Ex×List Fm):=[(.ret,(d::d::.cell (.val .bool)::D 14 [])),(.exit 0,(D 17 []))]
def yo0:((Int×LI×LI×LS×Unit)×LI×Int×Int×Unit)→Option (((Int×LI×LI×LS×Unit)×LI×Int×Int×Unit)⊕((Bool×Unit)⊕(Unit))):=fun((v1_0,v1_1,v1_2,v1_3,_),v6,v7,v8,_)=>
 bif (decide (v8<v7)) then
  if(((0:Int)≤v8)∧(v8<(((List.length v6):Nat):Int))) then
   Option.bind (y3a v1_2 (List.getD v6 (Int.toNat v8) 0)) fun r0=>
    bif r0 then
     some (Sum.inr (Sum.inl (true,())))
    else
     some (Sum.inl ((v1_0,v1_1,v1_2,v1_3,()),v6,v7,(IntKind.wrap .i64 (v8+1)),()))
  else
   none
 else
  some (Sum.inr (Sum.inr ()))
theorem k09{L}(h:L 2=some ⟨17,sh29_2,xs29_2,yo0⟩):yb7 prog L (ya9 f29 2):=lo (L':=L0) (by kernel_rfl) E29_ok ya0 h
def L29_1:Nat→Option LoopD:=fun n=>ifEq n 2 (some ⟨17,sh29_2,xs29_2,yo0⟩) (L0 n)
def y3j:TA→Option (Bool):=fun(a0_0,a0_1,a0_2,a0_3)=>
 Option.bind (ya2 yo0 ((a0_0,a0_1,a0_2,a0_3,()),a0_1,(((List.length a0_1):Nat):Int),0,())) fun r0=>
  (match r0 with
  |.inl (d1,_)=>
    some d1
  |.inr _=>
    some false)
def A29:FnA:=⟨[.v kA],true,[.bool],fun x=>y3j x.1⟩
theorem A29_ok:FnOk prog 29 A29:=fo (L:=L29_1) (by kernel_rfl) func29 E29_ok (ya8 (k09 rfl) ya0)
def E6:Env:=ev fun g=>ifEq g 26 (some A26) (ifEq g 27 (some A27) (ifEq g 28 (some A28) (ifEq g 29 (some A29) (none))))
theorem E6_ok:FnsOk prog E6:=(oF A26_ok func26 (oF kk6 func27 (oF A28_ok func28 (oF A29_ok func29 (yc7 _ _)))))
def yj0:TA→Option (ByteArray):=fun(a0_0,a0_1,a0_2,a0_3)=>
 Option.bind (ys2 (a0_0,a0_1,a0_2,a0_3)) fun(r0,r1)=>
  Option.bind (yd0 (a0_0,a0_1,a0_2,a0_3)) fun r2=>
   bif (!r2) then
    some (⟨#[]⟩:ByteArray)
   else
    bif (!r1) then
     some (⟨#[(117:UInt8),(110:UInt8),(107:UInt8),(110:UInt8),(111:UInt8),(119:UInt8),(110:UInt8)]⟩:ByteArray)
    else
     Option.bind (y3a (List.take (List.length r0) (List.drop 0 r0)) 2) fun r3=>
      bif r3 then
       some (⟨#[(103:UInt8),(114:UInt8),(111:UInt8),(119:UInt8),(105:UInt8),(110:UInt8),(103:UInt8)]⟩:ByteArray)
      else
       Option.bind (y3a (List.take (List.length r0) (List.drop 0 r0)) 1) fun r4=>
        bif r4 then
         some (⟨#[(98:UInt8),(111:UInt8),(117:UInt8),(110:UInt8),(100:UInt8),(101:UInt8),(100:UInt8)]⟩:ByteArray)
        else
         Option.bind (y3a (List.take (List.length r0) (List.drop 0 r0)) 0) fun r5=>
          bif r5 then
           some (⟨#[(102:UInt8),(114:UInt8),(101:UInt8),(101:UInt8)]⟩:ByteArray)
          else
           Option.bind (y3j (a0_0,a0_1,a0_2,a0_3)) fun r6=>
            bif r6 then
             some (⟨#[(102:UInt8),(114:UInt8),(101:UInt8),(101:UInt8)]⟩:ByteArray)
            else
             some (⟨#[(110:UInt8),(111:UInt8),(110:UInt8),(101:UInt8)]⟩:ByteArray)
def A6:FnA:=⟨[.v kA],true,[.str],fun x=>yj0 x.1⟩
theorem A6_ok:FnOk prog 6 A6:=fo (L:=L0) (by kernel_rfl) func6 E6_ok ya0
def E30:Env:=ev fun g=>ifEq g 10 (some A10) (none)
theorem E30_ok:FnsOk prog E30:=(oF zo8 func10 (yc7 _ _))
def sh30_3:List Fm:=d::.clo [.pair i6 sI] .bool::D 13 (.cell (.own kE 101500 false)::.cell (.val i6)::.cell (.val i6)::D 10 [])
def xs30_3:List (Ex×List Fm):=[(.ret,(D 4 (.cell (.val .str)::.cell (.val .bool)::D 22 []))),(.exit 0,(D 28 []))]
def yk0:(((TM×Unit)→Option (Bool))×LE×Int×Int×Unit)→Option ((((TM×Unit)→Option (Bool))×LE×Int×Int×Unit)⊕((ByteArray×Bool×Unit)⊕(Unit))):=fun(v1,v15,v16,v17,_)=>
 bif (decide (v17<v16)) then
  if(((0:Int)≤v17)∧(v17<(((List.length v15):Nat):Int))) then
   Option.bind (v1 (((List.getD v15 (0+(Int.toNat v17)) (((0:Int),[]),⟨Array.empty⟩)).1.1,(List.getD v15 (0+(Int.toNat v17)) (((0:Int),[]),⟨Array.empty⟩)).1.2),())) fun r0=>
    bif r0 then
     some (Sum.inr (Sum.inl ((List.getD v15 (0+(Int.toNat v17)) (((0:Int),[]),⟨Array.empty⟩)).2,true,())))
    else
     some (Sum.inl (v1,(List.take (List.length v15) (List.drop 0 v15)),v16,(IntKind.wrap .i64 (v17+1)),()))
  else
   none
 else
  some (Sum.inr (Sum.inr ()))
theorem k1a{L}(h:L 3=some ⟨28,sh30_3,xs30_3,yk0⟩):yb7 prog L (ya9 f30 3):=lo (L':=L0) (by kernel_rfl) E30_ok ya0 h
def L30_1:Nat→Option LoopD:=fun n=>ifEq n 3 (some ⟨28,sh30_3,xs30_3,yk0⟩) (L0 n)
def y1a:TA→((TM×Unit)→Option (Bool))→Option (ByteArray×Bool):=fun(a0_0,a0_1,a0_2,a0_3) a1=>
 Option.bind (ya6 (a0_0,a0_1,a0_2,a0_3)) fun(r0,r1)=>
  Option.bind (ya2 yk0 (a1,(List.take (List.length r0) (List.drop 0 r0)),(((List.length r0):Nat):Int),0,())) fun r2=>
   (match r2 with
   |.inl (d3,d4,_)=>
     some (d3,d4)
   |.inr _=>
     some ((⟨#[]⟩:ByteArray),false))
def A30:FnA:=⟨[.v kA,.clo [.pair i6 sI] .bool],true,[.str,.bool],fun x=>y1a x.1 x.2.1⟩
theorem A30_ok:FnOk prog 30 A30:=fo (L:=L30_1) (by kernel_rfl) func30 E30_ok (ya8 (k1a rfl) ya0)
def E31:Env:=ev fun g=>ifEq g 32 (some A32) (none)
theorem E31_ok:FnsOk prog E31:=(oF z7x func32 (yc7 _ _))
def yy3:TM→TA→Option (Bool):=fun(a0_0,a0_1) (a1_0,a1_1,a1_2,a1_3)=>
 Option.bind (yj8 (a1_0,a1_1,a1_2,a1_3) (a0_0,a0_1)) fun r0=>
  some (r0==2)
def A31:FnA:=⟨[.v kM,.cap kA],true,[.bool],fun x=>yy3 x.1 x.2.1⟩
theorem A31_ok:FnOk prog 31 A31:=fo (L:=L0) (by kernel_rfl) func31 E31_ok ya0
def E8:Env:=ev fun g=>ifEq g 30 (some A30) (ifEq g 31 (some A31) (none))
theorem E8_ok:FnsOk prog E8:=(oF A30_ok func30 (oF A31_ok func31 (yc7 _ _)))
def yk4:TA→Option (ByteArray×Bool):=fun(a0_0,a0_1,a0_2,a0_3)=>
 Option.bind (y1a (a0_0,a0_1,a0_2,a0_3) (fun y0=>(yy3 y0.1 (a0_0,a0_1,a0_2,a0_3)))) fun(r1,r2)=>
  some (r1,r2)
def A8:FnA:=⟨[.v kA],true,[.str,.bool],fun x=>yk4 x.1⟩
theorem A8_ok:FnOk prog 8 A8:=fo (L:=L0) (by kernel_rfl) func8 E8_ok ya0
def E7:Env:=ev fun g=>ifEq g 10 (some A10) (ifEq g 8 (some A8) (none))
theorem E7_ok:FnsOk prog E7:=(oF zo8 func10 (oF A8_ok func8 (yc7 _ _)))
def yn2:TA→Option (Bool×Bool):=fun(a0_0,a0_1,a0_2,a0_3)=>
 Option.bind (ya6 (a0_0,a0_1,a0_2,a0_3)) fun(r0,r1)=>
  Option.bind (yk4 (a0_0,a0_1,a0_2,a0_3)) fun(r2,r3)=>
   bif r1 then
    some ((!r3),r1)
   else
    some (false,r1)
def A7:FnA:=⟨[.v kA],true,[.bool,.bool],fun x=>yn2 x.1⟩
theorem A7_ok:FnOk prog 7 A7:=fo (L:=L0) (by kernel_rfl) func7 E7_ok ya0
def E148:Env:=ev fun g=>ifEq g 218 (some A218) (none)
theorem E148_ok:FnsOk prog E148:=(oF z5t func218 (yc7 _ _))
def y1i:Int→Int→Option (Int):=fun a0 a1=>
 Option.bind (yn1 a0) fun r0=>
  bif (!r0) then
   some (-1)
  else
   Option.bind (yn1 a1) fun r1=>
    bif (!r1) then
     some (-1)
    else
     some (if((1000000:Int)<(IntKind.wrap .i64 (a0+a1))) then 1000000 else(IntKind.wrap .i64 (a0+a1)))
def A148:FnA:=⟨[.v i6,.v i6],true,[.int .i64],fun x=>y1i x.1 x.2.1⟩
theorem A148_ok:FnOk prog 148 A148:=fo (L:=L0) (by kernel_rfl) func148 E148_ok ya0
def y7e:Int→Int→Option (Int):=fun a0 a1=>
 if(a1=0) then
  none
 else
  bif (decide (a0>(IntKind.wrap .i64 (Int.tdiv 1000000 a1)))) then
   some 1000000
  else
   some (IntKind.wrap .i64 (a0*a1))
def A221:FnA:=⟨[.v i6,.v i6],true,[.int .i64],fun x=>y7e x.1 x.2.1⟩
theorem A221_ok:FnOk prog 221 A221:=fo (L:=L0) (by kernel_rfl) func221 yh3 ya0
def E149:Env:=ev fun g=>ifEq g 218 (some A218) (ifEq g 221 (some A221) (none))
theorem E149_ok:FnsOk prog E149:=(oF z5t func218 (oF A221_ok func221 (yc7 _ _)))
def yx9:Int→Int→Option (Int):=fun a0 a1=>
 bif (decide (a0<0)) then
  some (-1)
 else
  Option.bind (yn1 a1) fun r0=>
   bif (!r0) then
    some (-1)
   else
    bif (a1==0) then
     some 0
    else
     Option.bind (y7e a0 a1) fun r1=>
      some r1
def A149:FnA:=⟨[.v i6,.v i6],true,[.int .i64],fun x=>yx9 x.1 x.2.1⟩
theorem A149_ok:FnOk prog 149 A149:=fo (L:=L0) (by kernel_rfl) func149 E149_ok ya0
def R70(impl_bound_rec:(List (ByteArray×PT))→Option (Int)):FnA:=⟨[.v (.sl (.pair .str .pt))],true,[.int .i64],fun x=>impl_bound_rec x.1⟩
def E70(impl_bound_rec:(List (ByteArray×PT))→Option (Int)):Env:=ev fun g=>ifEq g 148 (some A148) (ifEq g 70 (some (R70 impl_bound_rec)) (ifEq g 149 (some A149) (none)))
theorem z8b(impl_bound_rec:(List (ByteArray×PT))→Option (Int))(hrec:FnOk prog 70 (R70 impl_bound_rec)):FnsOk prog (E70 impl_bound_rec):=(oF A148_ok func148 (oF hrec func70 (oF A149_ok func149 (yc7 _ _))))
def L70_0(impl_bound_rec:(List (ByteArray×PT))→Option (Int)):Nat→Option LoopD:=fun _=>none
def ks5:List Fm:=d::d::d::.cell (.val i6)::d::d::.cell (.val (.sl (.pair .str .pt)))::.cell (.val i6)::.cell (.val i6)::D 16 []
def ks6:List (Ex×List Fm):=[(.exit 0,(d::d::d::.cell (.val i6)::D 21 []))]
def ym6(impl_bound_rec:(List (ByteArray×PT))→Option (Int)):(Int×(List (ByteArray×PT))×Int×Int×Unit)→Option ((Int×(List (ByteArray×PT))×Int×Int×Unit)⊕((Int×Unit))):=fun(v3,v6,v7,v8,_)=>
 bif (decide (v8<v7)) then
  if(((0:Int)≤v8)∧(v8<(((List.length v6):Nat):Int))) then
   bif (!((ByteArray.toList (List.getD v6 (Int.toNat v8) (⟨Array.empty⟩,(PT.mk []))).1)==(ByteArray.toList (⟨#[]⟩:ByteArray)))) then
    Option.bind (y1i v3 3) fun r0=>
     some (Sum.inl (r0,v6,v7,(IntKind.wrap .i64 (v8+1)),()))
   else
    Option.bind (impl_bound_rec (PT.l (List.getD v6 (Int.toNat v8) (⟨Array.empty⟩,(PT.mk []))).2)) fun r1=>
     Option.bind (yx9 2 r1) fun r2=>
      Option.bind (y1i v3 r2) fun r3=>
       some (Sum.inl (r3,v6,v7,(IntKind.wrap .i64 (v8+1)),()))
  else
   none
 else
  some (Sum.inr (v3,()))
theorem zg8(impl_bound_rec:(List (ByteArray×PT))→Option (Int)):y63 25 (E70 impl_bound_rec) (L70_0 impl_bound_rec) (ya9 f70 3) ks5 ks6=(ym6 impl_bound_rec):=by kernel_rfl
theorem k1b(impl_bound_rec:(List (ByteArray×PT))→Option (Int))(hrec:FnOk prog 70 (R70 impl_bound_rec)){L:Nat→Option LoopD}(h:L 3=some ⟨25,ks5,ks6,(ym6 impl_bound_rec)⟩):yb7 prog L (ya9 f70 3):=
 z2l (yb9 yg1) (z8b impl_bound_rec hrec) (yf0 (L:=(L70_0 impl_bound_rec)) (yb9 yg1) (z8b impl_bound_rec hrec) mixed (c:=ya9 f70 3) (bs:=[]) (by kernel_rfl) ya0 (by kernel_rfl)) (by kernel_rfl) (by kernel_rfl) (zg8 impl_bound_rec) (by rw[show y0t (ya9 f70 3)=3 from by kernel_rfl];exact h)
def L70_1(impl_bound_rec:(List (ByteArray×PT))→Option (Int)):Nat→Option LoopD:=fun n=>ifEq n 3 (some ⟨25,ks5,ks6,(ym6 impl_bound_rec)⟩) ((L70_0 impl_bound_rec) n)
def yv5(impl_bound_rec:(List (ByteArray×PT))→Option (Int)):(List (ByteArray×PT))→Option (Int):=fun a0=>
 Option.bind (ya2 (ym6 impl_bound_rec) ((0:Int),a0,(((List.length a0):Nat):Int),0,())) fun(r0,_)=>
  some r0
theorem y9i(impl_bound_rec:(List (ByteArray×PT))→Option (Int)):fnF (E70 impl_bound_rec) (L70_1 impl_bound_rec) [.v (.sl (.pair .str .pt))] true [.int .i64] f70.ntmps f70.results.toList (yc9 f70)=fun x=>(yv5 impl_bound_rec) x.1:=by kernel_rfl
theorem y9j(impl_bound_rec:(List (ByteArray×PT))→Option (Int))(hrec:FnOk prog 70 (R70 impl_bound_rec)):FnOk prog 70 ⟨[.v (.sl (.pair .str .pt))],true,[.int .i64],fun x=>(yv5 impl_bound_rec) x.1⟩:=by
 have h:=yu6 (P:=prog) (E:=(E70 impl_bound_rec)) (yb9 yg1) (z8b impl_bound_rec hrec) (L:=(L70_1 impl_bound_rec)) (ps:=[.v (.sl (.pair .str .pt))]) (own:=true) (outs:=[.int .i64]) func70 (c:=yc9 f70) (by kernel_rfl) (yf0 (L:=(L70_1 impl_bound_rec)) (yb9 yg1) (z8b impl_bound_rec hrec) mixed (c:=yc9 f70) (bs:=[ya9 f70 3]) (by kernel_rfl) (ya8 (k1b impl_bound_rec hrec rfl) ya0) (by kernel_rfl));rw[(y9i impl_bound_rec)] at h;exact h
/-- so many calls within each other -/
def yl2:Nat→(List (ByteArray×PT))→Option (Int)
 |0=>fun _=>none
 |n+1=>yv5 (yl2 n)
theorem y3k:∀n,FnOk prog 70 (R70 (yl2 n))
 |0=>fun xs r h=>by cases h
 |n+1=>y9j (yl2 n) (y3k n)
def zb9:(List (ByteArray×PT))→Option (Int):=yl2 200
def A70:FnA:=R70 zb9
theorem A70_ok:FnOk prog 70 A70:=y3k 200
def E33:Env:=ev fun g=>ifEq g 69 (some A69) (ifEq g 70 (some A70) (none))
theorem E33_ok:FnsOk prog E33:=(oF A69_ok func69 (oF A70_ok func70 (yc7 _ _)))
def y3l:ByteArray→Option (Int):=fun a0=>
 Option.bind (y03 a0) fun(r0,r1)=>
  bif (!r1) then
   some (-1)
  else
   Option.bind (zb9 (List.take (List.length r0) (List.drop 0 r0))) fun r2=>
    some r2
def A33:FnA:=⟨[.v .str],true,[.int .i64],fun x=>y3l x.1⟩
theorem A33_ok:FnOk prog 33 A33:=fo (L:=L0) (by kernel_rfl) func33 E33_ok ya0
def E9:Env:=ev fun g=>ifEq g 10 (some A10) (ifEq g 32 (some A32) (ifEq g 33 (some A33) (none)))
theorem E9_ok:FnsOk prog E9:=(oF zo8 func10 (oF z7x func32 (oF A33_ok func33 (yc7 _ _))))
def sh9_6:List Fm:=d::.box 100100 [.val i6,.val sI,.val sI,.val sS]::d::d::d::.cell (.val i6)::D 9 (.cell (.own kE 101500 false)::.cell (.val i6)::.cell (.val i6)::D 15 [])
def xs9_6:List (Ex×List Fm):=[(.exit 0,(D 5 (.cell (.val i6)::D 27 [])))]
def yq3:((Int×LI×LI×LS×Unit)×Int×LE×Int×Int×Unit)→Option (((Int×LI×LI×LS×Unit)×Int×LE×Int×Int×Unit)⊕((Int×Unit))):=fun((v1_0,v1_1,v1_2,v1_3,_),v5,v15,v16,v17,_)=>
 bif (decide (v17<v16)) then
  if(((0:Int)≤v17)∧(v17<(((List.length v15):Nat):Int))) then
   Option.bind (yj8 (v1_0,v1_1,v1_2,v1_3) ((List.getD v15 (0+(Int.toNat v17)) (((0:Int),[]),⟨Array.empty⟩)).1.1,(List.getD v15 (0+(Int.toNat v17)) (((0:Int),[]),⟨Array.empty⟩)).1.2)) fun r0=>
    bif (r0==1) then
     Option.bind (y3l (List.getD v15 (0+(Int.toNat v17)) (((0:Int),[]),⟨Array.empty⟩)).2) fun r1=>
      some (Sum.inl ((v1_0,v1_1,v1_2,v1_3,()),(if(r1>v5) then r1 else v5),(List.take (List.length v15) (List.drop 0 v15)),v16,(IntKind.wrap .i64 (v17+1)),()))
    else
     some (Sum.inl ((v1_0,v1_1,v1_2,v1_3,()),v5,(List.take (List.length v15) (List.drop 0 v15)),v16,(IntKind.wrap .i64 (v17+1)),()))
  else
   none
 else
  some (Sum.inr (v5,()))
theorem loop9_6{L}(h:L 6=some ⟨33,sh9_6,xs9_6,yq3⟩):yb7 prog L (ya9 f9 6):=lo (L':=L0) (by kernel_rfl) E9_ok ya0 h
def L9_1:Nat→Option LoopD:=fun n=>ifEq n 6 (some ⟨33,sh9_6,xs9_6,yq3⟩) (L0 n)
def yv6:TA→Option (Int):=fun(a0_0,a0_1,a0_2,a0_3)=>
 Option.bind (ya6 (a0_0,a0_1,a0_2,a0_3)) fun(r0,r1)=>
  bif (!r1) then
   some (-1)
  else
   Option.bind (ya2 yq3 ((a0_0,a0_1,a0_2,a0_3,()),0,(List.take (List.length r0) (List.drop 0 r0)),(((List.length r0):Nat):Int),0,())) fun(r2,_)=>
    some r2
def A9:FnA:=⟨[.v kA],true,[.int .i64],fun x=>yv6 x.1⟩
theorem A9_ok:FnOk prog 9 A9:=fo (L:=L9_1) (by kernel_rfl) func9 E9_ok (ya8 (loop9_6 rfl) ya0)
def E79:Env:=ev fun g=>ifEq g 42 (some A42) (none)
theorem E79_ok:FnsOk prog E79:=(oF z7r func42 (yc7 _ _))
def sh79_3:List Fm:=d::.clo [.sl i6] .str::.box 100200 [.val i6,.val sI]::d::d::.cell (.own .str 100500 false)::d::d::d::.cell (.val i6)::.cell (.val i6)::D 22 []
def xs79_3:List (Ex×List Fm):=[(.exit 0,(D 5 (.cell (.own .str 100500 false)::D 27 [])))]
def yv7:(((LI×Unit)→Option (ByteArray))×(Int×LI×Unit)×(List ByteArray)×Int×Int×Unit)→Option ((((LI×Unit)→Option (ByteArray))×(Int×LI×Unit)×(List ByteArray)×Int×Int×Unit)⊕(((List ByteArray)×Unit))):=fun(v1,(v2_0,v2_1,_),v5,v9,v10,_)=>
 bif (decide (v10<v9)) then
  if(((0:Int)≤(IntKind.wrap .i64 (v10*v2_0)))∧(((IntKind.wrap .i64 (v10*v2_0))≤(IntKind.wrap .i64 ((IntKind.wrap .i64 (v10+1))*v2_0)))∧((IntKind.wrap .i64 ((IntKind.wrap .i64 (v10+1))*v2_0))≤(((List.length v2_1):Nat):Int)))) then
   Option.bind (v1 ((List.take ((Int.toNat (IntKind.wrap .i64 ((IntKind.wrap .i64 (v10+1))*v2_0)))-(Int.toNat (IntKind.wrap .i64 (v10*v2_0)))) (List.drop (Int.toNat (IntKind.wrap .i64 (v10*v2_0))) v2_1)),())) fun r0=>
    if(((0+(List.length v5))=(List.length v5))∧((((List.length v5)+(List.length (List.take 1 (List.drop 0 [r0]))))*16)≤140737488355328)) then
     some (Sum.inl (v1,(v2_0,v2_1,()),(List.take ((List.length v5)+(List.length (List.take 1 (List.drop 0 [r0])))) (List.drop 0 ((List.drop 0 v5)++(List.take 1 (List.drop 0 [r0]))))),v9,(IntKind.wrap .i64 (v10+1)),()))
    else
     none
  else
   none
 else
  some (Sum.inr ((List.take (List.length v5) (List.drop 0 v5)),()))
theorem k1c{L}(h:L 3=some ⟨33,sh79_3,xs79_3,yv7⟩):yb7 prog L (ya9 f79 3):=lo (L':=L0) (by kernel_rfl) E79_ok ya0 h
def L79_1:Nat→Option LoopD:=fun n=>ifEq n 3 (some ⟨33,sh79_3,xs79_3,yv7⟩) (L0 n)
def y9k:TM→((LI×Unit)→Option (ByteArray))→Option (ByteArray):=fun(a0_0,a0_1) a1=>
 Option.bind (ya2 yv7 (a1,(a0_0,a0_1,()),(List.take 0 (List.drop 0 [])),a0_0,0,())) fun(r0,_)=>
  Option.bind (strings_Join (List.take (List.length r0) (List.drop 0 r0)) (⟨#[(47:UInt8)]⟩:ByteArray)) fun r1=>
   some r1
def A79:FnA:=⟨[.v kM,.clo [.sl i6] .str],true,[.str],fun x=>y9k x.1 x.2.1⟩
theorem A79_ok:FnOk prog 79 A79:=fo (L:=L79_1) (by kernel_rfl) func79 E79_ok (ya8 (k1c rfl) ya0)
def sh80_3:List Fm:=d::d::d::.cell (.val .str)::d::d::.cell (.val sI)::.cell (.val i6)::.cell (.val i6)::D 11 []
def xs80_3:List (Ex×List Fm):=[(.exit 0,(d::d::d::.cell (.val .str)::D 16 []))]
def yf9:(ByteArray×LI×Int×Int×Unit)→Option ((ByteArray×LI×Int×Int×Unit)⊕((ByteArray×Unit))):=fun(v3,v6,v7,v8,_)=>
 bif (decide (v8<v7)) then
  if(((0:Int)≤v8)∧(v8<(((List.length v6):Nat):Int))) then
   if(((0:Int)≤(List.getD v6 (Int.toNat v8) 0))∧(((List.getD v6 (Int.toNat v8) 0)≤(IntKind.wrap .i64 ((List.getD v6 (Int.toNat v8) 0)+1)))∧((IntKind.wrap .i64 ((List.getD v6 (Int.toNat v8) 0)+1))≤(((ByteArray.size (⟨#[(48:UInt8),(49:UInt8),(119:UInt8),(45:UInt8)]⟩:ByteArray)):Nat):Int)))) then
    if(((ByteArray.size v3)+(ByteArray.size (ByteArray.extract (⟨#[(48:UInt8),(49:UInt8),(119:UInt8),(45:UInt8)]⟩:ByteArray) (Int.toNat (List.getD v6 (Int.toNat v8) 0)) (Int.toNat (IntKind.wrap .i64 ((List.getD v6 (Int.toNat v8) 0)+1))))))≤9223372036854775807) then
     some (Sum.inl ((v3++(ByteArray.extract (⟨#[(48:UInt8),(49:UInt8),(119:UInt8),(45:UInt8)]⟩:ByteArray) (Int.toNat (List.getD v6 (Int.toNat v8) 0)) (Int.toNat (IntKind.wrap .i64 ((List.getD v6 (Int.toNat v8) 0)+1))))),v6,v7,(IntKind.wrap .i64 (v8+1)),()))
    else
     none
   else
    none
  else
   none
 else
  some (Sum.inr (v3,()))
theorem k1d{L}(h:L 3=some ⟨20,sh80_3,xs80_3,yf9⟩):yb7 prog L (ya9 f80 3):=lo (L':=L0) (by kernel_rfl) yh3 ya0 h
def L80_1:Nat→Option LoopD:=fun n=>ifEq n 3 (some ⟨20,sh80_3,xs80_3,yf9⟩) (L0 n)
def yg2:LI→Option (ByteArray):=fun a0=>
 Option.bind (ya2 yf9 ((⟨#[]⟩:ByteArray),a0,(((List.length a0):Nat):Int),0,())) fun(r0,_)=>
  some r0
def A80:FnA:=⟨[.v sI],true,[.str],fun x=>yg2 x.1⟩
theorem A80_ok:FnOk prog 80 A80:=fo (L:=L80_1) (by kernel_rfl) func80 yh3 (ya8 (k1d rfl) ya0)
def E39:Env:=ev fun g=>ifEq g 67 (some A67) (ifEq g 79 (some A79) (ifEq g 80 (some A80) (none)))
theorem E39_ok:FnsOk prog E39:=(oF kn0 func67 (oF A79_ok func79 (oF A80_ok func80 (yc7 _ _))))
def yx0:TM→Option (ByteArray):=fun(a0_0,a0_1)=>
 Option.bind (yl5 (a0_0,a0_1)) fun r0=>
  bif (!r0) then
   some (⟨#[]⟩:ByteArray)
  else
   Option.bind (y9k (a0_0,a0_1) (fun y1=>(yg2 y1.1))) fun r2=>
    some r2
def A39:FnA:=⟨[.v kM],true,[.str],fun x=>yx0 x.1⟩
theorem A39_ok:FnOk prog 39 A39:=fo (L:=L0) (by kernel_rfl) func39 E39_ok ya0
def E11:Env:=ev fun g=>ifEq g 39 (some A39) (none)
theorem E11_ok:FnsOk prog E11:=(oF A39_ok func39 (yc7 _ _))
def yp5:TE→Option (ByteArray):=fun((a0_0,a0_1),a0_2)=>
 if(((ByteArray.size a0_2)+(ByteArray.size (⟨#[(32:UInt8)]⟩:ByteArray)))≤9223372036854775807) then
  Option.bind (yx0 (a0_0,a0_1)) fun r0=>
   if(((ByteArray.size (a0_2++(⟨#[(32:UInt8)]⟩:ByteArray)))+(ByteArray.size r0))≤9223372036854775807) then
    some ((a0_2++(⟨#[(32:UInt8)]⟩:ByteArray))++r0)
   else
    none
 else
  none
def A11:FnA:=⟨[.v kE],true,[.str],fun x=>yp5 x.1⟩
theorem A11_ok:FnOk prog 11 A11:=fo (L:=L0) (by kernel_rfl) func11 E11_ok ya0
def sh81_3:List Fm:=d::.clo [.pair i6 (.pair .str (.pair i6 i6))] kS::d::d::d::.cell (.own kS 100500 false)::d::d::d::.cell (.val sS)::.cell (.val i6)::.cell (.val i6)::D 11 []
def xs81_3:List (Ex×List Fm):=[(.exit 0,(D 5 (.cell (.own kS 100500 false)::D 17 [])))]
def yo1:(((TS×Unit)→Option (TS))×LS×LS×Int×Int×Unit)→Option ((((TS×Unit)→Option (TS))×LS×LS×Int×Int×Unit)⊕((LS×Unit))):=fun(v1,v5,v9,v10,v11,_)=>
 bif (decide (v11<v10)) then
  if(((0:Int)≤v11)∧(v11<(((List.length v9):Nat):Int))) then
   Option.bind (v1 (((List.getD v9 (Int.toNat v11) ((0:Int),⟨Array.empty⟩,0,0)).1,(List.getD v9 (Int.toNat v11) ((0:Int),⟨Array.empty⟩,0,0)).2.1,(List.getD v9 (Int.toNat v11) ((0:Int),⟨Array.empty⟩,0,0)).2.2.1,(List.getD v9 (Int.toNat v11) ((0:Int),⟨Array.empty⟩,0,0)).2.2.2),())) fun(r0,r1,r2,r3)=>
    if(((0+(List.length v5))=(List.length v5))∧((((List.length v5)+(List.length (List.take 1 (List.drop 0 [(r0,r1,r2,r3)]))))*40)≤140737488355328)) then
     some (Sum.inl (v1,(List.take ((List.length v5)+(List.length (List.take 1 (List.drop 0 [(r0,r1,r2,r3)])))) (List.drop 0 ((List.drop 0 v5)++(List.take 1 (List.drop 0 [(r0,r1,r2,r3)]))))),v9,v10,(IntKind.wrap .i64 (v11+1)),()))
    else
     none
  else
   none
 else
  some (Sum.inr ((List.take (List.length v5) (List.drop 0 v5)),()))
theorem k1e{L}(h:L 3=some ⟨23,sh81_3,xs81_3,yo1⟩):yb7 prog L (ya9 f81 3):=lo (L':=L0) (by kernel_rfl) yh3 ya0 h
def L81_1:Nat→Option LoopD:=fun n=>ifEq n 3 (some ⟨23,sh81_3,xs81_3,yo1⟩) (L0 n)
def y3m:LS→((TS×Unit)→Option (TS))→Option (LS):=fun a0 a1=>
 Option.bind (ya2 yo1 (a1,(List.take 0 (List.drop 0 [])),a0,(((List.length a0):Nat):Int),0,())) fun(r0,_)=>
  some (List.take (List.length r0) (List.drop 0 r0))
def A81:FnA:=⟨[.v sS,.clo [.pair i6 (.pair .str (.pair i6 i6))] kS],true,[.sl kS],fun x=>y3m x.1 x.2.1⟩
theorem A81_ok:FnOk prog 81 A81:=fo (L:=L81_1) (by kernel_rfl) func81 yh3 (ya8 (k1e rfl) ya0)
def yv8:TS→Option (TS):=fun(a0_0,a0_1,a0_2,a0_3)=>
 some (a0_0,a0_1,a0_2,0)
def A82:FnA:=⟨[.v kS],true,[.pair i6 (.pair .str (.pair i6 i6))],fun x=>yv8 x.1⟩
theorem A82_ok:FnOk prog 82 A82:=fo (L:=L0) (by kernel_rfl) func82 yh3 ya0
def ks7:List Fm:=.cell (.val sS)::.clo [.pair i6 (.pair .str (.pair i6 i6))] .bool::D 5 (.cell (.val i6)::.cell (.val i6)::D 10 [])
def ks8:List (Ex×List Fm):=[(.ret,(D 4 (.cell (.val i6)::D 14 []))),(.exit 0,(D 19 []))]
def ye8:(LS×((TS×Unit)→Option (Bool))×Int×Int×Unit)→Option ((LS×((TS×Unit)→Option (Bool))×Int×Int×Unit)⊕((Int×Unit)⊕(Unit))):=fun(v0,v1,v7,v8,_)=>
 bif (decide (v8<v7)) then
  if(((0:Int)≤v8)∧(v8<(((List.length v0):Nat):Int))) then
   Option.bind (v1 ((List.getD v0 (Int.toNat v8) ((0:Int),⟨Array.empty⟩,0,0)),())) fun r0=>
    bif r0 then
     some (Sum.inr (Sum.inl (v8,())))
    else
     some (Sum.inl (v0,v1,v7,(IntKind.wrap .i64 (v8+1)),()))
  else
   none
 else
  some (Sum.inr (Sum.inr ()))
theorem ks9{L}(h:L 2=some ⟨19,ks7,ks8,ye8⟩):yb7 prog L (ya9 f153 2):=lo (L':=L0) (by kernel_rfl) yh3 ya0 h
def L153_1:Nat→Option LoopD:=fun n=>ifEq n 2 (some ⟨19,ks7,ks8,ye8⟩) (L0 n)
def yv9:LS→((TS×Unit)→Option (Bool))→Option (Int):=fun a0 a1=>
 Option.bind (ya2 ye8 (a0,a1,(((List.length a0):Nat):Int),0,())) fun r0=>
  (match r0 with
  |.inl (d1,_)=>
    some d1
  |.inr _=>
    some (-1))
def A153:FnA:=⟨[.v sS,.clo [.pair i6 (.pair .str (.pair i6 i6))] .bool],true,[.int .i64],fun x=>yv9 x.1 x.2.1⟩
theorem A153_ok:FnOk prog 153 A153:=fo (L:=L153_1) (by kernel_rfl) func153 yh3 (ya8 (ks9 rfl) ya0)
def E83:Env:=ev fun g=>ifEq g 153 (some A153) (none)
theorem E83_ok:FnsOk prog E83:=(oF A153_ok func153 (yc7 _ _))
def yl3:LS→((TS×Unit)→Option (Bool))→Option (Bool):=fun a0 a1=>
 Option.bind (yv9 a0 a1) fun r0=>
  some (decide (r0≥0))
def A83:FnA:=⟨[.v sS,.clo [.pair i6 (.pair .str (.pair i6 i6))] .bool],true,[.bool],fun x=>yl3 x.1 x.2.1⟩
theorem A83_ok:FnOk prog 83 A83:=fo (L:=L0) (by kernel_rfl) func83 E83_ok ya0
def E84:Env:=ev fun g=>ifEq g 54 (some A54) (none)
theorem E84_ok:FnsOk prog E84:=(oF ki8 func54 (yc7 _ _))
def yp6:TS→TS→Option (Bool):=fun(a0_0,a0_1,a0_2,a0_3) (a1_0,a1_1,a1_2,a1_3)=>
 Option.bind (yk1 (a0_0,a0_1,a0_2,a0_3) (a1_0,a1_1,a1_2,a1_3)) fun r0=>
  some (r0==0)
def A84:FnA:=⟨[.v kS,.cap kS],true,[.bool],fun x=>yp6 x.1 x.2.1⟩
theorem A84_ok:FnOk prog 84 A84:=fo (L:=L0) (by kernel_rfl) func84 E84_ok ya0
def y1j:LI→Option (LI):=fun a0=>
 zu9 (some [])
  (if(((0+0)=(List.length ([]:List Unit)))∧(((0+(List.length a0))*8)≤140737488355328)) then
   some (List.take (0+(List.length a0)) (List.drop 0 ((List.drop 0 [])++a0)))
  else
   none)
  (bif (List.isEmpty a0) then
   none
  else
   if(((0+0)=(List.length ([]:List Unit)))∧(((0+(List.length a0))*8)≤140737488355328)) then
    some (List.take (0+(List.length a0)) (List.drop 0 ((List.drop 0 [])++a0)))
   else
    none)
def A154:FnA:=⟨[.v sI],true,[.sl i6],fun x=>y1j x.1⟩
theorem A154_ok:FnOk prog 154 A154:=fo (L:=L0) (by kernel_rfl) func154 yh3 ya0
def yx1:LS→Option (LS):=fun a0=>
 zu9 (some [])
  (if(((0+0)=(List.length ([]:List Unit)))∧(((0+(List.length a0))*40)≤140737488355328)) then
   some (List.take (0+(List.length a0)) (List.drop 0 ((List.drop 0 [])++a0)))
  else
   none)
  (bif (List.isEmpty a0) then
   none
  else
   if(((0+0)=(List.length ([]:List Unit)))∧(((0+(List.length a0))*40)≤140737488355328)) then
    some (List.take (0+(List.length a0)) (List.drop 0 ((List.drop 0 [])++a0)))
   else
    none)
def A155:FnA:=⟨[.v sS],true,[.sl kS],fun x=>yx1 x.1⟩
theorem A155_ok:FnOk prog 155 A155:=fo (L:=L0) (by kernel_rfl) func155 yh3 ya0
def E85:Env:=⟨ty0,fun g=>ifEq g 154 (some A154) (ifEq g 155 (some A155) (ifEq g 22 (some A22) (none))),fun g=>ifEq g 55 (some A55) (ifEq g 156 (some A156) (none)),fun _=>none,fun _=>none,fun _=>0⟩
theorem E85_ok:FnsOk prog E85:=(oF A154_ok func154 (oF A155_ok func155 (oF y2y func22 (y1u kj2 (by kernel_rfl) func55 (by kernel_rfl) (by kernel_rfl) (y1u A156_ok (by kernel_rfl) func156 (by kernel_rfl) (by kernel_rfl) (yc7 _ _))))))
def y9l:Int→LI→LI→LS→Option (TA×Bool):=fun a0 a1 a2 a3=>
 Option.bind (y1j a1) fun r0=>
  Option.bind (y1j a2) fun r1=>
   Option.bind (yx1 a3) fun r2=>
    if((List.length r0)=(List.length r0)) then
     Option.bind (yu8 r0) fun(_,r3,_)=>
      if((List.length r1)=(List.length r1)) then
       Option.bind (yu8 r1) fun(_,r4,_)=>
        if((List.length r2)=(List.length r2)) then
         Option.bind (y0f r2) fun(_,r5,_)=>
          Option.bind (yc6 (a0,(List.take (List.length r0) (List.drop 0 r3)),(List.take (List.length r1) (List.drop 0 r4)),(List.take (List.length r2) (List.drop 0 r5)))) fun r6=>
           bif (!r6) then
            some (((0:Int),[],[],[]),false)
           else
            some ((a0,(List.take (List.length r0) (List.drop 0 r3)),(List.take (List.length r1) (List.drop 0 r4)),(List.take (List.length r2) (List.drop 0 r5))),true)
        else
         none
      else
       none
    else
     none
def A85:FnA:=⟨[.v i6,.v sI,.v sI,.v sS],true,[.pair i6 (.pair sI (.pair sI sS)),.bool],fun x=>y9l x.1 x.2.1 x.2.2.1 x.2.2.2.1⟩
theorem A85_ok:FnOk prog 85 A85:=fo (L:=L0) (by kernel_rfl) func85 E85_ok ya0
def E40:Env:=ev fun g=>ifEq g 22 (some A22) (ifEq g 81 (some A81) (ifEq g 82 (some A82) (ifEq g 24 (some A24) (ifEq g 83 (some A83) (ifEq g 84 (some A84) (ifEq g 85 (some A85) (none)))))))
theorem kt0:FnsOk prog E40:=(oF y2y func22 (oF A81_ok func81 (oF A82_ok func82 (oF A24_ok func24 (oF A83_ok func83 (oF A84_ok func84 (oF A85_ok func85 (yc7 _ _))))))))
def sh40_8:List Fm:=d::.box 100100 [.val i6,.val sI,.val sI,.val sS]::.box 100200 [.val i6,.own i6 100202 false,.own i6 100203 false,.own kS 100204 false]::d::.cell (.own kS 100400 false)::d::.box 100600 [.val i6,.val .str,.val i6,.val i6]::D 11 (.cell (.val sS)::.cell (.val i6)::.cell (.val i6)::D 4 (.cell (.val sI)::.cell (.val i6)::.cell (.val i6)::D 36 []))
def xs40_8:List (Ex×List Fm):=[(.exit 2,[d,.box 100100 [.val i6,.val sI,.val sI,.val sS],.box 100200 [.val i6,.own i6 100202 false,.own i6 100203 false,.own kS 100204 false],d,.cell (.own kS 100400 false),d,d,d,d,d,d,d,d,d,d,d,d,d,.cell (.val sS),.cell (.val i6),.cell (.val i6),d,d,d,d,d,d,d,d,d,d,d,d,d,d,d,d,d,d,d,d,d,d,d,d,d,d,d,d,d,d,d,d,d,d,d,d,d,d,d,d,d,d,d])]
def yd2:((Int×LI×LI×LS×Unit)×(Int×LI×LI×LS×Unit)×LS×(Int×ByteArray×Int×Int×Unit)×LS×Int×Int×LI×Int×Int×Unit)→Option (((Int×LI×LI×LS×Unit)×(Int×LI×LI×LS×Unit)×LS×(Int×ByteArray×Int×Int×Unit)×LS×Int×Int×LI×Int×Int×Unit)⊕(((Int×LI×LI×LS×Unit)×(Int×LI×LI×LS×Unit)×LS×LS×Int×Int×Unit))):=fun((v1_0,v1_1,v1_2,v1_3,_),(v2_0,v2_1,v2_2,v2_3,_),v4,(v6_0,v6_1,v6_2,v6_3,_),v18,v19,v20,v25,v26,v27,_)=>
 bif (decide (v27<v26)) then
  if(((0:Int)≤v27)∧(v27<(((List.length v25):Nat):Int))) then
   Option.bind (yk9 v1_1 v6_0) fun r0=>
    bif r0 then
     Option.bind (yl3 (List.take (List.length v4) (List.drop 0 v4)) (fun y1=>(yp6 y1.1 ((List.getD v25 (Int.toNat v27) 0),v6_1,v6_2,1)))) fun r2=>
      bif (!r2) then
       if(((0+(List.length v4))=(List.length v4))∧((((List.length v4)+(List.length (List.take 1 (List.drop 0 [((List.getD v25 (Int.toNat v27) (0:Int)),v6_1,v6_2,(1:Int))]))))*40)≤140737488355328)) then
        some (Sum.inl ((v1_0,v1_1,v1_2,v1_3,()),(v2_0,(List.take (List.length v2_1) (List.drop 0 v2_1)),(List.take (List.length v2_2) (List.drop 0 v2_2)),(List.take (List.length v2_3) (List.drop 0 v2_3)),()),(List.take ((List.length v4)+(List.length (List.take 1 (List.drop 0 [((List.getD v25 (Int.toNat v27) (0:Int)),v6_1,v6_2,(1:Int))])))) (List.drop 0 ((List.drop 0 v4)++(List.take 1 (List.drop 0 [((List.getD v25 (Int.toNat v27) (0:Int)),v6_1,v6_2,(1:Int))]))))),(v6_0,v6_1,v6_2,v6_3,()),v18,v19,v20,v25,v26,(IntKind.wrap .i64 (v27+1)),()))
       else
        none
      else
       some (Sum.inl ((v1_0,v1_1,v1_2,v1_3,()),(v2_0,(List.take (List.length v2_1) (List.drop 0 v2_1)),(List.take (List.length v2_2) (List.drop 0 v2_2)),(List.take (List.length v2_3) (List.drop 0 v2_3)),()),(List.take (List.length v4) (List.drop 0 v4)),(v6_0,v6_1,v6_2,v6_3,()),v18,v19,v20,v25,v26,(IntKind.wrap .i64 (v27+1)),()))
    else
     some (Sum.inl ((v1_0,v1_1,v1_2,v1_3,()),(v2_0,(List.take (List.length v2_1) (List.drop 0 v2_1)),(List.take (List.length v2_2) (List.drop 0 v2_2)),(List.take (List.length v2_3) (List.drop 0 v2_3)),()),(List.take (List.length v4) (List.drop 0 v4)),(v6_0,v6_1,v6_2,v6_3,()),v18,v19,v20,v25,v26,(IntKind.wrap .i64 (v27+1)),()))
  else
   none
 else
  some (Sum.inr ((v1_0,v1_1,v1_2,v1_3,()),(v2_0,(List.take (List.length v2_1) (List.drop 0 v2_1)),(List.take (List.length v2_2) (List.drop 0 v2_2)),(List.take (List.length v2_3) (List.drop 0 v2_3)),()),(List.take (List.length v4) (List.drop 0 v4)),v18,v19,v20,()))
theorem k1f{L}(h:L 8=some ⟨64,sh40_8,xs40_8,yd2⟩):yb7 prog L (ya9 f40 8):=lo (L':=L0) (by kernel_rfl) kt0 ya0 h
def L40_1:Nat→Option LoopD:=fun n=>ifEq n 8 (some ⟨64,sh40_8,xs40_8,yd2⟩) (L0 n)
def sh40_5:List Fm:=d::.box 100100 [.val i6,.val sI,.val sI,.val sS]::.box 100200 [.val i6,.own i6 100202 false,.own i6 100203 false,.own kS 100204 false]::d::.cell (.own kS 100400 false)::D 13 (.cell (.val sS)::.cell (.val i6)::.cell (.val i6)::D 43 [])
def xs40_5:List (Ex×List Fm):=[(.exit 0,[d,.box 100100 [.val i6,.val sI,.val sI,.val sS],.box 100200 [.val i6,.own i6 100202 false,.own i6 100203 false,.own kS 100204 false],d,.cell (.own kS 100400 false),d,d,d,d,d,d,d,d,d,d,d,d,d,d,d,d,d,d,d,d,d,d,d,d,d,d,d,d,d,d,d,d,d,d,d,d,d,d,d,d,d,d,d,d,d,d,d,d,d,d,d,d,d,d,d,d,d,d,d])]
def ye3:((Int×LI×LI×LS×Unit)×(Int×LI×LI×LS×Unit)×LS×LS×Int×Int×Unit)→Option (((Int×LI×LI×LS×Unit)×(Int×LI×LI×LS×Unit)×LS×LS×Int×Int×Unit)⊕(((Int×LI×LI×LS×Unit)×(Int×LI×LI×LS×Unit)×LS×Unit))):=fun((v1_0,v1_1,v1_2,v1_3,_),(v2_0,v2_1,v2_2,v2_3,_),v4,v18,v19,v20,_)=>
 bif (decide (v20<v19)) then
  if(((0:Int)≤v20)∧(v20<(((List.length v18):Nat):Int))) then
   Option.bind (ya2 yd2 ((v1_0,v1_1,v1_2,v1_3,()),(v2_0,(List.take (List.length v2_1) (List.drop 0 v2_1)),(List.take (List.length v2_2) (List.drop 0 v2_2)),(List.take (List.length v2_3) (List.drop 0 v2_3)),()),(List.take (List.length v4) (List.drop 0 v4)),((List.getD v18 (Int.toNat v20) ((0:Int),⟨Array.empty⟩,0,0)).1,(List.getD v18 (Int.toNat v20) ((0:Int),⟨Array.empty⟩,0,0)).2.1,(List.getD v18 (Int.toNat v20) ((0:Int),⟨Array.empty⟩,0,0)).2.2.1,(List.getD v18 (Int.toNat v20) ((0:Int),⟨Array.empty⟩,0,0)).2.2.2,()),v18,v19,v20,v1_2,(((List.length v1_2):Nat):Int),0,())) fun((r0,r1,r2,r3,_),(r4,r5,r6,r7,_),r8,r9,r10,r11,_)=>
    some (Sum.inl ((r0,r1,r2,r3,()),(r4,(List.take (List.length r5) (List.drop 0 r5)),(List.take (List.length r6) (List.drop 0 r6)),(List.take (List.length r7) (List.drop 0 r7)),()),(List.take (List.length r8) (List.drop 0 r8)),r9,r10,(IntKind.wrap .i64 (r11+1)),()))
  else
   none
 else
  some (Sum.inr ((v1_0,v1_1,v1_2,v1_3,()),(v2_0,(List.take (List.length v2_1) (List.drop 0 v2_1)),(List.take (List.length v2_2) (List.drop 0 v2_2)),(List.take (List.length v2_3) (List.drop 0 v2_3)),()),(List.take (List.length v4) (List.drop 0 v4)),()))
theorem k1g{L}(h:L 5=some ⟨64,sh40_5,xs40_5,ye3⟩):yb7 prog L (ya9 f40 5):=lo (L':=L40_1) (by kernel_rfl) kt0 (ya8 (k1f rfl) ya0) h
def L40_2:Nat→Option LoopD:=fun n=>ifEq n 5 (some ⟨64,sh40_5,xs40_5,ye3⟩) (L40_1 n)
def yo2:TA→Option (TA×Bool):=fun(a0_0,a0_1,a0_2,a0_3)=>
 Option.bind (yc6 (a0_0,a0_1,a0_2,a0_3)) fun r0=>
  bif (!r0) then
   some (((0:Int),[],[],[]),false)
  else
   Option.bind (y3m a0_3 (fun y1=>(yv8 y1.1))) fun r2=>
    Option.bind (ya2 ye3 ((a0_0,a0_1,a0_2,a0_3,()),((0:Int),[],[],[],()),(List.take (List.length r2) (List.drop 0 r2)),a0_3,(((List.length a0_3):Nat):Int),0,())) fun((r3,r4,r5,r6,_),(r7,r8,r9,r10,_),r11,_)=>
     Option.bind (y9l r3 r4 r5 (List.take (List.length r11) (List.drop 0 r11))) fun((r12,r13,r14,r15),r16)=>
      some ((r12,(List.take (List.length r13) (List.drop 0 r13)),(List.take (List.length r14) (List.drop 0 r14)),(List.take (List.length r15) (List.drop 0 r15))),r16)
def A40:FnA:=⟨[.v kA],true,[.pair i6 (.pair sI (.pair sI sS)),.bool],fun x=>yo2 x.1⟩
theorem A40_ok:FnOk prog 40 A40:=fo (L:=L40_2) (by kernel_rfl) func40 kt0 (ya8 (k1g rfl) ya0)
def E12:Env:=ev fun g=>ifEq g 40 (some A40) (ifEq g 7 (some A7) (none))
theorem E12_ok:FnsOk prog E12:=(oF A40_ok func40 (oF A7_ok func7 (yc7 _ _)))
def ye5:TA→Option (Bool×Bool):=fun(a0_0,a0_1,a0_2,a0_3)=>
 Option.bind (yo2 (a0_0,a0_1,a0_2,a0_3)) fun((r0,r1,r2,r3),r4)=>
  bif (!r4) then
   some (false,false)
  else
   Option.bind (yn2 (r0,(List.take (List.length r1) (List.drop 0 r1)),(List.take (List.length r2) (List.drop 0 r2)),(List.take (List.length r3) (List.drop 0 r3)))) fun(r5,r6)=>
    some (r5,r6)
def A12:FnA:=⟨[.v kA],true,[.bool,.bool],fun x=>ye5 x.1⟩
theorem A12_ok:FnOk prog 12 A12:=fo (L:=L0) (by kernel_rfl) func12 E12_ok ya0
def E43:Env:=ev fun g=>ifEq g 41 (some A41) (ifEq g 42 (some A42) (none))
theorem E43_ok:FnsOk prog E43:=(oF ki3 func41 (oF z7r func42 (yc7 _ _)))
def sh43_3:List Fm:=d::d::d::.cell (.own .str 100300 false)::d::d::d::.cell (.val sI)::.cell (.val i6)::.cell (.val i6)::D 11 []
def xs43_3:List (Ex×List Fm):=[(.exit 0,(d::d::d::.cell (.own .str 100300 false)::D 17 []))]
def yo3:((List ByteArray)×LI×Int×Int×Unit)→Option (((List ByteArray)×LI×Int×Int×Unit)⊕(((List ByteArray)×Unit))):=fun(v3,v7,v8,v9,_)=>
 bif (decide (v9<v8)) then
  if(((0:Int)≤v9)∧(v9<(((List.length v7):Nat):Int))) then
   Option.bind (strconv_Itoa (List.getD v7 (Int.toNat v9) 0)) fun r0=>
    if(((0+(List.length v3))=(List.length v3))∧((((List.length v3)+(List.length (List.take 1 (List.drop 0 [r0]))))*16)≤140737488355328)) then
     some (Sum.inl ((List.take ((List.length v3)+(List.length (List.take 1 (List.drop 0 [r0])))) (List.drop 0 ((List.drop 0 v3)++(List.take 1 (List.drop 0 [r0]))))),v7,v8,(IntKind.wrap .i64 (v9+1)),()))
    else
     none
  else
   none
 else
  some (Sum.inr ((List.take (List.length v3) (List.drop 0 v3)),()))
theorem k1h{L}(h:L 3=some ⟨21,sh43_3,xs43_3,yo3⟩):yb7 prog L (ya9 f43 3):=lo (L':=L0) (by kernel_rfl) E43_ok ya0 h
def L43_1:Nat→Option LoopD:=fun n=>ifEq n 3 (some ⟨21,sh43_3,xs43_3,yo3⟩) (L0 n)
def yz1:LI→Option (ByteArray):=fun a0=>
 Option.bind (ya2 yo3 ((List.take 0 (List.drop 0 [])),a0,(((List.length a0):Nat):Int),0,())) fun(r0,_)=>
  Option.bind (strings_Join (List.take (List.length r0) (List.drop 0 r0)) (⟨#[(32:UInt8)]⟩:ByteArray)) fun r1=>
   some r1
def A43:FnA:=⟨[.v sI],true,[.str],fun x=>yz1 x.1⟩
theorem A43_ok:FnOk prog 43 A43:=fo (L:=L43_1) (by kernel_rfl) func43 E43_ok (ya8 (k1h rfl) ya0)
def E13:Env:=ev fun g=>ifEq g 22 (some A22) (ifEq g 41 (some A41) (ifEq g 43 (some A43) (ifEq g 42 (some A42) (none))))
theorem E13_ok:FnsOk prog E13:=(oF y2y func22 (oF ki3 func41 (oF A43_ok func43 (oF z7r func42 (yc7 _ _)))))
def sh13_5:List Fm:=d::.box 100100 [.val i6,.val sI,.val sI,.val sS]::d::.cell (.own .str 100300 false)::D 7 (.cell (.val sS)::.cell (.val i6)::.cell (.val i6)::D 35 [])
def xs13_5:List (Ex×List Fm):=[(.exit 0,[d,.box 100100 [.val i6,.val sI,.val sI,.val sS],d,.cell (.own .str 100300 false),d,d,d,d,d,d,d,d,d,d,d,d,d,d,d,d,d,d,d,d,d,d,d,d,d,d,d,d,d,d,d,d,d,d,d,d,d,d,d,d,d,d,d,d,d])]
def yd6:((Int×LI×LI×LS×Unit)×(List ByteArray)×LS×Int×Int×Unit)→Option (((Int×LI×LI×LS×Unit)×(List ByteArray)×LS×Int×Int×Unit)⊕(((Int×LI×LI×LS×Unit)×(List ByteArray)×Unit))):=fun((v1_0,v1_1,v1_2,v1_3,_),v3,v11,v12,v13,_)=>
 bif (decide (v13<v12)) then
  if(((0:Int)≤v13)∧(v13<(((List.length v11):Nat):Int))) then
   Option.bind (strconv_Itoa (List.getD v11 (Int.toNat v13) ((0:Int),⟨Array.empty⟩,0,0)).1) fun r0=>
    if(((ByteArray.size r0)+(ByteArray.size (List.getD v11 (Int.toNat v13) ((0:Int),⟨Array.empty⟩,0,0)).2.1))≤9223372036854775807) then
     Option.bind (strconv_Itoa (List.getD v11 (Int.toNat v13) ((0:Int),⟨Array.empty⟩,0,0)).2.2.1) fun r1=>
      if(((ByteArray.size (r0++(List.getD v11 (Int.toNat v13) ((0:Int),⟨Array.empty⟩,0,0)).2.1))+(ByteArray.size r1))≤9223372036854775807) then
       if(((ByteArray.size ((r0++(List.getD v11 (Int.toNat v13) ((0:Int),⟨Array.empty⟩,0,0)).2.1)++r1))+(ByteArray.size (⟨#[(58:UInt8)]⟩:ByteArray)))≤9223372036854775807) then
        Option.bind (strconv_Itoa (List.getD v11 (Int.toNat v13) ((0:Int),⟨Array.empty⟩,0,0)).2.2.2) fun r2=>
         if(((ByteArray.size (((r0++(List.getD v11 (Int.toNat v13) ((0:Int),⟨Array.empty⟩,0,0)).2.1)++r1)++(⟨#[(58:UInt8)]⟩:ByteArray)))+(ByteArray.size r2))≤9223372036854775807) then
          if(((0+(List.length v3))=(List.length v3))∧((((List.length v3)+(List.length (List.take 1 (List.drop 0 [((((r0++(List.getD v11 (Int.toNat v13) ((0:Int),(⟨Array.empty⟩:ByteArray),(0:Int),(0:Int))).2.1)++r1)++(⟨#[(58:UInt8)]⟩:ByteArray))++r2)]))))*16)≤140737488355328)) then
           some (Sum.inl ((v1_0,v1_1,v1_2,v1_3,()),(List.take ((List.length v3)+(List.length (List.take 1 (List.drop 0 [((((r0++(List.getD v11 (Int.toNat v13) ((0:Int),(⟨Array.empty⟩:ByteArray),(0:Int),(0:Int))).2.1)++r1)++(⟨#[(58:UInt8)]⟩:ByteArray))++r2)])))) (List.drop 0 ((List.drop 0 v3)++(List.take 1 (List.drop 0 [((((r0++(List.getD v11 (Int.toNat v13) ((0:Int),(⟨Array.empty⟩:ByteArray),(0:Int),(0:Int))).2.1)++r1)++(⟨#[(58:UInt8)]⟩:ByteArray))++r2)]))))),v11,v12,(IntKind.wrap .i64 (v13+1)),()))
          else
           none
         else
          none
       else
        none
      else
       none
    else
     none
  else
   none
 else
  some (Sum.inr ((v1_0,v1_1,v1_2,v1_3,()),(List.take (List.length v3) (List.drop 0 v3)),()))
theorem k1i{L}(h:L 5=some ⟨49,sh13_5,xs13_5,yd6⟩):yb7 prog L (ya9 f13 5):=lo (L':=L0) (by kernel_rfl) E13_ok ya0 h
def L13_1:Nat→Option LoopD:=fun n=>ifEq n 5 (some ⟨49,sh13_5,xs13_5,yd6⟩) (L0 n)
def yc8:TA→Option (ByteArray):=fun(a0_0,a0_1,a0_2,a0_3)=>
 Option.bind (yc6 (a0_0,a0_1,a0_2,a0_3)) fun r0=>
  bif (!r0) then
   some (⟨#[]⟩:ByteArray)
  else
   Option.bind (ya2 yd6 ((a0_0,a0_1,a0_2,a0_3,()),(List.take 0 (List.drop 0 [])),a0_3,(((List.length a0_3):Nat):Int),0,())) fun((r1,r2,r3,r4,_),r5,_)=>
    Option.bind (strconv_Itoa r1) fun r6=>
     Option.bind (yz1 r2) fun r7=>
      Option.bind (yz1 r3) fun r8=>
       Option.bind (strings_Join (List.take (List.length r5) (List.drop 0 r5)) (⟨#[(32:UInt8)]⟩:ByteArray)) fun r9=>
        Option.bind (strings_Join (List.take 4 (List.drop 0 [r6,r7,r8,r9])) (⟨#[(59:UInt8)]⟩:ByteArray)) fun r10=>
         some r10
def A13:FnA:=⟨[.v kA],true,[.str],fun x=>yc8 x.1⟩
theorem z8c:FnOk prog 13 A13:=fo (L:=L13_1) (by kernel_rfl) func13 E13_ok (ya8 (k1i rfl) ya0)
def ys3:ByteArray→Bool→Option (ByteArray):=fun a0 a1=>
 bif (!a1) then
  some (⟨#[(110:UInt8),(111:UInt8),(10:UInt8)]⟩:ByteArray)
 else
  if(((ByteArray.size a0)+(ByteArray.size (⟨#[(10:UInt8)]⟩:ByteArray)))≤9223372036854775807) then
   some (a0++(⟨#[(10:UInt8)]⟩:ByteArray))
  else
   none
def A15:FnA:=⟨[.v .str,.v .bool],true,[.str],fun x=>ys3 x.1 x.2.1⟩
theorem A15_ok:FnOk prog 15 A15:=fo (L:=L0) (by kernel_rfl) func15 yh3 ya0
def E14:Env:=ev fun g=>ifEq g 15 (some A15) (none)
theorem E14_ok:FnsOk prog E14:=(oF A15_ok func15 (yc7 _ _))
def yz2:Bool→Bool→Option (ByteArray):=fun a0 a1=>
 bif a0 then
  Option.bind (ys3 (⟨#[(116:UInt8),(114:UInt8),(117:UInt8),(101:UInt8)]⟩:ByteArray) a1) fun r0=>
   some r0
 else
  Option.bind (ys3 (⟨#[(102:UInt8),(97:UInt8),(108:UInt8),(115:UInt8),(101:UInt8)]⟩:ByteArray) a1) fun r1=>
   some r1
def A14:FnA:=⟨[.v .bool,.v .bool],true,[.str],fun x=>yz2 x.1 x.2.1⟩
theorem A14_ok:FnOk prog 14 A14:=fo (L:=L0) (by kernel_rfl) func14 E14_ok ya0
def E44:Env:=ev fun g=>ifEq g 43 (some A43) (none)
theorem E44_ok:FnsOk prog E44:=(oF A43_ok func43 (yc7 _ _))
def yu0:LI→Option (ByteArray):=fun a0=>
 bif ((((List.length a0):Nat):Int)==0) then
  some (⟨#[(45:UInt8)]⟩:ByteArray)
 else
  Option.bind (yz1 a0) fun r0=>
   some r0
def A44:FnA:=⟨[.v sI],true,[.str],fun x=>yu0 x.1⟩
theorem A44_ok:FnOk prog 44 A44:=fo (L:=L0) (by kernel_rfl) func44 E44_ok ya0
def E16:Env:=ev fun g=>ifEq g 44 (some A44) (none)
theorem E16_ok:FnsOk prog E16:=(oF A44_ok func44 (yc7 _ _))
def y1k:Int→Option (ByteArray):=fun a0=>
 Option.bind (yu0 (List.take 1 (List.drop 0 [a0]))) fun r0=>
  some r0
def A16:FnA:=⟨[.v i6],true,[.str],fun x=>y1k x.1⟩
theorem A16_ok:FnOk prog 16 A16:=fo (L:=L0) (by kernel_rfl) func16 E16_ok ya0
def E45:Env:=ev fun g=>ifEq g 46 (some A46) (ifEq g 90 (some A90) (ifEq g 91 (some A91) (ifEq g 13 (some A13) (none))))
theorem z8d:FnsOk prog E45:=(oF A46_ok func46 (oF A90_ok func90 (oF A91_ok func91 (oF z8c func13 (yc7 _ _)))))
def sh45_7:List Fm:=.cell (.val .str)::d::.box 100200 [.val i6,.own i6 100202 false,.own i6 100203 false,.own kS 100204 false]::d::.cell (.own .str 100400 false)::.box 100500 [.val i6,.own i6 100502 false,.own i6 100503 false,.own kS 100504 false]::D 27 (.cell (.own .str 103300 false)::.cell (.val i6)::.cell (.val i6)::D 80 [])
def xs45_7:List (Ex×List Fm):=[(.exit 0,[.cell (.val .str),d,.box 100200 [.val i6,.own i6 100202 false,.own i6 100203 false,.own kS 100204 false],d,.cell (.own .str 100400 false),.box 100500 [.val i6,.own i6 100502 false,.own i6 100503 false,.own kS 100504 false],d,d,d,d,d,d,d,d,d,d,d,d,d,d,d,d,d,d,d,d,d,d,d,d,d,d,d,d,d,d,d,d,d,d,d,d,d,d,d,d,d,d,d,d,d,d,d,d,d,d,d,d,d,d,d,d,d,d,d,d,d,d,d,d,d,d,d,d,d,d,d,d,d,d,d,d,d,d,d,d,d,d,d,d,d,d,d,d,d,d,d,d,d,d,d,d,d,d,d,d,d,d,d,d,d,d,d,d,d,d])]
def ye4:(ByteArray×(Int×LI×LI×LS×Unit)×(List ByteArray)×(Int×LI×LI×LS×Unit)×(List ByteArray)×Int×Int×Unit)→Option ((ByteArray×(Int×LI×LI×LS×Unit)×(List ByteArray)×(Int×LI×LI×LS×Unit)×(List ByteArray)×Int×Int×Unit)⊕((ByteArray×(Int×LI×LI×LS×Unit)×(List ByteArray)×(Int×LI×LI×LS×Unit)×Unit))):=fun(v0,(v2_0,v2_1,v2_2,v2_3,_),v4,(v5_0,v5_1,v5_2,v5_3,_),v33,v34,v35,_)=>
 bif (decide (v35<v34)) then
  if(((0:Int)≤v35)∧(v35<(((List.length v33):Nat):Int))) then
   Option.bind (strconv_Atoi (List.getD v33 (0+(Int.toNat v35)) ⟨Array.empty⟩)) fun(r0,r1)=>
    if(((0+(List.length v5_1))=(List.length v5_1))∧((((List.length v5_1)+(List.length (List.take 1 (List.drop 0 [r0]))))*8)≤140737488355328)) then
     some (Sum.inl (v0,(v2_0,(List.take (List.length v2_1) (List.drop 0 v2_1)),(List.take (List.length v2_2) (List.drop 0 v2_2)),(List.take (List.length v2_3) (List.drop 0 v2_3)),()),(List.take (List.length v4) (List.drop 0 v4)),(v5_0,(List.take ((List.length v5_1)+(List.length (List.take 1 (List.drop 0 [r0])))) (List.drop 0 ((List.drop 0 v5_1)++(List.take 1 (List.drop 0 [r0]))))),(List.take (List.length v5_2) (List.drop 0 v5_2)),(List.take (List.length v5_3) (List.drop 0 v5_3)),()),(List.take (List.length v33) (List.drop 0 v33)),v34,(IntKind.wrap .i64 (v35+1)),()))
    else
     none
  else
   none
 else
  some (Sum.inr (v0,(v2_0,(List.take (List.length v2_1) (List.drop 0 v2_1)),(List.take (List.length v2_2) (List.drop 0 v2_2)),(List.take (List.length v2_3) (List.drop 0 v2_3)),()),(List.take (List.length v4) (List.drop 0 v4)),(v5_0,(List.take (List.length v5_1) (List.drop 0 v5_1)),(List.take (List.length v5_2) (List.drop 0 v5_2)),(List.take (List.length v5_3) (List.drop 0 v5_3)),()),()))
theorem k1j{L}(h:L 7=some ⟨116,sh45_7,xs45_7,ye4⟩):yb7 prog L (ya9 f45 7):=lo (L':=L0) (by kernel_rfl) z8d ya0 h
def L45_1:Nat→Option LoopD:=fun n=>ifEq n 7 (some ⟨116,sh45_7,xs45_7,ye4⟩) (L0 n)
def kt1:List Fm:=.cell (.val .str)::d::.box 100200 [.val i6,.own i6 100202 false,.own i6 100203 false,.own kS 100204 false]::d::.cell (.own .str 100400 false)::.box 100500 [.val i6,.own i6 100502 false,.own i6 100503 false,.own kS 100504 false]::D 48 (.cell (.own .str 105400 false)::.cell (.val i6)::.cell (.val i6)::D 59 [])
def kt2:List (Ex×List Fm):=[(.exit 2,[.cell (.val .str),d,.box 100200 [.val i6,.own i6 100202 false,.own i6 100203 false,.own kS 100204 false],d,.cell (.own .str 100400 false),.box 100500 [.val i6,.own i6 100502 false,.own i6 100503 false,.own kS 100504 false],d,d,d,d,d,d,d,d,d,d,d,d,d,d,d,d,d,d,d,d,d,d,d,d,d,d,d,d,d,d,d,d,d,d,d,d,d,d,d,d,d,d,d,d,d,d,d,d,d,d,d,d,d,d,d,d,d,d,d,d,d,d,d,d,d,d,d,d,d,d,d,d,d,d,d,d,d,d,d,d,d,d,d,d,d,d,d,d,d,d,d,d,d,d,d,d,d,d,d,d,d,d,d,d,d,d,d,d,d,d])]
def yd7:(ByteArray×(Int×LI×LI×LS×Unit)×(List ByteArray)×(Int×LI×LI×LS×Unit)×(List ByteArray)×Int×Int×Unit)→Option ((ByteArray×(Int×LI×LI×LS×Unit)×(List ByteArray)×(Int×LI×LI×LS×Unit)×(List ByteArray)×Int×Int×Unit)⊕((ByteArray×(Int×LI×LI×LS×Unit)×(List ByteArray)×(Int×LI×LI×LS×Unit)×Unit))):=fun(v0,(v2_0,v2_1,v2_2,v2_3,_),v4,(v5_0,v5_1,v5_2,v5_3,_),v54,v55,v56,_)=>
 bif (decide (v56<v55)) then
  if(((0:Int)≤v56)∧(v56<(((List.length v54):Nat):Int))) then
   Option.bind (strconv_Atoi (List.getD v54 (0+(Int.toNat v56)) ⟨Array.empty⟩)) fun(r0,r1)=>
    if(((0+(List.length v5_2))=(List.length v5_2))∧((((List.length v5_2)+(List.length (List.take 1 (List.drop 0 [r0]))))*8)≤140737488355328)) then
     some (Sum.inl (v0,(v2_0,(List.take (List.length v2_1) (List.drop 0 v2_1)),(List.take (List.length v2_2) (List.drop 0 v2_2)),(List.take (List.length v2_3) (List.drop 0 v2_3)),()),(List.take (List.length v4) (List.drop 0 v4)),(v5_0,(List.take (List.length v5_1) (List.drop 0 v5_1)),(List.take ((List.length v5_2)+(List.length (List.take 1 (List.drop 0 [r0])))) (List.drop 0 ((List.drop 0 v5_2)++(List.take 1 (List.drop 0 [r0]))))),(List.take (List.length v5_3) (List.drop 0 v5_3)),()),(List.take (List.length v54) (List.drop 0 v54)),v55,(IntKind.wrap .i64 (v56+1)),()))
    else
     none
  else
   none
 else
  some (Sum.inr (v0,(v2_0,(List.take (List.length v2_1) (List.drop 0 v2_1)),(List.take (List.length v2_2) (List.drop 0 v2_2)),(List.take (List.length v2_3) (List.drop 0 v2_3)),()),(List.take (List.length v4) (List.drop 0 v4)),(v5_0,(List.take (List.length v5_1) (List.drop 0 v5_1)),(List.take (List.length v5_2) (List.drop 0 v5_2)),(List.take (List.length v5_3) (List.drop 0 v5_3)),()),()))
theorem kt3{L}(h:L 13=some ⟨116,kt1,kt2,yd7⟩):yb7 prog L (ya9 f45 13):=lo (L':=L45_1) (by kernel_rfl) z8d ya0 h
def L45_2:Nat→Option LoopD:=fun n=>ifEq n 13 (some ⟨116,kt1,kt2,yd7⟩) (L45_1 n)
def kt4:List Fm:=.cell (.val .str)::d::.box 100200 [.val i6,.own i6 100202 false,.own i6 100203 false,.own kS 100204 false]::d::d::.box 100500 [.val i6,.own i6 100502 false,.own i6 100503 false,.own kS 100504 false]::D 69 (.cell (.own .str 107500 false)::.cell (.val i6)::.cell (.val i6)::D 38 [])
def kt5:List (Ex×List Fm):=[(.ret,[d,d,.box 100200 [.val i6,.own i6 100202 false,.own i6 100203 false,.own kS 100204 false],.cell (.val .bool),d,d,d,d,d,d,d,d,d,d,d,d,d,d,d,d,d,d,d,d,d,d,d,d,d,d,d,d,d,d,d,d,d,d,d,d,d,d,d,d,d,d,d,d,d,d,d,d,d,d,d,d,d,d,d,d,d,d,d,d,d,d,d,d,d,d,d,d,d,d,d,d,d,d,d,d,d,d,d,d,d,d,d,d,d,d,d,d,d,d,d,d,d,d,d,d,d,d,d,d,d,d,d,d,d,d,d,d,d,d,d,d]),(.exit 4,[.cell (.val .str),d,.box 100200 [.val i6,.own i6 100202 false,.own i6 100203 false,.own kS 100204 false],d,d,.box 100500 [.val i6,.own i6 100502 false,.own i6 100503 false,.own kS 100504 false],d,d,d,d,d,d,d,d,d,d,d,d,d,d,d,d,d,d,d,d,d,d,d,d,d,d,d,d,d,d,d,d,d,d,d,d,d,d,d,d,d,d,d,d,d,d,d,d,d,d,d,d,d,d,d,d,d,d,d,d,d,d,d,d,d,d,d,d,d,d,d,d,d,d,d,d,d,d,d,d,d,d,d,d,d,d,d,d,d,d,d,d,d,d,d,d,d,d,d,d,d,d,d,d,d,d,d,d,d,d])]
def yd8:(ByteArray×(Int×LI×LI×LS×Unit)×(Int×LI×LI×LS×Unit)×(List ByteArray)×Int×Int×Unit)→Option ((ByteArray×(Int×LI×LI×LS×Unit)×(Int×LI×LI×LS×Unit)×(List ByteArray)×Int×Int×Unit)⊕(((Int×LI×LI×LS×Unit)×Bool×Unit)⊕(ByteArray×(Int×LI×LI×LS×Unit)×(Int×LI×LI×LS×Unit)×Unit))):=fun(v0,(v2_0,v2_1,v2_2,v2_3,_),(v5_0,v5_1,v5_2,v5_3,_),v75,v76,v77,_)=>
 bif (decide (v77<v76)) then
  if(((0:Int)≤v77)∧(v77<(((List.length v75):Nat):Int))) then
   bif ((((ByteArray.size (List.getD v75 (0+(Int.toNat v77)) ⟨Array.empty⟩)):Nat):Int) != 5) then
    some (Sum.inr (Sum.inl (((0:Int),[],[],[],()),false,())))
   else
    if(((0:Int)≤0)∧((0:Int)<(((ByteArray.size (List.getD v75 (0+(Int.toNat v77)) ⟨Array.empty⟩)):Nat):Int))) then
     if(((0:Int)≤1)∧(((1:Int)≤2)∧((2:Int)≤(((ByteArray.size (List.getD v75 (0+(Int.toNat v77)) ⟨Array.empty⟩)):Nat):Int)))) then
      if(((0:Int)≤2)∧((2:Int)<(((ByteArray.size (List.getD v75 (0+(Int.toNat v77)) ⟨Array.empty⟩)):Nat):Int))) then
       if(((0:Int)≤4)∧((4:Int)<(((ByteArray.size (List.getD v75 (0+(Int.toNat v77)) ⟨Array.empty⟩)):Nat):Int))) then
        if(((0+(List.length v5_3))=(List.length v5_3))∧((((List.length v5_3)+(List.length (List.take 1 (List.drop 0 [((IntKind.wrap .i64 ((IntKind.wrap .i64 (((UInt8.toNat (Array.getD (ByteArray.data (List.getD v75 (0+(Int.toNat v77)) (⟨Array.empty⟩:ByteArray))) (Int.toNat (0:Int)) (0:UInt8))):Nat):Int))-(48:Int))),(ByteArray.extract (List.getD v75 (0+(Int.toNat v77)) (⟨Array.empty⟩:ByteArray)) (Int.toNat (1:Int)) (Int.toNat (2:Int))),(IntKind.wrap .i64 ((IntKind.wrap .i64 (((UInt8.toNat (Array.getD (ByteArray.data (List.getD v75 (0+(Int.toNat v77)) (⟨Array.empty⟩:ByteArray))) (Int.toNat (2:Int)) (0:UInt8))):Nat):Int))-(48:Int))),(IntKind.wrap .i64 ((IntKind.wrap .i64 (((UInt8.toNat (Array.getD (ByteArray.data (List.getD v75 (0+(Int.toNat v77)) (⟨Array.empty⟩:ByteArray))) (Int.toNat (4:Int)) (0:UInt8))):Nat):Int))-(48:Int))))]))))*40)≤140737488355328)) then
         some (Sum.inl (v0,(v2_0,(List.take (List.length v2_1) (List.drop 0 v2_1)),(List.take (List.length v2_2) (List.drop 0 v2_2)),(List.take (List.length v2_3) (List.drop 0 v2_3)),()),(v5_0,(List.take (List.length v5_1) (List.drop 0 v5_1)),(List.take (List.length v5_2) (List.drop 0 v5_2)),(List.take ((List.length v5_3)+(List.length (List.take 1 (List.drop 0 [((IntKind.wrap .i64 ((IntKind.wrap .i64 (((UInt8.toNat (Array.getD (ByteArray.data (List.getD v75 (0+(Int.toNat v77)) (⟨Array.empty⟩:ByteArray))) (Int.toNat (0:Int)) (0:UInt8))):Nat):Int))-(48:Int))),(ByteArray.extract (List.getD v75 (0+(Int.toNat v77)) (⟨Array.empty⟩:ByteArray)) (Int.toNat (1:Int)) (Int.toNat (2:Int))),(IntKind.wrap .i64 ((IntKind.wrap .i64 (((UInt8.toNat (Array.getD (ByteArray.data (List.getD v75 (0+(Int.toNat v77)) (⟨Array.empty⟩:ByteArray))) (Int.toNat (2:Int)) (0:UInt8))):Nat):Int))-(48:Int))),(IntKind.wrap .i64 ((IntKind.wrap .i64 (((UInt8.toNat (Array.getD (ByteArray.data (List.getD v75 (0+(Int.toNat v77)) (⟨Array.empty⟩:ByteArray))) (Int.toNat (4:Int)) (0:UInt8))):Nat):Int))-(48:Int))))])))) (List.drop 0 ((List.drop 0 v5_3)++(List.take 1 (List.drop 0 [((IntKind.wrap .i64 ((IntKind.wrap .i64 (((UInt8.toNat (Array.getD (ByteArray.data (List.getD v75 (0+(Int.toNat v77)) (⟨Array.empty⟩:ByteArray))) (Int.toNat (0:Int)) (0:UInt8))):Nat):Int))-(48:Int))),(ByteArray.extract (List.getD v75 (0+(Int.toNat v77)) (⟨Array.empty⟩:ByteArray)) (Int.toNat (1:Int)) (Int.toNat (2:Int))),(IntKind.wrap .i64 ((IntKind.wrap .i64 (((UInt8.toNat (Array.getD (ByteArray.data (List.getD v75 (0+(Int.toNat v77)) (⟨Array.empty⟩:ByteArray))) (Int.toNat (2:Int)) (0:UInt8))):Nat):Int))-(48:Int))),(IntKind.wrap .i64 ((IntKind.wrap .i64 (((UInt8.toNat (Array.getD (ByteArray.data (List.getD v75 (0+(Int.toNat v77)) (⟨Array.empty⟩:ByteArray))) (Int.toNat (4:Int)) (0:UInt8))):Nat):Int))-(48:Int))))]))))),()),(List.take (List.length v75) (List.drop 0 v75)),v76,(IntKind.wrap .i64 (v77+1)),()))
        else
         none
       else
        none
      else
       none
     else
      none
    else
     none
  else
   none
 else
  some (Sum.inr (Sum.inr (v0,(v2_0,(List.take (List.length v2_1) (List.drop 0 v2_1)),(List.take (List.length v2_2) (List.drop 0 v2_2)),(List.take (List.length v2_3) (List.drop 0 v2_3)),()),(v5_0,(List.take (List.length v5_1) (List.drop 0 v5_1)),(List.take (List.length v5_2) (List.drop 0 v5_2)),(List.take (List.length v5_3) (List.drop 0 v5_3)),()),())))
theorem kt6{L}(h:L 19=some ⟨116,kt4,kt5,yd8⟩):yb7 prog L (ya9 f45 19):=lo (L':=L45_2) (by kernel_rfl) z8d ya0 h
def L45_3:Nat→Option LoopD:=fun n=>ifEq n 19 (some ⟨116,kt4,kt5,yd8⟩) (L45_2 n)
def yi3:ByteArray→Option (TA×Bool):=fun a0=>
 Option.bind (strings_Split a0 (⟨#[(59:UInt8)]⟩:ByteArray)) fun r0=>
  bif ((((List.length r0):Nat):Int) != 4) then
   some (((0:Int),[],[],[]),false)
  else
   if(((0:Int)≤0)∧((0:Int)<(((List.length r0):Nat):Int))) then
    Option.bind (strconv_Atoi (List.getD r0 (0+(Int.toNat 0)) ⟨Array.empty⟩)) fun(r1,r2)=>
     if(((0:Int)≤1)∧((1:Int)<(((List.length r0):Nat):Int))) then
      Option.bind (yp7 (List.getD r0 (0+(Int.toNat 1)) ⟨Array.empty⟩)) fun r3=>
       Option.bind (ya2 ye4 (a0,((0:Int),[],[],[],()),(List.take (List.length r0) (List.drop 0 r0)),(r1,[],[],[],()),(List.take (List.length r3) (List.drop 0 r3)),(((List.length r3):Nat):Int),0,())) fun(r4,(r5,r6,r7,r8,_),r9,(r10,r11,r12,r13,_),_)=>
        if(((0:Int)≤2)∧((2:Int)<(((List.length r9):Nat):Int))) then
         Option.bind (yp7 (List.getD r9 (0+(Int.toNat 2)) ⟨Array.empty⟩)) fun r14=>
          Option.bind (ya2 yd7 (r4,(r5,(List.take (List.length r6) (List.drop 0 r6)),(List.take (List.length r7) (List.drop 0 r7)),(List.take (List.length r8) (List.drop 0 r8)),()),(List.take (List.length r9) (List.drop 0 r9)),(r10,(List.take (List.length r11) (List.drop 0 r11)),(List.take (List.length r12) (List.drop 0 r12)),(List.take (List.length r13) (List.drop 0 r13)),()),(List.take (List.length r14) (List.drop 0 r14)),(((List.length r14):Nat):Int),0,())) fun(r15,(r16,r17,r18,r19,_),r20,(r21,r22,r23,r24,_),_)=>
           if(((0:Int)≤3)∧((3:Int)<(((List.length r20):Nat):Int))) then
            Option.bind (yp7 (List.getD r20 (0+(Int.toNat 3)) ⟨Array.empty⟩)) fun r25=>
             Option.bind (ya2 yd8 (r15,(r16,(List.take (List.length r17) (List.drop 0 r17)),(List.take (List.length r18) (List.drop 0 r18)),(List.take (List.length r19) (List.drop 0 r19)),()),(r21,(List.take (List.length r22) (List.drop 0 r22)),(List.take (List.length r23) (List.drop 0 r23)),(List.take (List.length r24) (List.drop 0 r24)),()),(List.take (List.length r25) (List.drop 0 r25)),(((List.length r25):Nat):Int),0,())) fun r26=>
              (match r26 with
              |.inl ((d27,d28,d29,d30,_),d31,_)=>
                some ((d27,(List.take (List.length d28) (List.drop 0 d28)),(List.take (List.length d29) (List.drop 0 d29)),(List.take (List.length d30) (List.drop 0 d30))),d31)
              |.inr (d32,(d33,d34,d35,d36,_),(d37,d38,d39,d40,_),_)=>
                bif ((ByteArray.toList d32)==(ByteArray.toList (⟨#[]⟩:ByteArray))) then
                 some (((0:Int),[],[],[]),false)
                else
                 Option.bind (yc8 (d37,(List.take (List.length d38) (List.drop 0 d38)),(List.take (List.length d39) (List.drop 0 d39)),(List.take (List.length d40) (List.drop 0 d40)))) fun r41=>
                  bif (!((ByteArray.toList r41)==(ByteArray.toList d32))) then
                   some (((0:Int),[],[],[]),false)
                  else
                   some ((d37,(List.take (List.length d38) (List.drop 0 d38)),(List.take (List.length d39) (List.drop 0 d39)),(List.take (List.length d40) (List.drop 0 d40))),true))
           else
            none
        else
         none
     else
      none
   else
    none
def A45:FnA:=⟨[.v .str],true,[.pair i6 (.pair sI (.pair sI sS)),.bool],fun x=>yi3 x.1⟩
theorem A45_ok:FnOk prog 45 A45:=fo (L:=L45_3) (by kernel_rfl) func45 z8d (ya8 (k1j rfl) (ya8 (kt3 rfl) (ya8 (kt6 rfl) ya0)))
def y5g:ByteArray→Option (ByteArray):=fun a0=>
 bif ((ByteArray.toList a0)==(ByteArray.toList (⟨#[]⟩:ByteArray))) then
  some (⟨#[(45:UInt8)]⟩:ByteArray)
 else
  some a0
def A184:FnA:=⟨[.v .str],true,[.str],fun x=>y5g x.1⟩
theorem A184_ok:FnOk prog 184 A184:=fo (L:=L0) (by kernel_rfl) func184 yh3 ya0
def E106:Env:=ev fun g=>ifEq g 184 (some A184) (none)
theorem E106_ok:FnsOk prog E106:=(oF A184_ok func184 (yc7 _ _))
def yo4:ByteArray→Bool→Option (ByteArray):=fun a0 a1=>
 bif (!a1) then
  some (⟨#[(110:UInt8),(111:UInt8)]⟩:ByteArray)
 else
  Option.bind (y5g a0) fun r0=>
   some r0
def A106:FnA:=⟨[.v .str,.v .bool],true,[.str],fun x=>yo4 x.1 x.2.1⟩
theorem z07:FnOk prog 106 A106:=fo (L:=L0) (by kernel_rfl) func106 E106_ok ya0
def E103:Env:=ev fun g=>ifEq g 42 (some A42) (ifEq g 106 (some A106) (none))
theorem E103_ok:FnsOk prog E103:=(oF z7r func42 (oF z07 func106 (yc7 _ _)))
def y7f:(List ByteArray)→Bool→Option (ByteArray):=fun a0 a1=>
 Option.bind (strings_Join a0 (⟨#[(10:UInt8)]⟩:ByteArray)) fun r0=>
  Option.bind (yo4 r0 a1) fun r1=>
   some r1
def A103:FnA:=⟨[.v (.sl .str),.v .bool],true,[.str],fun x=>y7f x.1 x.2.1⟩
theorem A103_ok:FnOk prog 103 A103:=fo (L:=L0) (by kernel_rfl) func103 E103_ok ya0
def yw0:Bool→Option (ByteArray):=fun a0=>
 bif a0 then
  some (⟨#[(116:UInt8),(114:UInt8),(117:UInt8),(101:UInt8)]⟩:ByteArray)
 else
  some (⟨#[(102:UInt8),(97:UInt8),(108:UInt8),(115:UInt8),(101:UInt8)]⟩:ByteArray)
def A247:FnA:=⟨[.v .bool],true,[.str],fun x=>yw0 x.1⟩
theorem A247_ok:FnOk prog 247 A247:=fo (L:=L0) (by kernel_rfl) func247 yh3 ya0
def E183:Env:=ev fun g=>ifEq g 247 (some A247) (none)
theorem E183_ok:FnsOk prog E183:=(oF A247_ok func247 (yc7 _ _))
def y3n:Bool→Option (ByteArray):=fun a0=>
 Option.bind (yw0 a0) fun r0=>
  some r0
def A183:FnA:=⟨[.v .bool],true,[.str],fun x=>y3n x.1⟩
theorem A183_ok:FnOk prog 183 A183:=fo (L:=L0) (by kernel_rfl) func183 E183_ok ya0
def E105:Env:=ev fun g=>ifEq g 183 (some A183) (ifEq g 106 (some A106) (none))
theorem E105_ok:FnsOk prog E105:=(oF A183_ok func183 (oF z07 func106 (yc7 _ _)))
def y2g:Bool→Bool→Option (ByteArray):=fun a0 a1=>
 Option.bind (y3n a0) fun r0=>
  Option.bind (yo4 r0 a1) fun r1=>
   some r1
def A105:FnA:=⟨[.v .bool,.v .bool],true,[.str],fun x=>y2g x.1 x.2.1⟩
theorem A105_ok:FnOk prog 105 A105:=fo (L:=L0) (by kernel_rfl) func105 E105_ok ya0
def E48:Env:=ev fun g=>ifEq g 13 (some A13) (ifEq g 10 (some A10) (ifEq g 11 (some A11) (ifEq g 103 (some A103) (ifEq g 5 (some A5) (ifEq g 7 (some A7) (ifEq g 105 (some A105) (ifEq g 8 (some A8) (ifEq g 106 (some A106) (ifEq g 9 (some A9) (ifEq g 41 (some A41) (ifEq g 12 (some A12) (none))))))))))))
theorem E48_ok:FnsOk prog E48:=(oF z8c func13 (oF zo8 func10 (oF A11_ok func11 (oF A103_ok func103 (oF A5_ok func5 (oF A7_ok func7 (oF A105_ok func105 (oF A8_ok func8 (oF z07 func106 (oF A9_ok func9 (oF ki3 func41 (oF A12_ok func12 (yc7 _ _)))))))))))))
def kt7:List Fm:=.box 200000 [.val i6,.val sI,.val sI,.val sS,.val i6,.val sI,.val sI,.val sS]::D 6 (.cell (.val .bool)::.cell (.own .str 100800 false)::D 139 (.cell (.own kE 114800 false)::.cell (.val i6)::.cell (.val i6)::D 71 []))
def kt8:List (Ex×List Fm):=[(.exit 1,[.box 200000 [.val i6,.val sI,.val sI,.val sS,.val i6,.val sI,.val sI,.val sS],d,d,d,d,d,d,.cell (.val .bool),.cell (.own .str 100800 false),d,d,d,d,d,d,d,d,d,d,d,d,d,d,d,d,d,d,d,d,d,d,d,d,d,d,d,d,d,d,d,d,d,d,d,d,d,d,d,d,d,d,d,d,d,d,d,d,d,d,d,d,d,d,d,d,d,d,d,d,d,d,d,d,d,d,d,d,d,d,d,d,d,d,d,d,d,d,d,d,d,d,d,d,d,d,d,d,d,d,d,d,d,d,d,d,d,d,d,d,d,d,d,d,d,d,d,d,d,d,d,d,d,d,d,d,d,d,d,d,d,d,d,d,d,d,d,d,d,d,d,d,d,d,d,d,d,d,d,d,d,d,d,d,d,d,d,d,d,d,d,d,d,d,d,d,d,d,d,d,d,d,d,d,d,d,d,d,d,d,d,d,d,d,d,d,d,d,d,d,d,d,d,d,d,d,d,d,d,d,d,d,d,d,d,d,d,d,d,d,d,d,d,d,d,d,d,d,d,d,d,d,d])]
def yg3:((Int×LI×LI×LS×Int×LI×LI×LS×Unit)×Bool×(List ByteArray)×LE×Int×Int×Unit)→Option (((Int×LI×LI×LS×Int×LI×LI×LS×Unit)×Bool×(List ByteArray)×LE×Int×Int×Unit)⊕(((Int×LI×LI×LS×Int×LI×LI×LS×Unit)×Bool×(List ByteArray)×Unit))):=fun((v0_0,v0_1,v0_2,v0_3,v0_4,v0_5,v0_6,v0_7,_),v7,v8,v148,v149,v150,_)=>
 bif (decide (v150<v149)) then
  if(((0:Int)≤v150)∧(v150<(((List.length v148):Nat):Int))) then
   Option.bind (yp5 (((List.getD v148 (0+(Int.toNat v150)) (((0:Int),[]),⟨Array.empty⟩)).1.1,(List.getD v148 (0+(Int.toNat v150)) (((0:Int),[]),⟨Array.empty⟩)).1.2),(List.getD v148 (0+(Int.toNat v150)) (((0:Int),[]),⟨Array.empty⟩)).2)) fun r0=>
    if(((0+(List.length v8))=(List.length v8))∧((((List.length v8)+(List.length (List.take 1 (List.drop 0 [r0]))))*16)≤140737488355328)) then
     some (Sum.inl ((v0_0,v0_1,v0_2,v0_3,v0_4,v0_5,v0_6,v0_7,()),v7,(List.take ((List.length v8)+(List.length (List.take 1 (List.drop 0 [r0])))) (List.drop 0 ((List.drop 0 v8)++(List.take 1 (List.drop 0 [r0]))))),(List.take (List.length v148) (List.drop 0 v148)),v149,(IntKind.wrap .i64 (v150+1)),()))
    else
     none
  else
   none
 else
  some (Sum.inr ((v0_0,v0_1,v0_2,v0_3,v0_4,v0_5,v0_6,v0_7,()),v7,(List.take (List.length v8) (List.drop 0 v8)),()))
theorem kt9{L}(h:L 29=some ⟨222,kt7,kt8,yg3⟩):yb7 prog L (ya9 f48 29):=lo (L':=L0) (by kernel_rfl) E48_ok ya0 h
def L48_1:Nat→Option LoopD:=fun n=>ifEq n 29 (some ⟨222,kt7,kt8,yg3⟩) (L0 n)
def yb3:(TA×TA)→ByteArray→Option ((ByteArray×Bool)×((TA×TA)×Unit)):=fun((a0_0,a0_1,a0_2,a0_3),a0_4,a0_5,a0_6,a0_7) a1=>
 bif ((ByteArray.toList a1)==(ByteArray.toList (⟨#[(109:UInt8),(105:UInt8),(110:UInt8)]⟩:ByteArray))) then
  none
 else
  bif ((ByteArray.toList a1)==(ByteArray.toList (⟨#[(115:UInt8),(117:UInt8),(109:UInt8)]⟩:ByteArray))) then
   none
  else
   bif ((ByteArray.toList a1)==(ByteArray.toList (⟨#[(99:UInt8),(104:UInt8),(97:UInt8),(105:UInt8),(110:UInt8)]⟩:ByteArray))) then
    none
   else
    bif ((ByteArray.toList a1)==(ByteArray.toList (⟨#[(114:UInt8),(101:UInt8),(118:UInt8),(101:UInt8),(114:UInt8),(115:UInt8),(101:UInt8)]⟩:ByteArray))) then
     none
    else
     bif ((ByteArray.toList a1)==(ByteArray.toList (⟨#[(102:UInt8),(114:UInt8),(101:UInt8),(101:UInt8)]⟩:ByteArray))) then
      none
     else
      bif ((ByteArray.toList a1)==(ByteArray.toList (⟨#[(115:UInt8),(119:UInt8),(97:UInt8),(112:UInt8)]⟩:ByteArray))) then
       none
      else
       bif ((ByteArray.toList a1)==(ByteArray.toList (⟨#[(116:UInt8),(114:UInt8),(105:UInt8),(109:UInt8)]⟩:ByteArray))) then
        none
       else
        bif ((ByteArray.toList a1)==(ByteArray.toList (⟨#[(112:UInt8),(111:UInt8),(119:UInt8),(101:UInt8),(114:UInt8),(115:UInt8)]⟩:ByteArray))) then
         none
        else
         bif ((ByteArray.toList a1)==(ByteArray.toList (⟨#[(97:UInt8),(117:UInt8),(116:UInt8),(111:UInt8),(109:UInt8),(97:UInt8),(116:UInt8),(111:UInt8),(110:UInt8)]⟩:ByteArray))) then
          Option.bind (yc8 (a0_0,a0_1,a0_2,a0_3)) fun r0=>
           some ((r0,true),((a0_0,a0_1,a0_2,a0_3),a0_4,a0_5,a0_6,a0_7),())
         else
          bif ((ByteArray.toList a1)==(ByteArray.toList (⟨#[(107:UInt8),(101:UInt8),(101:UInt8),(112:UInt8)]⟩:ByteArray))) then
           some (((⟨#[(111:UInt8),(107:UInt8)]⟩:ByteArray),true),((a0_0,a0_1,a0_2,a0_3),a0_0,a0_1,a0_2,a0_3),())
          else
           bif ((ByteArray.toList a1)==(ByteArray.toList (⟨#[(117:UInt8),(115:UInt8),(101:UInt8),(102:UInt8),(117:UInt8),(108:UInt8)]⟩:ByteArray))) then
            none
           else
            bif ((ByteArray.toList a1)==(ByteArray.toList (⟨#[(101:UInt8),(108:UInt8),(101:UInt8),(109:UInt8),(101:UInt8),(110:UInt8),(116:UInt8),(115:UInt8)]⟩:ByteArray))) then
             Option.bind (ya6 (a0_0,a0_1,a0_2,a0_3)) fun(r1,r2)=>
              Option.bind (ya2 yg3 ((a0_0,a0_1,a0_2,a0_3,a0_4,a0_5,a0_6,a0_7,()),r2,(List.take 0 (List.drop 0 [])),(List.take (List.length r1) (List.drop 0 r1)),(((List.length r1):Nat):Int),0,())) fun((r3,r4,r5,r6,r7,r8,r9,r10,_),r11,r12,_)=>
               Option.bind (y7f (List.take (List.length r12) (List.drop 0 r12)) r11) fun r13=>
                some ((r13,true),((r3,r4,r5,r6),r7,r8,r9,r10),())
            else
             bif ((ByteArray.toList a1)==(ByteArray.toList (⟨#[(115:UInt8),(116:UInt8),(97:UInt8),(98:UInt8),(108:UInt8),(101:UInt8),(115:UInt8)]⟩:ByteArray))) then
              none
             else
              bif ((ByteArray.toList a1)==(ByteArray.toList (⟨#[(118:UInt8),(101:UInt8),(114:UInt8),(100:UInt8),(105:UInt8),(99:UInt8),(116:UInt8)]⟩:ByteArray))) then
               Option.bind (yh6 (a0_0,a0_1,a0_2,a0_3)) fun r14=>
                some ((r14,true),((a0_0,a0_1,a0_2,a0_3),a0_4,a0_5,a0_6,a0_7),())
              else
               bif ((ByteArray.toList a1)==(ByteArray.toList (⟨#[(98:UInt8),(111:UInt8),(117:UInt8),(110:UInt8),(100:UInt8),(101:UInt8),(100:UInt8)]⟩:ByteArray))) then
                Option.bind (yn2 (a0_0,a0_1,a0_2,a0_3)) fun(r15,r16)=>
                 Option.bind (y2g r15 r16) fun r17=>
                  some ((r17,true),((a0_0,a0_1,a0_2,a0_3),a0_4,a0_5,a0_6,a0_7),())
               else
                bif ((ByteArray.toList a1)==(ByteArray.toList (⟨#[(103:UInt8),(114:UInt8),(111:UInt8),(119:UInt8),(105:UInt8),(110:UInt8),(103:UInt8)]⟩:ByteArray))) then
                 Option.bind (yk4 (a0_0,a0_1,a0_2,a0_3)) fun(r18,r19)=>
                  Option.bind (yo4 r18 r19) fun r20=>
                   some ((r20,true),((a0_0,a0_1,a0_2,a0_3),a0_4,a0_5,a0_6,a0_7),())
                else
                 bif ((ByteArray.toList a1)==(ByteArray.toList (⟨#[(115:UInt8),(111:UInt8),(109:UInt8),(101:UInt8)]⟩:ByteArray))) then
                  Option.bind (yv6 (a0_0,a0_1,a0_2,a0_3)) fun r21=>
                   Option.bind (strconv_Itoa r21) fun r22=>
                    Option.bind (yo4 r22 (decide (r21≥0))) fun r23=>
                     some ((r23,true),((a0_0,a0_1,a0_2,a0_3),a0_4,a0_5,a0_6,a0_7),())
                 else
                  bif ((ByteArray.toList a1)==(ByteArray.toList (⟨#[(102:UInt8),(105:UInt8),(110:UInt8),(105:UInt8),(116:UInt8),(101:UInt8)]⟩:ByteArray))) then
                   Option.bind (ye5 (a0_0,a0_1,a0_2,a0_3)) fun(r24,r25)=>
                    Option.bind (y2g r24 r25) fun r26=>
                     some ((r26,true),((a0_0,a0_1,a0_2,a0_3),a0_4,a0_5,a0_6,a0_7),())
                  else
                   some (((⟨#[]⟩:ByteArray),false),((a0_0,a0_1,a0_2,a0_3),a0_4,a0_5,a0_6,a0_7),())
def A48:FnM:=⟨[.bx (.pair kA kA),.v .str],true,[.str,.bool],none,fun x=>yb3 x.1 x.2.1⟩
theorem A48_ok:y5t prog 48 A48:=fm (L:=L48_1) (by kernel_rfl) func48 E48_ok (ya8 (kt9 rfl) ya0)
def E94:Env:=ev fun g=>ifEq g 13 (some A13) (ifEq g 106 (some A106) (none))
theorem E94_ok:FnsOk prog E94:=(oF z8c func13 (oF z07 func106 (yc7 _ _)))
def yt0:(TA×TA)→TA→Bool→Option ((ByteArray)×((TA×TA)×Unit)):=fun((a0_0,a0_1,a0_2,a0_3),a0_4,a0_5,a0_6,a0_7) (a1_0,a1_1,a1_2,a1_3) a2=>
 bif a2 then
  Option.bind (yc8 (a1_0,a1_1,a1_2,a1_3)) fun r0=>
   Option.bind (yo4 r0 a2) fun r1=>
    some (r1,((a1_0,a1_1,a1_2,a1_3),a0_4,a0_5,a0_6,a0_7),())
 else
  Option.bind (yc8 (a0_0,a0_1,a0_2,a0_3)) fun r2=>
   Option.bind (yo4 r2 a2) fun r3=>
    some (r3,((a0_0,a0_1,a0_2,a0_3),a0_4,a0_5,a0_6,a0_7),())
def A94:FnM:=⟨[.bx (.pair kA kA),.v kA,.v .bool],true,[.str],none,fun x=>yt0 x.1 x.2.1 x.2.2.1⟩
theorem A94_ok:y5t prog 94 A94:=fm (L:=L0) (by kernel_rfl) func94 E94_ok ya0
def E49:Env:=⟨ty0,fun g=>ifEq g 45 (some A45) (none),fun g=>ifEq g 94 (some A94) (none),fun _=>none,fun _=>none,fun _=>0⟩
theorem E49_ok:FnsOk prog E49:=(oF A45_ok func45 (y1u A94_ok (by kernel_rfl) func94 (by kernel_rfl) (by kernel_rfl) (yc7 _ _)))
def yn3:(TA×TA)→ByteArray→ByteArray→Option ((ByteArray×Bool)×((TA×TA)×Unit)):=fun((a0_0,a0_1,a0_2,a0_3),a0_4,a0_5,a0_6,a0_7) a1 a2=>
 bif ((ByteArray.toList a1)==(ByteArray.toList (⟨#[(97:UInt8),(117:UInt8),(116:UInt8),(111:UInt8),(109:UInt8),(97:UInt8),(116:UInt8),(111:UInt8),(110:UInt8)]⟩:ByteArray))) then
  Option.bind (yi3 a2) fun((r0,r1,r2,r3),r4)=>
   Option.bind (yt0 ((a0_0,a0_1,a0_2,a0_3),a0_4,a0_5,a0_6,a0_7) (r0,(List.take (List.length r1) (List.drop 0 r1)),(List.take (List.length r2) (List.drop 0 r2)),(List.take (List.length r3) (List.drop 0 r3))) r4) fun(r5,((r6,r7,r8,r9),r10,r11,r12,r13),_)=>
    some ((r5,true),((r6,r7,r8,r9),r10,r11,r12,r13),())
 else
  bif ((ByteArray.toList a1)==(ByteArray.toList (⟨#[(99:UInt8),(111:UInt8),(115:UInt8),(116:UInt8)]⟩:ByteArray))) then
   none
  else
   bif ((ByteArray.toList a1)==(ByteArray.toList (⟨#[(114:UInt8),(117:UInt8),(110:UInt8)]⟩:ByteArray))) then
    none
   else
    bif ((ByteArray.toList a1)==(ByteArray.toList (⟨#[(109:UInt8),(97:UInt8),(116:UInt8),(114:UInt8),(105:UInt8),(120:UInt8)]⟩:ByteArray))) then
     none
    else
     bif ((ByteArray.toList a1)==(ByteArray.toList (⟨#[(112:UInt8),(114:UInt8),(101:UInt8),(102:UInt8),(105:UInt8),(120:UInt8),(101:UInt8),(115:UInt8)]⟩:ByteArray))) then
      none
     else
      bif ((ByteArray.toList a1)==(ByteArray.toList (⟨#[(102:UInt8),(97:UInt8),(99:UInt8),(116:UInt8),(111:UInt8),(114:UInt8),(115:UInt8)]⟩:ByteArray))) then
       none
      else
       bif ((ByteArray.toList a1)==(ByteArray.toList (⟨#[(115:UInt8),(112:UInt8),(108:UInt8),(105:UInt8),(116:UInt8)]⟩:ByteArray))) then
        none
       else
        bif ((ByteArray.toList a1)==(ByteArray.toList (⟨#[(118:UInt8),(97:UInt8),(108:UInt8),(117:UInt8),(101:UInt8)]⟩:ByteArray))) then
         none
        else
         bif ((ByteArray.toList a1)==(ByteArray.toList (⟨#[(103:UInt8),(114:UInt8),(97:UInt8),(100:UInt8),(101:UInt8)]⟩:ByteArray))) then
          none
         else
          bif ((ByteArray.toList a1)==(ByteArray.toList (⟨#[(101:UInt8),(120:UInt8),(112:UInt8),(97:UInt8),(110:UInt8),(100:UInt8)]⟩:ByteArray))) then
           bif ((ByteArray.toList a1)==(ByteArray.toList (⟨#[(101:UInt8),(120:UInt8),(112:UInt8),(97:UInt8),(110:UInt8),(100:UInt8)]⟩:ByteArray))) then
            none
           else
            some (((⟨#[]⟩:ByteArray),false),((a0_0,a0_1,a0_2,a0_3),a0_4,a0_5,a0_6,a0_7),())
          else
           bif ((ByteArray.toList a1)==(ByteArray.toList (⟨#[(103:UInt8),(114:UInt8),(111:UInt8),(119:UInt8),(116:UInt8),(104:UInt8)]⟩:ByteArray))) then
            none
           else
            some (((⟨#[]⟩:ByteArray),false),((a0_0,a0_1,a0_2,a0_3),a0_4,a0_5,a0_6,a0_7),())
def A49:FnM:=⟨[.bx (.pair kA kA),.v .str,.v .str],true,[.str,.bool],none,fun x=>yn3 x.1 x.2.1 x.2.2.1⟩
theorem A49_ok:y5t prog 49 A49:=fm (L:=L0) (by kernel_rfl) func49 E49_ok ya0
def E17:Env:=⟨ty0,fun g=>ifEq g 45 (some A45) (ifEq g 46 (some A46) (ifEq g 47 (some A47) (none))),fun g=>ifEq g 48 (some A48) (ifEq g 49 (some A49) (none)),fun _=>none,fun _=>none,fun _=>0⟩
theorem E17_ok:FnsOk prog E17:=(oF A45_ok func45 (oF A46_ok func46 (oF A47_ok func47 (y1u A48_ok (by kernel_rfl) func48 (by kernel_rfl) (by kernel_rfl) (y1u A49_ok (by kernel_rfl) func49 (by kernel_rfl) (by kernel_rfl) (yc7 _ _))))))
def sh17_7:List Fm:=D 5 (.box 100500 [.val i6,.val sI,.val sI,.val sS,.val i6,.val sI,.val sI,.val sS]::.cell (.val .str)::D 19 (.cell (.own .str 102600 false)::.cell (.val i6)::.cell (.val i6)::D 53 []))
def xs17_7:List (Ex×List Fm):=[(.ret,(d::d::.cell (.val .str)::D 79 [])),(.exit 0,(D 6 (.cell (.val .str)::D 75 [])))]
def yg9:((Int×LI×LI×LS×Int×LI×LI×LS×Unit)×ByteArray×(List ByteArray)×Int×Int×Unit)→Option (((Int×LI×LI×LS×Int×LI×LI×LS×Unit)×ByteArray×(List ByteArray)×Int×Int×Unit)⊕((ByteArray×Unit)⊕(ByteArray×Unit))):=fun((v5_0,v5_1,v5_2,v5_3,v5_4,v5_5,v5_6,v5_7,_),v6,v26,v27,v28,_)=>
 bif (decide (v28<v27)) then
  if(((0:Int)≤v28)∧(v28<(((List.length v26):Nat):Int))) then
   bif ((ByteArray.toList (List.getD v26 (0+(Int.toNat v28)) ⟨Array.empty⟩))==(ByteArray.toList (⟨#[]⟩:ByteArray))) then
    some (Sum.inl ((v5_0,v5_1,v5_2,v5_3,v5_4,v5_5,v5_6,v5_7,()),v6,(List.take (List.length v26) (List.drop 0 v26)),v27,(IntKind.wrap .i64 (v28+1)),()))
   else
    bif (decide (v28≥100)) then
     if(((ByteArray.size v6)+(ByteArray.size (⟨#[(102:UInt8),(117:UInt8),(108:UInt8),(108:UInt8),(10:UInt8)]⟩:ByteArray)))≤9223372036854775807) then
      some (Sum.inr (Sum.inl ((v6++(⟨#[(102:UInt8),(117:UInt8),(108:UInt8),(108:UInt8),(10:UInt8)]⟩:ByteArray)),())))
     else
      none
    else
     bif (decide ((((ByteArray.size v6):Nat):Int)>40000)) then
      if(((ByteArray.size v6)+(ByteArray.size (⟨#[(102:UInt8),(117:UInt8),(108:UInt8),(108:UInt8),(10:UInt8)]⟩:ByteArray)))≤9223372036854775807) then
       some (Sum.inr (Sum.inl ((v6++(⟨#[(102:UInt8),(117:UInt8),(108:UInt8),(108:UInt8),(10:UInt8)]⟩:ByteArray)),())))
      else
       none
     else
      Option.bind (strings_Cut (List.getD v26 (0+(Int.toNat v28)) ⟨Array.empty⟩) (⟨#[(32:UInt8)]⟩:ByteArray)) fun(r0,r1,r2)=>
       bif (!r2) then
        Option.bind (yb3 ((v5_0,v5_1,v5_2,v5_3),v5_4,v5_5,v5_6,v5_7) r0) fun((r3,r4),((r5,r6,r7,r8),r9,r10,r11,r12),_)=>
         bif (!r4) then
          if(((ByteArray.size (⟨#[(119:UInt8),(104:UInt8),(97:UInt8),(116:UInt8)]⟩:ByteArray))+(ByteArray.size (⟨#[(10:UInt8)]⟩:ByteArray)))≤9223372036854775807) then
           if(((ByteArray.size v6)+(ByteArray.size ((⟨#[(119:UInt8),(104:UInt8),(97:UInt8),(116:UInt8)]⟩:ByteArray)++(⟨#[(10:UInt8)]⟩:ByteArray))))≤9223372036854775807) then
            some (Sum.inl ((r5,r6,r7,r8,r9,r10,r11,r12,()),(v6++((⟨#[(119:UInt8),(104:UInt8),(97:UInt8),(116:UInt8)]⟩:ByteArray)++(⟨#[(10:UInt8)]⟩:ByteArray))),(List.take (List.length v26) (List.drop 0 v26)),v27,(IntKind.wrap .i64 (v28+1)),()))
           else
            none
          else
           none
         else
          if(((ByteArray.size r3)+(ByteArray.size (⟨#[(10:UInt8)]⟩:ByteArray)))≤9223372036854775807) then
           if(((ByteArray.size v6)+(ByteArray.size (r3++(⟨#[(10:UInt8)]⟩:ByteArray))))≤9223372036854775807) then
            some (Sum.inl ((r5,r6,r7,r8,r9,r10,r11,r12,()),(v6++(r3++(⟨#[(10:UInt8)]⟩:ByteArray))),(List.take (List.length v26) (List.drop 0 v26)),v27,(IntKind.wrap .i64 (v28+1)),()))
           else
            none
          else
           none
       else
        Option.bind (yn3 ((v5_0,v5_1,v5_2,v5_3),v5_4,v5_5,v5_6,v5_7) r0 r1) fun((r13,r14),((r15,r16,r17,r18),r19,r20,r21,r22),_)=>
         bif (!r14) then
          none
         else
          bif (!r14) then
           if(((ByteArray.size (⟨#[(119:UInt8),(104:UInt8),(97:UInt8),(116:UInt8)]⟩:ByteArray))+(ByteArray.size (⟨#[(10:UInt8)]⟩:ByteArray)))≤9223372036854775807) then
            if(((ByteArray.size v6)+(ByteArray.size ((⟨#[(119:UInt8),(104:UInt8),(97:UInt8),(116:UInt8)]⟩:ByteArray)++(⟨#[(10:UInt8)]⟩:ByteArray))))≤9223372036854775807) then
             some (Sum.inl ((r15,r16,r17,r18,r19,r20,r21,r22,()),(v6++((⟨#[(119:UInt8),(104:UInt8),(97:UInt8),(116:UInt8)]⟩:ByteArray)++(⟨#[(10:UInt8)]⟩:ByteArray))),(List.take (List.length v26) (List.drop 0 v26)),v27,(IntKind.wrap .i64 (v28+1)),()))
            else
             none
           else
            none
          else
           if(((ByteArray.size r13)+(ByteArray.size (⟨#[(10:UInt8)]⟩:ByteArray)))≤9223372036854775807) then
            if(((ByteArray.size v6)+(ByteArray.size (r13++(⟨#[(10:UInt8)]⟩:ByteArray))))≤9223372036854775807) then
             some (Sum.inl ((r15,r16,r17,r18,r19,r20,r21,r22,()),(v6++(r13++(⟨#[(10:UInt8)]⟩:ByteArray))),(List.take (List.length v26) (List.drop 0 v26)),v27,(IntKind.wrap .i64 (v28+1)),()))
            else
             none
           else
            none
  else
   none
 else
  some (Sum.inr (Sum.inr (v6,())))
theorem k1k{L}(h:L 7=some ⟨82,sh17_7,xs17_7,yg9⟩):yb7 prog L (ya9 f17 7):=lo (L':=L0) (by kernel_rfl) E17_ok ya0 h
def L17_1:Nat→Option LoopD:=fun n=>ifEq n 7 (some ⟨82,sh17_7,xs17_7,yg9⟩) (L0 n)
def yy0:ByteArray→Option (ByteArray):=fun a0=>
 bif (decide ((((ByteArray.size a0):Nat):Int)>20000)) then
  some (⟨#[(108:UInt8),(111:UInt8),(110:UInt8),(103:UInt8),(10:UInt8)]⟩:ByteArray)
 else
  Option.bind (yi3 (⟨#[(49:UInt8),(59:UInt8),(48:UInt8),(59:UInt8),(48:UInt8),(59:UInt8)]⟩:ByteArray)) fun((r0,r1,r2,r3),r4)=>
   Option.bind (strings_Split a0 (⟨#[(10:UInt8)]⟩:ByteArray)) fun r5=>
    Option.bind (ya2 yg9 ((r0,(List.take (List.length r1) (List.drop 0 r1)),(List.take (List.length r2) (List.drop 0 r2)),(List.take (List.length r3) (List.drop 0 r3)),r0,(List.take (List.length r1) (List.drop 0 r1)),(List.take (List.length r2) (List.drop 0 r2)),(List.take (List.length r3) (List.drop 0 r3)),()),(⟨#[]⟩:ByteArray),(List.take (List.length r5) (List.drop 0 r5)),(((List.length r5):Nat):Int),0,())) fun r6=>
     (match r6 with
     |.inl (d7,_)=>
       some d7
     |.inr (d8,_)=>
       some d8)
def A17:FnA:=⟨[.v .str],true,[.str],fun x=>yy0 x.1⟩
theorem A17_ok:FnOk prog 17 A17:=fo (L:=L17_1) (by kernel_rfl) func17 E17_ok (ya8 (k1k rfl) ya0)
def E3:Env:=ev fun g=>ifEq g 4 (some A4) (ifEq g 5 (some A5) (ifEq g 6 (some A6) (ifEq g 7 (some A7) (ifEq g 8 (some A8) (ifEq g 9 (some A9) (ifEq g 10 (some A10) (ifEq g 11 (some A11) (ifEq g 12 (some A12) (ifEq g 13 (some A13) (ifEq g 14 (some A14) (ifEq g 15 (some A15) (ifEq g 16 (some A16) (ifEq g 17 (some A17) (none))))))))))))))
theorem E3_ok:FnsOk prog E3:=(oF A4_ok func4 (oF A5_ok func5 (oF A6_ok func6 (oF A7_ok func7 (oF A8_ok func8 (oF A9_ok func9 (oF zo8 func10 (oF A11_ok func11 (oF A12_ok func12 (oF z8c func13 (oF A14_ok func14 (oF A15_ok func15 (oF A16_ok func16 (oF A17_ok func17 (yc7 _ _)))))))))))))))
def sh3_13:List Fm:=d::d::d::.box 100300 [.val i6,.val sI,.val sI,.val sS]::.cell (.val .str)::.cell (.val .bool)::.cell (.val .bool)::.cell (.val .str)::.cell (.val .bool)::.cell (.val i6)::d::.cell (.val .bool)::.cell (.val .str)::D 42 (.cell (.own kE 105500 false)::.cell (.val i6)::.cell (.val i6)::D 50 [])
def xs3_13:List (Ex×List Fm):=[(.exit 0,[d,d,d,.box 100300 [.val i6,.val sI,.val sI,.val sS],.cell (.val .str),.cell (.val .bool),.cell (.val .bool),.cell (.val .str),.cell (.val .bool),.cell (.val i6),d,.cell (.val .bool),.cell (.val .str),d,d,d,d,d,d,d,d,d,d,d,d,d,d,d,d,d,d,d,d,d,d,d,d,d,d,d,d,d,d,d,d,d,d,d,d,d,d,d,d,d,d,d,d,d,d,d,d,d,d,d,d,d,d,d,d,d,d,d,d,d,d,d,d,d,d,d,d,d,d,d,d,d,d,d,d,d,d,d,d,d,d,d,d,d,d,d,d,d,d,d,d,d,d,d])]
def ye9:((Int×LI×LI×LS×Unit)×ByteArray×Bool×Bool×ByteArray×Bool×Int×Bool×ByteArray×LE×Int×Int×Unit)→Option (((Int×LI×LI×LS×Unit)×ByteArray×Bool×Bool×ByteArray×Bool×Int×Bool×ByteArray×LE×Int×Int×Unit)⊕(((Int×LI×LI×LS×Unit)×ByteArray×Bool×Bool×ByteArray×Bool×Int×Bool×ByteArray×Unit))):=fun((v3_0,v3_1,v3_2,v3_3,_),v4,v5,v6,v7,v8,v9,v11,v12,v55,v56,v57,_)=>
 bif (decide (v57<v56)) then
  if(((0:Int)≤v57)∧(v57<(((List.length v55):Nat):Int))) then
   Option.bind (yp5 (((List.getD v55 (0+(Int.toNat v57)) (((0:Int),[]),⟨Array.empty⟩)).1.1,(List.getD v55 (0+(Int.toNat v57)) (((0:Int),[]),⟨Array.empty⟩)).1.2),(List.getD v55 (0+(Int.toNat v57)) (((0:Int),[]),⟨Array.empty⟩)).2)) fun r0=>
    if(((ByteArray.size v12)+(ByteArray.size r0))≤9223372036854775807) then
     if(((ByteArray.size (v12++r0))+(ByteArray.size (⟨#[(10:UInt8)]⟩:ByteArray)))≤9223372036854775807) then
      some (Sum.inl ((v3_0,v3_1,v3_2,v3_3,()),v4,v5,v6,v7,v8,v9,v11,((v12++r0)++(⟨#[(10:UInt8)]⟩:ByteArray)),(List.take (List.length v55) (List.drop 0 v55)),v56,(IntKind.wrap .i64 (v57+1)),()))
     else
      none
    else
     none
  else
   none
 else
  some (Sum.inr ((v3_0,v3_1,v3_2,v3_3,()),v4,v5,v6,v7,v8,v9,v11,v12,()))
theorem k1l{L}(h:L 13=some ⟨108,sh3_13,xs3_13,ye9⟩):yb7 prog L (ya9 f3 13):=lo (L':=L0) (by kernel_rfl) E3_ok ya0 h
def L3_1:Nat→Option LoopD:=fun n=>ifEq n 13 (some ⟨108,sh3_13,xs3_13,ye9⟩) (L0 n)
def ym4:LI→Option (Bool):=fun a0=>
 bif (decide ((((List.length a0):Nat):Int)>1048576)) then
  some true
 else
  Option.bind (yt6 a0) fun(r0,r1,r2,r3)=>
   Option.bind (yh6 (r0,r1,r2,r3)) fun r4=>
    Option.bind (yj0 (r0,r1,r2,r3)) fun r5=>
     bif (!((ByteArray.toList r4)==(ByteArray.toList r5))) then
      Option.bind (yj0 (r0,r1,r2,r3)) fun r6=>
       some ((ByteArray.toList r4)==(ByteArray.toList r6))
     else
      bif ((ByteArray.toList r4)==(ByteArray.toList (⟨#[]⟩:ByteArray))) then
       Option.bind (yj0 (r0,r1,r2,r3)) fun r7=>
        some ((ByteArray.toList r4)==(ByteArray.toList r7))
      else
       Option.bind (yn2 (r0,r1,r2,r3)) fun(r8,r9)=>
        Option.bind (yk4 (r0,r1,r2,r3)) fun(r10,r11)=>
         Option.bind (yv6 (r0,r1,r2,r3)) fun r12=>
          Option.bind (ya6 (r0,r1,r2,r3)) fun(r13,r14)=>
           Option.bind (ya2 ye9 ((r0,r1,r2,r3,()),r4,r8,r9,r10,r11,r12,r14,(⟨#[]⟩:ByteArray),(List.take (List.length r13) (List.drop 0 r13)),(((List.length r13):Nat):Int),0,())) fun((r15,r16,r17,r18,_),r19,r20,r21,r22,r23,r24,r25,r26,_)=>
            bif (!r25) then
             Option.bind (ye5 (r15,r16,r17,r18)) fun(r27,r28)=>
              Option.bind (yc8 (r15,r16,r17,r18)) fun r29=>
               if(((ByteArray.size (⟨#[(97:UInt8),(117:UInt8),(116:UInt8),(111:UInt8),(109:UInt8),(97:UInt8),(116:UInt8),(111:UInt8),(110:UInt8),(32:UInt8)]⟩:ByteArray))+(ByteArray.size r29))≤9223372036854775807) then
                if(((ByteArray.size ((⟨#[(97:UInt8),(117:UInt8),(116:UInt8),(111:UInt8),(109:UInt8),(97:UInt8),(116:UInt8),(111:UInt8),(110:UInt8),(32:UInt8)]⟩:ByteArray)++r29))+(ByteArray.size (⟨#[(10:UInt8),(118:UInt8),(101:UInt8),(114:UInt8),(100:UInt8),(105:UInt8),(99:UInt8),(116:UInt8),(10:UInt8),(98:UInt8),(111:UInt8),(117:UInt8),(110:UInt8),(100:UInt8),(101:UInt8),(100:UInt8),(10:UInt8),(103:UInt8),(114:UInt8),(111:UInt8),(119:UInt8),(105:UInt8),(110:UInt8),(103:UInt8),(10:UInt8),(115:UInt8),(111:UInt8),(109:UInt8),(101:UInt8),(10:UInt8),(102:UInt8),(105:UInt8),(110:UInt8),(105:UInt8),(116:UInt8),(101:UInt8),(10:UInt8),(101:UInt8),(108:UInt8),(101:UInt8),(109:UInt8),(101:UInt8),(110:UInt8),(116:UInt8),(115:UInt8),(10:UInt8)]⟩:ByteArray)))≤9223372036854775807) then
                 Option.bind (yc8 (r15,r16,r17,r18)) fun r30=>
                  if(((ByteArray.size r30)+(ByteArray.size (⟨#[(10:UInt8)]⟩:ByteArray)))≤9223372036854775807) then
                   if(((ByteArray.size (r30++(⟨#[(10:UInt8)]⟩:ByteArray)))+(ByteArray.size r19))≤9223372036854775807) then
                    if(((ByteArray.size ((r30++(⟨#[(10:UInt8)]⟩:ByteArray))++r19))+(ByteArray.size (⟨#[(10:UInt8)]⟩:ByteArray)))≤9223372036854775807) then
                     Option.bind (yz2 r20 r21) fun r31=>
                      if(((ByteArray.size (((r30++(⟨#[(10:UInt8)]⟩:ByteArray))++r19)++(⟨#[(10:UInt8)]⟩:ByteArray)))+(ByteArray.size r31))≤9223372036854775807) then
                       Option.bind (ys3 r22 r23) fun r32=>
                        if(((ByteArray.size ((((r30++(⟨#[(10:UInt8)]⟩:ByteArray))++r19)++(⟨#[(10:UInt8)]⟩:ByteArray))++r31))+(ByteArray.size r32))≤9223372036854775807) then
                         Option.bind (y1k r24) fun r33=>
                          Option.bind (ys3 r33 (decide (r24≥0))) fun r34=>
                           if(((ByteArray.size (((((r30++(⟨#[(10:UInt8)]⟩:ByteArray))++r19)++(⟨#[(10:UInt8)]⟩:ByteArray))++r31)++r32))+(ByteArray.size r34))≤9223372036854775807) then
                            Option.bind (yz2 r27 r28) fun r35=>
                             if(((ByteArray.size ((((((r30++(⟨#[(10:UInt8)]⟩:ByteArray))++r19)++(⟨#[(10:UInt8)]⟩:ByteArray))++r31)++r32)++r34))+(ByteArray.size r35))≤9223372036854775807) then
                              if(((ByteArray.size (((((((r30++(⟨#[(10:UInt8)]⟩:ByteArray))++r19)++(⟨#[(10:UInt8)]⟩:ByteArray))++r31)++r32)++r34)++r35))+(ByteArray.size (⟨#[(110:UInt8),(111:UInt8),(10:UInt8)]⟩:ByteArray)))≤9223372036854775807) then
                               Option.bind (yy0 (((⟨#[(97:UInt8),(117:UInt8),(116:UInt8),(111:UInt8),(109:UInt8),(97:UInt8),(116:UInt8),(111:UInt8),(110:UInt8),(32:UInt8)]⟩:ByteArray)++r29)++(⟨#[(10:UInt8),(118:UInt8),(101:UInt8),(114:UInt8),(100:UInt8),(105:UInt8),(99:UInt8),(116:UInt8),(10:UInt8),(98:UInt8),(111:UInt8),(117:UInt8),(110:UInt8),(100:UInt8),(101:UInt8),(100:UInt8),(10:UInt8),(103:UInt8),(114:UInt8),(111:UInt8),(119:UInt8),(105:UInt8),(110:UInt8),(103:UInt8),(10:UInt8),(115:UInt8),(111:UInt8),(109:UInt8),(101:UInt8),(10:UInt8),(102:UInt8),(105:UInt8),(110:UInt8),(105:UInt8),(116:UInt8),(101:UInt8),(10:UInt8),(101:UInt8),(108:UInt8),(101:UInt8),(109:UInt8),(101:UInt8),(110:UInt8),(116:UInt8),(115:UInt8),(10:UInt8)]⟩:ByteArray))) fun r36=>
                                some ((ByteArray.toList r36)==(ByteArray.toList ((((((((r30++(⟨#[(10:UInt8)]⟩:ByteArray))++r19)++(⟨#[(10:UInt8)]⟩:ByteArray))++r31)++r32)++r34)++r35)++(⟨#[(110:UInt8),(111:UInt8),(10:UInt8)]⟩:ByteArray))))
                              else
                               none
                             else
                              none
                           else
                            none
                        else
                         none
                      else
                       none
                    else
                     none
                   else
                    none
                  else
                   none
                else
                 none
               else
                none
            else
             Option.bind (ye5 (r15,r16,r17,r18)) fun(r37,r38)=>
              Option.bind (yc8 (r15,r16,r17,r18)) fun r39=>
               if(((ByteArray.size (⟨#[(97:UInt8),(117:UInt8),(116:UInt8),(111:UInt8),(109:UInt8),(97:UInt8),(116:UInt8),(111:UInt8),(110:UInt8),(32:UInt8)]⟩:ByteArray))+(ByteArray.size r39))≤9223372036854775807) then
                if(((ByteArray.size ((⟨#[(97:UInt8),(117:UInt8),(116:UInt8),(111:UInt8),(109:UInt8),(97:UInt8),(116:UInt8),(111:UInt8),(110:UInt8),(32:UInt8)]⟩:ByteArray)++r39))+(ByteArray.size (⟨#[(10:UInt8),(118:UInt8),(101:UInt8),(114:UInt8),(100:UInt8),(105:UInt8),(99:UInt8),(116:UInt8),(10:UInt8),(98:UInt8),(111:UInt8),(117:UInt8),(110:UInt8),(100:UInt8),(101:UInt8),(100:UInt8),(10:UInt8),(103:UInt8),(114:UInt8),(111:UInt8),(119:UInt8),(105:UInt8),(110:UInt8),(103:UInt8),(10:UInt8),(115:UInt8),(111:UInt8),(109:UInt8),(101:UInt8),(10:UInt8),(102:UInt8),(105:UInt8),(110:UInt8),(105:UInt8),(116:UInt8),(101:UInt8),(10:UInt8),(101:UInt8),(108:UInt8),(101:UInt8),(109:UInt8),(101:UInt8),(110:UInt8),(116:UInt8),(115:UInt8),(10:UInt8)]⟩:ByteArray)))≤9223372036854775807) then
                 Option.bind (yc8 (r15,r16,r17,r18)) fun r40=>
                  if(((ByteArray.size r40)+(ByteArray.size (⟨#[(10:UInt8)]⟩:ByteArray)))≤9223372036854775807) then
                   if(((ByteArray.size (r40++(⟨#[(10:UInt8)]⟩:ByteArray)))+(ByteArray.size r19))≤9223372036854775807) then
                    if(((ByteArray.size ((r40++(⟨#[(10:UInt8)]⟩:ByteArray))++r19))+(ByteArray.size (⟨#[(10:UInt8)]⟩:ByteArray)))≤9223372036854775807) then
                     Option.bind (yz2 r20 r21) fun r41=>
                      if(((ByteArray.size (((r40++(⟨#[(10:UInt8)]⟩:ByteArray))++r19)++(⟨#[(10:UInt8)]⟩:ByteArray)))+(ByteArray.size r41))≤9223372036854775807) then
                       Option.bind (ys3 r22 r23) fun r42=>
                        if(((ByteArray.size ((((r40++(⟨#[(10:UInt8)]⟩:ByteArray))++r19)++(⟨#[(10:UInt8)]⟩:ByteArray))++r41))+(ByteArray.size r42))≤9223372036854775807) then
                         Option.bind (y1k r24) fun r43=>
                          Option.bind (ys3 r43 (decide (r24≥0))) fun r44=>
                           if(((ByteArray.size (((((r40++(⟨#[(10:UInt8)]⟩:ByteArray))++r19)++(⟨#[(10:UInt8)]⟩:ByteArray))++r41)++r42))+(ByteArray.size r44))≤9223372036854775807) then
                            Option.bind (yz2 r37 r38) fun r45=>
                             if(((ByteArray.size ((((((r40++(⟨#[(10:UInt8)]⟩:ByteArray))++r19)++(⟨#[(10:UInt8)]⟩:ByteArray))++r41)++r42)++r44))+(ByteArray.size r45))≤9223372036854775807) then
                              if(((ByteArray.size (((((((r40++(⟨#[(10:UInt8)]⟩:ByteArray))++r19)++(⟨#[(10:UInt8)]⟩:ByteArray))++r41)++r42)++r44)++r45))+(ByteArray.size r26))≤9223372036854775807) then
                               Option.bind (yy0 (((⟨#[(97:UInt8),(117:UInt8),(116:UInt8),(111:UInt8),(109:UInt8),(97:UInt8),(116:UInt8),(111:UInt8),(110:UInt8),(32:UInt8)]⟩:ByteArray)++r39)++(⟨#[(10:UInt8),(118:UInt8),(101:UInt8),(114:UInt8),(100:UInt8),(105:UInt8),(99:UInt8),(116:UInt8),(10:UInt8),(98:UInt8),(111:UInt8),(117:UInt8),(110:UInt8),(100:UInt8),(101:UInt8),(100:UInt8),(10:UInt8),(103:UInt8),(114:UInt8),(111:UInt8),(119:UInt8),(105:UInt8),(110:UInt8),(103:UInt8),(10:UInt8),(115:UInt8),(111:UInt8),(109:UInt8),(101:UInt8),(10:UInt8),(102:UInt8),(105:UInt8),(110:UInt8),(105:UInt8),(116:UInt8),(101:UInt8),(10:UInt8),(101:UInt8),(108:UInt8),(101:UInt8),(109:UInt8),(101:UInt8),(110:UInt8),(116:UInt8),(115:UInt8),(10:UInt8)]⟩:ByteArray))) fun r46=>
                                some ((ByteArray.toList r46)==(ByteArray.toList ((((((((r40++(⟨#[(10:UInt8)]⟩:ByteArray))++r19)++(⟨#[(10:UInt8)]⟩:ByteArray))++r41)++r42)++r44)++r45)++r26)))
                              else
                               none
                             else
                              none
                           else
                            none
                        else
                         none
                      else
                       none
                    else
                     none
                   else
                    none
                  else
                   none
                else
                 none
               else
                none
def A3:FnA:=⟨[.v (.sl (.int .u8))],true,[.bool],fun x=>ym4 x.1⟩
theorem A3_ok:FnOk prog 3 A3:=fo (L:=L3_1) (by kernel_rfl) func3 E3_ok (ya8 (k1l rfl) ya0)
end
end Go.Proofs.YtafognnoibjjeaaGreatDoor
