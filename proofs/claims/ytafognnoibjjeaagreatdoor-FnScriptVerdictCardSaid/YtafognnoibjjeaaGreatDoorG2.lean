/- What Go functions that the laws reach compute, and that they do: written by a program of this session. -/
import Derived.Test.YtafognnoibjjeaaGreatDoorG1
import Derived.KernelRfl
set_option linter.unusedVariables false
namespace Go.Proofs.YtafognnoibjjeaaGreatDoor
open Go Go.Proofs.YtafognnoibjjeaaGreatDoor.Am Go.Proofs.Tryz
set_option maxRecDepth 100000
noncomputable section
def ze5:Env:=ev fun g=>ifEq g 22 (some A22) (ifEq g 71 (some A71) (ifEq g 75 (some A75) (ifEq g 76 (some A76) (ifEq g 36 (some A36) (ifEq g 38 (some A38) (none))))))
theorem y6c:FnsOk prog ze5:=(oF y2y func22 (oF zo0 func71 (oF zo1 func75 (oF zo2 func76 (oF ze4 func36 (oF y9b func38 (yc7 _ _)))))))
def y7w:List Fm:=.box 100000 [.own kE 100001 false,.val .bool]::.agg [.val i6,.own i6 100102 false]::.cell (.val .str)::D 36 (.fnv 35 []::.box 104000 [.val i6,.val sI,.val sI,.val sS]::d::d::d::.ali 100000 0::D 10 (.cell (.own .str 105500 false)::.cell (.val i6)::.cell (.val i6)::D 50 []))
def y7x:List Fm:=d::.fnv 35 []::.box 100200 [.val i6,.val sI,.val sI,.val sS]::d::d::d::.box 100600 [.own kE 100601 false,.val .bool]::D 10 (.cell (.own .str 101700 false)::.cell (.val i6)::.cell (.val i6)::D 50 [])
def yi4:((LE×Bool×Unit)×(Int×LI×Unit)×ByteArray×(Int×LI×LI×LS×Unit)×(List ByteArray)×Int×Int×Unit)→Option ((Int×LI×LI×LS×Unit)×(LE×Bool×Unit)×(List ByteArray)×Int×Int×Unit):=fun((v0_0,v0_1,_),(v1_0,v1_1,_),v2,(v40_0,v40_1,v40_2,v40_3,_),v55,v56,v57,_)=>
 Option.bind (yc5 (List.take (List.length v0_0) (List.drop 0 v0_0)) (fun y0=>(yj2 y0.1 (v1_0,(List.take (List.length v1_1) (List.drop 0 v1_1)))))) fun r1=>
  bif r1 then
   some ((v40_0,v40_1,v40_2,v40_3,()),((List.take (List.length v0_0) (List.drop 0 v0_0)),v0_1,()),(List.take (List.length v55) (List.drop 0 v55)),v56,v57,())
  else
   bif (decide ((((List.length v0_0):Nat):Int)≥120)) then
    some ((v40_0,v40_1,v40_2,v40_3,()),((List.take (List.length v0_0) (List.drop 0 v0_0)),false,()),(List.take (List.length v55) (List.drop 0 v55)),v56,v57,())
   else
    bif (decide ((((ByteArray.size v2):Nat):Int)>120)) then
     some ((v40_0,v40_1,v40_2,v40_3,()),((List.take (List.length v0_0) (List.drop 0 v0_0)),false,()),(List.take (List.length v55) (List.drop 0 v55)),v56,v57,())
    else
     if(((0+(List.length v0_0))=(List.length v0_0))∧((((List.length v0_0)+(List.length (List.take 1 (List.drop 0 [((v1_0,(List.take (List.length v1_1) (List.drop 0 v1_1))),v2)]))))*48)≤140737488355328)) then
      some ((v40_0,v40_1,v40_2,v40_3,()),((List.take ((List.length v0_0)+(List.length (List.take 1 (List.drop 0 [((v1_0,(List.take (List.length v1_1) (List.drop 0 v1_1))),v2)])))) (List.drop 0 ((List.drop 0 v0_0)++(List.take 1 (List.drop 0 [((v1_0,(List.take (List.length v1_1) (List.drop 0 v1_1))),v2)]))))),v0_1,()),(List.take (List.length v55) (List.drop 0 v55)),v56,v57,())
     else
      none
theorem y20:y1q f37.ntmps 62 32 ze5 L0 f37.results.toList (yc9 f37) y7w y7x=yi4:=by kernel_rfl
def ze6:CallD:=⟨f37.ntmps,y7w,62,y7x,yi4,0⟩
theorem zo3:y5u prog 32 37 ze6:=y0a (yb9 yg1) y6c (L:=L0) func37 (by kernel_rfl) (c:=yc9 f37) (by kernel_rfl) (yf0 (L:=L0) (yb9 yg1) y6c mixed (c:=yc9 f37) (bs:=[]) (by kernel_rfl) ya0 (by kernel_rfl)) (by kernel_rfl) (by kernel_rfl) y20
def y4f:Env:=ev fun g=>ifEq g 22 (some A22) (ifEq g 71 (some A71) (ifEq g 75 (some A75) (ifEq g 76 (some A76) (ifEq g 36 (some A36) (ifEq g 38 (some A38) (none))))))
theorem y12:FnsOk prog y4f:=(oF y2y func22 (oF zo0 func71 (oF zo1 func75 (oF zo2 func76 (oF ze4 func36 (oF y9b func38 (yc7 _ _)))))))
def y21:List Fm:=.box 100000 [.own kE 100001 false,.val .bool]::.agg [.val i6,.own i6 100102 false]::.cell (.val .str)::D 35 (.ali 100000 0::.cell (.val i6)::d::d::.box 104200 [.val i6,.val sI,.val .str]::D 78 (.fnv 35 []::D 4 (.ali 100000 0::D 4 (.cell (.val i6)::D 58 []))))
def y22:List Fm:=.box 100000 [.own kE 100001 false,.val .bool]::.cell (.val i6)::d::d::.box 100400 [.val i6,.val sI,.val .str]::D 78 (.fnv 35 []::D 4 (.ali 100000 0::D 4 (.cell (.val i6)::D 58 [])))
def yd3:((LE×Bool×Unit)×(Int×LI×Unit)×ByteArray×Int×(Int×LI×ByteArray×Unit)×Int×Unit)→Option ((LE×Bool×Unit)×Int×(Int×LI×ByteArray×Unit)×Int×Unit):=fun((v0_0,v0_1,_),(v1_0,v1_1,_),v2,v39,(v42_0,v42_1,v42_2,_),v131,_)=>
 Option.bind (yc5 (List.take (List.length v0_0) (List.drop 0 v0_0)) (fun y0=>(yj2 y0.1 (v1_0,(List.take (List.length v1_1) (List.drop 0 v1_1)))))) fun r1=>
  bif r1 then
   some (((List.take (List.length v0_0) (List.drop 0 v0_0)),v0_1,()),v39,(v42_0,v42_1,v42_2,()),v131,())
  else
   bif (decide ((((List.length v0_0):Nat):Int)≥120)) then
    some (((List.take (List.length v0_0) (List.drop 0 v0_0)),false,()),v39,(v42_0,v42_1,v42_2,()),v131,())
   else
    bif (decide ((((ByteArray.size v2):Nat):Int)>120)) then
     some (((List.take (List.length v0_0) (List.drop 0 v0_0)),false,()),v39,(v42_0,v42_1,v42_2,()),v131,())
    else
     if(((0+(List.length v0_0))=(List.length v0_0))∧((((List.length v0_0)+(List.length (List.take 1 (List.drop 0 [((v1_0,(List.take (List.length v1_1) (List.drop 0 v1_1))),v2)]))))*48)≤140737488355328)) then
      some (((List.take ((List.length v0_0)+(List.length (List.take 1 (List.drop 0 [((v1_0,(List.take (List.length v1_1) (List.drop 0 v1_1))),v2)])))) (List.drop 0 ((List.drop 0 v0_0)++(List.take 1 (List.drop 0 [((v1_0,(List.take (List.length v1_1) (List.drop 0 v1_1))),v2)]))))),v0_1,()),v39,(v42_0,v42_1,v42_2,()),v131,())
     else
      none
theorem y0o:y1q f37.ntmps 82 31 y4f L0 f37.results.toList (yc9 f37) y21 y22=yd3:=by kernel_rfl
def y4g:CallD:=⟨f37.ntmps,y21,82,y22,yd3,0⟩
theorem y7o:y5u prog 31 37 y4g:=y0a (yb9 yg1) y12 (L:=L0) func37 (by kernel_rfl) (c:=yc9 f37) (by kernel_rfl) (yf0 (L:=L0) (yb9 yg1) y12 mixed (c:=yc9 f37) (bs:=[]) (by kernel_rfl) ya0 (by kernel_rfl)) (by kernel_rfl) (by kernel_rfl) y0o
def y4h:Env:=ev fun g=>ifEq g 22 (some A22) (ifEq g 71 (some A71) (ifEq g 75 (some A75) (ifEq g 76 (some A76) (ifEq g 36 (some A36) (ifEq g 38 (some A38) (none))))))
theorem y13:FnsOk prog y4h:=(oF y2y func22 (oF zo0 func71 (oF zo1 func75 (oF zo2 func76 (oF ze4 func36 (oF y9b func38 (yc7 _ _)))))))
def y23:List Fm:=.box 100000 [.own kE 100001 false,.val .bool]::.cell (.val kM)::.cell (.val .str)::D 35 (.ali 100000 0::.cell (.val i6)::d::d::.box 104200 [.val i6,.val sI,.val .str]::d::d::.cell (.val i6)::.box 104600 [.val i6,.val sI,.val .str]::.box 104700 [.val i6,.val sI]::D 73 (.fnv 35 []::D 4 (.ali 100000 0::D 4 (.cell (.val i6)::D 58 []))))
def y24:List Fm:=.box 100000 [.own kE 100001 false,.val .bool]::.cell (.val i6)::d::d::.box 100400 [.val i6,.val sI,.val .str]::d::d::.cell (.val i6)::.box 100800 [.val i6,.val sI,.val .str]::.box 100900 [.val i6,.val sI]::D 73 (.fnv 35 []::D 4 (.ali 100000 0::D 4 (.cell (.val i6)::D 58 [])))
def yd4:((LE×Bool×Unit)×TM×ByteArray×Int×(Int×LI×ByteArray×Unit)×Int×(Int×LI×ByteArray×Unit)×(Int×LI×Unit)×Int×Unit)→Option ((LE×Bool×Unit)×Int×(Int×LI×ByteArray×Unit)×Int×(Int×LI×ByteArray×Unit)×(Int×LI×Unit)×Int×Unit):=fun((v0_0,v0_1,_),(v1_0,v1_1),v2,v39,(v42_0,v42_1,v42_2,_),v45,(v46_0,v46_1,v46_2,_),(v47_0,v47_1,_),v131,_)=>
 Option.bind (yc5 (List.take (List.length v0_0) (List.drop 0 v0_0)) (fun y0=>(yj2 y0.1 (v1_0,v1_1)))) fun r1=>
  bif r1 then
   some (((List.take (List.length v0_0) (List.drop 0 v0_0)),v0_1,()),v39,(v42_0,v42_1,v42_2,()),v45,(v46_0,v46_1,v46_2,()),(v47_0,v47_1,()),v131,())
  else
   bif (decide ((((List.length v0_0):Nat):Int)≥120)) then
    some (((List.take (List.length v0_0) (List.drop 0 v0_0)),false,()),v39,(v42_0,v42_1,v42_2,()),v45,(v46_0,v46_1,v46_2,()),(v47_0,v47_1,()),v131,())
   else
    bif (decide ((((ByteArray.size v2):Nat):Int)>120)) then
     some (((List.take (List.length v0_0) (List.drop 0 v0_0)),false,()),v39,(v42_0,v42_1,v42_2,()),v45,(v46_0,v46_1,v46_2,()),(v47_0,v47_1,()),v131,())
    else
     if(((0+(List.length v0_0))=(List.length v0_0))∧((((List.length v0_0)+(List.length (List.take 1 (List.drop 0 [((v1_0,v1_1),v2)]))))*48)≤140737488355328)) then
      some (((List.take ((List.length v0_0)+(List.length (List.take 1 (List.drop 0 [((v1_0,v1_1),v2)])))) (List.drop 0 ((List.drop 0 v0_0)++(List.take 1 (List.drop 0 [((v1_0,v1_1),v2)]))))),v0_1,()),v39,(v42_0,v42_1,v42_2,()),v45,(v46_0,v46_1,v46_2,()),(v47_0,v47_1,()),v131,())
     else
      none
theorem y0p:y1q f37.ntmps 82 65 y4h L0 f37.results.toList (yc9 f37) y23 y24=yd4:=by kernel_rfl
def y4i:CallD:=⟨f37.ntmps,y23,82,y24,yd4,0⟩
theorem y7p:y5u prog 65 37 y4i:=y0a (yb9 yg1) y13 (L:=L0) func37 (by kernel_rfl) (c:=yc9 f37) (by kernel_rfl) (yf0 (L:=L0) (yb9 yg1) y13 mixed (c:=yc9 f37) (bs:=[]) (by kernel_rfl) ya0 (by kernel_rfl)) (by kernel_rfl) (by kernel_rfl) y0p
def y4j:Env:=ev fun g=>ifEq g 22 (some A22) (ifEq g 71 (some A71) (ifEq g 75 (some A75) (ifEq g 76 (some A76) (ifEq g 36 (some A36) (ifEq g 38 (some A38) (none))))))
theorem y14:FnsOk prog y4j:=(oF y2y func22 (oF zo0 func71 (oF zo1 func75 (oF zo2 func76 (oF ze4 func36 (oF y9b func38 (yc7 _ _)))))))
def y25:List Fm:=.box 100000 [.own kE 100001 false,.val .bool]::.agg [.val i6,.own i6 100102 false]::.cell (.val .str)::D 35 (.ali 100000 0::.cell (.val i6)::d::d::.box 104200 [.val i6,.val sI,.val .str]::d::d::.cell (.val i6)::D 75 (.fnv 35 []::D 4 (.ali 100000 0::D 4 (.cell (.val i6)::D 58 []))))
def y26:List Fm:=.box 100000 [.own kE 100001 false,.val .bool]::.cell (.val i6)::d::d::.box 100400 [.val i6,.val sI,.val .str]::d::d::.cell (.val i6)::D 75 (.fnv 35 []::D 4 (.ali 100000 0::D 4 (.cell (.val i6)::D 58 [])))
def yf5:((LE×Bool×Unit)×(Int×LI×Unit)×ByteArray×Int×(Int×LI×ByteArray×Unit)×Int×Int×Unit)→Option ((LE×Bool×Unit)×Int×(Int×LI×ByteArray×Unit)×Int×Int×Unit):=fun((v0_0,v0_1,_),(v1_0,v1_1,_),v2,v39,(v42_0,v42_1,v42_2,_),v45,v131,_)=>
 Option.bind (yc5 (List.take (List.length v0_0) (List.drop 0 v0_0)) (fun y0=>(yj2 y0.1 (v1_0,(List.take (List.length v1_1) (List.drop 0 v1_1)))))) fun r1=>
  bif r1 then
   some (((List.take (List.length v0_0) (List.drop 0 v0_0)),v0_1,()),v39,(v42_0,v42_1,v42_2,()),v45,v131,())
  else
   bif (decide ((((List.length v0_0):Nat):Int)≥120)) then
    some (((List.take (List.length v0_0) (List.drop 0 v0_0)),false,()),v39,(v42_0,v42_1,v42_2,()),v45,v131,())
   else
    bif (decide ((((ByteArray.size v2):Nat):Int)>120)) then
     some (((List.take (List.length v0_0) (List.drop 0 v0_0)),false,()),v39,(v42_0,v42_1,v42_2,()),v45,v131,())
    else
     if(((0+(List.length v0_0))=(List.length v0_0))∧((((List.length v0_0)+(List.length (List.take 1 (List.drop 0 [((v1_0,(List.take (List.length v1_1) (List.drop 0 v1_1))),v2)]))))*48)≤140737488355328)) then
      some (((List.take ((List.length v0_0)+(List.length (List.take 1 (List.drop 0 [((v1_0,(List.take (List.length v1_1) (List.drop 0 v1_1))),v2)])))) (List.drop 0 ((List.drop 0 v0_0)++(List.take 1 (List.drop 0 [((v1_0,(List.take (List.length v1_1) (List.drop 0 v1_1))),v2)]))))),v0_1,()),v39,(v42_0,v42_1,v42_2,()),v45,v131,())
     else
      none
theorem y0q:y1q f37.ntmps 82 81 y4j L0 f37.results.toList (yc9 f37) y25 y26=yf5:=by kernel_rfl
def y4k:CallD:=⟨f37.ntmps,y25,82,y26,yf5,0⟩
theorem y7q:y5u prog 81 37 y4k:=y0a (yb9 yg1) y14 (L:=L0) func37 (by kernel_rfl) (c:=yc9 f37) (by kernel_rfl) (yf0 (L:=L0) (yb9 yg1) y14 mixed (c:=yc9 f37) (bs:=[]) (by kernel_rfl) ya0 (by kernel_rfl)) (by kernel_rfl) (by kernel_rfl) y0q
def ze7:Env:=⟨ty0,fun g=>ifEq g 22 (some A22) (ifEq g 71 (some A71) (ifEq g 75 (some A75) (ifEq g 76 (some A76) (ifEq g 36 (some A36) (ifEq g 38 (some A38) (none)))))),fun _=>none,fun _=>none,fun d=>ifI (Nat.beq d 31) (some (37,y4g)) (ifI (Nat.beq d 65) (some (37,y4i)) (ifI (Nat.beq d 81) (some (37,y4k)) (none))),fun _=>0⟩
theorem y27:FnsOk prog ze7:=(zg6 (d0:=31) (g0:=37) y7o (zg6 (d0:=65) (g0:=37) y7p (zg6 (d0:=81) (g0:=37) y7q (oF y2y func22 (oF zo0 func71 (oF zo1 func75 (oF zo2 func76 (oF ze4 func36 (oF y9b func38 (yc7 _ _))))))))))
def y6d:List Fm:=.box 100000 [.own kE 100001 false,.val .bool]::.cell (.val i6)::d::d::.box 100400 [.val i6,.val sI,.val .str]::d::d::.cell (.val i6)::D 75 (.fnv 35 []::D 4 (.ali 100000 0::D 4 (.cell (.val i6)::D 58 [])))
def y6e:List (Ex×List Fm):=[(.exit 0,[d,d,d,d,d,d,d,d,d,d,d,d,d,d,d,d,d,d,d,d,d,d,d,d,d,d,d,d,d,d,d,d,d,d,d,d,d,d,d,d,d,d,d,d,d,d,d,d,d,d,d,d,d,d,d,d,d,d,d,d,d,d,d,d,d,d,d,d,d,d,d,d,d,d,d,d,d,d,d,d,d,d,d,.fnv 35 [],d,d,d,d,.box 108800 [.own kE 108801 false,.val .bool],d,d,d,d,.cell (.val i6),d,d,d,d,d,d,d,d,d,d,d,d,d,d,d,d,d,d,d,d,d,d,d,d,d,d,d,d,d,d,d,d,d,d,d,d,d,d,d,d,d,d,d,d,d,d,d,d,d,d,d,d,d,d,d,d,d,d])]
def ya7:((LE×Bool×Unit)×Int×(Int×LI×ByteArray×Unit)×Int×Int×Unit)→Option (((LE×Bool×Unit)×Int×(Int×LI×ByteArray×Unit)×Int×Int×Unit)⊕(((LE×Bool×Unit)×Int×Unit))):=fun((v0_0,v0_1,_),v1,(v4_0,v4_1,v4_2,_),v7,v93,_)=>
 bif (decide (v7≤v1)) then
  bif v0_1 then
   if(((0:Int)≤v7)∧(v7<(((List.length v0_0):Nat):Int))) then
    Option.bind (yk2 (v4_0,v4_1) ((List.getD v0_0 (0+(Int.toNat v7)) (((0:Int),[]),⟨Array.empty⟩)).1.1,(List.getD v0_0 (0+(Int.toNat v7)) (((0:Int),[]),⟨Array.empty⟩)).1.2)) fun((r0,r1),r2)=>
     if(((ByteArray.size v4_2)+(ByteArray.size (List.getD v0_0 (0+(Int.toNat v7)) (((0:Int),[]),⟨Array.empty⟩)).2))≤9223372036854775807) then
      Option.bind (yd4 (((List.take (List.length v0_0) (List.drop 0 v0_0)),v0_1,()),(r0,(List.take (List.length r1) (List.drop 0 r1))),(v4_2++(List.getD v0_0 (0+(Int.toNat v7)) (((0:Int),[]),⟨Array.empty⟩)).2),v1,(v4_0,v4_1,v4_2,()),v7,((List.getD v0_0 (0+(Int.toNat v7)) (((0:Int),[]),⟨Array.empty⟩)).1.1,(List.getD v0_0 (0+(Int.toNat v7)) (((0:Int),[]),⟨Array.empty⟩)).1.2,(List.getD v0_0 (0+(Int.toNat v7)) (((0:Int),[]),⟨Array.empty⟩)).2,()),(r0,(List.take (List.length r1) (List.drop 0 r1)),()),v93,())) fun((r3,r4,_),r5,(r6,r7,r8,_),r9,(r10,r11,r12,_),(r13,r14,_),r15,_)=>
       Option.bind (yk2 (r10,r11) (r6,r7)) fun((r16,r17),r18)=>
        if(((ByteArray.size r12)+(ByteArray.size r8))≤9223372036854775807) then
         Option.bind (yf5 (((List.take (List.length r3) (List.drop 0 r3)),r4,()),(r16,(List.take (List.length r17) (List.drop 0 r17)),()),(r12++r8),r5,(r6,r7,r8,()),r9,r15,())) fun((r19,r20,_),r21,(r22,r23,r24,_),r25,r26,_)=>
          some (Sum.inl (((List.take (List.length r19) (List.drop 0 r19)),r20,()),r21,(r22,r23,r24,()),(IntKind.wrap .i64 (r25+1)),r26,()))
        else
         none
     else
      none
   else
    none
  else
   some (Sum.inr (((List.take (List.length v0_0) (List.drop 0 v0_0)),v0_1,()),v93,()))
 else
  some (Sum.inr (((List.take (List.length v0_0) (List.drop 0 v0_0)),v0_1,()),v93,()))
theorem zb6{L}(h:L 5=some ⟨82,y6d,y6e,ya7⟩):yb7 prog L (ya9 f35 5):=lo (L':=L0) (by kernel_rfl) y27 ya0 h
def y30:Nat→Option LoopD:=fun n=>ifEq n 5 (some ⟨82,y6d,y6e,ya7⟩) (L0 n)
def y7y:List Fm:=.box 100000 [.own kE 100001 false,.val .bool]::.cell (.val i6)::D 81 (.fnv 35 []::D 4 (.ali 100000 0::D 4 (.cell (.val i6)::D 58 [])))
def y7z:List Fm:=d::.fnv 35 []::D 4 (.box 100600 [.own kE 100601 false,.val .bool]::D 4 (.cell (.val i6)::D 58 []))
def yi5:((LE×Bool×Unit)×Int×Int×Unit)→Option ((LE×Bool×Unit)×Int×Unit):=fun((v0_0,v0_1,_),v1,v93,_)=>
 if(((0:Int)≤v1)∧(v1<(((List.length v0_0):Nat):Int))) then
  Option.bind (yx8 ((List.getD v0_0 (0+(Int.toNat v1)) (((0:Int),[]),⟨Array.empty⟩)).1.1,(List.getD v0_0 (0+(Int.toNat v1)) (((0:Int),[]),⟨Array.empty⟩)).1.2)) fun((r0,r1),r2)=>
   bif r2 then
    if(((ByteArray.size (⟨#[(40:UInt8)]⟩:ByteArray))+(ByteArray.size (List.getD v0_0 (0+(Int.toNat v1)) (((0:Int),[]),⟨Array.empty⟩)).2))≤9223372036854775807) then
     if(((ByteArray.size ((⟨#[(40:UInt8)]⟩:ByteArray)++(List.getD v0_0 (0+(Int.toNat v1)) (((0:Int),[]),⟨Array.empty⟩)).2))+(ByteArray.size (⟨#[(41:UInt8),(35:UInt8)]⟩:ByteArray)))≤9223372036854775807) then
      Option.bind (yd3 (((List.take (List.length v0_0) (List.drop 0 v0_0)),v0_1,()),(r0,(List.take (List.length r1) (List.drop 0 r1)),()),(((⟨#[(40:UInt8)]⟩:ByteArray)++(List.getD v0_0 (0+(Int.toNat v1)) (((0:Int),[]),⟨Array.empty⟩)).2)++(⟨#[(41:UInt8),(35:UInt8)]⟩:ByteArray)),v1,((List.getD v0_0 (0+(Int.toNat v1)) (((0:Int),[]),⟨Array.empty⟩)).1.1,(List.getD v0_0 (0+(Int.toNat v1)) (((0:Int),[]),⟨Array.empty⟩)).1.2,(List.getD v0_0 (0+(Int.toNat v1)) (((0:Int),[]),⟨Array.empty⟩)).2,()),v93,())) fun((r3,r4,_),r5,(r6,r7,r8,_),r9,_)=>
       Option.bind (ya2 ya7 (((List.take (List.length r3) (List.drop 0 r3)),r4,()),r5,(r6,r7,r8,()),0,r9,())) fun((r10,r11,_),r12,_)=>
        some (((List.take (List.length r10) (List.drop 0 r10)),r11,()),r12,())
     else
      none
    else
     none
   else
    Option.bind (ya2 ya7 (((List.take (List.length v0_0) (List.drop 0 v0_0)),v0_1,()),v1,((List.getD v0_0 (0+(Int.toNat v1)) (((0:Int),[]),⟨Array.empty⟩)).1.1,(List.getD v0_0 (0+(Int.toNat v1)) (((0:Int),[]),⟨Array.empty⟩)).1.2,(List.getD v0_0 (0+(Int.toNat v1)) (((0:Int),[]),⟨Array.empty⟩)).2,()),0,v93,())) fun((r13,r14,_),r15,_)=>
     some (((List.take (List.length r13) (List.drop 0 r13)),r14,()),r15,())
 else
  none
theorem y28:y1q f35.ntmps 62 52 ze7 y30 f35.results.toList (yc9 f35) y7y y7z=yi5:=by kernel_rfl
def ze8:CallD:=⟨f35.ntmps,y7y,62,y7z,yi5,0⟩
theorem zo4:y5u prog 52 35 ze8:=y0a (yb9 yg1) y27 (L:=y30) func35 (by kernel_rfl) (c:=yc9 f35) (by kernel_rfl) (yf0 (L:=y30) (yb9 yg1) y27 mixed (c:=yc9 f35) (bs:=[ya9 f35 5]) (by kernel_rfl) (ya8 (zb6 rfl) ya0) (by kernel_rfl)) (by kernel_rfl) (by kernel_rfl) y28
def ko0:Env:=⟨ty0,fun g=>ifEq g 22 (some A22) (ifEq g 71 (some A71) (ifEq g 75 (some A75) (ifEq g 76 (some A76) (ifEq g 36 (some A36) (ifEq g 38 (some A38) (none)))))),fun _=>none,fun _=>none,fun d=>ifI (Nat.beq d 32) (some (37,ze6)) (ifI (Nat.beq d 52) (some (35,ze8)) (none)),fun _=>0⟩
theorem y7b:FnsOk prog ko0:=(zg6 (d0:=32) (g0:=37) zo3 (zg6 (d0:=52) (g0:=35) zo4 (oF y2y func22 (oF zo0 func71 (oF zo1 func75 (oF zo2 func76 (oF ze4 func36 (oF y9b func38 (yc7 _ _)))))))))
def zx2:List Fm:=d::.fnv 35 []::.box 100200 [.val i6,.val sI,.val sI,.val sS]::d::d::d::.box 100600 [.own kE 100601 false,.val .bool]::D 10 (.cell (.own .str 101700 false)::.cell (.val i6)::.cell (.val i6)::D 50 [])
def zx3:List (Ex×List Fm):=[(.exit 0,[d,.fnv 35 [],d,d,d,d,.box 100600 [.own kE 100601 false,.val .bool],d,d,d,d,d,d,d,d,d,d,d,d,d,d,d,d,d,d,d,d,d,d,d,d,d,d,d,d,d,d,d,d,d,d,d,d,d,d,d,d,d,d,d,d,d,d,d,d,d,d,d,d,d,d,d,d,d,d,d,d,d,d,d])]
def ye2:((Int×LI×LI×LS×Unit)×(LE×Bool×Unit)×(List ByteArray)×Int×Int×Unit)→Option (((Int×LI×LI×LS×Unit)×(LE×Bool×Unit)×(List ByteArray)×Int×Int×Unit)⊕(((LE×Bool×Unit)×Unit))):=fun((v2_0,v2_1,v2_2,v2_3,_),(v6_0,v6_1,_),v17,v18,v19,_)=>
 bif (decide (v19<v18)) then
  if(((0:Int)≤v19)∧(v19<(((List.length v17):Nat):Int))) then
   Option.bind (y1h (v2_0,v2_1,v2_2,v2_3) (List.getD v17 (0+(Int.toNat v19)) ⟨Array.empty⟩)) fun((r0,r1),r2)=>
    Option.bind (yi4 (((List.take (List.length v6_0) (List.drop 0 v6_0)),v6_1,()),(r0,(List.take (List.length r1) (List.drop 0 r1)),()),(List.getD v17 (0+(Int.toNat v19)) ⟨Array.empty⟩),(v2_0,v2_1,v2_2,v2_3,()),(List.take (List.length v17) (List.drop 0 v17)),v18,v19,())) fun((r3,r4,r5,r6,_),(r7,r8,_),r9,r10,r11,_)=>
     some (Sum.inl ((r3,r4,r5,r6,()),((List.take (List.length r7) (List.drop 0 r7)),r8,()),(List.take (List.length r9) (List.drop 0 r9)),r10,(IntKind.wrap .i64 (r11+1)),()))
  else
   none
 else
  some (Sum.inr (((List.take (List.length v6_0) (List.drop 0 v6_0)),v6_1,()),()))
theorem z3h{L}(h:L 5=some ⟨62,zx2,zx3,ye2⟩):yb7 prog L (ya9 f34 5):=lo (L':=L0) (by kernel_rfl) y7b ya0 h
def z3i:Nat→Option LoopD:=fun n=>ifEq n 5 (some ⟨62,zx2,zx3,ye2⟩) (L0 n)
def zo5:List Fm:=d::.fnv 35 []::D 4 (.box 100600 [.own kE 100601 false,.val .bool]::D 4 (.cell (.val i6)::D 58 []))
def zo6:List (Ex×List Fm):=[(.exit 2,[d,d,d,d,d,d,.box 100600 [.own kE 100601 false,.val .bool],d,d,d,d,d,d,d,d,d,d,d,d,d,d,d,d,d,d,d,d,d,d,d,d,d,d,d,d,d,d,d,d,d,d,d,d,d,d,d,d,d,d,d,d,d,d,d,d,d,d,d,d,d,d,d,d,d,d,d,d,d,d,d])]
def yb6:((LE×Bool×Unit)×Int×Unit)→Option (((LE×Bool×Unit)×Int×Unit)⊕(((LE×Bool×Unit)×Unit))):=fun((v6_0,v6_1,_),v11,_)=>
 bif (decide (v11<(((List.length v6_0):Nat):Int))) then
  bif v6_1 then
   Option.bind (yi5 (((List.take (List.length v6_0) (List.drop 0 v6_0)),v6_1,()),v11,v11,())) fun((r0,r1,_),r2,_)=>
    some (Sum.inl (((List.take (List.length r0) (List.drop 0 r0)),r1,()),(IntKind.wrap .i64 (r2+1)),()))
  else
   some (Sum.inr (((List.take (List.length v6_0) (List.drop 0 v6_0)),v6_1,()),()))
 else
  some (Sum.inr (((List.take (List.length v6_0) (List.drop 0 v6_0)),v6_1,()),()))
theorem z02{L}(h:L 11=some ⟨62,zo5,zo6,yb6⟩):yb7 prog L (ya9 f34 11):=lo (L':=z3i) (by kernel_rfl) y7b ya0 h
def zo7:Nat→Option LoopD:=fun n=>ifEq n 11 (some ⟨62,zo5,zo6,yb6⟩) (z3i n)
def z3j:List Fm:=.cell (.val kA)::.fnv 35 []::D 68 []
def z3k:List Fm:=D 5 (.tup [.own kE 100501 false,.val .bool]::d::d::[])
def yj7:(TA×Unit)→Option ((LE×Bool×Unit)×Unit):=fun((v0_0,v0_1,v0_2,v0_3),_)=>
 Option.bind (yc6 (v0_0,v0_1,v0_2,v0_3)) fun r0=>
  bif (!r0) then
   some (([],false,()),())
  else
   Option.bind (ya2 ye2 ((v0_0,v0_1,v0_2,v0_3,()),([],true,()),(List.take 2 (List.drop 0 [(⟨#[(97:UInt8)]⟩:ByteArray),(⟨#[(98:UInt8)]⟩:ByteArray)])),((2:Nat):Int),0,())) fun((r1,r2,_),_)=>
    Option.bind (ya2 yb6 (((List.take (List.length r1) (List.drop 0 r1)),r2,()),0,())) fun((r3,r4,_),_)=>
     bif (!r4) then
      some (([],false,()),())
     else
      some (((List.take (List.length r3) (List.drop 0 r3)),true,()),())
theorem y5x:y1q f34.ntmps 8 5 ko0 zo7 f34.results.toList (yc9 f34) z3j z3k=yj7:=by kernel_rfl
def ko1:CallD:=⟨f34.ntmps,z3j,8,z3k,yj7,0⟩
theorem z9q:y5u prog 5 34 ko1:=y0a (yb9 yg1) y7b (L:=zo7) func34 (by kernel_rfl) (c:=yc9 f34) (by kernel_rfl) (yf0 (L:=zo7) (yb9 yg1) y7b mixed (c:=yc9 f34) (bs:=[ya9 f34 5,ya9 f34 11]) (by kernel_rfl) (ya8 (z3h rfl) (ya8 (z02 rfl) ya0)) (by kernel_rfl)) (by kernel_rfl) (by kernel_rfl) y5x
def E10:Env:=⟨ty0,fun g=>ifEq g 22 (some A22) (ifEq g 71 (some A71) (ifEq g 75 (some A75) (ifEq g 76 (some A76) (ifEq g 36 (some A36) (ifEq g 38 (some A38) (none)))))),fun _=>none,fun _=>none,fun d=>ifI (Nat.beq d 5) (some (34,ko1)) (none),fun _=>0⟩
theorem E10_ok:FnsOk prog E10:=(zg6 (d0:=5) (g0:=34) z9q (oF y2y func22 (oF zo0 func71 (oF zo1 func75 (oF zo2 func76 (oF ze4 func36 (oF y9b func38 (yc7 _ _))))))))
def ya6:TA→Option (LE×Bool):=fun(a0_0,a0_1,a0_2,a0_3)=>
 Option.bind (yj7 ((a0_0,a0_1,a0_2,a0_3),())) fun((r0,r1,_),_)=>
  some ((List.take (List.length r0) (List.drop 0 r0)),r1)
def A10:FnA:=⟨[.v kA],true,[.sl kE,.bool],fun x=>ya6 x.1⟩
theorem zo8:FnOk prog 10 A10:=fo (L:=L0) (by kernel_rfl) func10 E10_ok ya0
def E32:Env:=ev fun g=>ifEq g 22 (some A22) (ifEq g 67 (some A67) (ifEq g 68 (some A68) (none)))
theorem ko2:FnsOk prog E32:=(oF y2y func22 (oF kn0 func67 (oF z7w func68 (yc7 _ _))))
def sh32_8:List Fm:=d::d::.box 100200 [.val i6,.val sI,.val sI,.val sS]::.box 100300 [.val i6,.val sI]::d::.cell (.val i6)::d::.cell (.val i6)::D 18 (.cell (.val sI)::.cell (.val i6)::.cell (.val i6)::D 4 (.cell (.val sI)::.cell (.val i6)::.cell (.val i6)::D 12 []))
def xs32_8:List (Ex×List Fm):=[(.exit 2,[d,d,.box 100200 [.val i6,.val sI,.val sI,.val sS],.box 100300 [.val i6,.val sI],d,.cell (.val i6),d,d,d,d,d,d,d,d,d,d,d,d,d,d,d,d,d,d,d,d,.cell (.val sI),.cell (.val i6),.cell (.val i6),d,d,d,d,d,d,d,d,d,d,d,d,d,d,d,d,d,d,d])]
def yf7:((Int×LI×LI×LS×Unit)×(Int×LI×Unit)×Int×Int×LI×Int×Int×LI×Int×Int×Unit)→Option (((Int×LI×LI×LS×Unit)×(Int×LI×Unit)×Int×Int×LI×Int×Int×LI×Int×Int×Unit)⊕(((Int×LI×LI×LS×Unit)×(Int×LI×Unit)×Int×LI×Int×Int×Unit))):=fun((v2_0,v2_1,v2_2,v2_3,_),(v3_0,v3_1,_),v5,v7,v26,v27,v28,v33,v34,v35,_)=>
 bif (decide (v35<v34)) then
  if(((0:Int)≤v35)∧(v35<(((List.length v33):Nat):Int))) then
   Option.bind (yf6 (v3_0,v3_1) v7 (List.getD v33 (Int.toNat v35) 0)) fun r0=>
    some (Sum.inl ((v2_0,v2_1,v2_2,v2_3,()),(v3_0,v3_1,()),(if(r0<v5) then r0 else v5),v7,v26,v27,v28,v33,v34,(IntKind.wrap .i64 (v35+1)),()))
  else
   none
 else
  some (Sum.inr ((v2_0,v2_1,v2_2,v2_3,()),(v3_0,v3_1,()),v5,v26,v27,v28,()))
theorem k0x{L}(h:L 8=some ⟨48,sh32_8,xs32_8,yf7⟩):yb7 prog L (ya9 f32 8):=lo (L':=L0) (by kernel_rfl) ko2 ya0 h
def L32_1:Nat→Option LoopD:=fun n=>ifEq n 8 (some ⟨48,sh32_8,xs32_8,yf7⟩) (L0 n)
def sh32_5:List Fm:=d::d::.box 100200 [.val i6,.val sI,.val sI,.val sS]::.box 100300 [.val i6,.val sI]::d::.cell (.val i6)::D 20 (.cell (.val sI)::.cell (.val i6)::.cell (.val i6)::D 19 [])
def xs32_5:List (Ex×List Fm):=[(.exit 0,(D 5 (.cell (.val i6)::D 42 [])))]
def yh1:((Int×LI×LI×LS×Unit)×(Int×LI×Unit)×Int×LI×Int×Int×Unit)→Option (((Int×LI×LI×LS×Unit)×(Int×LI×Unit)×Int×LI×Int×Int×Unit)⊕((Int×Unit))):=fun((v2_0,v2_1,v2_2,v2_3,_),(v3_0,v3_1,_),v5,v26,v27,v28,_)=>
 bif (decide (v28<v27)) then
  if(((0:Int)≤v28)∧(v28<(((List.length v26):Nat):Int))) then
   Option.bind (ya2 yf7 ((v2_0,v2_1,v2_2,v2_3,()),(v3_0,v3_1,()),v5,(List.getD v26 (Int.toNat v28) 0),v26,v27,v28,v2_2,(((List.length v2_2):Nat):Int),0,())) fun((r0,r1,r2,r3,_),(r4,r5,_),r6,r7,r8,r9,_)=>
    some (Sum.inl ((r0,r1,r2,r3,()),(r4,r5,()),r6,r7,r8,(IntKind.wrap .i64 (r9+1)),()))
  else
   none
 else
  some (Sum.inr (v5,()))
theorem k0y{L}(h:L 5=some ⟨48,sh32_5,xs32_5,yh1⟩):yb7 prog L (ya9 f32 5):=lo (L':=L32_1) (by kernel_rfl) ko2 (ya8 (k0x rfl) ya0) h
def L32_2:Nat→Option LoopD:=fun n=>ifEq n 5 (some ⟨48,sh32_5,xs32_5,yh1⟩) (L32_1 n)
def yj8:TA→TM→Option (Int):=fun(a0_0,a0_1,a0_2,a0_3) (a1_0,a1_1)=>
 Option.bind (yc6 (a0_0,a0_1,a0_2,a0_3)) fun r0=>
  bif (!r0) then
   some (-1)
  else
   Option.bind (yl5 (a1_0,a1_1)) fun r1=>
    bif (!r1) then
     some (-1)
    else
     bif (a1_0 != a0_0) then
      some (-1)
     else
      Option.bind (ya2 yh1 ((a0_0,a0_1,a0_2,a0_3,()),(a1_0,a1_1,()),3,a0_1,(((List.length a0_1):Nat):Int),0,())) fun(r2,_)=>
       some r2
def A32:FnA:=⟨[.v kA,.v kM],true,[.int .i64],fun x=>yj8 x.1 x.2.1⟩
theorem z7x:FnOk prog 32 A32:=fo (L:=L32_2) (by kernel_rfl) func32 ko2 (ya8 (k0y rfl) ya0)
def z9r:List Fm:=.cell (.own i6 100000 false)::D 96 []
def zx4:List Fm:=D 34 (.cell (.own i6 103400 false)::d::[])
def zx5:List Fm:=D 96 []
def yt7:(LI×Unit)→Option (LI×Unit):=fun(v0,_)=>
 Option.bind (z3f v0) fun(r0,r1)=>
  some ((List.take r1 (List.drop 0 r0)),())
theorem y6f:y8x 61 36 34 100000 i6 zx5 zx4 z3f=yt7:=by kernel_rfl
def z7y:CallD:=⟨61,z9r,36,zx4,yt7,1⟩
theorem z5w:y5u prog 34 57 z7y:=z3g (rest:=zx5) (by kernel_rfl) (by kernel_rfl) y6f
def z7z:Env:=⟨ty0,fun g=>ifEq g 10 (some A10) (ifEq g 32 (some A32) (none)),fun g=>ifEq g 55 (some A55) (none),fun _=>none,fun _=>none,fun _=>0⟩
theorem zo9:FnsOk prog z7z:=(oF zo8 func10 (oF z7x func32 (y1u kj2 (by kernel_rfl) func55 (by kernel_rfl) (by kernel_rfl) (yc7 _ _))))
def zx6:List Fm:=.cell (.own i6 100000 false)::D 44 []
def zx7:List Fm:=D 35 (.cell (.own i6 103500 false)::[])
def yt8:(LI×Unit)→Option (LI×Unit):=fun(v0,_)=>
 if(((0:Int)≤(((List.length v0):Nat):Int))∧(((((List.length v0):Nat):Int)≤(((List.length v0):Nat):Int))∧((((List.length v0):Nat):Int)=(((List.length v0):Nat):Int)))) then
  some ((List.take (Int.toNat (((List.length v0):Nat):Int)) (List.drop 0 v0)),())
 else
  none
theorem y6g:y1q f56.ntmps 36 35 z7z L0 f56.results.toList (yc9 f56) zx6 zx7=yt8:=by kernel_rfl
def z71:CallD:=⟨f56.ntmps,zx6,36,zx7,yt8,0⟩
theorem z5x:y5u prog 35 56 z71:=y0a (yb9 yg1) zo9 (L:=L0) func56 (by kernel_rfl) (c:=yc9 f56) (by kernel_rfl) (yf0 (L:=L0) (yb9 yg1) zo9 mixed (c:=yc9 f56) (bs:=[]) (by kernel_rfl) ya0 (by kernel_rfl)) (by kernel_rfl) (by kernel_rfl) y6g
def E23:Env:=⟨ty0,fun g=>ifEq g 10 (some A10) (ifEq g 32 (some A32) (none)),fun g=>ifEq g 55 (some A55) (none),fun _=>none,fun d=>ifI (Nat.beq d 34) (some (57,z7y)) (ifI (Nat.beq d 35) (some (56,z71)) (none)),fun _=>0⟩
theorem E23_ok:FnsOk prog E23:=(zg6 (d0:=34) (g0:=57) z5w (zg6 (d0:=35) (g0:=56) z5x (oF zo8 func10 (oF z7x func32 (y1u kj2 (by kernel_rfl) func55 (by kernel_rfl) (by kernel_rfl) (yc7 _ _))))))
def sh23_6:List Fm:=d::.box 100100 [.val i6,.val sI,.val sI,.val sS]::D 4 (.cell (.own i6 100600 false)::D 10 (.cell (.own kE 101700 false)::.cell (.val i6)::.cell (.val i6)::D 16 []))
def xs23_6:List (Ex×List Fm):=[(.exit 0,(D 6 (.cell (.own i6 100600 false)::D 29 [])))]
def yl6:((Int×LI×LI×LS×Unit)×LI×LE×Int×Int×Unit)→Option (((Int×LI×LI×LS×Unit)×LI×LE×Int×Int×Unit)⊕((LI×Unit))):=fun((v1_0,v1_1,v1_2,v1_3,_),v6,v17,v18,v19,_)=>
 bif (decide (v19<v18)) then
  if(((0:Int)≤v19)∧(v19<(((List.length v17):Nat):Int))) then
   Option.bind (yj8 (v1_0,v1_1,v1_2,v1_3) ((List.getD v17 (0+(Int.toNat v19)) (((0:Int),[]),⟨Array.empty⟩)).1.1,(List.getD v17 (0+(Int.toNat v19)) (((0:Int),[]),⟨Array.empty⟩)).1.2)) fun r0=>
    if(((0+(List.length v6))=(List.length v6))∧((((List.length v6)+(List.length (List.take 1 (List.drop 0 [r0]))))*8)≤140737488355328)) then
     some (Sum.inl ((v1_0,v1_1,v1_2,v1_3,()),(List.take ((List.length v6)+(List.length (List.take 1 (List.drop 0 [r0])))) (List.drop 0 ((List.drop 0 v6)++(List.take 1 (List.drop 0 [r0]))))),(List.take (List.length v17) (List.drop 0 v17)),v18,(IntKind.wrap .i64 (v19+1)),()))
    else
     none
  else
   none
 else
  some (Sum.inr ((List.take (List.length v6) (List.drop 0 v6)),()))
theorem k0z{L}(h:L 6=some ⟨36,sh23_6,xs23_6,yl6⟩):yb7 prog L (ya9 f23 6):=lo (L':=L0) (by kernel_rfl) E23_ok ya0 h
def L23_1:Nat→Option LoopD:=fun n=>ifEq n 6 (some ⟨36,sh23_6,xs23_6,yl6⟩) (L0 n)
def yr7:TA→Option (LI×Bool):=fun(a0_0,a0_1,a0_2,a0_3)=>
 Option.bind (ya6 (a0_0,a0_1,a0_2,a0_3)) fun(r0,r1)=>
  bif (!r1) then
   some ([],false)
  else
   Option.bind (ya2 yl6 ((a0_0,a0_1,a0_2,a0_3,()),(List.take 0 (List.drop 0 [])),(List.take (List.length r0) (List.drop 0 r0)),(((List.length r0):Nat):Int),0,())) fun(r2,_)=>
    if((List.length r2)=(List.length r2)) then
     Option.bind (yu8 r2) fun(_,r3,_)=>
      Option.bind (yt7 ((List.take (List.length r2) (List.drop 0 r3)),())) fun(r4,_)=>
       Option.bind (yt8 ((List.take (List.length r4) (List.drop 0 r4)),())) fun(r5,_)=>
        some ((List.take (List.length r5) (List.drop 0 r5)),true)
    else
     none
def A23:FnA:=⟨[.v kA],true,[.sl i6,.bool],fun x=>yr7 x.1⟩
theorem A23_ok:FnOk prog 23 A23:=fo (L:=L23_1) (by kernel_rfl) func23 E23_ok (ya8 (k0z rfl) ya0)
def sh58_2:List Fm:=.cell (.val sI)::.cell (.val i6)::D 5 (.cell (.val i6)::.cell (.val i6)::D 10 [])
def xs58_2:List (Ex×List Fm):=[(.ret,(D 4 (.cell (.val i6)::D 14 []))),(.exit 0,(D 19 []))]
def yn9:(LI×Int×Int×Int×Unit)→Option ((LI×Int×Int×Int×Unit)⊕((Int×Unit)⊕(Unit))):=fun(v0,v1,v7,v8,_)=>
 bif (decide (v8<v7)) then
  if(((0:Int)≤v8)∧(v8<(((List.length v0):Nat):Int))) then
   bif (v1==(List.getD v0 (Int.toNat v8) 0)) then
    some (Sum.inr (Sum.inl (v8,())))
   else
    some (Sum.inl (v0,v1,v7,(IntKind.wrap .i64 (v8+1)),()))
  else
   none
 else
  some (Sum.inr (Sum.inr ()))
theorem k00{L}(h:L 2=some ⟨19,sh58_2,xs58_2,yn9⟩):yb7 prog L (ya9 f58 2):=lo (L':=L0) (by kernel_rfl) yh3 ya0 h
def L58_1:Nat→Option LoopD:=fun n=>ifEq n 2 (some ⟨19,sh58_2,xs58_2,yn9⟩) (L0 n)
def y6h:LI→Int→Option (Int):=fun a0 a1=>
 Option.bind (ya2 yn9 (a0,a1,(((List.length a0):Nat):Int),0,())) fun r0=>
  (match r0 with
  |.inl (d1,_)=>
    some d1
  |.inr _=>
    some (-1))
def A58:FnA:=⟨[.v sI,.v i6],true,[.int .i64],fun x=>y6h x.1 x.2.1⟩
theorem A58_ok:FnOk prog 58 A58:=fo (L:=L58_1) (by kernel_rfl) func58 yh3 (ya8 (k00 rfl) ya0)
def E24:Env:=ev fun g=>ifEq g 58 (some A58) (none)
theorem E24_ok:FnsOk prog E24:=(oF A58_ok func58 (yc7 _ _))
def yk9:LI→Int→Option (Bool):=fun a0 a1=>
 Option.bind (y6h a0 a1) fun r0=>
  some (decide (r0≥0))
def A24:FnA:=⟨[.v sI,.v i6],true,[.bool],fun x=>yk9 x.1 x.2.1⟩
theorem A24_ok:FnOk prog 24 A24:=fo (L:=L0) (by kernel_rfl) func24 E24_ok ya0
def sh59_2:List Fm:=.cell (.val .str)::D 4 (.cell (.val i6)::.cell (.val i6)::D 16 [])
def xs59_2:List (Ex×List Fm):=[(.ret,(d::d::.cell (.val .bool)::D 20 [])),(.exit 0,(.cell (.val .str)::D 22 []))]
def yn5:(ByteArray×Int×Int×Unit)→Option ((ByteArray×Int×Int×Unit)⊕((Bool×Unit)⊕(ByteArray×Unit))):=fun(v0,v5,v6,_)=>
 bif (decide (v6<v5)) then
  if(((0:Int)≤v6)∧(v6<(((ByteArray.size v0):Nat):Int))) then
   bif ((((UInt8.toNat (Array.getD (ByteArray.data v0) (Int.toNat v6) (0:UInt8))):Nat):Int) != 97) then
    if(((0:Int)≤v6)∧(v6<(((ByteArray.size v0):Nat):Int))) then
     bif ((((UInt8.toNat (Array.getD (ByteArray.data v0) (Int.toNat v6) (0:UInt8))):Nat):Int) != 98) then
      some (Sum.inr (Sum.inl (false,())))
     else
      some (Sum.inl (v0,v5,(IntKind.wrap .i64 (v6+1)),()))
    else
     none
   else
    some (Sum.inl (v0,v5,(IntKind.wrap .i64 (v6+1)),()))
  else
   none
 else
  some (Sum.inr (Sum.inr (v0,())))
theorem k01{L}(h:L 2=some ⟨23,sh59_2,xs59_2,yn5⟩):yb7 prog L (ya9 f59 2):=lo (L':=L0) (by kernel_rfl) yh3 ya0 h
def L59_1:Nat→Option LoopD:=fun n=>ifEq n 2 (some ⟨23,sh59_2,xs59_2,yn5⟩) (L0 n)
def y08:ByteArray→Option (Bool):=fun a0=>
 Option.bind (ya2 yn5 (a0,(((ByteArray.size a0):Nat):Int),0,())) fun r0=>
  (match r0 with
  |.inl (d1,_)=>
    some d1
  |.inr (d2,_)=>
    some (decide ((((ByteArray.size d2):Nat):Int)≤1000)))
def A59:FnA:=⟨[.v .str],true,[.bool],fun x=>y08 x.1⟩
theorem A59_ok:FnOk prog 59 A59:=fo (L:=L59_1) (by kernel_rfl) func59 yh3 (ya8 (k01 rfl) ya0)
def y7c:Int→Int→Option (Int×Int):=fun a0 a1=>
 if((32:Int)<0) then
  none
 else
  if((32:Int)<0) then
   none
  else
   if((32:Int)<0) then
    none
   else
    if((32:Int)<0) then
     none
    else
     if((32:Int)<0) then
      none
     else
      some ((IntKind.wrap .u64 ((IntKind.wrap .u64 ((IntKind.wrap .u64 ((Int.fdiv a0 ((2:Int)^(Min.min (Int.toNat 32) (IntKind.bits .u64))))*(Int.fdiv a1 ((2:Int)^(Min.min (Int.toNat 32) (IntKind.bits .u64))))))+(Int.fdiv (IntKind.wrap .u64 ((IntKind.wrap .u64 ((Int.fdiv a0 ((2:Int)^(Min.min (Int.toNat 32) (IntKind.bits .u64))))*((((BitVec.toNat ((BitVec.ofInt (IntKind.bits .u64) a1)&&& (BitVec.ofInt (IntKind.bits .u64) 4294967295)))%(Int.natAbs ((2:Int)^(IntKind.bits .u64)))):Nat):Int)))+(Int.fdiv (IntKind.wrap .u64 (((((BitVec.toNat ((BitVec.ofInt (IntKind.bits .u64) a0)&&& (BitVec.ofInt (IntKind.bits .u64) 4294967295)))%(Int.natAbs ((2:Int)^(IntKind.bits .u64)))):Nat):Int)*((((BitVec.toNat ((BitVec.ofInt (IntKind.bits .u64) a1)&&& (BitVec.ofInt (IntKind.bits .u64) 4294967295)))%(Int.natAbs ((2:Int)^(IntKind.bits .u64)))):Nat):Int))) ((2:Int)^(Min.min (Int.toNat 32) (IntKind.bits .u64)))))) ((2:Int)^(Min.min (Int.toNat 32) (IntKind.bits .u64))))))+(Int.fdiv (IntKind.wrap .u64 (((((BitVec.toNat ((BitVec.ofInt (IntKind.bits .u64) (IntKind.wrap .u64 ((IntKind.wrap .u64 ((Int.fdiv a0 ((2:Int)^(Min.min (Int.toNat 32) (IntKind.bits .u64))))*((((BitVec.toNat ((BitVec.ofInt (IntKind.bits .u64) a1)&&& (BitVec.ofInt (IntKind.bits .u64) 4294967295)))%(Int.natAbs ((2:Int)^(IntKind.bits .u64)))):Nat):Int)))+(Int.fdiv (IntKind.wrap .u64 (((((BitVec.toNat ((BitVec.ofInt (IntKind.bits .u64) a0)&&& (BitVec.ofInt (IntKind.bits .u64) 4294967295)))%(Int.natAbs ((2:Int)^(IntKind.bits .u64)))):Nat):Int)*((((BitVec.toNat ((BitVec.ofInt (IntKind.bits .u64) a1)&&& (BitVec.ofInt (IntKind.bits .u64) 4294967295)))%(Int.natAbs ((2:Int)^(IntKind.bits .u64)))):Nat):Int))) ((2:Int)^(Min.min (Int.toNat 32) (IntKind.bits .u64)))))))&&& (BitVec.ofInt (IntKind.bits .u64) 4294967295)))%(Int.natAbs ((2:Int)^(IntKind.bits .u64)))):Nat):Int)+(IntKind.wrap .u64 (((((BitVec.toNat ((BitVec.ofInt (IntKind.bits .u64) a0)&&& (BitVec.ofInt (IntKind.bits .u64) 4294967295)))%(Int.natAbs ((2:Int)^(IntKind.bits .u64)))):Nat):Int)*(Int.fdiv a1 ((2:Int)^(Min.min (Int.toNat 32) (IntKind.bits .u64)))))))) ((2:Int)^(Min.min (Int.toNat 32) (IntKind.bits .u64)))))),(IntKind.wrap .u64 (a0*a1)))
def A264:FnA:=⟨[.v (.int .u64),.v (.int .u64)],true,[.int .u64,.int .u64],fun x=>y7c x.1 x.2.1⟩
theorem A264_ok:FnOk prog 264 A264:=fo (L:=L0) (by kernel_rfl) func264 yh3 ya0
def E214:Env:=ev fun g=>ifEq g 264 (some A264) (none)
theorem E214_ok:FnsOk prog E214:=(oF A264_ok func264 (yc7 _ _))
def z03:Int→Int→Option (Int×Int):=fun a0 a1=>
 Option.bind (y7c a0 a1) fun(r0,r1)=>
  some (r0,r1)
def A214:FnA:=⟨[.v (.int .u64),.v (.int .u64)],true,[.int .u64,.int .u64],fun x=>z03 x.1 x.2.1⟩
theorem A214_ok:FnOk prog 214 A214:=fo (L:=L0) (by kernel_rfl) func214 E214_ok ya0
def E141:Env:=ev fun g=>ifEq g 214 (some A214) (none)
theorem ko3:FnsOk prog E141:=(oF A214_ok func214 (yc7 _ _))
def ko4:List Fm:=D 7 (.cell (.own i6 100700 false)::.cell (.val i6)::D 39 [])
def ko5:List (Ex×List Fm):=[(.exit 0,(D 7 (.cell (.own i6 100700 false)::D 40 [])))]
def yj3:(LI×Int×Unit)→Option ((LI×Int×Unit)⊕((LI×Unit))):=fun(v7,v8,_)=>
 bif (decide (v8<(((List.length v7):Nat):Int))) then
  if(((0:Int)≤v8)∧(v8≤(((List.length v7):Nat):Int))) then
   if(((0:Int)≤v8)∧(v8≤(((List.length v7):Nat):Int))) then
    some (Sum.inl ((List.take (List.length v7) (List.drop 0 ((List.take (0+(Int.toNat v8)) v7)++((List.take ((List.length v7)-(Int.toNat v8)) (List.take ((Int.toNat v8)-0) (List.drop (0+0) v7)))++(List.drop ((0+(Int.toNat v8))+(List.length (List.take ((List.length v7)-(Int.toNat v8)) (List.take ((Int.toNat v8)-0) (List.drop (0+0) v7))))) v7))))),(IntKind.wrap .i64 (v8+(((List.length (List.take ((List.length v7)-(Int.toNat v8)) (List.take ((Int.toNat v8)-0) (List.drop (0+0) v7)))):Nat):Int))),()))
   else
    none
  else
   none
 else
  some (Sum.inr ((List.take (List.length v7) (List.drop 0 v7)),()))
theorem ko6{L}(h:L 8=some ⟨48,ko4,ko5,yj3⟩):yb7 prog L (ya9 f141 8):=lo (L':=L0) (by kernel_rfl) ko3 ya0 h
def L141_1:Nat→Option LoopD:=fun n=>ifEq n 8 (some ⟨48,ko4,ko5,yj3⟩) (L0 n)
def y0l:LI→Int→Option (LI):=fun a0 a1=>
 bif (decide (a1<0)) then
  none
 else
  Option.bind (z03 (IntKind.wrap .u64 (((List.length a0):Nat):Int)) (IntKind.wrap .u64 a1)) fun(r0,r1)=>
   bif (decide (r0>0)) then
    none
   else
    bif (decide (r1>9223372036854775807)) then
     none
    else
     if(((0:Int)≤(IntKind.wrap .i64 r1))∧(((IntKind.wrap .i64 r1)=(IntKind.wrap .i64 r1))∧(((IntKind.wrap .i64 r1)*((8:Nat):Int))≤140737488355328))) then
      Option.bind (ya2 yj3 ((List.take (Int.toNat (IntKind.wrap .i64 r1)) (List.drop 0 ((List.take 0 (List.replicate (Int.toNat (IntKind.wrap .i64 r1)) 0))++((List.take (Int.toNat (IntKind.wrap .i64 r1)) a0)++(List.drop (0+(List.length (List.take (Int.toNat (IntKind.wrap .i64 r1)) a0))) (List.replicate (Int.toNat (IntKind.wrap .i64 r1)) 0)))))),(((List.length (List.take (Int.toNat (IntKind.wrap .i64 r1)) a0)):Nat):Int),())) fun(r2,_)=>
       some (List.take (List.length r2) (List.drop 0 r2))
     else
      none
def A141:FnA:=⟨[.v sI,.v i6],true,[.sl i6],fun x=>y0l x.1 x.2.1⟩
theorem A141_ok:FnOk prog 141 A141:=fo (L:=L141_1) (by kernel_rfl) func141 ko3 (ya8 (ko6 rfl) ya0)
def E60:Env:=ev fun g=>ifEq g 141 (some A141) (none)
theorem z73:FnsOk prog E60:=(oF A141_ok func141 (yc7 _ _))
def sh60_3:List Fm:=d::.cell (.val .str)::.box 100200 [.val i6,.val sI,.val sI,.val sS]::d::d::.cell (.own i6 100500 false)::D 12 (.cell (.val sI)::.cell (.val i6)::.cell (.val i6)::D 60 [])
def xs60_3:List (Ex×List Fm):=[(.exit 0,[d,.cell (.val .str),.box 100200 [.val i6,.val sI,.val sI,.val sS],d,d,.cell (.own i6 100500 false),d,d,d,d,d,d,d,d,d,d,d,d,d,d,d,d,d,d,d,d,d,d,d,d,d,d,d,d,d,d,d,d,d,d,d,d,d,d,d,d,d,d,d,d,d,d,d,d,d,d,d,d,d,d,d,d,d,d,d,d,d,d,d,d,d,d,d,d,d,d,d,d,d,d,d])]
def yp3:(ByteArray×(Int×LI×LI×LS×Unit)×LI×LI×Int×Int×Unit)→Option ((ByteArray×(Int×LI×LI×LS×Unit)×LI×LI×Int×Int×Unit)⊕((ByteArray×(Int×LI×LI×LS×Unit)×LI×Unit))):=fun(v1,(v2_0,v2_1,v2_2,v2_3,_),v5,v18,v19,v20,_)=>
 bif (decide (v20<v19)) then
  if(((0:Int)≤v20)∧(v20<(((List.length v18):Nat):Int))) then
   if(((0:Int)≤(List.getD v18 (Int.toNat v20) 0))∧((List.getD v18 (Int.toNat v20) 0)<(((List.length v5):Nat):Int))) then
    some (Sum.inl (v1,(v2_0,v2_1,v2_2,v2_3,()),(List.take (List.length v5) (List.drop 0 (List.set v5 (0+(Int.toNat (List.getD v18 (Int.toNat v20) 0))) 0))),v18,v19,(IntKind.wrap .i64 (v20+1)),()))
   else
    none
  else
   none
 else
  some (Sum.inr (v1,(v2_0,v2_1,v2_2,v2_3,()),(List.take (List.length v5) (List.drop 0 v5)),()))
theorem k02{L}(h:L 3=some ⟨81,sh60_3,xs60_3,yp3⟩):yb7 prog L (ya9 f60 3):=lo (L':=L0) (by kernel_rfl) z73 ya0 h
def L60_1:Nat→Option LoopD:=fun n=>ifEq n 3 (some ⟨81,sh60_3,xs60_3,yp3⟩) (L0 n)
def ko7:List Fm:=d::.cell (.val .str)::.box 100200 [.val i6,.val sI,.val sI,.val sS]::d::d::.cell (.val sI)::d::d::.cell (.own sI 100800 false)::.cell (.val i6)::.cell (.own i6 101000 false)::D 31 (.cell (.val sS)::.cell (.val i6)::.cell (.val i6)::D 36 [])
def ko8:List (Ex×List Fm):=[(.exit 4,[d,.cell (.val .str),.box 100200 [.val i6,.val sI,.val sI,.val sS],d,d,d,d,d,.cell (.own sI 100800 false),.cell (.val i6),.cell (.own i6 101000 false),d,d,d,d,d,d,d,d,d,d,d,d,d,d,d,d,d,d,d,d,d,d,d,d,d,d,d,d,d,d,d,d,d,d,d,d,d,d,d,d,d,d,d,d,d,d,d,d,d,d,d,d,d,d,d,d,d,d,d,d,d,d,d,d,d,d,d,d,d,d])]
def yk3:(ByteArray×(Int×LI×LI×LS×Unit)×LI×(List LI)×Int×LI×LS×Int×Int×Unit)→Option ((ByteArray×(Int×LI×LI×LS×Unit)×LI×(List LI)×Int×LI×LS×Int×Int×Unit)⊕((ByteArray×(Int×LI×LI×LS×Unit)×(List LI)×Int×LI×Unit))):=fun(v1,(v2_0,v2_1,v2_2,v2_3,_),v5,v8,v9,v10,v42,v43,v44,_)=>
 bif (decide (v44<v43)) then
  if(((0:Int)≤v44)∧(v44<(((List.length v42):Nat):Int))) then
   if(((0:Int)≤v9)∧((v9≤(IntKind.wrap .i64 (v9+1)))∧((IntKind.wrap .i64 (v9+1))≤(((ByteArray.size v1):Nat):Int)))) then
    bif ((ByteArray.toList (List.getD v42 (Int.toNat v44) ((0:Int),⟨Array.empty⟩,0,0)).2.1)==(ByteArray.toList (ByteArray.extract v1 (Int.toNat v9) (Int.toNat (IntKind.wrap .i64 (v9+1)))))) then
     if(((0:Int)≤(List.getD v42 (Int.toNat v44) ((0:Int),⟨Array.empty⟩,0,0)).1)∧((List.getD v42 (Int.toNat v44) ((0:Int),⟨Array.empty⟩,0,0)).1<(((List.length v10):Nat):Int))) then
      if(((0:Int)≤(List.getD v42 (Int.toNat v44) ((0:Int),⟨Array.empty⟩,0,0)).2.2.1)∧((List.getD v42 (Int.toNat v44) ((0:Int),⟨Array.empty⟩,0,0)).2.2.1<(((List.length v5):Nat):Int))) then
       if(((0:Int)≤(List.getD v42 (Int.toNat v44) ((0:Int),⟨Array.empty⟩,0,0)).1)∧((List.getD v42 (Int.toNat v44) ((0:Int),⟨Array.empty⟩,0,0)).1<(((List.length v10):Nat):Int))) then
        some (Sum.inl (v1,(v2_0,v2_1,v2_2,v2_3,()),v5,(List.take (List.length v8) (List.drop 0 v8)),v9,(List.take (List.length v10) (List.drop 0 (List.set v10 (0+(Int.toNat (List.getD v42 (Int.toNat v44) ((0:Int),⟨Array.empty⟩,0,0)).1)) (if((IntKind.wrap .i64 ((List.getD v42 (Int.toNat v44) ((0:Int),⟨Array.empty⟩,0,0)).2.2.2+(List.getD v5 (Int.toNat (List.getD v42 (Int.toNat v44) ((0:Int),⟨Array.empty⟩,0,0)).2.2.1) 0)))<(List.getD v10 (0+(Int.toNat (List.getD v42 (Int.toNat v44) ((0:Int),⟨Array.empty⟩,0,0)).1)) 0)) then(IntKind.wrap .i64 ((List.getD v42 (Int.toNat v44) ((0:Int),⟨Array.empty⟩,0,0)).2.2.2+(List.getD v5 (Int.toNat (List.getD v42 (Int.toNat v44) ((0:Int),⟨Array.empty⟩,0,0)).2.2.1) 0))) else(List.getD v10 (0+(Int.toNat (List.getD v42 (Int.toNat v44) ((0:Int),⟨Array.empty⟩,0,0)).1)) 0))))),v42,v43,(IntKind.wrap .i64 (v44+1)),()))
       else
        none
      else
       none
     else
      none
    else
     some (Sum.inl (v1,(v2_0,v2_1,v2_2,v2_3,()),v5,(List.take (List.length v8) (List.drop 0 v8)),v9,(List.take (List.length v10) (List.drop 0 v10)),v42,v43,(IntKind.wrap .i64 (v44+1)),()))
   else
    none
  else
   none
 else
  some (Sum.inr (v1,(v2_0,v2_1,v2_2,v2_3,()),(List.take (List.length v8) (List.drop 0 v8)),v9,(List.take (List.length v10) (List.drop 0 v10)),()))
theorem ko9{L}(h:L 13=some ⟨81,ko7,ko8,yk3⟩):yb7 prog L (ya9 f60 13):=lo (L':=L60_1) (by kernel_rfl) z73 ya0 h
def L60_2:Nat→Option LoopD:=fun n=>ifEq n 13 (some ⟨81,ko7,ko8,yk3⟩) (L60_1 n)
def sh60_9:List Fm:=d::.cell (.val .str)::.box 100200 [.val i6,.val sI,.val sI,.val sS]::d::d::.cell (.val sI)::d::d::.cell (.own sI 100800 false)::.cell (.val i6)::D 71 []
def xs60_9:List (Ex×List Fm):=[(.exit 2,(D 8 (.cell (.own sI 100800 false)::D 72 [])))]
def yr8:(ByteArray×(Int×LI×LI×LS×Unit)×LI×(List LI)×Int×Unit)→Option ((ByteArray×(Int×LI×LI×LS×Unit)×LI×(List LI)×Int×Unit)⊕(((List LI)×Unit))):=fun(v1,(v2_0,v2_1,v2_2,v2_3,_),v5,v8,v9,_)=>
 bif (decide (v9≥0)) then
  Option.bind (y0l (List.take 1 (List.drop 0 [(1000000:Int)])) v2_0) fun r0=>
   Option.bind (ya2 yk3 (v1,(v2_0,v2_1,v2_2,v2_3,()),v5,(List.take (List.length v8) (List.drop 0 v8)),v9,(List.take (List.length r0) (List.drop 0 r0)),v2_3,(((List.length v2_3):Nat):Int),0,())) fun(r1,(r2,r3,r4,r5,_),r6,r7,r8,_)=>
    if(((0+(List.length r6))=(List.length r6))∧((((List.length r6)+(List.length (List.take 1 (List.drop 0 [(List.take (List.length r8) (List.drop 0 r8))]))))*24)≤140737488355328)) then
     some (Sum.inl (r1,(r2,r3,r4,r5,()),(List.take (List.length r8) (List.drop 0 r8)),(List.take ((List.length r6)+(List.length (List.take 1 (List.drop 0 [(List.take (List.length r8) (List.drop 0 r8))])))) (List.drop 0 ((List.drop 0 r6)++(List.take 1 (List.drop 0 [(List.take (List.length r8) (List.drop 0 r8))]))))),(IntKind.wrap .i64 (r7-1)),()))
    else
     none
 else
  some (Sum.inr ((List.take (List.length v8) (List.drop 0 v8)),()))
theorem k03{L}(h:L 9=some ⟨81,sh60_9,xs60_9,yr8⟩):yb7 prog L (ya9 f60 9):=lo (L':=L60_2) (by kernel_rfl) z73 (ya8 (ko9 rfl) ya0) h
def L60_3:Nat→Option LoopD:=fun n=>ifEq n 9 (some ⟨81,sh60_9,xs60_9,yr8⟩) (L60_2 n)
def y7d:TA→ByteArray→Option ((List LI)):=fun(a0_0,a0_1,a0_2,a0_3) a1=>
 Option.bind (y0l (List.take 1 (List.drop 0 [(1000000:Int)])) a0_0) fun r0=>
  Option.bind (ya2 yp3 (a1,(a0_0,a0_1,a0_2,a0_3,()),(List.take (List.length r0) (List.drop 0 r0)),a0_2,(((List.length a0_2):Nat):Int),0,())) fun(r1,(r2,r3,r4,r5,_),r6,_)=>
   Option.bind (ya2 yr8 (r1,(r2,r3,r4,r5,()),(List.take (List.length r6) (List.drop 0 r6)),(List.take 1 (List.drop 0 [(List.take (List.length r6) (List.drop 0 r6))])),(IntKind.wrap .i64 ((((ByteArray.size r1):Nat):Int)-1)),())) fun(r7,_)=>
    some (List.take (List.length r7) (List.drop 0 r7))
def A60:FnA:=⟨[.v kA,.v .str],true,[.sl sI],fun x=>y7d x.1 x.2.1⟩
theorem A60_ok:FnOk prog 60 A60:=fo (L:=L60_3) (by kernel_rfl) func60 z73 (ya8 (k02 rfl) (ya8 (k03 rfl) ya0))
def E25:Env:=ev fun g=>ifEq g 22 (some A22) (ifEq g 59 (some A59) (ifEq g 60 (some A60) (none)))
theorem E25_ok:FnsOk prog E25:=(oF y2y func22 (oF A59_ok func59 (oF A60_ok func60 (yc7 _ _))))
def sh25_6:List Fm:=d::.cell (.val .str)::d::d::d::.cell (.own sI 100500 false)::.cell (.val i6)::D 14 (.cell (.val sI)::.cell (.val i6)::.cell (.val i6)::D 15 [])
def xs25_6:List (Ex×List Fm):=[(.exit 0,(D 6 (.cell (.val i6)::D 32 [])))]
def yq1:(ByteArray×(List LI)×Int×LI×Int×Int×Unit)→Option ((ByteArray×(List LI)×Int×LI×Int×Int×Unit)⊕((Int×Unit))):=fun(v1,v5,v6,v21,v22,v23,_)=>
 bif (decide (v23<v22)) then
  if(((0:Int)≤v23)∧(v23<(((List.length v21):Nat):Int))) then
   if(((0:Int)≤(((ByteArray.size v1):Nat):Int))∧((((ByteArray.size v1):Nat):Int)<(((List.length v5):Nat):Int))) then
    if(((0:Int)≤(List.getD v21 (Int.toNat v23) 0))∧((List.getD v21 (Int.toNat v23) 0)<(((List.length (List.getD v5 (0+(Int.toNat (((ByteArray.size v1):Nat):Int))) [])):Nat):Int))) then
     some (Sum.inl (v1,(List.take (List.length v5) (List.drop 0 v5)),(if((List.getD (List.getD v5 (0+(Int.toNat (((ByteArray.size v1):Nat):Int))) []) (Int.toNat (List.getD v21 (Int.toNat v23) 0)) 0)<v6) then(List.getD (List.getD v5 (0+(Int.toNat (((ByteArray.size v1):Nat):Int))) []) (Int.toNat (List.getD v21 (Int.toNat v23) 0)) 0) else v6),v21,v22,(IntKind.wrap .i64 (v23+1)),()))
    else
     none
   else
    none
  else
   none
 else
  some (Sum.inr (v6,()))
theorem k04{L}(h:L 6=some ⟨39,sh25_6,xs25_6,yq1⟩):yb7 prog L (ya9 f25 6):=lo (L':=L0) (by kernel_rfl) E25_ok ya0 h
def L25_1:Nat→Option LoopD:=fun n=>ifEq n 6 (some ⟨39,sh25_6,xs25_6,yq1⟩) (L0 n)
def y29:TA→ByteArray→Option (Int):=fun(a0_0,a0_1,a0_2,a0_3) a1=>
 Option.bind (yc6 (a0_0,a0_1,a0_2,a0_3)) fun r0=>
  bif (!r0) then
   some (-1)
  else
   Option.bind (y08 a1) fun r1=>
    bif (!r1) then
     some (-1)
    else
     Option.bind (y7d (a0_0,a0_1,a0_2,a0_3) a1) fun r2=>
      Option.bind (ya2 yq1 (a1,(List.take (List.length r2) (List.drop 0 r2)),1000000,a0_1,(((List.length a0_1):Nat):Int),0,())) fun(r3,_)=>
       some r3
def A25:FnA:=⟨[.v kA,.v .str],true,[.int .i64],fun x=>y29 x.1 x.2.1⟩
theorem A25_ok:FnOk prog 25 A25:=fo (L:=L25_1) (by kernel_rfl) func25 E25_ok (ya8 (k04 rfl) ya0)
def E5:Env:=ev fun g=>ifEq g 22 (some A22) (ifEq g 23 (some A23) (ifEq g 24 (some A24) (ifEq g 25 (some A25) (none))))
theorem E5_ok:FnsOk prog E5:=(oF y2y func22 (oF A23_ok func23 (oF A24_ok func24 (oF A25_ok func25 (yc7 _ _)))))
def yh6:TA→Option (ByteArray):=fun(a0_0,a0_1,a0_2,a0_3)=>
 Option.bind (yc6 (a0_0,a0_1,a0_2,a0_3)) fun r0=>
  bif (!r0) then
   some (⟨#[]⟩:ByteArray)
  else
   Option.bind (yr7 (a0_0,a0_1,a0_2,a0_3)) fun(r1,r2)=>
    bif (!r2) then
     some (⟨#[(117:UInt8),(110:UInt8),(107:UInt8),(110:UInt8),(111:UInt8),(119:UInt8),(110:UInt8)]⟩:ByteArray)
    else
     Option.bind (yk9 (List.take (List.length r1) (List.drop 0 r1)) 2) fun r3=>
      bif r3 then
       some (⟨#[(103:UInt8),(114:UInt8),(111:UInt8),(119:UInt8),(105:UInt8),(110:UInt8),(103:UInt8)]⟩:ByteArray)
      else
       Option.bind (yk9 (List.take (List.length r1) (List.drop 0 r1)) 1) fun r4=>
        bif r4 then
         some (⟨#[(98:UInt8),(111:UInt8),(117:UInt8),(110:UInt8),(100:UInt8),(101:UInt8),(100:UInt8)]⟩:ByteArray)
        else
         Option.bind (yk9 (List.take (List.length r1) (List.drop 0 r1)) 0) fun r5=>
          bif r5 then
           some (⟨#[(102:UInt8),(114:UInt8),(101:UInt8),(101:UInt8)]⟩:ByteArray)
          else
           Option.bind (y29 (a0_0,a0_1,a0_2,a0_3) (⟨#[]⟩:ByteArray)) fun r6=>
            bif (decide (r6<1000000)) then
             some (⟨#[(102:UInt8),(114:UInt8),(101:UInt8),(101:UInt8)]⟩:ByteArray)
            else
             some (⟨#[(110:UInt8),(111:UInt8),(110:UInt8),(101:UInt8)]⟩:ByteArray)
def A5:FnA:=⟨[.v kA],true,[.str],fun x=>yh6 x.1⟩
theorem A5_ok:FnOk prog 5 A5:=fo (L:=L0) (by kernel_rfl) func5 E5_ok ya0
def kp0:List Fm:=d::.cell (.val .str)::.box 100200 [.val i6,.val sI,.val sI,.val sS]::d::.box 100400 [.val i6,.own i6 100402 false]::.box 100500 [.val i6,.own i6 100502 false]::D 9 (.cell (.val i6)::.cell (.val i6)::D 33 [])
def kp1:List (Ex×List Fm):=[(.exit 0,[d,.cell (.val .str),.box 100200 [.val i6,.val sI,.val sI,.val sS],d,.box 100400 [.val i6,.own i6 100402 false],.box 100500 [.val i6,.own i6 100502 false],d,d,d,d,d,d,d,d,d,d,d,d,d,d,d,d,d,d,d,d,d,d,d,d,d,d,d,d,d,d,d,d,d,d,d,d,d,d,d,d,d,d,d,d])]
def yg6:(ByteArray×(Int×LI×LI×LS×Unit)×(Int×LI×Unit)×(Int×LI×Unit)×Int×Int×Unit)→Option ((ByteArray×(Int×LI×LI×LS×Unit)×(Int×LI×Unit)×(Int×LI×Unit)×Int×Int×Unit)⊕((ByteArray×(Int×LI×LI×LS×Unit)×(Int×LI×Unit)×(Int×LI×Unit)×Unit))):=fun(v1,(v2_0,v2_1,v2_2,v2_3,_),(v4_0,v4_1,_),(v5_0,v5_1,_),v15,v16,_)=>
 bif (decide (v16<v15)) then
  if(((0+(List.length v5_1))=(List.length v5_1))∧((((List.length v5_1)+(List.length (List.take 1 (List.drop 0 [(1000000:Int)]))))*8)≤140737488355328)) then
   some (Sum.inl (v1,(v2_0,v2_1,v2_2,v2_3,()),(v4_0,(List.take (List.length v4_1) (List.drop 0 v4_1)),()),(v5_0,(List.take ((List.length v5_1)+(List.length (List.take 1 (List.drop 0 [(1000000:Int)])))) (List.drop 0 ((List.drop 0 v5_1)++(List.take 1 (List.drop 0 [(1000000:Int)]))))),()),v15,(IntKind.wrap .i64 (v16+1)),()))
  else
   none
 else
  some (Sum.inr (v1,(v2_0,v2_1,v2_2,v2_3,()),(v4_0,(List.take (List.length v4_1) (List.drop 0 v4_1)),()),(v5_0,(List.take (List.length v5_1) (List.drop 0 v5_1)),()),()))
theorem kp2{L}(h:L 3=some ⟨50,kp0,kp1,yg6⟩):yb7 prog L (ya9 f266 3):=lo (L':=L0) (by kernel_rfl) yh3 ya0 h
def L266_1:Nat→Option LoopD:=fun n=>ifEq n 3 (some ⟨50,kp0,kp1,yg6⟩) (L0 n)
def kp3:List Fm:=d::.cell (.val .str)::.box 100200 [.val i6,.val sI,.val sI,.val sS]::d::.box 100400 [.val i6,.own i6 100402 false]::.box 100500 [.val i6,.own i6 100502 false]::D 19 (.cell (.val sS)::.cell (.val i6)::.cell (.val i6)::D 22 [])
def kp4:List (Ex×List Fm):=[(.exit 2,[d,d,d,d,.box 100400 [.val i6,.own i6 100402 false],.box 100500 [.val i6,.own i6 100502 false],d,d,d,d,d,d,d,d,d,d,d,d,d,d,d,d,d,d,d,d,d,d,d,d,d,d,d,d,d,d,d,d,d,d,d,d,d,d,d,d,d,d,d,d])]
def yg7:(ByteArray×(Int×LI×LI×LS×Unit)×(Int×LI×Unit)×(Int×LI×Unit)×LS×Int×Int×Unit)→Option ((ByteArray×(Int×LI×LI×LS×Unit)×(Int×LI×Unit)×(Int×LI×Unit)×LS×Int×Int×Unit)⊕(((Int×LI×Unit)×(Int×LI×Unit)×Unit))):=fun(v1,(v2_0,v2_1,v2_2,v2_3,_),(v4_0,v4_1,_),(v5_0,v5_1,_),v25,v26,v27,_)=>
 bif (decide (v27<v26)) then
  if(((0:Int)≤v27)∧(v27<(((List.length v25):Nat):Int))) then
   bif ((ByteArray.toList (List.getD v25 (Int.toNat v27) ((0:Int),⟨Array.empty⟩,0,0)).2.1)==(ByteArray.toList v1)) then
    if(((0:Int)≤(IntKind.wrap .i64 ((IntKind.wrap .i64 ((List.getD v25 (Int.toNat v27) ((0:Int),⟨Array.empty⟩,0,0)).1*v2_0))+(List.getD v25 (Int.toNat v27) ((0:Int),⟨Array.empty⟩,0,0)).2.2.1)))∧((IntKind.wrap .i64 ((IntKind.wrap .i64 ((List.getD v25 (Int.toNat v27) ((0:Int),⟨Array.empty⟩,0,0)).1*v2_0))+(List.getD v25 (Int.toNat v27) ((0:Int),⟨Array.empty⟩,0,0)).2.2.1))<(((List.length v5_1):Nat):Int))) then
     some (Sum.inl (v1,(v2_0,v2_1,v2_2,v2_3,()),(v4_0,(List.take (List.length v4_1) (List.drop 0 v4_1)),()),(v5_0,(List.take (List.length v5_1) (List.drop 0 (List.set v5_1 (0+(Int.toNat (IntKind.wrap .i64 ((IntKind.wrap .i64 ((List.getD v25 (Int.toNat v27) ((0:Int),⟨Array.empty⟩,0,0)).1*v2_0))+(List.getD v25 (Int.toNat v27) ((0:Int),⟨Array.empty⟩,0,0)).2.2.1)))) (List.getD v25 (Int.toNat v27) ((0:Int),⟨Array.empty⟩,0,0)).2.2.2))),()),v25,v26,(IntKind.wrap .i64 (v27+1)),()))
    else
     none
   else
    some (Sum.inl (v1,(v2_0,v2_1,v2_2,v2_3,()),(v4_0,(List.take (List.length v4_1) (List.drop 0 v4_1)),()),(v5_0,(List.take (List.length v5_1) (List.drop 0 v5_1)),()),v25,v26,(IntKind.wrap .i64 (v27+1)),()))
  else
   none
 else
  some (Sum.inr ((v4_0,(List.take (List.length v4_1) (List.drop 0 v4_1)),()),(v5_0,(List.take (List.length v5_1) (List.drop 0 v5_1)),()),()))
theorem kp5{L}(h:L 7=some ⟨50,kp3,kp4,yg7⟩):yb7 prog L (ya9 f266 7):=lo (L':=L266_1) (by kernel_rfl) yh3 ya0 h
def L266_2:Nat→Option LoopD:=fun n=>ifEq n 7 (some ⟨50,kp3,kp4,yg7⟩) (L266_1 n)
def yp4:TA→ByteArray→Option (TM):=fun(a0_0,a0_1,a0_2,a0_3) a1=>
 Option.bind (ya2 yg6 (a1,(a0_0,a0_1,a0_2,a0_3,()),((0:Int),[],()),(a0_0,[],()),(IntKind.wrap .i64 (a0_0*a0_0)),0,())) fun(r0,(r1,r2,r3,r4,_),(r5,r6,_),(r7,r8,_),_)=>
  Option.bind (ya2 yg7 (r0,(r1,r2,r3,r4,()),(r5,(List.take (List.length r6) (List.drop 0 r6)),()),(r7,(List.take (List.length r8) (List.drop 0 r8)),()),r4,(((List.length r4):Nat):Int),0,())) fun((r9,r10,_),(r11,r12,_),_)=>
   some (r11,(List.take (List.length r12) (List.drop 0 r12)))
def A266:FnA:=⟨[.v kA,.v .str],true,[.pair i6 sI],fun x=>yp4 x.1 x.2.1⟩
theorem zp0:FnOk prog 266 A266:=fo (L:=L266_2) (by kernel_rfl) func266 yh3 (ya8 (kp2 rfl) (ya8 (kp5 rfl) ya0))
def kp6:List Fm:=d::d::.box 100200 [.val i6,.own i6 100202 false]::.box 100300 [.val i6,.own i6 100302 false]::D 6 (.cell (.val sI)::.cell (.val i6)::.cell (.val i6)::D 25 [])
def kp7:List (Ex×List Fm):=[(.exit 0,[d,d,.box 100200 [.val i6,.own i6 100202 false],.box 100300 [.val i6,.own i6 100302 false],d,d,d,d,d,d,d,d,d,d,d,d,d,d,d,d,d,d,d,d,d,d,d,d,d,d,d,d,d,d,d,d,d,d])]
def yl7:((Int×LI×Unit)×(Int×LI×Unit)×LI×Int×Int×Unit)→Option (((Int×LI×Unit)×(Int×LI×Unit)×LI×Int×Int×Unit)⊕(((Int×LI×Unit)×(Int×LI×Unit)×Unit))):=fun((v2_0,v2_1,_),(v3_0,v3_1,_),v10,v11,v12,_)=>
 bif (decide (v12<v11)) then
  if(((0:Int)≤v12)∧(v12<(((List.length v10):Nat):Int))) then
   bif ((List.getD v10 (Int.toNat v12) 0)==0) then
    if(((0+(List.length v3_1))=(List.length v3_1))∧((((List.length v3_1)+(List.length (List.take 1 (List.drop 0 [(0:Int)]))))*8)≤140737488355328)) then
     some (Sum.inl ((v2_0,(List.take (List.length v2_1) (List.drop 0 v2_1)),()),(v3_0,(List.take ((List.length v3_1)+(List.length (List.take 1 (List.drop 0 [(0:Int)])))) (List.drop 0 ((List.drop 0 v3_1)++(List.take 1 (List.drop 0 [(0:Int)]))))),()),v10,v11,(IntKind.wrap .i64 (v12+1)),()))
    else
     none
   else
    bif ((List.getD v10 (Int.toNat v12) 0)==1000000) then
     if(((0+(List.length v3_1))=(List.length v3_1))∧((((List.length v3_1)+(List.length (List.take 1 (List.drop 0 [(3:Int)]))))*8)≤140737488355328)) then
      some (Sum.inl ((v2_0,(List.take (List.length v2_1) (List.drop 0 v2_1)),()),(v3_0,(List.take ((List.length v3_1)+(List.length (List.take 1 (List.drop 0 [(3:Int)])))) (List.drop 0 ((List.drop 0 v3_1)++(List.take 1 (List.drop 0 [(3:Int)]))))),()),v10,v11,(IntKind.wrap .i64 (v12+1)),()))
     else
      none
    else
     if(((0+(List.length v3_1))=(List.length v3_1))∧((((List.length v3_1)+(List.length (List.take 1 (List.drop 0 [(1:Int)]))))*8)≤140737488355328)) then
      some (Sum.inl ((v2_0,(List.take (List.length v2_1) (List.drop 0 v2_1)),()),(v3_0,(List.take ((List.length v3_1)+(List.length (List.take 1 (List.drop 0 [(1:Int)])))) (List.drop 0 ((List.drop 0 v3_1)++(List.take 1 (List.drop 0 [(1:Int)]))))),()),v10,v11,(IntKind.wrap .i64 (v12+1)),()))
     else
      none
  else
   none
 else
  some (Sum.inr ((v2_0,(List.take (List.length v2_1) (List.drop 0 v2_1)),()),(v3_0,(List.take (List.length v3_1) (List.drop 0 v3_1)),()),()))
theorem kp8{L}(h:L 3=some ⟨38,kp6,kp7,yl7⟩):yb7 prog L (ya9 f265 3):=lo (L':=L0) (by kernel_rfl) yh3 ya0 h
def L265_1:Nat→Option LoopD:=fun n=>ifEq n 3 (some ⟨38,kp6,kp7,yl7⟩) (L0 n)
def y0m:TM→Option (TM):=fun(a0_0,a0_1)=>
 Option.bind (ya2 yl7 (((0:Int),[],()),(a0_0,[],()),a0_1,(((List.length a0_1):Nat):Int),0,())) fun((r0,r1,_),(r2,r3,_),_)=>
  some (r2,(List.take (List.length r3) (List.drop 0 r3)))
def A265:FnA:=⟨[.v kM],true,[.pair i6 sI],fun x=>y0m x.1⟩
theorem zp1:FnOk prog 265 A265:=fo (L:=L265_1) (by kernel_rfl) func265 yh3 (ya8 (kp8 rfl) ya0)
def kp9:List Fm:=.cell (.val sI)::.cell (.val sI)::D 8 (.cell (.val i6)::.cell (.val i6)::D 17 [])
def kq0:List (Ex×List Fm):=[(.ret,(D 4 (.cell (.val .bool)::D 24 []))),(.exit 0,(.cell (.val sI)::.cell (.val sI)::D 27 []))]
def yq2:(LI×LI×Int×Int×Unit)→Option ((LI×LI×Int×Int×Unit)⊕((Bool×Unit)⊕(LI×LI×Unit))):=fun(v0,v1,v10,v11,_)=>
 bif (decide (v11<v10)) then
  if(((0:Int)≤v11)∧(v11<(((List.length v0):Nat):Int))) then
   if(((0:Int)≤v11)∧(v11<(((List.length v1):Nat):Int))) then
    bif ((List.getD v0 (Int.toNat v11) 0) != (List.getD v1 (Int.toNat v11) 0)) then
     some (Sum.inr (Sum.inl (false,())))
    else
     some (Sum.inl (v0,v1,v10,(IntKind.wrap .i64 (v11+1)),()))
   else
    none
  else
   none
 else
  some (Sum.inr (Sum.inr (v0,v1,())))
theorem kq1{L}(h:L 2=some ⟨29,kp9,kq0,yq2⟩):yb7 prog L (ya9 f296 2):=lo (L':=L0) (by kernel_rfl) yh3 ya0 h
def L296_1:Nat→Option LoopD:=fun n=>ifEq n 2 (some ⟨29,kp9,kq0,yq2⟩) (L0 n)
def yv3:LI→LI→Option (Bool):=fun a0 a1=>
 Option.bind (ya2 yq2 (a0,a1,(if((((List.length a1):Nat):Int)<(((List.length a0):Nat):Int)) then(((List.length a1):Nat):Int) else(((List.length a0):Nat):Int)),0,())) fun r0=>
  (match r0 with
  |.inl (d1,_)=>
    some d1
  |.inr (d2,d3,_)=>
    some ((((List.length d2):Nat):Int)==(((List.length d3):Nat):Int)))
def A296:FnA:=⟨[.v sI,.v sI],true,[.bool],fun x=>yv3 x.1 x.2.1⟩
theorem zb7:FnOk prog 296 A296:=fo (L:=L296_1) (by kernel_rfl) func296 yh3 (ya8 (kq1 rfl) ya0)
def kq2:List Fm:=d::d::.box 100200 [.val i6,.val sI]::.box 100300 [.val i6,.val sI]::.box 100400 [.val i6,.own i6 100402 false]::.box 100500 [.val i6,.own i6 100502 false]::.cell (.val i6)::.cell (.val i6)::D 8 (.cell (.val i6)::.cell (.val i6)::d::d::d::.cell (.val i6)::.cell (.val i6)::D 40 [])
def kq3:List (Ex×List Fm):=[(.exit 2,[d,d,.box 100200 [.val i6,.val sI],.box 100300 [.val i6,.val sI],.box 100400 [.val i6,.own i6 100402 false],.box 100500 [.val i6,.own i6 100502 false],d,.cell (.val i6),d,d,d,d,d,d,d,d,.cell (.val i6),.cell (.val i6),d,d,d,d,d,d,d,d,d,d,d,d,d,d,d,d,d,d,d,d,d,d,d,d,d,d,d,d,d,d,d,d,d,d,d,d,d,d,d,d,d,d,d,d,d])]
def yr9:((Int×LI×Unit)×(Int×LI×Unit)×(Int×LI×Unit)×(Int×LI×Unit)×Int×Int×Int×Int×Int×Int×Unit)→Option (((Int×LI×Unit)×(Int×LI×Unit)×(Int×LI×Unit)×(Int×LI×Unit)×Int×Int×Int×Int×Int×Int×Unit)⊕(((Int×LI×Unit)×(Int×LI×Unit)×(Int×LI×Unit)×(Int×LI×Unit)×Int×Int×Int×Unit))):=fun((v2_0,v2_1,_),(v3_0,v3_1,_),(v4_0,v4_1,_),(v5_0,v5_1,_),v6,v7,v16,v17,v21,v22,_)=>
 bif (decide (v22<v21)) then
  if(v2_0=0) then
   none
  else
   if(((0:Int)≤(IntKind.wrap .i64 ((IntKind.wrap .i64 ((IntKind.wrap .i64 (Int.tdiv v6 v2_0))*v2_0))+v22)))∧((IntKind.wrap .i64 ((IntKind.wrap .i64 ((IntKind.wrap .i64 (Int.tdiv v6 v2_0))*v2_0))+v22))<(((List.length v2_1):Nat):Int))) then
    if(v2_0=0) then
     none
    else
     if(((0:Int)≤(IntKind.wrap .i64 ((IntKind.wrap .i64 (v22*v2_0))+(Int.tmod v6 v2_0))))∧((IntKind.wrap .i64 ((IntKind.wrap .i64 (v22*v2_0))+(Int.tmod v6 v2_0)))<(((List.length v3_1):Nat):Int))) then
      some (Sum.inl ((v2_0,v2_1,()),(v3_0,v3_1,()),(v4_0,(List.take (List.length v4_1) (List.drop 0 v4_1)),()),(v5_0,(List.take (List.length v5_1) (List.drop 0 v5_1)),()),v6,(if((if((List.getD v3_1 (Int.toNat (IntKind.wrap .i64 ((IntKind.wrap .i64 (v22*v2_0))+(Int.tmod v6 v2_0)))) 0)>(List.getD v2_1 (Int.toNat (IntKind.wrap .i64 ((IntKind.wrap .i64 ((IntKind.wrap .i64 (Int.tdiv v6 v2_0))*v2_0))+v22))) 0)) then(List.getD v3_1 (Int.toNat (IntKind.wrap .i64 ((IntKind.wrap .i64 (v22*v2_0))+(Int.tmod v6 v2_0)))) 0) else(List.getD v2_1 (Int.toNat (IntKind.wrap .i64 ((IntKind.wrap .i64 ((IntKind.wrap .i64 (Int.tdiv v6 v2_0))*v2_0))+v22))) 0))<v7) then(if((List.getD v3_1 (Int.toNat (IntKind.wrap .i64 ((IntKind.wrap .i64 (v22*v2_0))+(Int.tmod v6 v2_0)))) 0)>(List.getD v2_1 (Int.toNat (IntKind.wrap .i64 ((IntKind.wrap .i64 ((IntKind.wrap .i64 (Int.tdiv v6 v2_0))*v2_0))+v22))) 0)) then(List.getD v3_1 (Int.toNat (IntKind.wrap .i64 ((IntKind.wrap .i64 (v22*v2_0))+(Int.tmod v6 v2_0)))) 0) else(List.getD v2_1 (Int.toNat (IntKind.wrap .i64 ((IntKind.wrap .i64 ((IntKind.wrap .i64 (Int.tdiv v6 v2_0))*v2_0))+v22))) 0)) else v7),v16,v17,v21,(IntKind.wrap .i64 (v22+1)),()))
     else
      none
   else
    none
 else
  some (Sum.inr ((v2_0,v2_1,()),(v3_0,v3_1,()),(v4_0,(List.take (List.length v4_1) (List.drop 0 v4_1)),()),(v5_0,(List.take (List.length v5_1) (List.drop 0 v5_1)),()),v7,v16,v17,()))
theorem kq4{L}(h:L 7=some ⟨63,kq2,kq3,yr9⟩):yb7 prog L (ya9 f270 7):=lo (L':=L0) (by kernel_rfl) yh3 ya0 h
def L270_1:Nat→Option LoopD:=fun n=>ifEq n 7 (some ⟨63,kq2,kq3,yr9⟩) (L0 n)
def kq5:List Fm:=d::d::.box 100200 [.val i6,.val sI]::.box 100300 [.val i6,.val sI]::.box 100400 [.val i6,.own i6 100402 false]::.box 100500 [.val i6,.own i6 100502 false]::D 10 (.cell (.val i6)::.cell (.val i6)::D 45 [])
def kq6:List (Ex×List Fm):=[(.exit 0,[d,d,d,d,.box 100400 [.val i6,.own i6 100402 false],.box 100500 [.val i6,.own i6 100502 false],d,d,d,d,d,d,d,d,d,d,d,d,d,d,d,d,d,d,d,d,d,d,d,d,d,d,d,d,d,d,d,d,d,d,d,d,d,d,d,d,d,d,d,d,d,d,d,d,d,d,d,d,d,d,d,d,d])]
def ys1:((Int×LI×Unit)×(Int×LI×Unit)×(Int×LI×Unit)×(Int×LI×Unit)×Int×Int×Unit)→Option (((Int×LI×Unit)×(Int×LI×Unit)×(Int×LI×Unit)×(Int×LI×Unit)×Int×Int×Unit)⊕(((Int×LI×Unit)×(Int×LI×Unit)×Unit))):=fun((v2_0,v2_1,_),(v3_0,v3_1,_),(v4_0,v4_1,_),(v5_0,v5_1,_),v16,v17,_)=>
 bif (decide (v17<v16)) then
  Option.bind (ya2 yr9 ((v2_0,v2_1,()),(v3_0,v3_1,()),(v4_0,(List.take (List.length v4_1) (List.drop 0 v4_1)),()),(v5_0,(List.take (List.length v5_1) (List.drop 0 v5_1)),()),v17,3,v16,v17,v2_0,0,())) fun((r0,r1,_),(r2,r3,_),(r4,r5,_),(r6,r7,_),r8,r9,r10,_)=>
   if(((0+(List.length r7))=(List.length r7))∧((((List.length r7)+(List.length (List.take 1 (List.drop 0 [r8]))))*8)≤140737488355328)) then
    some (Sum.inl ((r0,r1,()),(r2,r3,()),(r4,(List.take (List.length r5) (List.drop 0 r5)),()),(r6,(List.take ((List.length r7)+(List.length (List.take 1 (List.drop 0 [r8])))) (List.drop 0 ((List.drop 0 r7)++(List.take 1 (List.drop 0 [r8]))))),()),r9,(IntKind.wrap .i64 (r10+1)),()))
   else
    none
 else
  some (Sum.inr ((v4_0,(List.take (List.length v4_1) (List.drop 0 v4_1)),()),(v5_0,(List.take (List.length v5_1) (List.drop 0 v5_1)),()),()))
theorem kq7{L}(h:L 3=some ⟨63,kq5,kq6,ys1⟩):yb7 prog L (ya9 f270 3):=lo (L':=L270_1) (by kernel_rfl) yh3 (ya8 (kq4 rfl) ya0) h
def L270_2:Nat→Option LoopD:=fun n=>ifEq n 3 (some ⟨63,kq5,kq6,ys1⟩) (L270_1 n)
def y2f:TM→TM→Option (TM):=fun(a0_0,a0_1) (a1_0,a1_1)=>
 Option.bind (ya2 ys1 ((a0_0,a0_1,()),(a1_0,a1_1,()),((0:Int),[],()),(a0_0,[],()),(IntKind.wrap .i64 (a0_0*a0_0)),0,())) fun((r0,r1,_),(r2,r3,_),_)=>
  some (r2,(List.take (List.length r3) (List.drop 0 r3)))
def A270:FnA:=⟨[.v kM,.v kM],true,[.pair i6 sI],fun x=>y2f x.1 x.2.1⟩
theorem zb8:FnOk prog 270 A270:=fo (L:=L270_2) (by kernel_rfl) func270 yh3 (ya8 (kq7 rfl) ya0)
def E268:Env:=ev fun g=>ifEq g 270 (some A270) (ifEq g 296 (some A296) (none))
theorem E268_ok:FnsOk prog E268:=(oF zb8 func270 (oF zb7 func296 (yc7 _ _)))
def yw9:TM→Option (Bool):=fun(a0_0,a0_1)=>
 Option.bind (y2f (a0_0,a0_1) (a0_0,a0_1)) fun(r0,r1)=>
  Option.bind (yv3 (List.take (List.length r1) (List.drop 0 r1)) a0_1) fun r2=>
   some r2
def A268:FnA:=⟨[.v kM],true,[.bool],fun x=>yw9 x.1⟩
theorem zp2:FnOk prog 268 A268:=fo (L:=L0) (by kernel_rfl) func268 E268_ok ya0
def y3i:Int→Option (Int):=fun a0=>
 bif (a0==1) then
  some 2
 else
  some a0
def A297:FnA:=⟨[.v i6],true,[.int .i64],fun x=>y3i x.1⟩
theorem A297_ok:FnOk prog 297 A297:=fo (L:=L0) (by kernel_rfl) func297 yh3 ya0
def E269:Env:=ev fun g=>ifEq g 297 (some A297) (none)
theorem z5y:FnsOk prog E269:=(oF A297_ok func297 (yc7 _ _))
def kq8:List Fm:=d::.box 100100 [.val i6,.val sI]::.box 100200 [.val i6,.own i6 100202 false]::.box 100300 [.val i6,.own i6 100302 false]::.cell (.val i6)::.cell (.val i6)::D 8 (.cell (.val i6)::.cell (.val i6)::d::d::d::.cell (.val i6)::.cell (.val i6)::D 51 [])
def kq9:List (Ex×List Fm):=[(.exit 2,[d,.box 100100 [.val i6,.val sI],.box 100200 [.val i6,.own i6 100202 false],.box 100300 [.val i6,.own i6 100302 false],d,.cell (.val i6),d,d,d,d,d,d,d,d,.cell (.val i6),.cell (.val i6),d,d,d,d,d,d,d,d,d,d,d,d,d,d,d,d,d,d,d,d,d,d,d,d,d,d,d,d,d,d,d,d,d,d,d,d,d,d,d,d,d,d,d,d,d,d,d,d,d,d,d,d,d,d,d,d])]
def yl8:((Int×LI×Unit)×(Int×LI×Unit)×(Int×LI×Unit)×Int×Int×Int×Int×Int×Int×Unit)→Option (((Int×LI×Unit)×(Int×LI×Unit)×(Int×LI×Unit)×Int×Int×Int×Int×Int×Int×Unit)⊕(((Int×LI×Unit)×(Int×LI×Unit)×(Int×LI×Unit)×Int×Int×Int×Unit))):=fun((v1_0,v1_1,_),(v2_0,v2_1,_),(v3_0,v3_1,_),v4,v5,v14,v15,v19,v20,_)=>
 bif (decide (v20<v19)) then
  if(v1_0=0) then
   none
  else
   if(((0:Int)≤(IntKind.wrap .i64 ((IntKind.wrap .i64 ((IntKind.wrap .i64 (Int.tdiv v4 v1_0))*v1_0))+v20)))∧((IntKind.wrap .i64 ((IntKind.wrap .i64 ((IntKind.wrap .i64 (Int.tdiv v4 v1_0))*v1_0))+v20))<(((List.length v1_1):Nat):Int))) then
    if(((0:Int)≤(IntKind.wrap .i64 ((IntKind.wrap .i64 (v20*v1_0))+v20)))∧((IntKind.wrap .i64 ((IntKind.wrap .i64 (v20*v1_0))+v20))<(((List.length v1_1):Nat):Int))) then
     Option.bind (y3i (List.getD v1_1 (Int.toNat (IntKind.wrap .i64 ((IntKind.wrap .i64 (v20*v1_0))+v20))) 0)) fun r0=>
      if(v1_0=0) then
       none
      else
       if(((0:Int)≤(IntKind.wrap .i64 ((IntKind.wrap .i64 (v20*v1_0))+(Int.tmod v4 v1_0))))∧((IntKind.wrap .i64 ((IntKind.wrap .i64 (v20*v1_0))+(Int.tmod v4 v1_0)))<(((List.length v1_1):Nat):Int))) then
        some (Sum.inl ((v1_0,v1_1,()),(v2_0,(List.take (List.length v2_1) (List.drop 0 v2_1)),()),(v3_0,(List.take (List.length v3_1) (List.drop 0 v3_1)),()),v4,(if((if((List.getD v1_1 (Int.toNat (IntKind.wrap .i64 ((IntKind.wrap .i64 (v20*v1_0))+(Int.tmod v4 v1_0)))) 0)>(if(r0>(List.getD v1_1 (Int.toNat (IntKind.wrap .i64 ((IntKind.wrap .i64 ((IntKind.wrap .i64 (Int.tdiv v4 v1_0))*v1_0))+v20))) 0)) then r0 else(List.getD v1_1 (Int.toNat (IntKind.wrap .i64 ((IntKind.wrap .i64 ((IntKind.wrap .i64 (Int.tdiv v4 v1_0))*v1_0))+v20))) 0))) then(List.getD v1_1 (Int.toNat (IntKind.wrap .i64 ((IntKind.wrap .i64 (v20*v1_0))+(Int.tmod v4 v1_0)))) 0) else(if(r0>(List.getD v1_1 (Int.toNat (IntKind.wrap .i64 ((IntKind.wrap .i64 ((IntKind.wrap .i64 (Int.tdiv v4 v1_0))*v1_0))+v20))) 0)) then r0 else(List.getD v1_1 (Int.toNat (IntKind.wrap .i64 ((IntKind.wrap .i64 ((IntKind.wrap .i64 (Int.tdiv v4 v1_0))*v1_0))+v20))) 0)))<v5) then(if((List.getD v1_1 (Int.toNat (IntKind.wrap .i64 ((IntKind.wrap .i64 (v20*v1_0))+(Int.tmod v4 v1_0)))) 0)>(if(r0>(List.getD v1_1 (Int.toNat (IntKind.wrap .i64 ((IntKind.wrap .i64 ((IntKind.wrap .i64 (Int.tdiv v4 v1_0))*v1_0))+v20))) 0)) then r0 else(List.getD v1_1 (Int.toNat (IntKind.wrap .i64 ((IntKind.wrap .i64 ((IntKind.wrap .i64 (Int.tdiv v4 v1_0))*v1_0))+v20))) 0))) then(List.getD v1_1 (Int.toNat (IntKind.wrap .i64 ((IntKind.wrap .i64 (v20*v1_0))+(Int.tmod v4 v1_0)))) 0) else(if(r0>(List.getD v1_1 (Int.toNat (IntKind.wrap .i64 ((IntKind.wrap .i64 ((IntKind.wrap .i64 (Int.tdiv v4 v1_0))*v1_0))+v20))) 0)) then r0 else(List.getD v1_1 (Int.toNat (IntKind.wrap .i64 ((IntKind.wrap .i64 ((IntKind.wrap .i64 (Int.tdiv v4 v1_0))*v1_0))+v20))) 0))) else v5),v14,v15,v19,(IntKind.wrap .i64 (v20+1)),()))
       else
        none
    else
     none
   else
    none
 else
  some (Sum.inr ((v1_0,v1_1,()),(v2_0,(List.take (List.length v2_1) (List.drop 0 v2_1)),()),(v3_0,(List.take (List.length v3_1) (List.drop 0 v3_1)),()),v5,v14,v15,()))
theorem kr0{L}(h:L 7=some ⟨72,kq8,kq9,yl8⟩):yb7 prog L (ya9 f269 7):=lo (L':=L0) (by kernel_rfl) z5y ya0 h
def L269_1:Nat→Option LoopD:=fun n=>ifEq n 7 (some ⟨72,kq8,kq9,yl8⟩) (L0 n)
def kr1:List Fm:=d::.box 100100 [.val i6,.val sI]::.box 100200 [.val i6,.own i6 100202 false]::.box 100300 [.val i6,.own i6 100302 false]::D 10 (.cell (.val i6)::.cell (.val i6)::D 56 [])
def kr2:List (Ex×List Fm):=[(.exit 0,[d,d,.box 100200 [.val i6,.own i6 100202 false],.box 100300 [.val i6,.own i6 100302 false],d,d,d,d,d,d,d,d,d,d,d,d,d,d,d,d,d,d,d,d,d,d,d,d,d,d,d,d,d,d,d,d,d,d,d,d,d,d,d,d,d,d,d,d,d,d,d,d,d,d,d,d,d,d,d,d,d,d,d,d,d,d,d,d,d,d,d,d])]
def yl9:((Int×LI×Unit)×(Int×LI×Unit)×(Int×LI×Unit)×Int×Int×Unit)→Option (((Int×LI×Unit)×(Int×LI×Unit)×(Int×LI×Unit)×Int×Int×Unit)⊕(((Int×LI×Unit)×(Int×LI×Unit)×Unit))):=fun((v1_0,v1_1,_),(v2_0,v2_1,_),(v3_0,v3_1,_),v14,v15,_)=>
 bif (decide (v15<v14)) then
  Option.bind (ya2 yl8 ((v1_0,v1_1,()),(v2_0,(List.take (List.length v2_1) (List.drop 0 v2_1)),()),(v3_0,(List.take (List.length v3_1) (List.drop 0 v3_1)),()),v15,3,v14,v15,v1_0,0,())) fun((r0,r1,_),(r2,r3,_),(r4,r5,_),r6,r7,r8,_)=>
   if(((0+(List.length r5))=(List.length r5))∧((((List.length r5)+(List.length (List.take 1 (List.drop 0 [r6]))))*8)≤140737488355328)) then
    some (Sum.inl ((r0,r1,()),(r2,(List.take (List.length r3) (List.drop 0 r3)),()),(r4,(List.take ((List.length r5)+(List.length (List.take 1 (List.drop 0 [r6])))) (List.drop 0 ((List.drop 0 r5)++(List.take 1 (List.drop 0 [r6]))))),()),r7,(IntKind.wrap .i64 (r8+1)),()))
   else
    none
 else
  some (Sum.inr ((v2_0,(List.take (List.length v2_1) (List.drop 0 v2_1)),()),(v3_0,(List.take (List.length v3_1) (List.drop 0 v3_1)),()),()))
theorem kr3{L}(h:L 3=some ⟨72,kr1,kr2,yl9⟩):yb7 prog L (ya9 f269 3):=lo (L':=L269_1) (by kernel_rfl) z5y (ya8 (kr0 rfl) ya0) h
def L269_2:Nat→Option LoopD:=fun n=>ifEq n 3 (some ⟨72,kr1,kr2,yl9⟩) (L269_1 n)
def y18:TM→Option (TM):=fun(a0_0,a0_1)=>
 Option.bind (ya2 yl9 ((a0_0,a0_1,()),((0:Int),[],()),(a0_0,[],()),(IntKind.wrap .i64 (a0_0*a0_0)),0,())) fun((r0,r1,_),(r2,r3,_),_)=>
  some (r2,(List.take (List.length r3) (List.drop 0 r3)))
def A269:FnA:=⟨[.v kM],true,[.pair i6 sI],fun x=>y18 x.1⟩
theorem zp3:FnOk prog 269 A269:=fo (L:=L269_2) (by kernel_rfl) func269 z5y (ya8 (kr3 rfl) ya0)
def z3l:Env:=ev fun g=>ifEq g 266 (some A266) (ifEq g 265 (some A265) (ifEq g 296 (some A296) (ifEq g 268 (some A268) (ifEq g 269 (some A269) (ifEq g 270 (some A270) (none))))))
theorem y6i:FnsOk prog z3l:=(oF zp0 func266 (oF zp1 func265 (oF zb7 func296 (oF zp2 func268 (oF zp3 func269 (oF zb8 func270 (yc7 _ _)))))))
def ze9:List Fm:=.box 100000 [.own kE 100001 true,.val .bool]::d::.cell (.val .str)::d::.box 100400 [.val i6,.val sI]::D 6 (.cell (.val sE)::.cell (.val i6)::.cell (.val i6)::D 48 (.cell (.val .bool)::.box 106300 [.val i6,.val sI,.val sI,.val sS]::d::d::d::.ali 100000 0::.cell (.own kE 106800 false)::D 12 (.cell (.own .str 108100 false)::.cell (.val i6)::.cell (.val i6)::D 108 [])))
def zf0:List (Ex×List Fm):=[(.ret,[d,d,d,d,d,d,d,d,d,d,d,d,d,d,d,d,d,d,d,d,d,d,d,d,d,d,d,d,d,d,d,d,d,d,d,d,d,d,d,d,d,d,d,d,d,d,d,d,d,d,d,d,d,d,d,d,d,d,d,d,d,d,.cell (.val .bool),.box 106300 [.val i6,.val sI,.val sI,.val sS],d,d,d,.box 106700 [.own kE 106701 true,.val .bool],.cell (.own kE 106800 false),d,d,d,d,d,d,d,d,d,d,d,d,.cell (.own .str 108100 false),.cell (.val i6),.cell (.val i6),d,d,d,d,d,d,d,d,d,d,d,d,d,d,d,d,d,d,d,d,d,d,d,d,d,d,d,d,d,d,d,d,d,d,d,d,d,d,d,d,d,d,d,d,d,d,d,d,d,d,d,d,d,d,d,d,d,d,d,d,d,d,d,d,d,d,d,d,d,d,d,d,d,d,d,d,d,d,d,d,d,d,d,d,d,d,d,d,d,d,d,d,d,d,d,d,d,d,d,d,d,d,d,d,d,d,d,d]),(.exit 0,[.box 100000 [.own kE 100001 true,.val .bool],d,.cell (.val .str),d,.box 100400 [.val i6,.val sI],d,d,d,d,d,d,d,d,d,d,d,d,d,d,d,d,d,d,d,d,d,d,d,d,d,d,d,d,d,d,d,d,d,d,d,d,d,d,d,d,d,d,d,d,d,d,d,d,d,d,d,d,d,d,d,d,d,.cell (.val .bool),.box 106300 [.val i6,.val sI,.val sI,.val sS],d,d,d,.ali 100000 0,.cell (.own kE 106800 false),d,d,d,d,d,d,d,d,d,d,d,d,.cell (.own .str 108100 false),.cell (.val i6),.cell (.val i6),d,d,d,d,d,d,d,d,d,d,d,d,d,d,d,d,d,d,d,d,d,d,d,d,d,d,d,d,d,d,d,d,d,d,d,d,d,d,d,d,d,d,d,d,d,d,d,d,d,d,d,d,d,d,d,d,d,d,d,d,d,d,d,d,d,d,d,d,d,d,d,d,d,d,d,d,d,d,d,d,d,d,d,d,d,d,d,d,d,d,d,d,d,d,d,d,d,d,d,d,d,d,d,d,d,d,d,d])]
def yf2:((LE×Bool×Unit)×ByteArray×(Int×LI×Unit)×LE×Int×Int×Bool×(Int×LI×LI×LS×Unit)×LE×(List ByteArray)×Int×Int×Unit)→Option (((LE×Bool×Unit)×ByteArray×(Int×LI×Unit)×LE×Int×Int×Bool×(Int×LI×LI×LS×Unit)×LE×(List ByteArray)×Int×Int×Unit)⊕((Bool×(Int×LI×LI×LS×Unit)×(LE×Bool×Unit)×LE×(List ByteArray)×Int×Int×Unit)⊕((LE×Bool×Unit)×ByteArray×(Int×LI×Unit)×Bool×(Int×LI×LI×LS×Unit)×LE×(List ByteArray)×Int×Int×Unit))):=fun((v0_0,v0_1,_),v2,(v4_0,v4_1,_),v11,v12,v13,v62,(v63_0,v63_1,v63_2,v63_3,_),v68,v81,v82,v83,_)=>
 bif (decide (v13<v12)) then
  if(((0:Int)≤v13)∧(v13<(((List.length v11):Nat):Int))) then
   Option.bind (yv3 (List.getD v11 (Int.toNat v13) (((0:Int),[]),⟨Array.empty⟩)).1.2 v4_1) fun r0=>
    bif r0 then
     if((0+(List.length v0_0))=(List.length v0_0)) then
      some (Sum.inr (Sum.inl (v62,(v63_0,v63_1,v63_2,v63_3,()),((List.drop 0 v0_0),v0_1,()),(List.take (List.length v68) (List.drop 0 v68)),(List.take (List.length v81) (List.drop 0 v81)),v82,v83,())))
     else
      none
    else
     if((0+(List.length v0_0))=(List.length v0_0)) then
      some (Sum.inl (((List.drop 0 v0_0),v0_1,()),v2,(v4_0,v4_1,()),v11,v12,(IntKind.wrap .i64 (v13+1)),v62,(v63_0,v63_1,v63_2,v63_3,()),(List.take (List.length v68) (List.drop 0 v68)),(List.take (List.length v81) (List.drop 0 v81)),v82,v83,()))
     else
      none
  else
   none
 else
  if((0+(List.length v0_0))=(List.length v0_0)) then
   some (Sum.inr (Sum.inr (((List.drop 0 v0_0),v0_1,()),v2,(v4_0,v4_1,()),v62,(v63_0,v63_1,v63_2,v63_3,()),(List.take (List.length v68) (List.drop 0 v68)),(List.take (List.length v81) (List.drop 0 v81)),v82,v83,())))
  else
   none
theorem zt7{L}(h:L 2=some ⟨61,ze9,zf0,yf2⟩):yb7 prog L (ya9 f267 2):=lo (L':=L0) (by kernel_rfl) y6i ya0 h
def y8f:Nat→Option LoopD:=fun n=>ifEq n 2 (some ⟨61,ze9,zf0,yf2⟩) (L0 n)
def zp4:List Fm:=.box 100000 [.own kE 100001 true,.val .bool]::.cell (.val kM)::.cell (.val .str)::D 59 (.cell (.val .bool)::.box 106300 [.val i6,.val sI,.val sI,.val sS]::d::d::d::.ali 100000 0::.cell (.own kE 106800 false)::D 12 (.cell (.own .str 108100 false)::.cell (.val i6)::.cell (.val i6)::D 108 []))
def zp5:List Fm:=d::.cell (.val .bool)::.box 100200 [.val i6,.val sI,.val sI,.val sS]::d::d::d::.box 100600 [.own kE 100601 true,.val .bool]::.cell (.own kE 100700 false)::D 12 (.cell (.own .str 102000 false)::.cell (.val i6)::.cell (.val i6)::D 108 [])
def ym2:((LE×Bool×Unit)×TM×ByteArray×Bool×(Int×LI×LI×LS×Unit)×LE×(List ByteArray)×Int×Int×Unit)→Option (Bool×(Int×LI×LI×LS×Unit)×(LE×Bool×Unit)×LE×(List ByteArray)×Int×Int×Unit):=fun((v0_0,v0_1,_),(v1_0,v1_1),v2,v62,(v63_0,v63_1,v63_2,v63_3,_),v68,v81,v82,v83,_)=>
 if((0+(List.length v0_0))=(List.length v0_0)) then
  Option.bind (ya2 yf2 (((List.drop 0 v0_0),v0_1,()),v2,(v1_0,v1_1,()),(List.take (List.length v0_0) (List.drop 0 v0_0)),(((List.length v0_0):Nat):Int),0,v62,(v63_0,v63_1,v63_2,v63_3,()),(List.take (List.length v68) (List.drop 0 v68)),(List.take (List.length v81) (List.drop 0 v81)),v82,v83,())) fun r0=>
   (match r0 with
   |.inl (d1,(d2,d3,d4,d5,_),(d6,d7,_),d8,d9,d10,d11,_)=>
     if((0+(List.length d6))=(List.length d6)) then
      some (d1,(d2,d3,d4,d5,()),((List.drop 0 d6),d7,()),(List.take (List.length d8) (List.drop 0 d8)),(List.take (List.length d9) (List.drop 0 d9)),d10,d11,())
     else
      none
   |.inr ((d12,d13,_),d14,(d15,d16,_),d17,(d18,d19,d20,d21,_),d22,d23,d24,d25,_)=>
     bif d13 then
      if((0+(List.length d12))=(List.length d12)) then
       some (d17,(d18,d19,d20,d21,()),((List.drop 0 d12),true,()),(List.take (List.length d22) (List.drop 0 d22)),(List.take (List.length d23) (List.drop 0 d23)),d24,d25,())
      else
       none
     else
      bif (decide ((((List.length d12):Nat):Int)≥120)) then
       if((0+(List.length d12))=(List.length d12)) then
        some (d17,(d18,d19,d20,d21,()),((List.drop 0 d12),true,()),(List.take (List.length d22) (List.drop 0 d22)),(List.take (List.length d23) (List.drop 0 d23)),d24,d25,())
       else
        none
      else
       bif (!(decide ((((ByteArray.size d14):Nat):Int)>120))) then
        if(((0+(List.length d12))=(List.length d12))∧((((List.length d12)+(List.length (List.take 1 (List.drop 0 [((d15,d16),d14)]))))*48)≤140737488355328)) then
         if((0+((List.length d12)+(List.length (List.take 1 (List.drop 0 [((d15,d16),d14)])))))=(List.length ((List.drop 0 d12)++(List.take 1 (List.drop 0 [((d15,d16),d14)]))))) then
          some (d17,(d18,d19,d20,d21,()),((List.drop 0 ((List.drop 0 d12)++(List.take 1 (List.drop 0 [((d15,d16),d14)])))),(decide ((((ByteArray.size d14):Nat):Int)>120)),()),(List.take (List.length d22) (List.drop 0 d22)),(List.take (List.length d23) (List.drop 0 d23)),d24,d25,())
         else
          none
        else
         none
       else
        if((0+(List.length d12))=(List.length d12)) then
         some (d17,(d18,d19,d20,d21,()),((List.drop 0 d12),(decide ((((ByteArray.size d14):Nat):Int)>120)),()),(List.take (List.length d22) (List.drop 0 d22)),(List.take (List.length d23) (List.drop 0 d23)),d24,d25,())
        else
         none)
 else
  none
theorem y5c:y1q f267.ntmps 131 39 z3l y8f f267.results.toList (yc9 f267) zp4 zp5=ym2:=by kernel_rfl
def z3m:CallD:=⟨f267.ntmps,zp4,131,zp5,ym2,0⟩
theorem z3n:y5u prog 39 267 z3m:=y0a (yb9 yg1) y6i (L:=y8f) func267 (by kernel_rfl) (c:=yc9 f267) (by kernel_rfl) (yf0 (L:=y8f) (yb9 yg1) y6i mixed (c:=yc9 f267) (bs:=[ya9 f267 2]) (by kernel_rfl) (ya8 (zt7 rfl) ya0) (by kernel_rfl)) (by kernel_rfl) (by kernel_rfl) y5c
def z3o:Env:=ev fun g=>ifEq g 266 (some A266) (ifEq g 265 (some A265) (ifEq g 296 (some A296) (ifEq g 268 (some A268) (ifEq g 269 (some A269) (ifEq g 270 (some A270) (none))))))
theorem y6j:FnsOk prog z3o:=(oF zp0 func266 (oF zp1 func265 (oF zb7 func296 (oF zp2 func268 (oF zp3 func269 (oF zb8 func270 (yc7 _ _)))))))
def zf1:List Fm:=.box 100000 [.own kE 100001 true,.val .bool]::d::.cell (.val .str)::d::.box 100400 [.val i6,.own i6 100402 false]::D 6 (.cell (.val sE)::.cell (.val i6)::.cell (.val i6)::D 48 (.cell (.val .bool)::D 4 (.ali 100000 0::.cell (.val sE)::d::d::d::.cell (.val i6)::.box 107300 [.val i6,.val sI,.val .str]::D 118 [])))
def zf2:List (Ex×List Fm):=[(.ret,[d,d,d,d,d,d,d,d,d,d,d,d,d,d,d,d,d,d,d,d,d,d,d,d,d,d,d,d,d,d,d,d,d,d,d,d,d,d,d,d,d,d,d,d,d,d,d,d,d,d,d,d,d,d,d,d,d,d,d,d,d,d,.cell (.val .bool),d,d,d,d,.box 106700 [.own kE 106701 true,.val .bool],.cell (.val sE),d,d,d,.cell (.val i6),.box 107300 [.val i6,.val sI,.val .str],d,d,d,d,d,d,d,d,d,d,d,d,d,d,d,d,d,d,d,d,d,d,d,d,d,d,d,d,d,d,d,d,d,d,d,d,d,d,d,d,d,d,d,d,d,d,d,d,d,d,d,d,d,d,d,d,d,d,d,d,d,d,d,d,d,d,d,d,d,d,d,d,d,d,d,d,d,d,d,d,d,d,d,d,d,d,d,d,d,d,d,d,d,d,d,d,d,d,d,d,d,d,d,d,d,d,d,d,d,d,d,d,d,d,d,d,d,d]),(.exit 0,[.box 100000 [.own kE 100001 true,.val .bool],d,.cell (.val .str),d,.box 100400 [.val i6,.own i6 100402 false],d,d,d,d,d,d,d,d,d,d,d,d,d,d,d,d,d,d,d,d,d,d,d,d,d,d,d,d,d,d,d,d,d,d,d,d,d,d,d,d,d,d,d,d,d,d,d,d,d,d,d,d,d,d,d,d,d,.cell (.val .bool),d,d,d,d,.ali 100000 0,.cell (.val sE),d,d,d,.cell (.val i6),.box 107300 [.val i6,.val sI,.val .str],d,d,d,d,d,d,d,d,d,d,d,d,d,d,d,d,d,d,d,d,d,d,d,d,d,d,d,d,d,d,d,d,d,d,d,d,d,d,d,d,d,d,d,d,d,d,d,d,d,d,d,d,d,d,d,d,d,d,d,d,d,d,d,d,d,d,d,d,d,d,d,d,d,d,d,d,d,d,d,d,d,d,d,d,d,d,d,d,d,d,d,d,d,d,d,d,d,d,d,d,d,d,d,d,d,d,d,d,d,d,d,d,d,d,d,d,d,d])]
def yf3:((LE×Bool×Unit)×ByteArray×(Int×LI×Unit)×LE×Int×Int×Bool×LE×Int×(Int×LI×ByteArray×Unit)×Unit)→Option (((LE×Bool×Unit)×ByteArray×(Int×LI×Unit)×LE×Int×Int×Bool×LE×Int×(Int×LI×ByteArray×Unit)×Unit)⊕((Bool×(LE×Bool×Unit)×LE×Int×(Int×LI×ByteArray×Unit)×Unit)⊕((LE×Bool×Unit)×ByteArray×(Int×LI×Unit)×Bool×LE×Int×(Int×LI×ByteArray×Unit)×Unit))):=fun((v0_0,v0_1,_),v2,(v4_0,v4_1,_),v11,v12,v13,v62,v68,v72,(v73_0,v73_1,v73_2,_),_)=>
 bif (decide (v13<v12)) then
  if(((0:Int)≤v13)∧(v13<(((List.length v11):Nat):Int))) then
   Option.bind (yv3 (List.getD v11 (Int.toNat v13) (((0:Int),[]),⟨Array.empty⟩)).1.2 (List.take (List.length v4_1) (List.drop 0 v4_1))) fun r0=>
    bif r0 then
     if((0+(List.length v0_0))=(List.length v0_0)) then
      some (Sum.inr (Sum.inl (v62,((List.drop 0 v0_0),v0_1,()),v68,v72,(v73_0,v73_1,v73_2,()),())))
     else
      none
    else
     if((0+(List.length v0_0))=(List.length v0_0)) then
      some (Sum.inl (((List.drop 0 v0_0),v0_1,()),v2,(v4_0,(List.take (List.length v4_1) (List.drop 0 v4_1)),()),v11,v12,(IntKind.wrap .i64 (v13+1)),v62,v68,v72,(v73_0,v73_1,v73_2,()),()))
     else
      none
  else
   none
 else
  if((0+(List.length v0_0))=(List.length v0_0)) then
   some (Sum.inr (Sum.inr (((List.drop 0 v0_0),v0_1,()),v2,(v4_0,(List.take (List.length v4_1) (List.drop 0 v4_1)),()),v62,v68,v72,(v73_0,v73_1,v73_2,()),())))
  else
   none
theorem zt8{L}(h:L 2=some ⟨61,zf1,zf2,yf3⟩):yb7 prog L (ya9 f267 2):=lo (L':=L0) (by kernel_rfl) y6j ya0 h
def y8g:Nat→Option LoopD:=fun n=>ifEq n 2 (some ⟨61,zf1,zf2,yf3⟩) (L0 n)
def zp6:List Fm:=.box 100000 [.own kE 100001 true,.val .bool]::.agg [.val i6,.own i6 100102 false]::.cell (.val .str)::D 59 (.cell (.val .bool)::D 4 (.ali 100000 0::.cell (.val sE)::d::d::d::.cell (.val i6)::.box 107300 [.val i6,.val sI,.val .str]::D 118 []))
def zp7:List Fm:=d::.cell (.val .bool)::D 4 (.box 100600 [.own kE 100601 true,.val .bool]::.cell (.val sE)::d::d::d::.cell (.val i6)::.box 101200 [.val i6,.val sI,.val .str]::D 118 [])
def yj1:((LE×Bool×Unit)×(Int×LI×Unit)×ByteArray×Bool×LE×Int×(Int×LI×ByteArray×Unit)×Unit)→Option (Bool×(LE×Bool×Unit)×LE×Int×(Int×LI×ByteArray×Unit)×Unit):=fun((v0_0,v0_1,_),(v1_0,v1_1,_),v2,v62,v68,v72,(v73_0,v73_1,v73_2,_),_)=>
 if((0+(List.length v0_0))=(List.length v0_0)) then
  Option.bind (ya2 yf3 (((List.drop 0 v0_0),v0_1,()),v2,(v1_0,(List.take (List.length v1_1) (List.drop 0 v1_1)),()),(List.take (List.length v0_0) (List.drop 0 v0_0)),(((List.length v0_0):Nat):Int),0,v62,v68,v72,(v73_0,v73_1,v73_2,()),())) fun r0=>
   (match r0 with
   |.inl (d1,(d2,d3,_),d4,d5,(d6,d7,d8,_),_)=>
     if((0+(List.length d2))=(List.length d2)) then
      some (d1,((List.drop 0 d2),d3,()),d4,d5,(d6,d7,d8,()),())
     else
      none
   |.inr ((d9,d10,_),d11,(d12,d13,_),d14,d15,d16,(d17,d18,d19,_),_)=>
     bif d10 then
      if((0+(List.length d9))=(List.length d9)) then
       some (d14,((List.drop 0 d9),true,()),d15,d16,(d17,d18,d19,()),())
      else
       none
     else
      bif (decide ((((List.length d9):Nat):Int)≥120)) then
       if((0+(List.length d9))=(List.length d9)) then
        some (d14,((List.drop 0 d9),true,()),d15,d16,(d17,d18,d19,()),())
       else
        none
      else
       bif (!(decide ((((ByteArray.size d11):Nat):Int)>120))) then
        if(((0+(List.length d9))=(List.length d9))∧((((List.length d9)+(List.length (List.take 1 (List.drop 0 [((d12,(List.take (List.length d13) (List.drop 0 d13))),d11)]))))*48)≤140737488355328)) then
         if((0+((List.length d9)+(List.length (List.take 1 (List.drop 0 [((d12,(List.take (List.length d13) (List.drop 0 d13))),d11)])))))=(List.length ((List.drop 0 d9)++(List.take 1 (List.drop 0 [((d12,(List.take (List.length d13) (List.drop 0 d13))),d11)]))))) then
          some (d14,((List.drop 0 ((List.drop 0 d9)++(List.take 1 (List.drop 0 [((d12,(List.take (List.length d13) (List.drop 0 d13))),d11)])))),(decide ((((ByteArray.size d11):Nat):Int)>120)),()),d15,d16,(d17,d18,d19,()),())
         else
          none
        else
         none
       else
        if((0+(List.length d9))=(List.length d9)) then
         some (d14,((List.drop 0 d9),(decide ((((ByteArray.size d11):Nat):Int)>120)),()),d15,d16,(d17,d18,d19,()),())
        else
         none)
 else
  none
theorem y5d:y1q f267.ntmps 131 78 z3o y8g f267.results.toList (yc9 f267) zp6 zp7=yj1:=by kernel_rfl
def z3p:CallD:=⟨f267.ntmps,zp6,131,zp7,yj1,0⟩
theorem z3q:y5u prog 78 267 z3p:=y0a (yb9 yg1) y6j (L:=y8g) func267 (by kernel_rfl) (c:=yc9 f267) (by kernel_rfl) (yf0 (L:=y8g) (yb9 yg1) y6j mixed (c:=yc9 f267) (bs:=[ya9 f267 2]) (by kernel_rfl) (ya8 (zt8 rfl) ya0) (by kernel_rfl)) (by kernel_rfl) (by kernel_rfl) y5d
def zx8:Env:=ev fun g=>ifEq g 266 (some A266) (ifEq g 265 (some A265) (ifEq g 296 (some A296) (ifEq g 268 (some A268) (ifEq g 269 (some A269) (ifEq g 270 (some A270) (none))))))
theorem y5e:FnsOk prog zx8:=(oF zp0 func266 (oF zp1 func265 (oF zb7 func296 (oF zp2 func268 (oF zp3 func269 (oF zb8 func270 (yc7 _ _)))))))
def y9e:List Fm:=.box 100000 [.own kE 100001 true,.val .bool]::d::.cell (.val .str)::d::.box 100400 [.val i6,.own i6 100402 false]::D 6 (.cell (.val sE)::.cell (.val i6)::.cell (.val i6)::D 48 (.cell (.val .bool)::D 4 (.ali 100000 0::.cell (.val sE)::d::d::d::.cell (.val i6)::.box 107300 [.val i6,.val sI,.val .str]::d::d::.box 107600 [.val i6,.val sI,.val .str]::D 74 (.cell (.val sE)::.cell (.val i6)::.cell (.val i6)::D 38 []))))
def y9f:List (Ex×List Fm):=[(.ret,[d,d,d,d,d,d,d,d,d,d,d,d,d,d,d,d,d,d,d,d,d,d,d,d,d,d,d,d,d,d,d,d,d,d,d,d,d,d,d,d,d,d,d,d,d,d,d,d,d,d,d,d,d,d,d,d,d,d,d,d,d,d,.cell (.val .bool),d,d,d,d,.box 106700 [.own kE 106701 true,.val .bool],.cell (.val sE),d,d,d,.cell (.val i6),.box 107300 [.val i6,.val sI,.val .str],d,d,.box 107600 [.val i6,.val sI,.val .str],d,d,d,d,d,d,d,d,d,d,d,d,d,d,d,d,d,d,d,d,d,d,d,d,d,d,d,d,d,d,d,d,d,d,d,d,d,d,d,d,d,d,d,d,d,d,d,d,d,d,d,d,d,d,d,d,d,d,d,d,d,d,d,d,d,d,d,d,d,d,d,d,d,d,.cell (.val sE),.cell (.val i6),.cell (.val i6),d,d,d,d,d,d,d,d,d,d,d,d,d,d,d,d,d,d,d,d,d,d,d,d,d,d,d,d,d,d,d,d,d,d,d,d,d,d]),(.exit 0,[.box 100000 [.own kE 100001 true,.val .bool],d,.cell (.val .str),d,.box 100400 [.val i6,.own i6 100402 false],d,d,d,d,d,d,d,d,d,d,d,d,d,d,d,d,d,d,d,d,d,d,d,d,d,d,d,d,d,d,d,d,d,d,d,d,d,d,d,d,d,d,d,d,d,d,d,d,d,d,d,d,d,d,d,d,d,.cell (.val .bool),d,d,d,d,.ali 100000 0,.cell (.val sE),d,d,d,.cell (.val i6),.box 107300 [.val i6,.val sI,.val .str],d,d,.box 107600 [.val i6,.val sI,.val .str],d,d,d,d,d,d,d,d,d,d,d,d,d,d,d,d,d,d,d,d,d,d,d,d,d,d,d,d,d,d,d,d,d,d,d,d,d,d,d,d,d,d,d,d,d,d,d,d,d,d,d,d,d,d,d,d,d,d,d,d,d,d,d,d,d,d,d,d,d,d,d,d,d,d,.cell (.val sE),.cell (.val i6),.cell (.val i6),d,d,d,d,d,d,d,d,d,d,d,d,d,d,d,d,d,d,d,d,d,d,d,d,d,d,d,d,d,d,d,d,d,d,d,d,d,d])]
def ye6:((LE×Bool×Unit)×ByteArray×(Int×LI×Unit)×LE×Int×Int×Bool×LE×Int×(Int×LI×ByteArray×Unit)×(Int×LI×ByteArray×Unit)×LE×Int×Int×Unit)→Option (((LE×Bool×Unit)×ByteArray×(Int×LI×Unit)×LE×Int×Int×Bool×LE×Int×(Int×LI×ByteArray×Unit)×(Int×LI×ByteArray×Unit)×LE×Int×Int×Unit)⊕((Bool×(LE×Bool×Unit)×LE×Int×(Int×LI×ByteArray×Unit)×(Int×LI×ByteArray×Unit)×LE×Int×Int×Unit)⊕((LE×Bool×Unit)×ByteArray×(Int×LI×Unit)×Bool×LE×Int×(Int×LI×ByteArray×Unit)×(Int×LI×ByteArray×Unit)×LE×Int×Int×Unit))):=fun((v0_0,v0_1,_),v2,(v4_0,v4_1,_),v11,v12,v13,v62,v68,v72,(v73_0,v73_1,v73_2,_),(v76_0,v76_1,v76_2,_),v151,v152,v153,_)=>
 bif (decide (v13<v12)) then
  if(((0:Int)≤v13)∧(v13<(((List.length v11):Nat):Int))) then
   Option.bind (yv3 (List.getD v11 (Int.toNat v13) (((0:Int),[]),⟨Array.empty⟩)).1.2 (List.take (List.length v4_1) (List.drop 0 v4_1))) fun r0=>
    bif r0 then
     if((0+(List.length v0_0))=(List.length v0_0)) then
      some (Sum.inr (Sum.inl (v62,((List.drop 0 v0_0),v0_1,()),v68,v72,(v73_0,v73_1,v73_2,()),(v76_0,v76_1,v76_2,()),v151,v152,v153,())))
     else
      none
    else
     if((0+(List.length v0_0))=(List.length v0_0)) then
      some (Sum.inl (((List.drop 0 v0_0),v0_1,()),v2,(v4_0,(List.take (List.length v4_1) (List.drop 0 v4_1)),()),v11,v12,(IntKind.wrap .i64 (v13+1)),v62,v68,v72,(v73_0,v73_1,v73_2,()),(v76_0,v76_1,v76_2,()),v151,v152,v153,()))
     else
      none
  else
   none
 else
  if((0+(List.length v0_0))=(List.length v0_0)) then
   some (Sum.inr (Sum.inr (((List.drop 0 v0_0),v0_1,()),v2,(v4_0,(List.take (List.length v4_1) (List.drop 0 v4_1)),()),v62,v68,v72,(v73_0,v73_1,v73_2,()),(v76_0,v76_1,v76_2,()),v151,v152,v153,())))
  else
   none
theorem zp8{L}(h:L 2=some ⟨61,y9e,y9f,ye6⟩):yb7 prog L (ya9 f267 2):=lo (L':=L0) (by kernel_rfl) y5e ya0 h
def y6k:Nat→Option LoopD:=fun n=>ifEq n 2 (some ⟨61,y9e,y9f,ye6⟩) (L0 n)
def zf3:List Fm:=.box 100000 [.own kE 100001 true,.val .bool]::.agg [.val i6,.own i6 100102 false]::.cell (.val .str)::D 59 (.cell (.val .bool)::D 4 (.ali 100000 0::.cell (.val sE)::d::d::d::.cell (.val i6)::.box 107300 [.val i6,.val sI,.val .str]::d::d::.box 107600 [.val i6,.val sI,.val .str]::D 74 (.cell (.val sE)::.cell (.val i6)::.cell (.val i6)::D 38 [])))
def zf4:List Fm:=d::.cell (.val .bool)::D 4 (.box 100600 [.own kE 100601 true,.val .bool]::.cell (.val sE)::d::d::d::.cell (.val i6)::.box 101200 [.val i6,.val sI,.val .str]::d::d::.box 101500 [.val i6,.val sI,.val .str]::D 74 (.cell (.val sE)::.cell (.val i6)::.cell (.val i6)::D 38 []))
def yl0:((LE×Bool×Unit)×(Int×LI×Unit)×ByteArray×Bool×LE×Int×(Int×LI×ByteArray×Unit)×(Int×LI×ByteArray×Unit)×LE×Int×Int×Unit)→Option (Bool×(LE×Bool×Unit)×LE×Int×(Int×LI×ByteArray×Unit)×(Int×LI×ByteArray×Unit)×LE×Int×Int×Unit):=fun((v0_0,v0_1,_),(v1_0,v1_1,_),v2,v62,v68,v72,(v73_0,v73_1,v73_2,_),(v76_0,v76_1,v76_2,_),v151,v152,v153,_)=>
 if((0+(List.length v0_0))=(List.length v0_0)) then
  Option.bind (ya2 ye6 (((List.drop 0 v0_0),v0_1,()),v2,(v1_0,(List.take (List.length v1_1) (List.drop 0 v1_1)),()),(List.take (List.length v0_0) (List.drop 0 v0_0)),(((List.length v0_0):Nat):Int),0,v62,v68,v72,(v73_0,v73_1,v73_2,()),(v76_0,v76_1,v76_2,()),v151,v152,v153,())) fun r0=>
   (match r0 with
   |.inl (d1,(d2,d3,_),d4,d5,(d6,d7,d8,_),(d9,d10,d11,_),d12,d13,d14,_)=>
     if((0+(List.length d2))=(List.length d2)) then
      some (d1,((List.drop 0 d2),d3,()),d4,d5,(d6,d7,d8,()),(d9,d10,d11,()),d12,d13,d14,())
     else
      none
   |.inr ((d15,d16,_),d17,(d18,d19,_),d20,d21,d22,(d23,d24,d25,_),(d26,d27,d28,_),d29,d30,d31,_)=>
     bif d16 then
      if((0+(List.length d15))=(List.length d15)) then
       some (d20,((List.drop 0 d15),true,()),d21,d22,(d23,d24,d25,()),(d26,d27,d28,()),d29,d30,d31,())
      else
       none
     else
      bif (decide ((((List.length d15):Nat):Int)≥120)) then
       if((0+(List.length d15))=(List.length d15)) then
        some (d20,((List.drop 0 d15),true,()),d21,d22,(d23,d24,d25,()),(d26,d27,d28,()),d29,d30,d31,())
       else
        none
      else
       bif (!(decide ((((ByteArray.size d17):Nat):Int)>120))) then
        if(((0+(List.length d15))=(List.length d15))∧((((List.length d15)+(List.length (List.take 1 (List.drop 0 [((d18,(List.take (List.length d19) (List.drop 0 d19))),d17)]))))*48)≤140737488355328)) then
         if((0+((List.length d15)+(List.length (List.take 1 (List.drop 0 [((d18,(List.take (List.length d19) (List.drop 0 d19))),d17)])))))=(List.length ((List.drop 0 d15)++(List.take 1 (List.drop 0 [((d18,(List.take (List.length d19) (List.drop 0 d19))),d17)]))))) then
          some (d20,((List.drop 0 ((List.drop 0 d15)++(List.take 1 (List.drop 0 [((d18,(List.take (List.length d19) (List.drop 0 d19))),d17)])))),(decide ((((ByteArray.size d17):Nat):Int)>120)),()),d21,d22,(d23,d24,d25,()),(d26,d27,d28,()),d29,d30,d31,())
         else
          none
        else
         none
       else
        if((0+(List.length d15))=(List.length d15)) then
         some (d20,((List.drop 0 d15),(decide ((((ByteArray.size d17):Nat):Int)>120)),()),d21,d22,(d23,d24,d25,()),(d26,d27,d28,()),d29,d30,d31,())
        else
         none)
 else
  none
theorem y4l:y1q f267.ntmps 131 107 zx8 y6k f267.results.toList (yc9 f267) zf3 zf4=yl0:=by kernel_rfl
def zx9:CallD:=⟨f267.ntmps,zf3,131,zf4,yl0,0⟩
theorem z04:y5u prog 107 267 zx9:=y0a (yb9 yg1) y5e (L:=y6k) func267 (by kernel_rfl) (c:=yc9 f267) (by kernel_rfl) (yf0 (L:=y6k) (yb9 yg1) y5e mixed (c:=yc9 f267) (bs:=[ya9 f267 2]) (by kernel_rfl) (ya8 (zp8 rfl) ya0) (by kernel_rfl)) (by kernel_rfl) (by kernel_rfl) y4l
def zy0:Env:=ev fun g=>ifEq g 266 (some A266) (ifEq g 265 (some A265) (ifEq g 296 (some A296) (ifEq g 268 (some A268) (ifEq g 269 (some A269) (ifEq g 270 (some A270) (none))))))
theorem y5f:FnsOk prog zy0:=(oF zp0 func266 (oF zp1 func265 (oF zb7 func296 (oF zp2 func268 (oF zp3 func269 (oF zb8 func270 (yc7 _ _)))))))
def y9g:List Fm:=.box 100000 [.own kE 100001 true,.val .bool]::d::.cell (.val .str)::d::.box 100400 [.val i6,.own i6 100402 false]::D 6 (.cell (.val sE)::.cell (.val i6)::.cell (.val i6)::D 48 (.cell (.val .bool)::D 4 (.ali 100000 0::.cell (.val sE)::d::d::d::.cell (.val i6)::.box 107300 [.val i6,.val sI,.val .str]::D 77 (.cell (.val sE)::.cell (.val i6)::.cell (.val i6)::D 38 []))))
def y9h:List (Ex×List Fm):=[(.ret,[d,d,d,d,d,d,d,d,d,d,d,d,d,d,d,d,d,d,d,d,d,d,d,d,d,d,d,d,d,d,d,d,d,d,d,d,d,d,d,d,d,d,d,d,d,d,d,d,d,d,d,d,d,d,d,d,d,d,d,d,d,d,.cell (.val .bool),d,d,d,d,.box 106700 [.own kE 106701 true,.val .bool],.cell (.val sE),d,d,d,.cell (.val i6),.box 107300 [.val i6,.val sI,.val .str],d,d,d,d,d,d,d,d,d,d,d,d,d,d,d,d,d,d,d,d,d,d,d,d,d,d,d,d,d,d,d,d,d,d,d,d,d,d,d,d,d,d,d,d,d,d,d,d,d,d,d,d,d,d,d,d,d,d,d,d,d,d,d,d,d,d,d,d,d,d,d,d,d,d,d,d,d,.cell (.val sE),.cell (.val i6),.cell (.val i6),d,d,d,d,d,d,d,d,d,d,d,d,d,d,d,d,d,d,d,d,d,d,d,d,d,d,d,d,d,d,d,d,d,d,d,d,d,d]),(.exit 0,[.box 100000 [.own kE 100001 true,.val .bool],d,.cell (.val .str),d,.box 100400 [.val i6,.own i6 100402 false],d,d,d,d,d,d,d,d,d,d,d,d,d,d,d,d,d,d,d,d,d,d,d,d,d,d,d,d,d,d,d,d,d,d,d,d,d,d,d,d,d,d,d,d,d,d,d,d,d,d,d,d,d,d,d,d,d,.cell (.val .bool),d,d,d,d,.ali 100000 0,.cell (.val sE),d,d,d,.cell (.val i6),.box 107300 [.val i6,.val sI,.val .str],d,d,d,d,d,d,d,d,d,d,d,d,d,d,d,d,d,d,d,d,d,d,d,d,d,d,d,d,d,d,d,d,d,d,d,d,d,d,d,d,d,d,d,d,d,d,d,d,d,d,d,d,d,d,d,d,d,d,d,d,d,d,d,d,d,d,d,d,d,d,d,d,d,d,d,d,d,.cell (.val sE),.cell (.val i6),.cell (.val i6),d,d,d,d,d,d,d,d,d,d,d,d,d,d,d,d,d,d,d,d,d,d,d,d,d,d,d,d,d,d,d,d,d,d,d,d,d,d])]
def ye7:((LE×Bool×Unit)×ByteArray×(Int×LI×Unit)×LE×Int×Int×Bool×LE×Int×(Int×LI×ByteArray×Unit)×LE×Int×Int×Unit)→Option (((LE×Bool×Unit)×ByteArray×(Int×LI×Unit)×LE×Int×Int×Bool×LE×Int×(Int×LI×ByteArray×Unit)×LE×Int×Int×Unit)⊕((Bool×(LE×Bool×Unit)×LE×Int×(Int×LI×ByteArray×Unit)×LE×Int×Int×Unit)⊕((LE×Bool×Unit)×ByteArray×(Int×LI×Unit)×Bool×LE×Int×(Int×LI×ByteArray×Unit)×LE×Int×Int×Unit))):=fun((v0_0,v0_1,_),v2,(v4_0,v4_1,_),v11,v12,v13,v62,v68,v72,(v73_0,v73_1,v73_2,_),v151,v152,v153,_)=>
 bif (decide (v13<v12)) then
  if(((0:Int)≤v13)∧(v13<(((List.length v11):Nat):Int))) then
   Option.bind (yv3 (List.getD v11 (Int.toNat v13) (((0:Int),[]),⟨Array.empty⟩)).1.2 (List.take (List.length v4_1) (List.drop 0 v4_1))) fun r0=>
    bif r0 then
     if((0+(List.length v0_0))=(List.length v0_0)) then
      some (Sum.inr (Sum.inl (v62,((List.drop 0 v0_0),v0_1,()),v68,v72,(v73_0,v73_1,v73_2,()),v151,v152,v153,())))
     else
      none
    else
     if((0+(List.length v0_0))=(List.length v0_0)) then
      some (Sum.inl (((List.drop 0 v0_0),v0_1,()),v2,(v4_0,(List.take (List.length v4_1) (List.drop 0 v4_1)),()),v11,v12,(IntKind.wrap .i64 (v13+1)),v62,v68,v72,(v73_0,v73_1,v73_2,()),v151,v152,v153,()))
     else
      none
  else
   none
 else
  if((0+(List.length v0_0))=(List.length v0_0)) then
   some (Sum.inr (Sum.inr (((List.drop 0 v0_0),v0_1,()),v2,(v4_0,(List.take (List.length v4_1) (List.drop 0 v4_1)),()),v62,v68,v72,(v73_0,v73_1,v73_2,()),v151,v152,v153,())))
  else
   none
theorem zp9{L}(h:L 2=some ⟨61,y9g,y9h,ye7⟩):yb7 prog L (ya9 f267 2):=lo (L':=L0) (by kernel_rfl) y5f ya0 h
def y6l:Nat→Option LoopD:=fun n=>ifEq n 2 (some ⟨61,y9g,y9h,ye7⟩) (L0 n)
def zf5:List Fm:=.box 100000 [.own kE 100001 true,.val .bool]::.agg [.val i6,.own i6 100102 false]::.cell (.val .str)::D 59 (.cell (.val .bool)::D 4 (.ali 100000 0::.cell (.val sE)::d::d::d::.cell (.val i6)::.box 107300 [.val i6,.val sI,.val .str]::D 77 (.cell (.val sE)::.cell (.val i6)::.cell (.val i6)::D 38 [])))
def zf6:List Fm:=d::.cell (.val .bool)::D 4 (.box 100600 [.own kE 100601 true,.val .bool]::.cell (.val sE)::d::d::d::.cell (.val i6)::.box 101200 [.val i6,.val sI,.val .str]::D 77 (.cell (.val sE)::.cell (.val i6)::.cell (.val i6)::D 38 []))
def yl1:((LE×Bool×Unit)×(Int×LI×Unit)×ByteArray×Bool×LE×Int×(Int×LI×ByteArray×Unit)×LE×Int×Int×Unit)→Option (Bool×(LE×Bool×Unit)×LE×Int×(Int×LI×ByteArray×Unit)×LE×Int×Int×Unit):=fun((v0_0,v0_1,_),(v1_0,v1_1,_),v2,v62,v68,v72,(v73_0,v73_1,v73_2,_),v151,v152,v153,_)=>
 if((0+(List.length v0_0))=(List.length v0_0)) then
  Option.bind (ya2 ye7 (((List.drop 0 v0_0),v0_1,()),v2,(v1_0,(List.take (List.length v1_1) (List.drop 0 v1_1)),()),(List.take (List.length v0_0) (List.drop 0 v0_0)),(((List.length v0_0):Nat):Int),0,v62,v68,v72,(v73_0,v73_1,v73_2,()),v151,v152,v153,())) fun r0=>
   (match r0 with
   |.inl (d1,(d2,d3,_),d4,d5,(d6,d7,d8,_),d9,d10,d11,_)=>
     if((0+(List.length d2))=(List.length d2)) then
      some (d1,((List.drop 0 d2),d3,()),d4,d5,(d6,d7,d8,()),d9,d10,d11,())
     else
      none
   |.inr ((d12,d13,_),d14,(d15,d16,_),d17,d18,d19,(d20,d21,d22,_),d23,d24,d25,_)=>
     bif d13 then
      if((0+(List.length d12))=(List.length d12)) then
       some (d17,((List.drop 0 d12),true,()),d18,d19,(d20,d21,d22,()),d23,d24,d25,())
      else
       none
     else
      bif (decide ((((List.length d12):Nat):Int)≥120)) then
       if((0+(List.length d12))=(List.length d12)) then
        some (d17,((List.drop 0 d12),true,()),d18,d19,(d20,d21,d22,()),d23,d24,d25,())
       else
        none
      else
       bif (!(decide ((((ByteArray.size d14):Nat):Int)>120))) then
        if(((0+(List.length d12))=(List.length d12))∧((((List.length d12)+(List.length (List.take 1 (List.drop 0 [((d15,(List.take (List.length d16) (List.drop 0 d16))),d14)]))))*48)≤140737488355328)) then
         if((0+((List.length d12)+(List.length (List.take 1 (List.drop 0 [((d15,(List.take (List.length d16) (List.drop 0 d16))),d14)])))))=(List.length ((List.drop 0 d12)++(List.take 1 (List.drop 0 [((d15,(List.take (List.length d16) (List.drop 0 d16))),d14)]))))) then
          some (d17,((List.drop 0 ((List.drop 0 d12)++(List.take 1 (List.drop 0 [((d15,(List.take (List.length d16) (List.drop 0 d16))),d14)])))),(decide ((((ByteArray.size d14):Nat):Int)>120)),()),d18,d19,(d20,d21,d22,()),d23,d24,d25,())
         else
          none
        else
         none
       else
        if((0+(List.length d12))=(List.length d12)) then
         some (d17,((List.drop 0 d12),(decide ((((ByteArray.size d14):Nat):Int)>120)),()),d18,d19,(d20,d21,d22,()),d23,d24,d25,())
        else
         none)
 else
  none
theorem y4m:y1q f267.ntmps 131 120 zy0 y6l f267.results.toList (yc9 f267) zf5 zf6=yl1:=by kernel_rfl
def zy1:CallD:=⟨f267.ntmps,zf5,131,zf6,yl1,0⟩
theorem z05:y5u prog 120 267 zy1:=y0a (yb9 yg1) y5f (L:=y6l) func267 (by kernel_rfl) (c:=yc9 f267) (by kernel_rfl) (yf0 (L:=y6l) (yb9 yg1) y5f mixed (c:=yc9 f267) (bs:=[ya9 f267 2]) (by kernel_rfl) (ya8 (zp9 rfl) ya0) (by kernel_rfl)) (by kernel_rfl) (by kernel_rfl) y4m
def E215:Env:=⟨ty0,fun g=>ifEq g 266 (some A266) (ifEq g 265 (some A265) (ifEq g 296 (some A296) (ifEq g 268 (some A268) (ifEq g 269 (some A269) (ifEq g 270 (some A270) (none)))))),fun _=>none,fun _=>none,fun d=>ifI (Nat.beq d 39) (some (267,z3m)) (ifI (Nat.beq d 78) (some (267,z3p)) (ifI (Nat.beq d 107) (some (267,zx9)) (ifI (Nat.beq d 120) (some (267,zy1)) (none)))),fun _=>0⟩
theorem z06:FnsOk prog E215:=(zg6 (d0:=39) (g0:=267) z3n (zg6 (d0:=78) (g0:=267) z3q (zg6 (d0:=107) (g0:=267) z04 (zg6 (d0:=120) (g0:=267) z05 (oF zp0 func266 (oF zp1 func265 (oF zb7 func296 (oF zp2 func268 (oF zp3 func269 (oF zb8 func270 (yc7 _ _)))))))))))
def kr4:List Fm:=d::.cell (.val .bool)::.box 100200 [.val i6,.val sI,.val sI,.val sS]::d::d::d::.box 100600 [.own kE 100601 true,.val .bool]::.cell (.own kE 100700 false)::D 12 (.cell (.own .str 102000 false)::.cell (.val i6)::.cell (.val i6)::D 108 [])
def kr5:List (Ex×List Fm):=[(.exit 0,[d,.cell (.val .bool),d,d,d,d,.box 100600 [.own kE 100601 true,.val .bool],.cell (.own kE 100700 false),d,d,d,d,d,d,d,d,d,d,d,d,d,d,d,d,d,d,d,d,d,d,d,d,d,d,d,d,d,d,d,d,d,d,d,d,d,d,d,d,d,d,d,d,d,d,d,d,d,d,d,d,d,d,d,d,d,d,d,d,d,d,d,d,d,d,d,d,d,d,d,d,d,d,d,d,d,d,d,d,d,d,d,d,d,d,d,d,d,d,d,d,d,d,d,d,d,d,d,d,d,d,d,d,d,d,d,d,d,d,d,d,d,d,d,d,d,d,d,d,d,d,d])]
def yh2:(Bool×(Int×LI×LI×LS×Unit)×(LE×Bool×Unit)×LE×(List ByteArray)×Int×Int×Unit)→Option ((Bool×(Int×LI×LI×LS×Unit)×(LE×Bool×Unit)×LE×(List ByteArray)×Int×Int×Unit)⊕((Bool×(LE×Bool×Unit)×LE×Unit))):=fun(v1,(v2_0,v2_1,v2_2,v2_3,_),(v6_0,v6_1,_),v7,v20,v21,v22,_)=>
 bif (decide (v22<v21)) then
  if(((0:Int)≤v22)∧(v22<(((List.length v20):Nat):Int))) then
   Option.bind (yp4 (v2_0,v2_1,v2_2,v2_3) (List.getD v20 (0+(Int.toNat v22)) ⟨Array.empty⟩)) fun(r0,r1)=>
    Option.bind (y0m (r0,(List.take (List.length r1) (List.drop 0 r1)))) fun(r2,r3)=>
     if(((0+(List.length v7))=(List.length v7))∧((((List.length v7)+(List.length (List.take 1 (List.drop 0 [((r2,(List.take (List.length r3) (List.drop 0 r3))),(List.getD v20 (0+(Int.toNat v22)) (⟨Array.empty⟩:ByteArray)))]))))*48)≤140737488355328)) then
      if((0+(List.length v6_0))=(List.length v6_0)) then
       Option.bind (ym2 (((List.drop 0 v6_0),v6_1,()),(r2,(List.take (List.length r3) (List.drop 0 r3))),(List.getD v20 (0+(Int.toNat v22)) ⟨Array.empty⟩),v1,(v2_0,v2_1,v2_2,v2_3,()),(List.take ((List.length v7)+(List.length (List.take 1 (List.drop 0 [((r2,(List.take (List.length r3) (List.drop 0 r3))),(List.getD v20 (0+(Int.toNat v22)) (⟨Array.empty⟩:ByteArray)))])))) (List.drop 0 ((List.drop 0 v7)++(List.take 1 (List.drop 0 [((r2,(List.take (List.length r3) (List.drop 0 r3))),(List.getD v20 (0+(Int.toNat v22)) (⟨Array.empty⟩:ByteArray)))]))))),(List.take (List.length v20) (List.drop 0 v20)),v21,v22,())) fun(r4,(r5,r6,r7,r8,_),(r9,r10,_),r11,r12,r13,r14,_)=>
        if((0+(List.length r9))=(List.length r9)) then
         some (Sum.inl (r4,(r5,r6,r7,r8,()),((List.drop 0 r9),r10,()),(List.take (List.length r11) (List.drop 0 r11)),(List.take (List.length r12) (List.drop 0 r12)),r13,(IntKind.wrap .i64 (r14+1)),()))
        else
         none
      else
       none
     else
      none
  else
   none
 else
  if((0+(List.length v6_0))=(List.length v6_0)) then
   some (Sum.inr (v1,((List.drop 0 v6_0),v6_1,()),(List.take (List.length v7) (List.drop 0 v7)),()))
  else
   none
theorem kr6{L}(h:L 4=some ⟨131,kr4,kr5,yh2⟩):yb7 prog L (ya9 f215 4):=lo (L':=L0) (by kernel_rfl) z06 ya0 h
def L215_1:Nat→Option LoopD:=fun n=>ifEq n 4 (some ⟨131,kr4,kr5,yh2⟩) (L0 n)
def z74:List Fm:=d::.cell (.val .bool)::D 4 (.box 100600 [.own kE 100601 true,.val .bool]::.cell (.val sE)::d::d::d::.cell (.val i6)::.box 101200 [.val i6,.val sI,.val .str]::D 77 (.cell (.val sE)::.cell (.val i6)::.cell (.val i6)::D 38 []))
def z78:List (Ex×List Fm):=[(.exit 4,[d,.cell (.val .bool),d,d,d,d,.box 100600 [.own kE 100601 true,.val .bool],.cell (.val sE),d,d,d,.cell (.val i6),d,d,d,d,d,d,d,d,d,d,d,d,d,d,d,d,d,d,d,d,d,d,d,d,d,d,d,d,d,d,d,d,d,d,d,d,d,d,d,d,d,d,d,d,d,d,d,d,d,d,d,d,d,d,d,d,d,d,d,d,d,d,d,d,d,d,d,d,d,d,d,d,d,d,d,d,d,d,d,d,d,d,d,d,d,d,d,d,d,d,d,d,d,d,d,d,d,d,d,d,d,d,d,d,d,d,d,d,d,d,d,d,d,d,d,d,d,d,d])]
def yc1:(Bool×(LE×Bool×Unit)×LE×Int×(Int×LI×ByteArray×Unit)×LE×Int×Int×Unit)→Option ((Bool×(LE×Bool×Unit)×LE×Int×(Int×LI×ByteArray×Unit)×LE×Int×Int×Unit)⊕((Bool×(LE×Bool×Unit)×LE×Int×Unit))):=fun(v1,(v6_0,v6_1,_),v7,v11,(v12_0,v12_1,v12_2,_),v90,v91,v92,_)=>
 bif (decide (v92<v91)) then
  if(((0:Int)≤v92)∧(v92<(((List.length v90):Nat):Int))) then
   Option.bind (y2f (v12_0,v12_1) ((List.getD v90 (Int.toNat v92) (((0:Int),[]),⟨Array.empty⟩)).1.1,(List.getD v90 (Int.toNat v92) (((0:Int),[]),⟨Array.empty⟩)).1.2)) fun(r0,r1)=>
    if(((ByteArray.size v12_2)+(ByteArray.size (List.getD v90 (Int.toNat v92) (((0:Int),[]),⟨Array.empty⟩)).2))≤9223372036854775807) then
     if((0+(List.length v6_0))=(List.length v6_0)) then
      Option.bind (yl0 (((List.drop 0 v6_0),v6_1,()),(r0,(List.take (List.length r1) (List.drop 0 r1)),()),(v12_2++(List.getD v90 (Int.toNat v92) (((0:Int),[]),⟨Array.empty⟩)).2),v1,v7,v11,(v12_0,v12_1,v12_2,()),((List.getD v90 (Int.toNat v92) (((0:Int),[]),⟨Array.empty⟩)).1.1,(List.getD v90 (Int.toNat v92) (((0:Int),[]),⟨Array.empty⟩)).1.2,(List.getD v90 (Int.toNat v92) (((0:Int),[]),⟨Array.empty⟩)).2,()),v90,v91,v92,())) fun(r2,(r3,r4,_),r5,r6,(r7,r8,r9,_),(r10,r11,r12,_),r13,r14,r15,_)=>
       bif r2 then
        Option.bind (y2f (r10,r11) (r7,r8)) fun(r16,r17)=>
         if(((ByteArray.size r12)+(ByteArray.size r9))≤9223372036854775807) then
          if((0+(List.length r3))=(List.length r3)) then
           Option.bind (yl1 (((List.drop 0 r3),r4,()),(r16,(List.take (List.length r17) (List.drop 0 r17)),()),(r12++r9),r2,r5,r6,(r7,r8,r9,()),r13,r14,r15,())) fun(r18,(r19,r20,_),r21,r22,(r23,r24,r25,_),r26,r27,r28,_)=>
            if((0+(List.length r19))=(List.length r19)) then
             some (Sum.inl (r18,((List.drop 0 r19),r20,()),r21,r22,(r23,r24,r25,()),r26,r27,(IntKind.wrap .i64 (r28+1)),()))
            else
             none
          else
           none
         else
          none
       else
        if((0+(List.length r3))=(List.length r3)) then
         some (Sum.inl (r2,((List.drop 0 r3),r4,()),r5,r6,(r7,r8,r9,()),r13,r14,(IntKind.wrap .i64 (r15+1)),()))
        else
         none
     else
      none
    else
     none
  else
   none
 else
  if((0+(List.length v6_0))=(List.length v6_0)) then
   some (Sum.inr (v1,((List.drop 0 v6_0),v6_1,()),v7,v11,()))
  else
   none
theorem z9s{L}(h:L 20=some ⟨131,z74,z78,yc1⟩):yb7 prog L (ya9 f215 20):=lo (L':=L215_1) (by kernel_rfl) z06 ya0 h
def L215_2:Nat→Option LoopD:=fun n=>ifEq n 20 (some ⟨131,z74,z78,yc1⟩) (L215_1 n)
def z79:List Fm:=d::.cell (.val .bool)::D 4 (.box 100600 [.own kE 100601 true,.val .bool]::.cell (.val sE)::d::d::d::.cell (.val i6)::D 119 [])
def z8a:List (Ex×List Fm):=[(.exit 2,[d,d,d,d,d,d,.box 100600 [.val sE,.val .bool],d,d,d,d,d,d,d,d,d,d,d,d,d,d,d,d,d,d,d,d,d,d,d,d,d,d,d,d,d,d,d,d,d,d,d,d,d,d,d,d,d,d,d,d,d,d,d,d,d,d,d,d,d,d,d,d,d,d,d,d,d,d,d,d,d,d,d,d,d,d,d,d,d,d,d,d,d,d,d,d,d,d,d,d,d,d,d,d,d,d,d,d,d,d,d,d,d,d,d,d,d,d,d,d,d,d,d,d,d,d,d,d,d,d,d,d,d,d,d,d,d,d,d,d])]
def ya5:(Bool×(LE×Bool×Unit)×LE×Int×Unit)→Option ((Bool×(LE×Bool×Unit)×LE×Int×Unit)⊕(((LE×Bool×Unit)×Unit))):=fun(v1,(v6_0,v6_1,_),v7,v11,_)=>
 bif (decide (v11<(((List.length v6_0):Nat):Int))) then
  bif (!v6_1) then
   if(((0:Int)≤v11)∧(v11<(((List.length v6_0):Nat):Int))) then
    bif v1 then
     Option.bind (yw9 ((List.getD v6_0 (0+(Int.toNat v11)) (((0:Int),[]),⟨Array.empty⟩)).1.1,(List.getD v6_0 (0+(Int.toNat v11)) (((0:Int),[]),⟨Array.empty⟩)).1.2)) fun r0=>
      bif r0 then
       Option.bind (y18 ((List.getD v6_0 (0+(Int.toNat v11)) (((0:Int),[]),⟨Array.empty⟩)).1.1,(List.getD v6_0 (0+(Int.toNat v11)) (((0:Int),[]),⟨Array.empty⟩)).1.2)) fun(r1,r2)=>
        if(((ByteArray.size (⟨#[(40:UInt8)]⟩:ByteArray))+(ByteArray.size (List.getD v6_0 (0+(Int.toNat v11)) (((0:Int),[]),⟨Array.empty⟩)).2))≤9223372036854775807) then
         if(((ByteArray.size ((⟨#[(40:UInt8)]⟩:ByteArray)++(List.getD v6_0 (0+(Int.toNat v11)) (((0:Int),[]),⟨Array.empty⟩)).2))+(ByteArray.size (⟨#[(41:UInt8),(35:UInt8)]⟩:ByteArray)))≤9223372036854775807) then
          if((0+(List.length v6_0))=(List.length v6_0)) then
           Option.bind (yj1 (((List.drop 0 v6_0),v6_1,()),(r1,(List.take (List.length r2) (List.drop 0 r2)),()),(((⟨#[(40:UInt8)]⟩:ByteArray)++(List.getD v6_0 (0+(Int.toNat v11)) (((0:Int),[]),⟨Array.empty⟩)).2)++(⟨#[(41:UInt8),(35:UInt8)]⟩:ByteArray)),v1,v7,v11,((List.getD v6_0 (0+(Int.toNat v11)) (((0:Int),[]),⟨Array.empty⟩)).1.1,(List.getD v6_0 (0+(Int.toNat v11)) (((0:Int),[]),⟨Array.empty⟩)).1.2,(List.getD v6_0 (0+(Int.toNat v11)) (((0:Int),[]),⟨Array.empty⟩)).2,()),())) fun(r3,(r4,r5,_),r6,r7,(r8,r9,r10,_),_)=>
            bif r3 then
             if(((0:Int)≤(IntKind.wrap .i64 (r7+1)))∧((IntKind.wrap .i64 (r7+1))≤(((List.length r4):Nat):Int))) then
              if(((0+0)=(List.length ([]:List Unit)))∧(((0+(List.length (List.take ((Int.toNat (IntKind.wrap .i64 (r7+1)))-0) (List.drop (0+0) r4))))*48)≤140737488355328)) then
               if((0+(List.length r4))=(List.length r4)) then
                Option.bind (ya2 yc1 (r3,((List.drop 0 r4),r5,()),r6,r7,(r8,r9,r10,()),(List.take (0+(List.length (List.take ((Int.toNat (IntKind.wrap .i64 (r7+1)))-0) (List.drop (0+0) r4)))) (List.drop 0 ((List.drop 0 [])++(List.take ((Int.toNat (IntKind.wrap .i64 (r7+1)))-0) (List.drop (0+0) r4))))),(((0+(List.length (List.take ((Int.toNat (IntKind.wrap .i64 (r7+1)))-0) (List.drop (0+0) r4)))):Nat):Int),0,())) fun(r11,(r12,r13,_),r14,r15,_)=>
                 if((0+(List.length r12))=(List.length r12)) then
                  some (Sum.inl (r11,((List.drop 0 r12),r13,()),r14,(IntKind.wrap .i64 (r15+1)),()))
                 else
                  none
               else
                none
              else
               none
             else
              none
            else
             if((0+(List.length r4))=(List.length r4)) then
              Option.bind (ya2 yc1 (r3,((List.drop 0 r4),r5,()),r6,r7,(r8,r9,r10,()),r6,(((List.length r6):Nat):Int),0,())) fun(r16,(r17,r18,_),r19,r20,_)=>
               if((0+(List.length r17))=(List.length r17)) then
                some (Sum.inl (r16,((List.drop 0 r17),r18,()),r19,(IntKind.wrap .i64 (r20+1)),()))
               else
                none
             else
              none
          else
           none
         else
          none
        else
         none
      else
       bif v1 then
        if(((0:Int)≤(IntKind.wrap .i64 (v11+1)))∧((IntKind.wrap .i64 (v11+1))≤(((List.length v6_0):Nat):Int))) then
         if(((0+0)=(List.length ([]:List Unit)))∧(((0+(List.length (List.take ((Int.toNat (IntKind.wrap .i64 (v11+1)))-0) (List.drop (0+0) v6_0))))*48)≤140737488355328)) then
          if((0+(List.length v6_0))=(List.length v6_0)) then
           Option.bind (ya2 yc1 (v1,((List.drop 0 v6_0),v6_1,()),v7,v11,((List.getD v6_0 (0+(Int.toNat v11)) (((0:Int),[]),⟨Array.empty⟩)).1.1,(List.getD v6_0 (0+(Int.toNat v11)) (((0:Int),[]),⟨Array.empty⟩)).1.2,(List.getD v6_0 (0+(Int.toNat v11)) (((0:Int),[]),⟨Array.empty⟩)).2,()),(List.take (0+(List.length (List.take ((Int.toNat (IntKind.wrap .i64 (v11+1)))-0) (List.drop (0+0) v6_0)))) (List.drop 0 ((List.drop 0 [])++(List.take ((Int.toNat (IntKind.wrap .i64 (v11+1)))-0) (List.drop (0+0) v6_0))))),(((0+(List.length (List.take ((Int.toNat (IntKind.wrap .i64 (v11+1)))-0) (List.drop (0+0) v6_0)))):Nat):Int),0,())) fun(r21,(r22,r23,_),r24,r25,_)=>
            if((0+(List.length r22))=(List.length r22)) then
             some (Sum.inl (r21,((List.drop 0 r22),r23,()),r24,(IntKind.wrap .i64 (r25+1)),()))
            else
             none
          else
           none
         else
          none
        else
         none
       else
        if((0+(List.length v6_0))=(List.length v6_0)) then
         Option.bind (ya2 yc1 (v1,((List.drop 0 v6_0),v6_1,()),v7,v11,((List.getD v6_0 (0+(Int.toNat v11)) (((0:Int),[]),⟨Array.empty⟩)).1.1,(List.getD v6_0 (0+(Int.toNat v11)) (((0:Int),[]),⟨Array.empty⟩)).1.2,(List.getD v6_0 (0+(Int.toNat v11)) (((0:Int),[]),⟨Array.empty⟩)).2,()),v7,(((List.length v7):Nat):Int),0,())) fun(r26,(r27,r28,_),r29,r30,_)=>
          if((0+(List.length r27))=(List.length r27)) then
           some (Sum.inl (r26,((List.drop 0 r27),r28,()),r29,(IntKind.wrap .i64 (r30+1)),()))
          else
           none
        else
         none
    else
     bif v1 then
      if(((0:Int)≤(IntKind.wrap .i64 (v11+1)))∧((IntKind.wrap .i64 (v11+1))≤(((List.length v6_0):Nat):Int))) then
       if(((0+0)=(List.length ([]:List Unit)))∧(((0+(List.length (List.take ((Int.toNat (IntKind.wrap .i64 (v11+1)))-0) (List.drop (0+0) v6_0))))*48)≤140737488355328)) then
        if((0+(List.length v6_0))=(List.length v6_0)) then
         Option.bind (ya2 yc1 (v1,((List.drop 0 v6_0),v6_1,()),v7,v11,((List.getD v6_0 (0+(Int.toNat v11)) (((0:Int),[]),⟨Array.empty⟩)).1.1,(List.getD v6_0 (0+(Int.toNat v11)) (((0:Int),[]),⟨Array.empty⟩)).1.2,(List.getD v6_0 (0+(Int.toNat v11)) (((0:Int),[]),⟨Array.empty⟩)).2,()),(List.take (0+(List.length (List.take ((Int.toNat (IntKind.wrap .i64 (v11+1)))-0) (List.drop (0+0) v6_0)))) (List.drop 0 ((List.drop 0 [])++(List.take ((Int.toNat (IntKind.wrap .i64 (v11+1)))-0) (List.drop (0+0) v6_0))))),(((0+(List.length (List.take ((Int.toNat (IntKind.wrap .i64 (v11+1)))-0) (List.drop (0+0) v6_0)))):Nat):Int),0,())) fun(r31,(r32,r33,_),r34,r35,_)=>
          if((0+(List.length r32))=(List.length r32)) then
           some (Sum.inl (r31,((List.drop 0 r32),r33,()),r34,(IntKind.wrap .i64 (r35+1)),()))
          else
           none
        else
         none
       else
        none
      else
       none
     else
      if((0+(List.length v6_0))=(List.length v6_0)) then
       Option.bind (ya2 yc1 (v1,((List.drop 0 v6_0),v6_1,()),v7,v11,((List.getD v6_0 (0+(Int.toNat v11)) (((0:Int),[]),⟨Array.empty⟩)).1.1,(List.getD v6_0 (0+(Int.toNat v11)) (((0:Int),[]),⟨Array.empty⟩)).1.2,(List.getD v6_0 (0+(Int.toNat v11)) (((0:Int),[]),⟨Array.empty⟩)).2,()),v7,(((List.length v7):Nat):Int),0,())) fun(r36,(r37,r38,_),r39,r40,_)=>
        if((0+(List.length r37))=(List.length r37)) then
         some (Sum.inl (r36,((List.drop 0 r37),r38,()),r39,(IntKind.wrap .i64 (r40+1)),()))
        else
         none
      else
       none
   else
    none
  else
   some (Sum.inr (((List.take (List.length v6_0) (List.drop 0 v6_0)),v6_1,()),()))
 else
  some (Sum.inr (((List.take (List.length v6_0) (List.drop 0 v6_0)),v6_1,()),()))
theorem z9t{L}(h:L 11=some ⟨131,z79,z8a,ya5⟩):yb7 prog L (ya9 f215 11):=lo (L':=L215_2) (by kernel_rfl) z06 (ya8 (z9s rfl) ya0) h
def L215_3:Nat→Option LoopD:=fun n=>ifEq n 11 (some ⟨131,z79,z8a,ya5⟩) (L215_2 n)
def y0n:TA→Bool→Option (LE×Bool):=fun(a0_0,a0_1,a0_2,a0_3) a1=>
 if((0+0)=(List.length ([]:List Unit))) then
  Option.bind (ya2 yh2 (a1,(a0_0,a0_1,a0_2,a0_3,()),((List.drop 0 []),false,()),(List.take 0 (List.drop 0 [])),(List.take 2 (List.drop 0 [(⟨#[(97:UInt8)]⟩:ByteArray),(⟨#[(98:UInt8)]⟩:ByteArray)])),((2:Nat):Int),0,())) fun(r0,(r1,r2,_),r3,_)=>
   if((0+(List.length r1))=(List.length r1)) then
    Option.bind (ya2 ya5 (r0,((List.drop 0 r1),r2,()),(List.take (List.length r3) (List.drop 0 r3)),0,())) fun((r4,r5,_),_)=>
     some (r4,(!r5))
   else
    none
 else
  none
def A215:FnA:=⟨[.v kA,.v .bool],false,[.sl kE,.bool],fun x=>y0n x.1 x.2.1⟩
theorem A215_ok:FnOk prog 215 A215:=fo (L:=L215_3) (by kernel_rfl) func215 z06 (ya8 (kr6 rfl) (ya8 (z9t rfl) ya0))
def E142:Env:=ev fun g=>ifEq g 27 (some A27) (ifEq g 215 (some A215) (none))
theorem E142_ok:FnsOk prog E142:=(oF kk6 func27 (oF A215_ok func215 (yc7 _ _)))
def ym3:TA→Option (LE×Bool):=fun(a0_0,a0_1,a0_2,a0_3)=>
 Option.bind (yd0 (a0_0,a0_1,a0_2,a0_3)) fun r0=>
  bif (!r0) then
   some ((List.take 0 (List.drop 0 [])),false)
  else
   Option.bind (y0n (a0_0,a0_1,a0_2,a0_3) true) fun(r1,r2)=>
    bif (!r2) then
     some ((List.take 0 (List.drop 0 [])),false)
    else
     some (r1,true)
def A142:FnA:=⟨[.v kA],false,[.sl kE,.bool],fun x=>ym3 x.1⟩
theorem A142_ok:FnOk prog 142 A142:=fo (L:=L0) (by kernel_rfl) func142 E142_ok ya0
def y04:TM→Option (TM):=fun(a0_0,a0_1)=>
 if(((0+0)=(List.length ([]:List Unit)))∧(((0+(List.length a0_1))*8)≤140737488355328)) then
  some (a0_0,(List.take (0+(List.length a0_1)) (List.drop 0 ((List.drop 0 [])++a0_1))))
 else
  none
def A271:FnA:=⟨[.v kM],true,[.pair i6 sI],fun x=>y04 x.1⟩
theorem A271_ok:FnOk prog 271 A271:=fo (L:=L0) (by kernel_rfl) func271 yh3 ya0
def E216:Env:=ev fun g=>ifEq g 271 (some A271) (none)
theorem E216_ok:FnsOk prog E216:=(oF A271_ok func271 (yc7 _ _))
def yt9:TE→Option (TE):=fun((a0_0,a0_1),a0_2)=>
 Option.bind (y04 (a0_0,a0_1)) fun(r0,r1)=>
  some ((r0,(List.take (List.length r1) (List.drop 0 r1))),a0_2)
def A216:FnA:=⟨[.v kE],true,[.pair kM .str],fun x=>yt9 x.1⟩
theorem A216_ok:FnOk prog 216 A216:=fo (L:=L0) (by kernel_rfl) func216 E216_ok ya0
def E143:Env:=ev fun g=>ifEq g 216 (some A216) (none)
theorem kr7:FnsOk prog E143:=(oF A216_ok func216 (yc7 _ _))
def kr8:List Fm:=d::d::d::.cell (.own kE 100300 false)::d::d::d::.cell (.val sE)::.cell (.val i6)::.cell (.val i6)::D 10 []
def kr9:List (Ex×List Fm):=[(.exit 0,(d::d::d::.cell (.own kE 100300 false)::D 16 []))]
def ye1:(LE×LE×Int×Int×Unit)→Option ((LE×LE×Int×Int×Unit)⊕((LE×Unit))):=fun(v3,v7,v8,v9,_)=>
 bif (decide (v9<v8)) then
  if(((0:Int)≤v9)∧(v9<(((List.length v7):Nat):Int))) then
   Option.bind (yt9 (((List.getD v7 (Int.toNat v9) (((0:Int),[]),⟨Array.empty⟩)).1.1,(List.getD v7 (Int.toNat v9) (((0:Int),[]),⟨Array.empty⟩)).1.2),(List.getD v7 (Int.toNat v9) (((0:Int),[]),⟨Array.empty⟩)).2)) fun((r0,r1),r2)=>
    if(((0+(List.length v3))=(List.length v3))∧((((List.length v3)+(List.length (List.take 1 (List.drop 0 [((r0,(List.take (List.length r1) (List.drop 0 r1))),r2)]))))*48)≤140737488355328)) then
     some (Sum.inl ((List.take ((List.length v3)+(List.length (List.take 1 (List.drop 0 [((r0,(List.take (List.length r1) (List.drop 0 r1))),r2)])))) (List.drop 0 ((List.drop 0 v3)++(List.take 1 (List.drop 0 [((r0,(List.take (List.length r1) (List.drop 0 r1))),r2)]))))),v7,v8,(IntKind.wrap .i64 (v9+1)),()))
    else
     none
  else
   none
 else
  some (Sum.inr ((List.take (List.length v3) (List.drop 0 v3)),()))
theorem ks0{L}(h:L 3=some ⟨20,kr8,kr9,ye1⟩):yb7 prog L (ya9 f143 3):=lo (L':=L0) (by kernel_rfl) kr7 ya0 h
def L143_1:Nat→Option LoopD:=fun n=>ifEq n 3 (some ⟨20,kr8,kr9,ye1⟩) (L0 n)
def yo5:LE→Option (LE):=fun a0=>
 Option.bind (ya2 ye1 ((List.take 0 (List.drop 0 [])),a0,(((List.length a0):Nat):Int),0,())) fun(r0,_)=>
  some (List.take (List.length r0) (List.drop 0 r0))
def A143:FnA:=⟨[.v sE],true,[.sl kE],fun x=>yo5 x.1⟩
theorem A143_ok:FnOk prog 143 A143:=fo (L:=L143_1) (by kernel_rfl) func143 kr7 (ya8 (ks0 rfl) ya0)
def E61:Env:=ev fun g=>ifEq g 142 (some A142) (ifEq g 143 (some A143) (none))
theorem E61_ok:FnsOk prog E61:=(oF A142_ok func142 (oF A143_ok func143 (yc7 _ _)))
def yd5:TA→Option (LE×Bool):=fun(a0_0,a0_1,a0_2,a0_3)=>
 Option.bind (ym3 (a0_0,a0_1,a0_2,a0_3)) fun(r0,r1)=>
  Option.bind (yo5 r0) fun r2=>
   some ((List.take (List.length r2) (List.drop 0 r2)),r1)
def A61:FnA:=⟨[.v kA],true,[.sl kE,.bool],fun x=>yd5 x.1⟩
theorem A61_ok:FnOk prog 61 A61:=fo (L:=L0) (by kernel_rfl) func61 E61_ok ya0
end
end Go.Proofs.YtafognnoibjjeaaGreatDoor
