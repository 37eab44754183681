/- What Go functions that the laws reach compute, and that they do: written by a program of this session. -/
import Derived.Test.YtogigagfgkfkhaaGreatG2
import Derived.KernelRfl
set_option linter.unusedVariables false
namespace Go.Proofs.YtogigagfgkfkhaaGreat
open Go Go.Proofs.YtogigagfgkfkhaaGreat.Am Go.Proofs.Tryz
set_option maxRecDepth 100000
noncomputable section
def z30 : Env := ev fun g => ifEq g 135 (some A135) (ifEq g 134 (some A134) (ifEq g 153 (some A153) (ifEq g 137 (some A137) (ifEq g 138 (some A138) (ifEq g 139 (some A139) (none))))))
theorem y6n : FnsOk prog z30 := (oF zh6 func135 (oF zh7 func134 (oF y82 func153 (oF zh8 func137 (oF zh9 func138 (oF y83 func139 (ye2 _ _)))))))
def zi0 : List Fm := .box 100000 [.own kE 100001 true, .val .bool] :: d :: .cell (.val .str) :: d :: .box 100400 [.val i6, .val sI] :: D 6 (.cell (.val sE) :: .cell (.val i6) :: .cell (.val i6) :: D 48 (.cell (.val .bool) :: .box 106300 [.val i6, .val sI, .val sI, .val sS] :: d :: d :: d :: .ali 100000 0 :: .cell (.own kE 106800 false) :: D 12 (.cell (.own .str 108100 false) :: .cell (.val i6) :: .cell (.val i6) :: D 108 [])))
def zi1 : List (Ex × List Fm) := [(.ret, [d, d, d, d, d, d, d, d, d, d, d, d, d, d, d, d, d, d, d, d, d, d, d, d, d, d, d, d, d, d, d, d, d, d, d, d, d, d, d, d, d, d, d, d, d, d, d, d, d, d, d, d, d, d, d, d, d, d, d, d, d, d, .cell (.val .bool), .box 106300 [.val i6, .val sI, .val sI, .val sS], d, d, d, .box 106700 [.own kE 106701 true, .val .bool], .cell (.own kE 106800 false), d, d, d, d, d, d, d, d, d, d, d, d, .cell (.own .str 108100 false), .cell (.val i6), .cell (.val i6), d, d, d, d, d, d, d, d, d, d, d, d, d, d, d, d, d, d, d, d, d, d, d, d, d, d, d, d, d, d, d, d, d, d, d, d, d, d, d, d, d, d, d, d, d, d, d, d, d, d, d, d, d, d, d, d, d, d, d, d, d, d, d, d, d, d, d, d, d, d, d, d, d, d, d, d, d, d, d, d, d, d, d, d, d, d, d, d, d, d, d, d, d, d, d, d, d, d, d, d, d, d, d, d, d, d, d, d]), (.exit 0, [.box 100000 [.own kE 100001 true, .val .bool], d, .cell (.val .str), d, .box 100400 [.val i6, .val sI], d, d, d, d, d, d, d, d, d, d, d, d, d, d, d, d, d, d, d, d, d, d, d, d, d, d, d, d, d, d, d, d, d, d, d, d, d, d, d, d, d, d, d, d, d, d, d, d, d, d, d, d, d, d, d, d, d, .cell (.val .bool), .box 106300 [.val i6, .val sI, .val sI, .val sS], d, d, d, .ali 100000 0, .cell (.own kE 106800 false), d, d, d, d, d, d, d, d, d, d, d, d, .cell (.own .str 108100 false), .cell (.val i6), .cell (.val i6), d, d, d, d, d, d, d, d, d, d, d, d, d, d, d, d, d, d, d, d, d, d, d, d, d, d, d, d, d, d, d, d, d, d, d, d, d, d, d, d, d, d, d, d, d, d, d, d, d, d, d, d, d, d, d, d, d, d, d, d, d, d, d, d, d, d, d, d, d, d, d, d, d, d, d, d, d, d, d, d, d, d, d, d, d, d, d, d, d, d, d, d, d, d, d, d, d, d, d, d, d, d, d, d, d, d, d, d])]
def ye5 : ((LE × Bool × Unit) × ByteArray × (Int × LI × Unit) × LE × Int × Int × Bool × (Int × LI × LI × LS × Unit) × LE × (List ByteArray) × Int × Int × Unit) → Option (((LE × Bool × Unit) × ByteArray × (Int × LI × Unit) × LE × Int × Int × Bool × (Int × LI × LI × LS × Unit) × LE × (List ByteArray) × Int × Int × Unit) ⊕ ((Bool × (Int × LI × LI × LS × Unit) × (LE × Bool × Unit) × LE × (List ByteArray) × Int × Int × Unit) ⊕ ((LE × Bool × Unit) × ByteArray × (Int × LI × Unit) × Bool × (Int × LI × LI × LS × Unit) × LE × (List ByteArray) × Int × Int × Unit))) := fun ((v0_0, v0_1, _), v2, (v4_0, v4_1, _), v11, v12, v13, v62, (v63_0, v63_1, v63_2, v63_3, _), v68, v81, v82, v83, _) =>
 bif (decide (v13 < v12)) then
  if (((0 : Int) ≤ v13) ∧ (v13 < (((List.length v11) : Nat) : Int))) then
   Option.bind (ys9 (List.getD v11 (Int.toNat v13) (((0 : Int), []), ⟨Array.empty⟩)).1.2 v4_1) fun r0 =>
    bif r0 then
     if ((0 + (List.length v0_0)) = (List.length v0_0)) then
      some (Sum.inr (Sum.inl (v62, (v63_0, v63_1, v63_2, v63_3, ()), ((List.drop 0 v0_0), v0_1, ()), (List.take (List.length v68) (List.drop 0 v68)), (List.take (List.length v81) (List.drop 0 v81)), v82, v83, ())))
     else
      none
    else
     if ((0 + (List.length v0_0)) = (List.length v0_0)) then
      some (Sum.inl (((List.drop 0 v0_0), v0_1, ()), v2, (v4_0, v4_1, ()), v11, v12, (IntKind.wrap .i64 (v13 + 1)), v62, (v63_0, v63_1, v63_2, v63_3, ()), (List.take (List.length v68) (List.drop 0 v68)), (List.take (List.length v81) (List.drop 0 v81)), v82, v83, ()))
     else
      none
  else
   none
 else
  if ((0 + (List.length v0_0)) = (List.length v0_0)) then
   some (Sum.inr (Sum.inr (((List.drop 0 v0_0), v0_1, ()), v2, (v4_0, v4_1, ()), v62, (v63_0, v63_1, v63_2, v63_3, ()), (List.take (List.length v68) (List.drop 0 v68)), (List.take (List.length v81) (List.drop 0 v81)), v82, v83, ())))
  else
   none
theorem zt0 {L} (h : L 2 = some ⟨61, zi0, zi1, ye5⟩) : yc0 prog L (ya8 f136 2) := lo (L' := L0) (by kernel_rfl) y6n ya0 h
def y84 : Nat → Option LoopD := fun n => ifEq n 2 (some ⟨61, zi0, zi1, ye5⟩) (L0 n)
def zo5 : List Fm := .box 100000 [.own kE 100001 true, .val .bool] :: .cell (.val kM) :: .cell (.val .str) :: D 59 (.cell (.val .bool) :: .box 106300 [.val i6, .val sI, .val sI, .val sS] :: d :: d :: d :: .ali 100000 0 :: .cell (.own kE 106800 false) :: D 12 (.cell (.own .str 108100 false) :: .cell (.val i6) :: .cell (.val i6) :: D 108 []))
def zo6 : List Fm := d :: .cell (.val .bool) :: .box 100200 [.val i6, .val sI, .val sI, .val sS] :: d :: d :: d :: .box 100600 [.own kE 100601 true, .val .bool] :: .cell (.own kE 100700 false) :: D 12 (.cell (.own .str 102000 false) :: .cell (.val i6) :: .cell (.val i6) :: D 108 [])
def yl4 : ((LE × Bool × Unit) × TM × ByteArray × Bool × (Int × LI × LI × LS × Unit) × LE × (List ByteArray) × Int × Int × Unit) → Option (Bool × (Int × LI × LI × LS × Unit) × (LE × Bool × Unit) × LE × (List ByteArray) × Int × Int × Unit) := fun ((v0_0, v0_1, _), (v1_0, v1_1), v2, v62, (v63_0, v63_1, v63_2, v63_3, _), v68, v81, v82, v83, _) =>
 if ((0 + (List.length v0_0)) = (List.length v0_0)) then
  Option.bind (ya2 ye5 (((List.drop 0 v0_0), v0_1, ()), v2, (v1_0, v1_1, ()), (List.take (List.length v0_0) (List.drop 0 v0_0)), (((List.length v0_0) : Nat) : Int), 0, v62, (v63_0, v63_1, v63_2, v63_3, ()), (List.take (List.length v68) (List.drop 0 v68)), (List.take (List.length v81) (List.drop 0 v81)), v82, v83, ())) fun r0 =>
   (match r0 with
   | .inl (d1, (d2, d3, d4, d5, _), (d6, d7, _), d8, d9, d10, d11, _) =>
     if ((0 + (List.length d6)) = (List.length d6)) then
      some (d1, (d2, d3, d4, d5, ()), ((List.drop 0 d6), d7, ()), (List.take (List.length d8) (List.drop 0 d8)), (List.take (List.length d9) (List.drop 0 d9)), d10, d11, ())
     else
      none
   | .inr ((d12, d13, _), d14, (d15, d16, _), d17, (d18, d19, d20, d21, _), d22, d23, d24, d25, _) =>
     bif d13 then
      if ((0 + (List.length d12)) = (List.length d12)) then
       some (d17, (d18, d19, d20, d21, ()), ((List.drop 0 d12), true, ()), (List.take (List.length d22) (List.drop 0 d22)), (List.take (List.length d23) (List.drop 0 d23)), d24, d25, ())
      else
       none
     else
      bif (decide ((((List.length d12) : Nat) : Int) ≥ 120)) then
       if ((0 + (List.length d12)) = (List.length d12)) then
        some (d17, (d18, d19, d20, d21, ()), ((List.drop 0 d12), true, ()), (List.take (List.length d22) (List.drop 0 d22)), (List.take (List.length d23) (List.drop 0 d23)), d24, d25, ())
       else
        none
      else
       bif (!(decide ((((ByteArray.size d14) : Nat) : Int) > 120))) then
        if (((0 + (List.length d12)) = (List.length d12)) ∧ ((((List.length d12) + (List.length (List.take 1 (List.drop 0 [((d15, d16), d14)])))) * 48) ≤ 140737488355328)) then
         if ((0 + ((List.length d12) + (List.length (List.take 1 (List.drop 0 [((d15, d16), d14)]))))) = (List.length ((List.drop 0 d12) ++ (List.take 1 (List.drop 0 [((d15, d16), d14)]))))) then
          some (d17, (d18, d19, d20, d21, ()), ((List.drop 0 ((List.drop 0 d12) ++ (List.take 1 (List.drop 0 [((d15, d16), d14)])))), (decide ((((ByteArray.size d14) : Nat) : Int) > 120)), ()), (List.take (List.length d22) (List.drop 0 d22)), (List.take (List.length d23) (List.drop 0 d23)), d24, d25, ())
         else
          none
        else
         none
       else
        if ((0 + (List.length d12)) = (List.length d12)) then
         some (d17, (d18, d19, d20, d21, ()), ((List.drop 0 d12), (decide ((((ByteArray.size d14) : Nat) : Int) > 120)), ()), (List.take (List.length d22) (List.drop 0 d22)), (List.take (List.length d23) (List.drop 0 d23)), d24, d25, ())
        else
         none)
 else
  none
theorem y33 : y1r f136.ntmps 131 39 z30 y84 f136.results.toList (yc4 f136) zo5 zo6 = yl4 := by kernel_rfl
def z31 : CallD := ⟨f136.ntmps, zo5, 131, zo6, yl4, 0⟩
theorem z2f : y7a prog 39 136 z31 := y0e (yb8 yg0) y6n (L := y84) func136 (by kernel_rfl) (c := yc4 f136) (by kernel_rfl) (ye8 (L := y84) (yb8 yg0) y6n mixed (c := yc4 f136) (bs := [ya8 f136 2]) (by kernel_rfl) (ya9 (zt0 rfl) ya0) (by kernel_rfl)) (by kernel_rfl) (by kernel_rfl) y33
def z32 : Env := ev fun g => ifEq g 135 (some A135) (ifEq g 134 (some A134) (ifEq g 153 (some A153) (ifEq g 137 (some A137) (ifEq g 138 (some A138) (ifEq g 139 (some A139) (none))))))
theorem y6o : FnsOk prog z32 := (oF zh6 func135 (oF zh7 func134 (oF y82 func153 (oF zh8 func137 (oF zh9 func138 (oF y83 func139 (ye2 _ _)))))))
def zi2 : List Fm := .box 100000 [.own kE 100001 true, .val .bool] :: d :: .cell (.val .str) :: d :: .box 100400 [.val i6, .own i6 100402 false] :: D 6 (.cell (.val sE) :: .cell (.val i6) :: .cell (.val i6) :: D 48 (.cell (.val .bool) :: D 4 (.ali 100000 0 :: .cell (.val sE) :: d :: d :: d :: .cell (.val i6) :: .box 107300 [.val i6, .val sI, .val .str] :: D 118 [])))
def zi3 : List (Ex × List Fm) := [(.ret, [d, d, d, d, d, d, d, d, d, d, d, d, d, d, d, d, d, d, d, d, d, d, d, d, d, d, d, d, d, d, d, d, d, d, d, d, d, d, d, d, d, d, d, d, d, d, d, d, d, d, d, d, d, d, d, d, d, d, d, d, d, d, .cell (.val .bool), d, d, d, d, .box 106700 [.own kE 106701 true, .val .bool], .cell (.val sE), d, d, d, .cell (.val i6), .box 107300 [.val i6, .val sI, .val .str], d, d, d, d, d, d, d, d, d, d, d, d, d, d, d, d, d, d, d, d, d, d, d, d, d, d, d, d, d, d, d, d, d, d, d, d, d, d, d, d, d, d, d, d, d, d, d, d, d, d, d, d, d, d, d, d, d, d, d, d, d, d, d, d, d, d, d, d, d, d, d, d, d, d, d, d, d, d, d, d, d, d, d, d, d, d, d, d, d, d, d, d, d, d, d, d, d, d, d, d, d, d, d, d, d, d, d, d, d, d, d, d, d, d, d, d, d, d]), (.exit 0, [.box 100000 [.own kE 100001 true, .val .bool], d, .cell (.val .str), d, .box 100400 [.val i6, .own i6 100402 false], d, d, d, d, d, d, d, d, d, d, d, d, d, d, d, d, d, d, d, d, d, d, d, d, d, d, d, d, d, d, d, d, d, d, d, d, d, d, d, d, d, d, d, d, d, d, d, d, d, d, d, d, d, d, d, d, d, .cell (.val .bool), d, d, d, d, .ali 100000 0, .cell (.val sE), d, d, d, .cell (.val i6), .box 107300 [.val i6, .val sI, .val .str], d, d, d, d, d, d, d, d, d, d, d, d, d, d, d, d, d, d, d, d, d, d, d, d, d, d, d, d, d, d, d, d, d, d, d, d, d, d, d, d, d, d, d, d, d, d, d, d, d, d, d, d, d, d, d, d, d, d, d, d, d, d, d, d, d, d, d, d, d, d, d, d, d, d, d, d, d, d, d, d, d, d, d, d, d, d, d, d, d, d, d, d, d, d, d, d, d, d, d, d, d, d, d, d, d, d, d, d, d, d, d, d, d, d, d, d, d, d])]
def ye6 : ((LE × Bool × Unit) × ByteArray × (Int × LI × Unit) × LE × Int × Int × Bool × LE × Int × (Int × LI × ByteArray × Unit) × Unit) → Option (((LE × Bool × Unit) × ByteArray × (Int × LI × Unit) × LE × Int × Int × Bool × LE × Int × (Int × LI × ByteArray × Unit) × Unit) ⊕ ((Bool × (LE × Bool × Unit) × LE × Int × (Int × LI × ByteArray × Unit) × Unit) ⊕ ((LE × Bool × Unit) × ByteArray × (Int × LI × Unit) × Bool × LE × Int × (Int × LI × ByteArray × Unit) × Unit))) := fun ((v0_0, v0_1, _), v2, (v4_0, v4_1, _), v11, v12, v13, v62, v68, v72, (v73_0, v73_1, v73_2, _), _) =>
 bif (decide (v13 < v12)) then
  if (((0 : Int) ≤ v13) ∧ (v13 < (((List.length v11) : Nat) : Int))) then
   Option.bind (ys9 (List.getD v11 (Int.toNat v13) (((0 : Int), []), ⟨Array.empty⟩)).1.2 (List.take (List.length v4_1) (List.drop 0 v4_1))) fun r0 =>
    bif r0 then
     if ((0 + (List.length v0_0)) = (List.length v0_0)) then
      some (Sum.inr (Sum.inl (v62, ((List.drop 0 v0_0), v0_1, ()), v68, v72, (v73_0, v73_1, v73_2, ()), ())))
     else
      none
    else
     if ((0 + (List.length v0_0)) = (List.length v0_0)) then
      some (Sum.inl (((List.drop 0 v0_0), v0_1, ()), v2, (v4_0, (List.take (List.length v4_1) (List.drop 0 v4_1)), ()), v11, v12, (IntKind.wrap .i64 (v13 + 1)), v62, v68, v72, (v73_0, v73_1, v73_2, ()), ()))
     else
      none
  else
   none
 else
  if ((0 + (List.length v0_0)) = (List.length v0_0)) then
   some (Sum.inr (Sum.inr (((List.drop 0 v0_0), v0_1, ()), v2, (v4_0, (List.take (List.length v4_1) (List.drop 0 v4_1)), ()), v62, v68, v72, (v73_0, v73_1, v73_2, ()), ())))
  else
   none
theorem zt1 {L} (h : L 2 = some ⟨61, zi2, zi3, ye6⟩) : yc0 prog L (ya8 f136 2) := lo (L' := L0) (by kernel_rfl) y6o ya0 h
def y85 : Nat → Option LoopD := fun n => ifEq n 2 (some ⟨61, zi2, zi3, ye6⟩) (L0 n)
def zo7 : List Fm := .box 100000 [.own kE 100001 true, .val .bool] :: .agg [.val i6, .own i6 100102 false] :: .cell (.val .str) :: D 59 (.cell (.val .bool) :: D 4 (.ali 100000 0 :: .cell (.val sE) :: d :: d :: d :: .cell (.val i6) :: .box 107300 [.val i6, .val sI, .val .str] :: D 118 []))
def zo8 : List Fm := d :: .cell (.val .bool) :: D 4 (.box 100600 [.own kE 100601 true, .val .bool] :: .cell (.val sE) :: d :: d :: d :: .cell (.val i6) :: .box 101200 [.val i6, .val sI, .val .str] :: D 118 [])
def yi3 : ((LE × Bool × Unit) × (Int × LI × Unit) × ByteArray × Bool × LE × Int × (Int × LI × ByteArray × Unit) × Unit) → Option (Bool × (LE × Bool × Unit) × LE × Int × (Int × LI × ByteArray × Unit) × Unit) := fun ((v0_0, v0_1, _), (v1_0, v1_1, _), v2, v62, v68, v72, (v73_0, v73_1, v73_2, _), _) =>
 if ((0 + (List.length v0_0)) = (List.length v0_0)) then
  Option.bind (ya2 ye6 (((List.drop 0 v0_0), v0_1, ()), v2, (v1_0, (List.take (List.length v1_1) (List.drop 0 v1_1)), ()), (List.take (List.length v0_0) (List.drop 0 v0_0)), (((List.length v0_0) : Nat) : Int), 0, v62, v68, v72, (v73_0, v73_1, v73_2, ()), ())) fun r0 =>
   (match r0 with
   | .inl (d1, (d2, d3, _), d4, d5, (d6, d7, d8, _), _) =>
     if ((0 + (List.length d2)) = (List.length d2)) then
      some (d1, ((List.drop 0 d2), d3, ()), d4, d5, (d6, d7, d8, ()), ())
     else
      none
   | .inr ((d9, d10, _), d11, (d12, d13, _), d14, d15, d16, (d17, d18, d19, _), _) =>
     bif d10 then
      if ((0 + (List.length d9)) = (List.length d9)) then
       some (d14, ((List.drop 0 d9), true, ()), d15, d16, (d17, d18, d19, ()), ())
      else
       none
     else
      bif (decide ((((List.length d9) : Nat) : Int) ≥ 120)) then
       if ((0 + (List.length d9)) = (List.length d9)) then
        some (d14, ((List.drop 0 d9), true, ()), d15, d16, (d17, d18, d19, ()), ())
       else
        none
      else
       bif (!(decide ((((ByteArray.size d11) : Nat) : Int) > 120))) then
        if (((0 + (List.length d9)) = (List.length d9)) ∧ ((((List.length d9) + (List.length (List.take 1 (List.drop 0 [((d12, (List.take (List.length d13) (List.drop 0 d13))), d11)])))) * 48) ≤ 140737488355328)) then
         if ((0 + ((List.length d9) + (List.length (List.take 1 (List.drop 0 [((d12, (List.take (List.length d13) (List.drop 0 d13))), d11)]))))) = (List.length ((List.drop 0 d9) ++ (List.take 1 (List.drop 0 [((d12, (List.take (List.length d13) (List.drop 0 d13))), d11)]))))) then
          some (d14, ((List.drop 0 ((List.drop 0 d9) ++ (List.take 1 (List.drop 0 [((d12, (List.take (List.length d13) (List.drop 0 d13))), d11)])))), (decide ((((ByteArray.size d11) : Nat) : Int) > 120)), ()), d15, d16, (d17, d18, d19, ()), ())
         else
          none
        else
         none
       else
        if ((0 + (List.length d9)) = (List.length d9)) then
         some (d14, ((List.drop 0 d9), (decide ((((ByteArray.size d11) : Nat) : Int) > 120)), ()), d15, d16, (d17, d18, d19, ()), ())
        else
         none)
 else
  none
theorem y34 : y1r f136.ntmps 131 78 z32 y85 f136.results.toList (yc4 f136) zo7 zo8 = yi3 := by kernel_rfl
def z33 : CallD := ⟨f136.ntmps, zo7, 131, zo8, yi3, 0⟩
theorem z2g : y7a prog 78 136 z33 := y0e (yb8 yg0) y6o (L := y85) func136 (by kernel_rfl) (c := yc4 f136) (by kernel_rfl) (ye8 (L := y85) (yb8 yg0) y6o mixed (c := yc4 f136) (bs := [ya8 f136 2]) (by kernel_rfl) (ya9 (zt1 rfl) ya0) (by kernel_rfl)) (by kernel_rfl) (by kernel_rfl) y34
def z0g : Env := ev fun g => ifEq g 135 (some A135) (ifEq g 134 (some A134) (ifEq g 153 (some A153) (ifEq g 137 (some A137) (ifEq g 138 (some A138) (ifEq g 139 (some A139) (none))))))
theorem y41 : FnsOk prog z0g := (oF zh6 func135 (oF zh7 func134 (oF y82 func153 (oF zh8 func137 (oF zh9 func138 (oF y83 func139 (ye2 _ _)))))))
def y9w : List Fm := .box 100000 [.own kE 100001 true, .val .bool] :: d :: .cell (.val .str) :: d :: .box 100400 [.val i6, .own i6 100402 false] :: D 6 (.cell (.val sE) :: .cell (.val i6) :: .cell (.val i6) :: D 48 (.cell (.val .bool) :: D 4 (.ali 100000 0 :: .cell (.val sE) :: d :: d :: d :: .cell (.val i6) :: .box 107300 [.val i6, .val sI, .val .str] :: d :: d :: .box 107600 [.val i6, .val sI, .val .str] :: D 74 (.cell (.val sE) :: .cell (.val i6) :: .cell (.val i6) :: D 38 []))))
def y9x : List (Ex × List Fm) := [(.ret, [d, d, d, d, d, d, d, d, d, d, d, d, d, d, d, d, d, d, d, d, d, d, d, d, d, d, d, d, d, d, d, d, d, d, d, d, d, d, d, d, d, d, d, d, d, d, d, d, d, d, d, d, d, d, d, d, d, d, d, d, d, d, .cell (.val .bool), d, d, d, d, .box 106700 [.own kE 106701 true, .val .bool], .cell (.val sE), d, d, d, .cell (.val i6), .box 107300 [.val i6, .val sI, .val .str], d, d, .box 107600 [.val i6, .val sI, .val .str], d, d, d, d, d, d, d, d, d, d, d, d, d, d, d, d, d, d, d, d, d, d, d, d, d, d, d, d, d, d, d, d, d, d, d, d, d, d, d, d, d, d, d, d, d, d, d, d, d, d, d, d, d, d, d, d, d, d, d, d, d, d, d, d, d, d, d, d, d, d, d, d, d, d, .cell (.val sE), .cell (.val i6), .cell (.val i6), d, d, d, d, d, d, d, d, d, d, d, d, d, d, d, d, d, d, d, d, d, d, d, d, d, d, d, d, d, d, d, d, d, d, d, d, d, d]), (.exit 0, [.box 100000 [.own kE 100001 true, .val .bool], d, .cell (.val .str), d, .box 100400 [.val i6, .own i6 100402 false], d, d, d, d, d, d, d, d, d, d, d, d, d, d, d, d, d, d, d, d, d, d, d, d, d, d, d, d, d, d, d, d, d, d, d, d, d, d, d, d, d, d, d, d, d, d, d, d, d, d, d, d, d, d, d, d, d, .cell (.val .bool), d, d, d, d, .ali 100000 0, .cell (.val sE), d, d, d, .cell (.val i6), .box 107300 [.val i6, .val sI, .val .str], d, d, .box 107600 [.val i6, .val sI, .val .str], d, d, d, d, d, d, d, d, d, d, d, d, d, d, d, d, d, d, d, d, d, d, d, d, d, d, d, d, d, d, d, d, d, d, d, d, d, d, d, d, d, d, d, d, d, d, d, d, d, d, d, d, d, d, d, d, d, d, d, d, d, d, d, d, d, d, d, d, d, d, d, d, d, d, .cell (.val sE), .cell (.val i6), .cell (.val i6), d, d, d, d, d, d, d, d, d, d, d, d, d, d, d, d, d, d, d, d, d, d, d, d, d, d, d, d, d, d, d, d, d, d, d, d, d, d])]
def ye0 : ((LE × Bool × Unit) × ByteArray × (Int × LI × Unit) × LE × Int × Int × Bool × LE × Int × (Int × LI × ByteArray × Unit) × (Int × LI × ByteArray × Unit) × LE × Int × Int × Unit) → Option (((LE × Bool × Unit) × ByteArray × (Int × LI × Unit) × LE × Int × Int × Bool × LE × Int × (Int × LI × ByteArray × Unit) × (Int × LI × ByteArray × Unit) × LE × Int × Int × Unit) ⊕ ((Bool × (LE × Bool × Unit) × LE × Int × (Int × LI × ByteArray × Unit) × (Int × LI × ByteArray × Unit) × LE × Int × Int × Unit) ⊕ ((LE × Bool × Unit) × ByteArray × (Int × LI × Unit) × Bool × LE × Int × (Int × LI × ByteArray × Unit) × (Int × LI × ByteArray × Unit) × LE × Int × Int × Unit))) := fun ((v0_0, v0_1, _), v2, (v4_0, v4_1, _), v11, v12, v13, v62, v68, v72, (v73_0, v73_1, v73_2, _), (v76_0, v76_1, v76_2, _), v151, v152, v153, _) =>
 bif (decide (v13 < v12)) then
  if (((0 : Int) ≤ v13) ∧ (v13 < (((List.length v11) : Nat) : Int))) then
   Option.bind (ys9 (List.getD v11 (Int.toNat v13) (((0 : Int), []), ⟨Array.empty⟩)).1.2 (List.take (List.length v4_1) (List.drop 0 v4_1))) fun r0 =>
    bif r0 then
     if ((0 + (List.length v0_0)) = (List.length v0_0)) then
      some (Sum.inr (Sum.inl (v62, ((List.drop 0 v0_0), v0_1, ()), v68, v72, (v73_0, v73_1, v73_2, ()), (v76_0, v76_1, v76_2, ()), v151, v152, v153, ())))
     else
      none
    else
     if ((0 + (List.length v0_0)) = (List.length v0_0)) then
      some (Sum.inl (((List.drop 0 v0_0), v0_1, ()), v2, (v4_0, (List.take (List.length v4_1) (List.drop 0 v4_1)), ()), v11, v12, (IntKind.wrap .i64 (v13 + 1)), v62, v68, v72, (v73_0, v73_1, v73_2, ()), (v76_0, v76_1, v76_2, ()), v151, v152, v153, ()))
     else
      none
  else
   none
 else
  if ((0 + (List.length v0_0)) = (List.length v0_0)) then
   some (Sum.inr (Sum.inr (((List.drop 0 v0_0), v0_1, ()), v2, (v4_0, (List.take (List.length v4_1) (List.drop 0 v4_1)), ()), v62, v68, v72, (v73_0, v73_1, v73_2, ()), (v76_0, v76_1, v76_2, ()), v151, v152, v153, ())))
  else
   none
theorem zl1 {L} (h : L 2 = some ⟨61, y9w, y9x, ye0⟩) : yc0 prog L (ya8 f136 2) := lo (L' := L0) (by kernel_rfl) y41 ya0 h
def y6p : Nat → Option LoopD := fun n => ifEq n 2 (some ⟨61, y9w, y9x, ye0⟩) (L0 n)
def zi4 : List Fm := .box 100000 [.own kE 100001 true, .val .bool] :: .agg [.val i6, .own i6 100102 false] :: .cell (.val .str) :: D 59 (.cell (.val .bool) :: D 4 (.ali 100000 0 :: .cell (.val sE) :: d :: d :: d :: .cell (.val i6) :: .box 107300 [.val i6, .val sI, .val .str] :: d :: d :: .box 107600 [.val i6, .val sI, .val .str] :: D 74 (.cell (.val sE) :: .cell (.val i6) :: .cell (.val i6) :: D 38 [])))
def zi5 : List Fm := d :: .cell (.val .bool) :: D 4 (.box 100600 [.own kE 100601 true, .val .bool] :: .cell (.val sE) :: d :: d :: d :: .cell (.val i6) :: .box 101200 [.val i6, .val sI, .val .str] :: d :: d :: .box 101500 [.val i6, .val sI, .val .str] :: D 74 (.cell (.val sE) :: .cell (.val i6) :: .cell (.val i6) :: D 38 []))
def yk1 : ((LE × Bool × Unit) × (Int × LI × Unit) × ByteArray × Bool × LE × Int × (Int × LI × ByteArray × Unit) × (Int × LI × ByteArray × Unit) × LE × Int × Int × Unit) → Option (Bool × (LE × Bool × Unit) × LE × Int × (Int × LI × ByteArray × Unit) × (Int × LI × ByteArray × Unit) × LE × Int × Int × Unit) := fun ((v0_0, v0_1, _), (v1_0, v1_1, _), v2, v62, v68, v72, (v73_0, v73_1, v73_2, _), (v76_0, v76_1, v76_2, _), v151, v152, v153, _) =>
 if ((0 + (List.length v0_0)) = (List.length v0_0)) then
  Option.bind (ya2 ye0 (((List.drop 0 v0_0), v0_1, ()), v2, (v1_0, (List.take (List.length v1_1) (List.drop 0 v1_1)), ()), (List.take (List.length v0_0) (List.drop 0 v0_0)), (((List.length v0_0) : Nat) : Int), 0, v62, v68, v72, (v73_0, v73_1, v73_2, ()), (v76_0, v76_1, v76_2, ()), v151, v152, v153, ())) fun r0 =>
   (match r0 with
   | .inl (d1, (d2, d3, _), d4, d5, (d6, d7, d8, _), (d9, d10, d11, _), d12, d13, d14, _) =>
     if ((0 + (List.length d2)) = (List.length d2)) then
      some (d1, ((List.drop 0 d2), d3, ()), d4, d5, (d6, d7, d8, ()), (d9, d10, d11, ()), d12, d13, d14, ())
     else
      none
   | .inr ((d15, d16, _), d17, (d18, d19, _), d20, d21, d22, (d23, d24, d25, _), (d26, d27, d28, _), d29, d30, d31, _) =>
     bif d16 then
      if ((0 + (List.length d15)) = (List.length d15)) then
       some (d20, ((List.drop 0 d15), true, ()), d21, d22, (d23, d24, d25, ()), (d26, d27, d28, ()), d29, d30, d31, ())
      else
       none
     else
      bif (decide ((((List.length d15) : Nat) : Int) ≥ 120)) then
       if ((0 + (List.length d15)) = (List.length d15)) then
        some (d20, ((List.drop 0 d15), true, ()), d21, d22, (d23, d24, d25, ()), (d26, d27, d28, ()), d29, d30, d31, ())
       else
        none
      else
       bif (!(decide ((((ByteArray.size d17) : Nat) : Int) > 120))) then
        if (((0 + (List.length d15)) = (List.length d15)) ∧ ((((List.length d15) + (List.length (List.take 1 (List.drop 0 [((d18, (List.take (List.length d19) (List.drop 0 d19))), d17)])))) * 48) ≤ 140737488355328)) then
         if ((0 + ((List.length d15) + (List.length (List.take 1 (List.drop 0 [((d18, (List.take (List.length d19) (List.drop 0 d19))), d17)]))))) = (List.length ((List.drop 0 d15) ++ (List.take 1 (List.drop 0 [((d18, (List.take (List.length d19) (List.drop 0 d19))), d17)]))))) then
          some (d20, ((List.drop 0 ((List.drop 0 d15) ++ (List.take 1 (List.drop 0 [((d18, (List.take (List.length d19) (List.drop 0 d19))), d17)])))), (decide ((((ByteArray.size d17) : Nat) : Int) > 120)), ()), d21, d22, (d23, d24, d25, ()), (d26, d27, d28, ()), d29, d30, d31, ())
         else
          none
        else
         none
       else
        if ((0 + (List.length d15)) = (List.length d15)) then
         some (d20, ((List.drop 0 d15), (decide ((((ByteArray.size d17) : Nat) : Int) > 120)), ()), d21, d22, (d23, d24, d25, ()), (d26, d27, d28, ()), d29, d30, d31, ())
        else
         none)
 else
  none
theorem y3l : y1r f136.ntmps 131 107 z0g y6p f136.results.toList (yc4 f136) zi4 zi5 = yk1 := by kernel_rfl
def z0h : CallD := ⟨f136.ntmps, zi4, 131, zi5, yk1, 0⟩
theorem z0i : y7a prog 107 136 z0h := y0e (yb8 yg0) y41 (L := y6p) func136 (by kernel_rfl) (c := yc4 f136) (by kernel_rfl) (ye8 (L := y6p) (yb8 yg0) y41 mixed (c := yc4 f136) (bs := [ya8 f136 2]) (by kernel_rfl) (ya9 (zl1 rfl) ya0) (by kernel_rfl)) (by kernel_rfl) (by kernel_rfl) y3l
def z0j : Env := ev fun g => ifEq g 135 (some A135) (ifEq g 134 (some A134) (ifEq g 153 (some A153) (ifEq g 137 (some A137) (ifEq g 138 (some A138) (ifEq g 139 (some A139) (none))))))
theorem y42 : FnsOk prog z0j := (oF zh6 func135 (oF zh7 func134 (oF y82 func153 (oF zh8 func137 (oF zh9 func138 (oF y83 func139 (ye2 _ _)))))))
def y9y : List Fm := .box 100000 [.own kE 100001 true, .val .bool] :: d :: .cell (.val .str) :: d :: .box 100400 [.val i6, .own i6 100402 false] :: D 6 (.cell (.val sE) :: .cell (.val i6) :: .cell (.val i6) :: D 48 (.cell (.val .bool) :: D 4 (.ali 100000 0 :: .cell (.val sE) :: d :: d :: d :: .cell (.val i6) :: .box 107300 [.val i6, .val sI, .val .str] :: D 77 (.cell (.val sE) :: .cell (.val i6) :: .cell (.val i6) :: D 38 []))))
def y9z : List (Ex × List Fm) := [(.ret, [d, d, d, d, d, d, d, d, d, d, d, d, d, d, d, d, d, d, d, d, d, d, d, d, d, d, d, d, d, d, d, d, d, d, d, d, d, d, d, d, d, d, d, d, d, d, d, d, d, d, d, d, d, d, d, d, d, d, d, d, d, d, .cell (.val .bool), d, d, d, d, .box 106700 [.own kE 106701 true, .val .bool], .cell (.val sE), d, d, d, .cell (.val i6), .box 107300 [.val i6, .val sI, .val .str], d, d, d, d, d, d, d, d, d, d, d, d, d, d, d, d, d, d, d, d, d, d, d, d, d, d, d, d, d, d, d, d, d, d, d, d, d, d, d, d, d, d, d, d, d, d, d, d, d, d, d, d, d, d, d, d, d, d, d, d, d, d, d, d, d, d, d, d, d, d, d, d, d, d, d, d, d, .cell (.val sE), .cell (.val i6), .cell (.val i6), d, d, d, d, d, d, d, d, d, d, d, d, d, d, d, d, d, d, d, d, d, d, d, d, d, d, d, d, d, d, d, d, d, d, d, d, d, d]), (.exit 0, [.box 100000 [.own kE 100001 true, .val .bool], d, .cell (.val .str), d, .box 100400 [.val i6, .own i6 100402 false], d, d, d, d, d, d, d, d, d, d, d, d, d, d, d, d, d, d, d, d, d, d, d, d, d, d, d, d, d, d, d, d, d, d, d, d, d, d, d, d, d, d, d, d, d, d, d, d, d, d, d, d, d, d, d, d, d, .cell (.val .bool), d, d, d, d, .ali 100000 0, .cell (.val sE), d, d, d, .cell (.val i6), .box 107300 [.val i6, .val sI, .val .str], d, d, d, d, d, d, d, d, d, d, d, d, d, d, d, d, d, d, d, d, d, d, d, d, d, d, d, d, d, d, d, d, d, d, d, d, d, d, d, d, d, d, d, d, d, d, d, d, d, d, d, d, d, d, d, d, d, d, d, d, d, d, d, d, d, d, d, d, d, d, d, d, d, d, d, d, d, .cell (.val sE), .cell (.val i6), .cell (.val i6), d, d, d, d, d, d, d, d, d, d, d, d, d, d, d, d, d, d, d, d, d, d, d, d, d, d, d, d, d, d, d, d, d, d, d, d, d, d])]
def ye1 : ((LE × Bool × Unit) × ByteArray × (Int × LI × Unit) × LE × Int × Int × Bool × LE × Int × (Int × LI × ByteArray × Unit) × LE × Int × Int × Unit) → Option (((LE × Bool × Unit) × ByteArray × (Int × LI × Unit) × LE × Int × Int × Bool × LE × Int × (Int × LI × ByteArray × Unit) × LE × Int × Int × Unit) ⊕ ((Bool × (LE × Bool × Unit) × LE × Int × (Int × LI × ByteArray × Unit) × LE × Int × Int × Unit) ⊕ ((LE × Bool × Unit) × ByteArray × (Int × LI × Unit) × Bool × LE × Int × (Int × LI × ByteArray × Unit) × LE × Int × Int × Unit))) := fun ((v0_0, v0_1, _), v2, (v4_0, v4_1, _), v11, v12, v13, v62, v68, v72, (v73_0, v73_1, v73_2, _), v151, v152, v153, _) =>
 bif (decide (v13 < v12)) then
  if (((0 : Int) ≤ v13) ∧ (v13 < (((List.length v11) : Nat) : Int))) then
   Option.bind (ys9 (List.getD v11 (Int.toNat v13) (((0 : Int), []), ⟨Array.empty⟩)).1.2 (List.take (List.length v4_1) (List.drop 0 v4_1))) fun r0 =>
    bif r0 then
     if ((0 + (List.length v0_0)) = (List.length v0_0)) then
      some (Sum.inr (Sum.inl (v62, ((List.drop 0 v0_0), v0_1, ()), v68, v72, (v73_0, v73_1, v73_2, ()), v151, v152, v153, ())))
     else
      none
    else
     if ((0 + (List.length v0_0)) = (List.length v0_0)) then
      some (Sum.inl (((List.drop 0 v0_0), v0_1, ()), v2, (v4_0, (List.take (List.length v4_1) (List.drop 0 v4_1)), ()), v11, v12, (IntKind.wrap .i64 (v13 + 1)), v62, v68, v72, (v73_0, v73_1, v73_2, ()), v151, v152, v153, ()))
     else
      none
  else
   none
 else
  if ((0 + (List.length v0_0)) = (List.length v0_0)) then
   some (Sum.inr (Sum.inr (((List.drop 0 v0_0), v0_1, ()), v2, (v4_0, (List.take (List.length v4_1) (List.drop 0 v4_1)), ()), v62, v68, v72, (v73_0, v73_1, v73_2, ()), v151, v152, v153, ())))
  else
   none
theorem zl2 {L} (h : L 2 = some ⟨61, y9y, y9z, ye1⟩) : yc0 prog L (ya8 f136 2) := lo (L' := L0) (by kernel_rfl) y42 ya0 h
def y6q : Nat → Option LoopD := fun n => ifEq n 2 (some ⟨61, y9y, y9z, ye1⟩) (L0 n)
def zi6 : List Fm := .box 100000 [.own kE 100001 true, .val .bool] :: .agg [.val i6, .own i6 100102 false] :: .cell (.val .str) :: D 59 (.cell (.val .bool) :: D 4 (.ali 100000 0 :: .cell (.val sE) :: d :: d :: d :: .cell (.val i6) :: .box 107300 [.val i6, .val sI, .val .str] :: D 77 (.cell (.val sE) :: .cell (.val i6) :: .cell (.val i6) :: D 38 [])))
def zi7 : List Fm := d :: .cell (.val .bool) :: D 4 (.box 100600 [.own kE 100601 true, .val .bool] :: .cell (.val sE) :: d :: d :: d :: .cell (.val i6) :: .box 101200 [.val i6, .val sI, .val .str] :: D 77 (.cell (.val sE) :: .cell (.val i6) :: .cell (.val i6) :: D 38 []))
def yk2 : ((LE × Bool × Unit) × (Int × LI × Unit) × ByteArray × Bool × LE × Int × (Int × LI × ByteArray × Unit) × LE × Int × Int × Unit) → Option (Bool × (LE × Bool × Unit) × LE × Int × (Int × LI × ByteArray × Unit) × LE × Int × Int × Unit) := fun ((v0_0, v0_1, _), (v1_0, v1_1, _), v2, v62, v68, v72, (v73_0, v73_1, v73_2, _), v151, v152, v153, _) =>
 if ((0 + (List.length v0_0)) = (List.length v0_0)) then
  Option.bind (ya2 ye1 (((List.drop 0 v0_0), v0_1, ()), v2, (v1_0, (List.take (List.length v1_1) (List.drop 0 v1_1)), ()), (List.take (List.length v0_0) (List.drop 0 v0_0)), (((List.length v0_0) : Nat) : Int), 0, v62, v68, v72, (v73_0, v73_1, v73_2, ()), v151, v152, v153, ())) fun r0 =>
   (match r0 with
   | .inl (d1, (d2, d3, _), d4, d5, (d6, d7, d8, _), d9, d10, d11, _) =>
     if ((0 + (List.length d2)) = (List.length d2)) then
      some (d1, ((List.drop 0 d2), d3, ()), d4, d5, (d6, d7, d8, ()), d9, d10, d11, ())
     else
      none
   | .inr ((d12, d13, _), d14, (d15, d16, _), d17, d18, d19, (d20, d21, d22, _), d23, d24, d25, _) =>
     bif d13 then
      if ((0 + (List.length d12)) = (List.length d12)) then
       some (d17, ((List.drop 0 d12), true, ()), d18, d19, (d20, d21, d22, ()), d23, d24, d25, ())
      else
       none
     else
      bif (decide ((((List.length d12) : Nat) : Int) ≥ 120)) then
       if ((0 + (List.length d12)) = (List.length d12)) then
        some (d17, ((List.drop 0 d12), true, ()), d18, d19, (d20, d21, d22, ()), d23, d24, d25, ())
       else
        none
      else
       bif (!(decide ((((ByteArray.size d14) : Nat) : Int) > 120))) then
        if (((0 + (List.length d12)) = (List.length d12)) ∧ ((((List.length d12) + (List.length (List.take 1 (List.drop 0 [((d15, (List.take (List.length d16) (List.drop 0 d16))), d14)])))) * 48) ≤ 140737488355328)) then
         if ((0 + ((List.length d12) + (List.length (List.take 1 (List.drop 0 [((d15, (List.take (List.length d16) (List.drop 0 d16))), d14)]))))) = (List.length ((List.drop 0 d12) ++ (List.take 1 (List.drop 0 [((d15, (List.take (List.length d16) (List.drop 0 d16))), d14)]))))) then
          some (d17, ((List.drop 0 ((List.drop 0 d12) ++ (List.take 1 (List.drop 0 [((d15, (List.take (List.length d16) (List.drop 0 d16))), d14)])))), (decide ((((ByteArray.size d14) : Nat) : Int) > 120)), ()), d18, d19, (d20, d21, d22, ()), d23, d24, d25, ())
         else
          none
        else
         none
       else
        if ((0 + (List.length d12)) = (List.length d12)) then
         some (d17, ((List.drop 0 d12), (decide ((((ByteArray.size d14) : Nat) : Int) > 120)), ()), d18, d19, (d20, d21, d22, ()), d23, d24, d25, ())
        else
         none)
 else
  none
theorem y3m : y1r f136.ntmps 131 120 z0j y6q f136.results.toList (yc4 f136) zi6 zi7 = yk2 := by kernel_rfl
def z0k : CallD := ⟨f136.ntmps, zi6, 131, zi7, yk2, 0⟩
theorem z0l : y7a prog 120 136 z0k := y0e (yb8 yg0) y42 (L := y6q) func136 (by kernel_rfl) (c := yc4 f136) (by kernel_rfl) (ye8 (L := y6q) (yb8 yg0) y42 mixed (c := yc4 f136) (bs := [ya8 f136 2]) (by kernel_rfl) (ya9 (zl2 rfl) ya0) (by kernel_rfl)) (by kernel_rfl) (by kernel_rfl) y3m
def E98 : Env := ⟨ty0, fun g => ifEq g 135 (some A135) (ifEq g 134 (some A134) (ifEq g 153 (some A153) (ifEq g 137 (some A137) (ifEq g 138 (some A138) (ifEq g 139 (some A139) (none)))))), fun _ => none, fun _ => none, fun d => ifI (Nat.beq d 39) (some (136, z31)) (ifI (Nat.beq d 78) (some (136, z33)) (ifI (Nat.beq d 107) (some (136, z0h)) (ifI (Nat.beq d 120) (some (136, z0k)) (none))))⟩
theorem z34 : FnsOk prog E98 := (zk8 (d0 := 39) (g0 := 136) z2f (zk8 (d0 := 78) (g0 := 136) z2g (zk8 (d0 := 107) (g0 := 136) z0i (zk8 (d0 := 120) (g0 := 136) z0l (oF zh6 func135 (oF zh7 func134 (oF y82 func153 (oF zh8 func137 (oF zh9 func138 (oF y83 func139 (ye2 _ _)))))))))))
def sh98_4 : List Fm := d :: .cell (.val .bool) :: .box 100200 [.val i6, .val sI, .val sI, .val sS] :: d :: d :: d :: .box 100600 [.own kE 100601 true, .val .bool] :: .cell (.own kE 100700 false) :: D 12 (.cell (.own .str 102000 false) :: .cell (.val i6) :: .cell (.val i6) :: D 108 [])
def xs98_4 : List (Ex × List Fm) := [(.exit 0, [d, .cell (.val .bool), d, d, d, d, .box 100600 [.own kE 100601 true, .val .bool], .cell (.own kE 100700 false), d, d, d, d, d, d, d, d, d, d, d, d, d, d, d, d, d, d, d, d, d, d, d, d, d, d, d, d, d, d, d, d, d, d, d, d, d, d, d, d, d, d, d, d, d, d, d, d, d, d, d, d, d, d, d, d, d, d, d, d, d, d, d, d, d, d, d, d, d, d, d, d, d, d, d, d, d, d, d, d, d, d, d, d, d, d, d, d, d, d, d, d, d, d, d, d, d, d, d, d, d, d, d, d, d, d, d, d, d, d, d, d, d, d, d, d, d, d, d, d, d, d, d])]
def yg2 : (Bool × (Int × LI × LI × LS × Unit) × (LE × Bool × Unit) × LE × (List ByteArray) × Int × Int × Unit) → Option ((Bool × (Int × LI × LI × LS × Unit) × (LE × Bool × Unit) × LE × (List ByteArray) × Int × Int × Unit) ⊕ ((Bool × (LE × Bool × Unit) × LE × Unit))) := fun (v1, (v2_0, v2_1, v2_2, v2_3, _), (v6_0, v6_1, _), v7, v20, v21, v22, _) =>
 bif (decide (v22 < v21)) then
  if (((0 : Int) ≤ v22) ∧ (v22 < (((List.length v20) : Nat) : Int))) then
   Option.bind (yo2 (v2_0, v2_1, v2_2, v2_3) (List.getD v20 (0 + (Int.toNat v22)) ⟨Array.empty⟩)) fun (r0, r1) =>
    Option.bind (yy0 (r0, (List.take (List.length r1) (List.drop 0 r1)))) fun (r2, r3) =>
     if (((0 + (List.length v7)) = (List.length v7)) ∧ ((((List.length v7) + (List.length (List.take 1 (List.drop 0 [((r2, (List.take (List.length r3) (List.drop 0 r3))), (List.getD v20 (0 + (Int.toNat v22)) (⟨Array.empty⟩ : ByteArray)))])))) * 48) ≤ 140737488355328)) then
      if ((0 + (List.length v6_0)) = (List.length v6_0)) then
       Option.bind (yl4 (((List.drop 0 v6_0), v6_1, ()), (r2, (List.take (List.length r3) (List.drop 0 r3))), (List.getD v20 (0 + (Int.toNat v22)) ⟨Array.empty⟩), v1, (v2_0, v2_1, v2_2, v2_3, ()), (List.take ((List.length v7) + (List.length (List.take 1 (List.drop 0 [((r2, (List.take (List.length r3) (List.drop 0 r3))), (List.getD v20 (0 + (Int.toNat v22)) (⟨Array.empty⟩ : ByteArray)))])))) (List.drop 0 ((List.drop 0 v7) ++ (List.take 1 (List.drop 0 [((r2, (List.take (List.length r3) (List.drop 0 r3))), (List.getD v20 (0 + (Int.toNat v22)) (⟨Array.empty⟩ : ByteArray)))]))))), (List.take (List.length v20) (List.drop 0 v20)), v21, v22, ())) fun (r4, (r5, r6, r7, r8, _), (r9, r10, _), r11, r12, r13, r14, _) =>
        if ((0 + (List.length r9)) = (List.length r9)) then
         some (Sum.inl (r4, (r5, r6, r7, r8, ()), ((List.drop 0 r9), r10, ()), (List.take (List.length r11) (List.drop 0 r11)), (List.take (List.length r12) (List.drop 0 r12)), r13, (IntKind.wrap .i64 (r14 + 1)), ()))
        else
         none
      else
       none
     else
      none
  else
   none
 else
  if ((0 + (List.length v6_0)) = (List.length v6_0)) then
   some (Sum.inr (v1, ((List.drop 0 v6_0), v6_1, ()), (List.take (List.length v7) (List.drop 0 v7)), ()))
  else
   none
theorem kk0 {L} (h : L 4 = some ⟨131, sh98_4, xs98_4, yg2⟩) : yc0 prog L (ya8 f98 4) := lo (L' := L0) (by kernel_rfl) z34 ya0 h
def L98_1 : Nat → Option LoopD := fun n => ifEq n 4 (some ⟨131, sh98_4, xs98_4, yg2⟩) (L0 n)
def ka3 : List Fm := d :: .cell (.val .bool) :: D 4 (.box 100600 [.own kE 100601 true, .val .bool] :: .cell (.val sE) :: d :: d :: d :: .cell (.val i6) :: .box 101200 [.val i6, .val sI, .val .str] :: D 77 (.cell (.val sE) :: .cell (.val i6) :: .cell (.val i6) :: D 38 []))
def ka4 : List (Ex × List Fm) := [(.exit 4, [d, .cell (.val .bool), d, d, d, d, .box 100600 [.own kE 100601 true, .val .bool], .cell (.val sE), d, d, d, .cell (.val i6), d, d, d, d, d, d, d, d, d, d, d, d, d, d, d, d, d, d, d, d, d, d, d, d, d, d, d, d, d, d, d, d, d, d, d, d, d, d, d, d, d, d, d, d, d, d, d, d, d, d, d, d, d, d, d, d, d, d, d, d, d, d, d, d, d, d, d, d, d, d, d, d, d, d, d, d, d, d, d, d, d, d, d, d, d, d, d, d, d, d, d, d, d, d, d, d, d, d, d, d, d, d, d, d, d, d, d, d, d, d, d, d, d, d, d, d, d, d, d])]
def yb5 : (Bool × (LE × Bool × Unit) × LE × Int × (Int × LI × ByteArray × Unit) × LE × Int × Int × Unit) → Option ((Bool × (LE × Bool × Unit) × LE × Int × (Int × LI × ByteArray × Unit) × LE × Int × Int × Unit) ⊕ ((Bool × (LE × Bool × Unit) × LE × Int × Unit))) := fun (v1, (v6_0, v6_1, _), v7, v11, (v12_0, v12_1, v12_2, _), v90, v91, v92, _) =>
 bif (decide (v92 < v91)) then
  if (((0 : Int) ≤ v92) ∧ (v92 < (((List.length v90) : Nat) : Int))) then
   Option.bind (y1f (v12_0, v12_1) ((List.getD v90 (Int.toNat v92) (((0 : Int), []), ⟨Array.empty⟩)).1.1, (List.getD v90 (Int.toNat v92) (((0 : Int), []), ⟨Array.empty⟩)).1.2)) fun (r0, r1) =>
    if (((ByteArray.size v12_2) + (ByteArray.size (List.getD v90 (Int.toNat v92) (((0 : Int), []), ⟨Array.empty⟩)).2)) ≤ 9223372036854775807) then
     if ((0 + (List.length v6_0)) = (List.length v6_0)) then
      Option.bind (yk1 (((List.drop 0 v6_0), v6_1, ()), (r0, (List.take (List.length r1) (List.drop 0 r1)), ()), (v12_2 ++ (List.getD v90 (Int.toNat v92) (((0 : Int), []), ⟨Array.empty⟩)).2), v1, v7, v11, (v12_0, v12_1, v12_2, ()), ((List.getD v90 (Int.toNat v92) (((0 : Int), []), ⟨Array.empty⟩)).1.1, (List.getD v90 (Int.toNat v92) (((0 : Int), []), ⟨Array.empty⟩)).1.2, (List.getD v90 (Int.toNat v92) (((0 : Int), []), ⟨Array.empty⟩)).2, ()), v90, v91, v92, ())) fun (r2, (r3, r4, _), r5, r6, (r7, r8, r9, _), (r10, r11, r12, _), r13, r14, r15, _) =>
       bif r2 then
        Option.bind (y1f (r10, r11) (r7, r8)) fun (r16, r17) =>
         if (((ByteArray.size r12) + (ByteArray.size r9)) ≤ 9223372036854775807) then
          if ((0 + (List.length r3)) = (List.length r3)) then
           Option.bind (yk2 (((List.drop 0 r3), r4, ()), (r16, (List.take (List.length r17) (List.drop 0 r17)), ()), (r12 ++ r9), r2, r5, r6, (r7, r8, r9, ()), r13, r14, r15, ())) fun (r18, (r19, r20, _), r21, r22, (r23, r24, r25, _), r26, r27, r28, _) =>
            if ((0 + (List.length r19)) = (List.length r19)) then
             some (Sum.inl (r18, ((List.drop 0 r19), r20, ()), r21, r22, (r23, r24, r25, ()), r26, r27, (IntKind.wrap .i64 (r28 + 1)), ()))
            else
             none
          else
           none
         else
          none
       else
        if ((0 + (List.length r3)) = (List.length r3)) then
         some (Sum.inl (r2, ((List.drop 0 r3), r4, ()), r5, r6, (r7, r8, r9, ()), r13, r14, (IntKind.wrap .i64 (r15 + 1)), ()))
        else
         none
     else
      none
    else
     none
  else
   none
 else
  if ((0 + (List.length v6_0)) = (List.length v6_0)) then
   some (Sum.inr (v1, ((List.drop 0 v6_0), v6_1, ()), v7, v11, ()))
  else
   none
theorem ka5 {L} (h : L 20 = some ⟨131, ka3, ka4, yb5⟩) : yc0 prog L (ya8 f98 20) := lo (L' := L98_1) (by kernel_rfl) z34 ya0 h
def L98_2 : Nat → Option LoopD := fun n => ifEq n 20 (some ⟨131, ka3, ka4, yb5⟩) (L98_1 n)
def ka6 : List Fm := d :: .cell (.val .bool) :: D 4 (.box 100600 [.own kE 100601 true, .val .bool] :: .cell (.val sE) :: d :: d :: d :: .cell (.val i6) :: D 119 [])
def ka7 : List (Ex × List Fm) := [(.exit 2, [d, d, d, d, d, d, .box 100600 [.val sE, .val .bool], d, d, d, d, d, d, d, d, d, d, d, d, d, d, d, d, d, d, d, d, d, d, d, d, d, d, d, d, d, d, d, d, d, d, d, d, d, d, d, d, d, d, d, d, d, d, d, d, d, d, d, d, d, d, d, d, d, d, d, d, d, d, d, d, d, d, d, d, d, d, d, d, d, d, d, d, d, d, d, d, d, d, d, d, d, d, d, d, d, d, d, d, d, d, d, d, d, d, d, d, d, d, d, d, d, d, d, d, d, d, d, d, d, d, d, d, d, d, d, d, d, d, d, d])]
def yb6 : (Bool × (LE × Bool × Unit) × LE × Int × Unit) → Option ((Bool × (LE × Bool × Unit) × LE × Int × Unit) ⊕ (((LE × Bool × Unit) × Unit))) := fun (v1, (v6_0, v6_1, _), v7, v11, _) =>
 bif (decide (v11 < (((List.length v6_0) : Nat) : Int))) then
  bif (!v6_1) then
   if (((0 : Int) ≤ v11) ∧ (v11 < (((List.length v6_0) : Nat) : Int))) then
    bif v1 then
     Option.bind (yt7 ((List.getD v6_0 (0 + (Int.toNat v11)) (((0 : Int), []), ⟨Array.empty⟩)).1.1, (List.getD v6_0 (0 + (Int.toNat v11)) (((0 : Int), []), ⟨Array.empty⟩)).1.2)) fun r0 =>
      bif r0 then
       Option.bind (y09 ((List.getD v6_0 (0 + (Int.toNat v11)) (((0 : Int), []), ⟨Array.empty⟩)).1.1, (List.getD v6_0 (0 + (Int.toNat v11)) (((0 : Int), []), ⟨Array.empty⟩)).1.2)) fun (r1, r2) =>
        if (((ByteArray.size (⟨#[(40 : UInt8)]⟩ : ByteArray)) + (ByteArray.size (List.getD v6_0 (0 + (Int.toNat v11)) (((0 : Int), []), ⟨Array.empty⟩)).2)) ≤ 9223372036854775807) then
         if (((ByteArray.size ((⟨#[(40 : UInt8)]⟩ : ByteArray) ++ (List.getD v6_0 (0 + (Int.toNat v11)) (((0 : Int), []), ⟨Array.empty⟩)).2)) + (ByteArray.size (⟨#[(41 : UInt8), (35 : UInt8)]⟩ : ByteArray))) ≤ 9223372036854775807) then
          if ((0 + (List.length v6_0)) = (List.length v6_0)) then
           Option.bind (yi3 (((List.drop 0 v6_0), v6_1, ()), (r1, (List.take (List.length r2) (List.drop 0 r2)), ()), (((⟨#[(40 : UInt8)]⟩ : ByteArray) ++ (List.getD v6_0 (0 + (Int.toNat v11)) (((0 : Int), []), ⟨Array.empty⟩)).2) ++ (⟨#[(41 : UInt8), (35 : UInt8)]⟩ : ByteArray)), v1, v7, v11, ((List.getD v6_0 (0 + (Int.toNat v11)) (((0 : Int), []), ⟨Array.empty⟩)).1.1, (List.getD v6_0 (0 + (Int.toNat v11)) (((0 : Int), []), ⟨Array.empty⟩)).1.2, (List.getD v6_0 (0 + (Int.toNat v11)) (((0 : Int), []), ⟨Array.empty⟩)).2, ()), ())) fun (r3, (r4, r5, _), r6, r7, (r8, r9, r10, _), _) =>
            bif r3 then
             if (((0 : Int) ≤ (IntKind.wrap .i64 (r7 + 1))) ∧ ((IntKind.wrap .i64 (r7 + 1)) ≤ (((List.length r4) : Nat) : Int))) then
              if (((0 + 0) = (List.length ([] : List Unit))) ∧ (((0 + (List.length (List.take ((Int.toNat (IntKind.wrap .i64 (r7 + 1))) - 0) (List.drop (0 + 0) r4)))) * 48) ≤ 140737488355328)) then
               if ((0 + (List.length r4)) = (List.length r4)) then
                Option.bind (ya2 yb5 (r3, ((List.drop 0 r4), r5, ()), r6, r7, (r8, r9, r10, ()), (List.take (0 + (List.length (List.take ((Int.toNat (IntKind.wrap .i64 (r7 + 1))) - 0) (List.drop (0 + 0) r4)))) (List.drop 0 ((List.drop 0 []) ++ (List.take ((Int.toNat (IntKind.wrap .i64 (r7 + 1))) - 0) (List.drop (0 + 0) r4))))), (((0 + (List.length (List.take ((Int.toNat (IntKind.wrap .i64 (r7 + 1))) - 0) (List.drop (0 + 0) r4)))) : Nat) : Int), 0, ())) fun (r11, (r12, r13, _), r14, r15, _) =>
                 if ((0 + (List.length r12)) = (List.length r12)) then
                  some (Sum.inl (r11, ((List.drop 0 r12), r13, ()), r14, (IntKind.wrap .i64 (r15 + 1)), ()))
                 else
                  none
               else
                none
              else
               none
             else
              none
            else
             if ((0 + (List.length r4)) = (List.length r4)) then
              Option.bind (ya2 yb5 (r3, ((List.drop 0 r4), r5, ()), r6, r7, (r8, r9, r10, ()), r6, (((List.length r6) : Nat) : Int), 0, ())) fun (r16, (r17, r18, _), r19, r20, _) =>
               if ((0 + (List.length r17)) = (List.length r17)) then
                some (Sum.inl (r16, ((List.drop 0 r17), r18, ()), r19, (IntKind.wrap .i64 (r20 + 1)), ()))
               else
                none
             else
              none
          else
           none
         else
          none
        else
         none
      else
       bif v1 then
        if (((0 : Int) ≤ (IntKind.wrap .i64 (v11 + 1))) ∧ ((IntKind.wrap .i64 (v11 + 1)) ≤ (((List.length v6_0) : Nat) : Int))) then
         if (((0 + 0) = (List.length ([] : List Unit))) ∧ (((0 + (List.length (List.take ((Int.toNat (IntKind.wrap .i64 (v11 + 1))) - 0) (List.drop (0 + 0) v6_0)))) * 48) ≤ 140737488355328)) then
          if ((0 + (List.length v6_0)) = (List.length v6_0)) then
           Option.bind (ya2 yb5 (v1, ((List.drop 0 v6_0), v6_1, ()), v7, v11, ((List.getD v6_0 (0 + (Int.toNat v11)) (((0 : Int), []), ⟨Array.empty⟩)).1.1, (List.getD v6_0 (0 + (Int.toNat v11)) (((0 : Int), []), ⟨Array.empty⟩)).1.2, (List.getD v6_0 (0 + (Int.toNat v11)) (((0 : Int), []), ⟨Array.empty⟩)).2, ()), (List.take (0 + (List.length (List.take ((Int.toNat (IntKind.wrap .i64 (v11 + 1))) - 0) (List.drop (0 + 0) v6_0)))) (List.drop 0 ((List.drop 0 []) ++ (List.take ((Int.toNat (IntKind.wrap .i64 (v11 + 1))) - 0) (List.drop (0 + 0) v6_0))))), (((0 + (List.length (List.take ((Int.toNat (IntKind.wrap .i64 (v11 + 1))) - 0) (List.drop (0 + 0) v6_0)))) : Nat) : Int), 0, ())) fun (r21, (r22, r23, _), r24, r25, _) =>
            if ((0 + (List.length r22)) = (List.length r22)) then
             some (Sum.inl (r21, ((List.drop 0 r22), r23, ()), r24, (IntKind.wrap .i64 (r25 + 1)), ()))
            else
             none
          else
           none
         else
          none
        else
         none
       else
        if ((0 + (List.length v6_0)) = (List.length v6_0)) then
         Option.bind (ya2 yb5 (v1, ((List.drop 0 v6_0), v6_1, ()), v7, v11, ((List.getD v6_0 (0 + (Int.toNat v11)) (((0 : Int), []), ⟨Array.empty⟩)).1.1, (List.getD v6_0 (0 + (Int.toNat v11)) (((0 : Int), []), ⟨Array.empty⟩)).1.2, (List.getD v6_0 (0 + (Int.toNat v11)) (((0 : Int), []), ⟨Array.empty⟩)).2, ()), v7, (((List.length v7) : Nat) : Int), 0, ())) fun (r26, (r27, r28, _), r29, r30, _) =>
          if ((0 + (List.length r27)) = (List.length r27)) then
           some (Sum.inl (r26, ((List.drop 0 r27), r28, ()), r29, (IntKind.wrap .i64 (r30 + 1)), ()))
          else
           none
        else
         none
    else
     bif v1 then
      if (((0 : Int) ≤ (IntKind.wrap .i64 (v11 + 1))) ∧ ((IntKind.wrap .i64 (v11 + 1)) ≤ (((List.length v6_0) : Nat) : Int))) then
       if (((0 + 0) = (List.length ([] : List Unit))) ∧ (((0 + (List.length (List.take ((Int.toNat (IntKind.wrap .i64 (v11 + 1))) - 0) (List.drop (0 + 0) v6_0)))) * 48) ≤ 140737488355328)) then
        if ((0 + (List.length v6_0)) = (List.length v6_0)) then
         Option.bind (ya2 yb5 (v1, ((List.drop 0 v6_0), v6_1, ()), v7, v11, ((List.getD v6_0 (0 + (Int.toNat v11)) (((0 : Int), []), ⟨Array.empty⟩)).1.1, (List.getD v6_0 (0 + (Int.toNat v11)) (((0 : Int), []), ⟨Array.empty⟩)).1.2, (List.getD v6_0 (0 + (Int.toNat v11)) (((0 : Int), []), ⟨Array.empty⟩)).2, ()), (List.take (0 + (List.length (List.take ((Int.toNat (IntKind.wrap .i64 (v11 + 1))) - 0) (List.drop (0 + 0) v6_0)))) (List.drop 0 ((List.drop 0 []) ++ (List.take ((Int.toNat (IntKind.wrap .i64 (v11 + 1))) - 0) (List.drop (0 + 0) v6_0))))), (((0 + (List.length (List.take ((Int.toNat (IntKind.wrap .i64 (v11 + 1))) - 0) (List.drop (0 + 0) v6_0)))) : Nat) : Int), 0, ())) fun (r31, (r32, r33, _), r34, r35, _) =>
          if ((0 + (List.length r32)) = (List.length r32)) then
           some (Sum.inl (r31, ((List.drop 0 r32), r33, ()), r34, (IntKind.wrap .i64 (r35 + 1)), ()))
          else
           none
        else
         none
       else
        none
      else
       none
     else
      if ((0 + (List.length v6_0)) = (List.length v6_0)) then
       Option.bind (ya2 yb5 (v1, ((List.drop 0 v6_0), v6_1, ()), v7, v11, ((List.getD v6_0 (0 + (Int.toNat v11)) (((0 : Int), []), ⟨Array.empty⟩)).1.1, (List.getD v6_0 (0 + (Int.toNat v11)) (((0 : Int), []), ⟨Array.empty⟩)).1.2, (List.getD v6_0 (0 + (Int.toNat v11)) (((0 : Int), []), ⟨Array.empty⟩)).2, ()), v7, (((List.length v7) : Nat) : Int), 0, ())) fun (r36, (r37, r38, _), r39, r40, _) =>
        if ((0 + (List.length r37)) = (List.length r37)) then
         some (Sum.inl (r36, ((List.drop 0 r37), r38, ()), r39, (IntKind.wrap .i64 (r40 + 1)), ()))
        else
         none
      else
       none
   else
    none
  else
   some (Sum.inr (((List.take (List.length v6_0) (List.drop 0 v6_0)), v6_1, ()), ()))
 else
  some (Sum.inr (((List.take (List.length v6_0) (List.drop 0 v6_0)), v6_1, ()), ()))
theorem ka8 {L} (h : L 11 = some ⟨131, ka6, ka7, yb6⟩) : yc0 prog L (ya8 f98 11) := lo (L' := L98_2) (by kernel_rfl) z34 (ya9 (ka5 rfl) ya0) h
def L98_3 : Nat → Option LoopD := fun n => ifEq n 11 (some ⟨131, ka6, ka7, yb6⟩) (L98_2 n)
def yy1 : TA → Bool → Option (LE × Bool) := fun (a0_0, a0_1, a0_2, a0_3) a1 =>
 if ((0 + 0) = (List.length ([] : List Unit))) then
  Option.bind (ya2 yg2 (a1, (a0_0, a0_1, a0_2, a0_3, ()), ((List.drop 0 []), false, ()), (List.take 0 (List.drop 0 [])), (List.take 2 (List.drop 0 [(⟨#[(97 : UInt8)]⟩ : ByteArray), (⟨#[(98 : UInt8)]⟩ : ByteArray)])), ((2 : Nat) : Int), 0, ())) fun (r0, (r1, r2, _), r3, _) =>
   if ((0 + (List.length r1)) = (List.length r1)) then
    Option.bind (ya2 yb6 (r0, ((List.drop 0 r1), r2, ()), (List.take (List.length r3) (List.drop 0 r3)), 0, ())) fun ((r4, r5, _), _) =>
     some (r4, (!r5))
   else
    none
 else
  none
def A98 : FnA := ⟨[.v kA, .v .bool], false, [.sl kE, .bool], fun x => yy1 x.1 x.2.1⟩
theorem A98_ok : FnOk prog 98 A98 := fo (L := L98_3) (by kernel_rfl) func98 z34 (ya9 (kk0 rfl) (ya9 (ka8 rfl) ya0))
def E70 : Env := ev fun g => ifEq g 67 (some A67) (ifEq g 98 (some A98) (none))
theorem E70_ok : FnsOk prog E70 := (oF z3w func67 (oF A98_ok func98 (ye2 _ _)))
def yl5 : TA → Option (LE × Bool) := fun (a0_0, a0_1, a0_2, a0_3) =>
 Option.bind (yc2 (a0_0, a0_1, a0_2, a0_3)) fun r0 =>
  bif (!r0) then
   some ((List.take 0 (List.drop 0 [])), false)
  else
   Option.bind (yy1 (a0_0, a0_1, a0_2, a0_3) true) fun (r1, r2) =>
    bif (!r2) then
     some ((List.take 0 (List.drop 0 [])), false)
    else
     some (r1, true)
def A70 : FnA := ⟨[.v kA], false, [.sl kE, .bool], fun x => yl5 x.1⟩
theorem A70_ok : FnOk prog 70 A70 := fo (L := L0) (by kernel_rfl) func70 E70_ok ya0
def y0a : TM → Option (TM) := fun (a0_0, a0_1) =>
 if (((0 + 0) = (List.length ([] : List Unit))) ∧ (((0 + (List.length a0_1)) * 8) ≤ 140737488355328)) then
  some (a0_0, (List.take (0 + (List.length a0_1)) (List.drop 0 ((List.drop 0 []) ++ a0_1))))
 else
  none
def A140 : FnA := ⟨[.v kM], true, [.pair i6 sI], fun x => y0a x.1⟩
theorem A140_ok : FnOk prog 140 A140 := fo (L := L0) (by kernel_rfl) func140 yh7 ya0
def E99 : Env := ev fun g => ifEq g 140 (some A140) (none)
theorem E99_ok : FnsOk prog E99 := (oF A140_ok func140 (ye2 _ _))
def yr3 : TE → Option (TE) := fun ((a0_0, a0_1), a0_2) =>
 Option.bind (y0a (a0_0, a0_1)) fun (r0, r1) =>
  some ((r0, (List.take (List.length r1) (List.drop 0 r1))), a0_2)
def A99 : FnA := ⟨[.v kE], true, [.pair kM .str], fun x => yr3 x.1⟩
theorem A99_ok : FnOk prog 99 A99 := fo (L := L0) (by kernel_rfl) func99 E99_ok ya0
def E71 : Env := ev fun g => ifEq g 99 (some A99) (none)
theorem E71_ok : FnsOk prog E71 := (oF A99_ok func99 (ye2 _ _))
def sh71_3 : List Fm := d :: d :: d :: .cell (.own kE 100300 false) :: d :: d :: d :: .cell (.val sE) :: .cell (.val i6) :: .cell (.val i6) :: D 10 []
def xs71_3 : List (Ex × List Fm) := [(.exit 0, (d :: d :: d :: .cell (.own kE 100300 false) :: D 16 []))]
def yd3 : (LE × LE × Int × Int × Unit) → Option ((LE × LE × Int × Int × Unit) ⊕ ((LE × Unit))) := fun (v3, v7, v8, v9, _) =>
 bif (decide (v9 < v8)) then
  if (((0 : Int) ≤ v9) ∧ (v9 < (((List.length v7) : Nat) : Int))) then
   Option.bind (yr3 (((List.getD v7 (Int.toNat v9) (((0 : Int), []), ⟨Array.empty⟩)).1.1, (List.getD v7 (Int.toNat v9) (((0 : Int), []), ⟨Array.empty⟩)).1.2), (List.getD v7 (Int.toNat v9) (((0 : Int), []), ⟨Array.empty⟩)).2)) fun ((r0, r1), r2) =>
    if (((0 + (List.length v3)) = (List.length v3)) ∧ ((((List.length v3) + (List.length (List.take 1 (List.drop 0 [((r0, (List.take (List.length r1) (List.drop 0 r1))), r2)])))) * 48) ≤ 140737488355328)) then
     some (Sum.inl ((List.take ((List.length v3) + (List.length (List.take 1 (List.drop 0 [((r0, (List.take (List.length r1) (List.drop 0 r1))), r2)])))) (List.drop 0 ((List.drop 0 v3) ++ (List.take 1 (List.drop 0 [((r0, (List.take (List.length r1) (List.drop 0 r1))), r2)]))))), v7, v8, (IntKind.wrap .i64 (v9 + 1)), ()))
    else
     none
  else
   none
 else
  some (Sum.inr ((List.take (List.length v3) (List.drop 0 v3)), ()))
theorem kk1 {L} (h : L 3 = some ⟨20, sh71_3, xs71_3, yd3⟩) : yc0 prog L (ya8 f71 3) := lo (L' := L0) (by kernel_rfl) E71_ok ya0 h
def L71_1 : Nat → Option LoopD := fun n => ifEq n 3 (some ⟨20, sh71_3, xs71_3, yd3⟩) (L0 n)
def yn1 : LE → Option (LE) := fun a0 =>
 Option.bind (ya2 yd3 ((List.take 0 (List.drop 0 [])), a0, (((List.length a0) : Nat) : Int), 0, ())) fun (r0, _) =>
  some (List.take (List.length r0) (List.drop 0 r0))
def A71 : FnA := ⟨[.v sE], true, [.sl kE], fun x => yn1 x.1⟩
theorem A71_ok : FnOk prog 71 A71 := fo (L := L71_1) (by kernel_rfl) func71 E71_ok (ya9 (kk1 rfl) ya0)
def E40 : Env := ev fun g => ifEq g 70 (some A70) (ifEq g 71 (some A71) (none))
theorem E40_ok : FnsOk prog E40 := (oF A70_ok func70 (oF A71_ok func71 (ye2 _ _)))
def yi2 : TA → Option (LE × Bool) := fun (a0_0, a0_1, a0_2, a0_3) =>
 Option.bind (yl5 (a0_0, a0_1, a0_2, a0_3)) fun (r0, r1) =>
  Option.bind (yn1 r0) fun r2 =>
   some ((List.take (List.length r2) (List.drop 0 r2)), r1)
def A40 : FnA := ⟨[.v kA], true, [.sl kE, .bool], fun x => yi2 x.1⟩
theorem A40_ok : FnOk prog 40 A40 := fo (L := L0) (by kernel_rfl) func40 E40_ok ya0
def sh41_6 : List Fm := d :: d :: .box 100200 [.val i6, .val sI, .val sI, .val sS] :: .box 100300 [.val i6, .val sI] :: d :: .cell (.val i6) :: d :: .cell (.val i6) :: d :: d :: d :: .cell (.val sI) :: .cell (.val i6) :: .cell (.val i6) :: D 4 (.cell (.val sI) :: .cell (.val i6) :: .cell (.val i6) :: D 18 [])
def xs41_6 : List (Ex × List Fm) := [(.exit 2, [d, d, .box 100200 [.val i6, .val sI, .val sI, .val sS], .box 100300 [.val i6, .val sI], d, .cell (.val i6), d, d, d, d, d, .cell (.val sI), .cell (.val i6), .cell (.val i6), d, d, d, d, d, d, d, d, d, d, d, d, d, d, d, d, d, d, d, d, d, d, d, d, d])]
def yh6 : ((Int × LI × LI × LS × Unit) × (Int × LI × Unit) × Int × Int × LI × Int × Int × LI × Int × Int × Unit) → Option (((Int × LI × LI × LS × Unit) × (Int × LI × Unit) × Int × Int × LI × Int × Int × LI × Int × Int × Unit) ⊕ (((Int × LI × LI × LS × Unit) × (Int × LI × Unit) × Int × LI × Int × Int × Unit))) := fun ((v2_0, v2_1, v2_2, v2_3, _), (v3_0, v3_1, _), v5, v7, v11, v12, v13, v18, v19, v20, _) =>
 bif (decide (v20 < v19)) then
  if (((0 : Int) ≤ v20) ∧ (v20 < (((List.length v18) : Nat) : Int))) then
   if (((0 : Int) ≤ (IntKind.wrap .i64 ((IntKind.wrap .i64 (v7 * v2_0)) + (List.getD v18 (Int.toNat v20) 0)))) ∧ ((IntKind.wrap .i64 ((IntKind.wrap .i64 (v7 * v2_0)) + (List.getD v18 (Int.toNat v20) 0))) < (((List.length v3_1) : Nat) : Int))) then
    some (Sum.inl ((v2_0, v2_1, v2_2, v2_3, ()), (v3_0, v3_1, ()), (if ((List.getD v3_1 (Int.toNat (IntKind.wrap .i64 ((IntKind.wrap .i64 (v7 * v2_0)) + (List.getD v18 (Int.toNat v20) 0)))) 0) < v5) then (List.getD v3_1 (Int.toNat (IntKind.wrap .i64 ((IntKind.wrap .i64 (v7 * v2_0)) + (List.getD v18 (Int.toNat v20) 0)))) 0) else v5), v7, v11, v12, v13, v18, v19, (IntKind.wrap .i64 (v20 + 1)), ()))
   else
    none
  else
   none
 else
  some (Sum.inr ((v2_0, v2_1, v2_2, v2_3, ()), (v3_0, v3_1, ()), v5, v11, v12, v13, ()))
theorem kk2 {L} (h : L 6 = some ⟨39, sh41_6, xs41_6, yh6⟩) : yc0 prog L (ya8 f41 6) := lo (L' := L0) (by kernel_rfl) yh7 ya0 h
def L41_1 : Nat → Option LoopD := fun n => ifEq n 6 (some ⟨39, sh41_6, xs41_6, yh6⟩) (L0 n)
def sh41_3 : List Fm := d :: d :: .box 100200 [.val i6, .val sI, .val sI, .val sS] :: .box 100300 [.val i6, .val sI] :: d :: .cell (.val i6) :: D 5 (.cell (.val sI) :: .cell (.val i6) :: .cell (.val i6) :: D 25 [])
def xs41_3 : List (Ex × List Fm) := [(.exit 0, (D 5 (.cell (.val i6) :: D 33 [])))]
def yj1 : ((Int × LI × LI × LS × Unit) × (Int × LI × Unit) × Int × LI × Int × Int × Unit) → Option (((Int × LI × LI × LS × Unit) × (Int × LI × Unit) × Int × LI × Int × Int × Unit) ⊕ ((Int × Unit))) := fun ((v2_0, v2_1, v2_2, v2_3, _), (v3_0, v3_1, _), v5, v11, v12, v13, _) =>
 bif (decide (v13 < v12)) then
  if (((0 : Int) ≤ v13) ∧ (v13 < (((List.length v11) : Nat) : Int))) then
   Option.bind (ya2 yh6 ((v2_0, v2_1, v2_2, v2_3, ()), (v3_0, v3_1, ()), v5, (List.getD v11 (Int.toNat v13) 0), v11, v12, v13, v2_2, (((List.length v2_2) : Nat) : Int), 0, ())) fun ((r0, r1, r2, r3, _), (r4, r5, _), r6, r7, r8, r9, _) =>
    some (Sum.inl ((r0, r1, r2, r3, ()), (r4, r5, ()), r6, r7, r8, (IntKind.wrap .i64 (r9 + 1)), ()))
  else
   none
 else
  some (Sum.inr (v5, ()))
theorem kk3 {L} (h : L 3 = some ⟨39, sh41_3, xs41_3, yj1⟩) : yc0 prog L (ya8 f41 3) := lo (L' := L41_1) (by kernel_rfl) yh7 (ya9 (kk2 rfl) ya0) h
def L41_2 : Nat → Option LoopD := fun n => ifEq n 3 (some ⟨39, sh41_3, xs41_3, yj1⟩) (L41_1 n)
def y0g : TA → TM → Option (Int) := fun (a0_0, a0_1, a0_2, a0_3) (a1_0, a1_1) =>
 Option.bind (ya2 yj1 ((a0_0, a0_1, a0_2, a0_3, ()), (a1_0, a1_1, ()), 3, a0_1, (((List.length a0_1) : Nat) : Int), 0, ())) fun (r0, _) =>
  some r0
def A41 : FnA := ⟨[.v kA, .v kM], true, [.int .i64], fun x => y0g x.1 x.2.1⟩
theorem A41_ok : FnOk prog 41 A41 := fo (L := L41_2) (by kernel_rfl) func41 yh7 (ya9 (kk3 rfl) ya0)
def E15 : Env := ev fun g => ifEq g 40 (some A40) (ifEq g 41 (some A41) (none))
theorem E15_ok : FnsOk prog E15 := (oF A40_ok func40 (oF A41_ok func41 (ye2 _ _)))
def sh15_5 : List Fm := d :: .box 100100 [.val i6, .val sI, .val sI, .val sS] :: D 13 (.cell (.own kE 101500 false) :: .cell (.val i6) :: .cell (.val i6) :: D 9 [])
def xs15_5 : List (Ex × List Fm) := [(.ret, (d :: d :: .cell (.val .bool) :: .cell (.val .bool) :: D 23 [])), (.exit 0, (D 27 []))]
def yj2 : ((Int × LI × LI × LS × Unit) × LE × Int × Int × Unit) → Option (((Int × LI × LI × LS × Unit) × LE × Int × Int × Unit) ⊕ ((Bool × Bool × Unit) ⊕ (Unit))) := fun ((v1_0, v1_1, v1_2, v1_3, _), v15, v16, v17, _) =>
 bif (decide (v17 < v16)) then
  if (((0 : Int) ≤ v17) ∧ (v17 < (((List.length v15) : Nat) : Int))) then
   Option.bind (y0g (v1_0, v1_1, v1_2, v1_3) ((List.getD v15 (0 + (Int.toNat v17)) (((0 : Int), []), ⟨Array.empty⟩)).1.1, (List.getD v15 (0 + (Int.toNat v17)) (((0 : Int), []), ⟨Array.empty⟩)).1.2)) fun r0 =>
    bif (r0 == 2) then
     some (Sum.inr (Sum.inl (false, true, ())))
    else
     some (Sum.inl ((v1_0, v1_1, v1_2, v1_3, ()), (List.take (List.length v15) (List.drop 0 v15)), v16, (IntKind.wrap .i64 (v17 + 1)), ()))
  else
   none
 else
  some (Sum.inr (Sum.inr ()))
theorem kk4 {L} (h : L 5 = some ⟨27, sh15_5, xs15_5, yj2⟩) : yc0 prog L (ya8 f15 5) := lo (L' := L0) (by kernel_rfl) E15_ok ya0 h
def L15_1 : Nat → Option LoopD := fun n => ifEq n 5 (some ⟨27, sh15_5, xs15_5, yj2⟩) (L0 n)
def yq9 : TA → Option (Bool × Bool) := fun (a0_0, a0_1, a0_2, a0_3) =>
 Option.bind (yi2 (a0_0, a0_1, a0_2, a0_3)) fun (r0, r1) =>
  bif (!r1) then
   some (false, false)
  else
   Option.bind (ya2 yj2 ((a0_0, a0_1, a0_2, a0_3, ()), (List.take (List.length r0) (List.drop 0 r0)), (((List.length r0) : Nat) : Int), 0, ())) fun r2 =>
    (match r2 with
    | .inl (d3, d4, _) =>
      some (d3, d4)
    | .inr _ =>
      some (true, true))
def A15 : FnA := ⟨[.v kA], true, [.bool, .bool], fun x => yq9 x.1⟩
theorem A15_ok : FnOk prog 15 A15 := fo (L := L15_1) (by kernel_rfl) func15 E15_ok (ya9 (kk4 rfl) ya0)
def E6 : Env := ev fun g => ifEq g 14 (some A14) (ifEq g 15 (some A15) (none))
theorem E6_ok : FnsOk prog E6 := (oF A14_ok func14 (oF A15_ok func15 (ye2 _ _)))
def yl6 : TA → Option (Bool × Bool) := fun (a0_0, a0_1, a0_2, a0_3) =>
 Option.bind (ye4 (a0_0, a0_1, a0_2, a0_3)) fun ((r0, r1, r2, r3), r4) =>
  bif (!r4) then
   some (false, false)
  else
   Option.bind (yq9 (r0, r1, r2, r3)) fun (r5, r6) =>
    some (r5, r6)
def A6 : FnA := ⟨[.v kA], true, [.bool, .bool], fun x => yl6 x.1⟩
theorem A6_ok : FnOk prog 6 A6 := fo (L := L0) (by kernel_rfl) func6 E6_ok ya0
def R29 (impl_expand_rec : (List (ByteArray × PT)) → Int → Option (ByteArray × Bool)) : FnA := ⟨[.v (.sl (.pair .str .pt)), .v i6], true, [.str, .bool], fun x => impl_expand_rec x.1 x.2.1⟩
def E29 (impl_expand_rec : (List (ByteArray × PT)) → Int → Option (ByteArray × Bool)) : Env := ev fun g => ifEq g 29 (some (R29 impl_expand_rec)) (ifEq g 60 (some A60) (none))
theorem z35 (impl_expand_rec : (List (ByteArray × PT)) → Int → Option (ByteArray × Bool)) (hrec : FnOk prog 29 (R29 impl_expand_rec)) : FnsOk prog (E29 impl_expand_rec) := (oF hrec func29 (oF A60_ok func60 (ye2 _ _)))
def L29_0 (impl_expand_rec : (List (ByteArray × PT)) → Int → Option (ByteArray × Bool)) : Nat → Option LoopD := fun _ => none
def ka9 : List Fm := d :: .cell (.val i6) :: D 4 (.cell (.val .str) :: D 5 (.cell (.val (.sl (.pair .str .pt))) :: .cell (.val i6) :: .cell (.val i6) :: D 35 []))
def kb0 : List (Ex × List Fm) := [(.ret, (D 4 (.cell (.val .str) :: .cell (.val .bool) :: D 44 []))), (.exit 0, (D 6 (.cell (.val .str) :: D 43 [])))]
def yj5 (impl_expand_rec : (List (ByteArray × PT)) → Int → Option (ByteArray × Bool)) : (Int × ByteArray × (List (ByteArray × PT)) × Int × Int × Unit) → Option ((Int × ByteArray × (List (ByteArray × PT)) × Int × Int × Unit) ⊕ ((ByteArray × Bool × Unit) ⊕ (ByteArray × Unit))) := fun (v1, v6, v12, v13, v14, _) =>
 bif (decide (v14 < v13)) then
  if (((0 : Int) ≤ v14) ∧ (v14 < (((List.length v12) : Nat) : Int))) then
   bif ((ByteArray.toList (List.getD v12 (Int.toNat v14) (⟨Array.empty⟩, (PT.mk []))).1) == (ByteArray.toList (⟨#[]⟩ : ByteArray))) then
    Option.bind (impl_expand_rec (PT.l (List.getD v12 (Int.toNat v14) (⟨Array.empty⟩, (PT.mk []))).2) v1) fun (r0, r1) =>
     bif (!r1) then
      some (Sum.inr (Sum.inl ((⟨#[]⟩ : ByteArray), false, ())))
     else
      if ((((ByteArray.size r0) : Nat) : Int) = 0) then
       none
      else
       bif (decide (v1 > (IntKind.wrap .i64 (Int.tdiv (IntKind.wrap .i64 ((1000 : Int) - (((ByteArray.size v6) : Nat) : Int))) (((ByteArray.size r0) : Nat) : Int))))) then
        some (Sum.inr (Sum.inl ((⟨#[]⟩ : ByteArray), false, ())))
       else
        Option.bind (strings_Repeat r0 v1) fun r2 =>
         if (((ByteArray.size v6) + (ByteArray.size r2)) ≤ 9223372036854775807) then
          some (Sum.inl (v1, (v6 ++ r2), v12, v13, (IntKind.wrap .i64 (v14 + 1)), ()))
         else
          none
   else
    if ((((ByteArray.size (List.getD v12 (Int.toNat v14) (⟨Array.empty⟩, (PT.mk []))).1) : Nat) : Int) = 0) then
     none
    else
     bif (decide ((1 : Int) > (IntKind.wrap .i64 (Int.tdiv (IntKind.wrap .i64 ((1000 : Int) - (((ByteArray.size v6) : Nat) : Int))) (((ByteArray.size (List.getD v12 (Int.toNat v14) (⟨Array.empty⟩, (PT.mk []))).1) : Nat) : Int))))) then
      some (Sum.inr (Sum.inl ((⟨#[]⟩ : ByteArray), false, ())))
     else
      Option.bind (strings_Repeat (List.getD v12 (Int.toNat v14) (⟨Array.empty⟩, (PT.mk []))).1 1) fun r3 =>
       if (((ByteArray.size v6) + (ByteArray.size r3)) ≤ 9223372036854775807) then
        some (Sum.inl (v1, (v6 ++ r3), v12, v13, (IntKind.wrap .i64 (v14 + 1)), ()))
       else
        none
  else
   none
 else
  some (Sum.inr (Sum.inr (v6, ())))
theorem y86 (impl_expand_rec : (List (ByteArray × PT)) → Int → Option (ByteArray × Bool)) : y5j 50 (E29 impl_expand_rec) (L29_0 impl_expand_rec) (ya8 f29 3) ka9 kb0 = (yj5 impl_expand_rec) := by kernel_rfl
theorem kk5 (impl_expand_rec : (List (ByteArray × PT)) → Int → Option (ByteArray × Bool)) (hrec : FnOk prog 29 (R29 impl_expand_rec)) {L : Nat → Option LoopD} (h : L 3 = some ⟨50, ka9, kb0, (yj5 impl_expand_rec)⟩) : yc0 prog L (ya8 f29 3) :=
 zx7 (yb8 yg0) (z35 impl_expand_rec hrec) (ye8 (L := (L29_0 impl_expand_rec)) (yb8 yg0) (z35 impl_expand_rec hrec) mixed (c := ya8 f29 3) (bs := []) (by kernel_rfl) ya0 (by kernel_rfl)) (by kernel_rfl) (by kernel_rfl) (y86 impl_expand_rec) (by rw [show yz0 (ya8 f29 3) = 3 from by kernel_rfl]; exact h)
def L29_1 (impl_expand_rec : (List (ByteArray × PT)) → Int → Option (ByteArray × Bool)) : Nat → Option LoopD := fun n => ifEq n 3 (some ⟨50, ka9, kb0, (yj5 impl_expand_rec)⟩) ((L29_0 impl_expand_rec) n)
def yq7 (impl_expand_rec : (List (ByteArray × PT)) → Int → Option (ByteArray × Bool)) : (List (ByteArray × PT)) → Int → Option (ByteArray × Bool) := fun a0 a1 =>
 Option.bind (ya2 (yj5 impl_expand_rec) (a1, (⟨#[]⟩ : ByteArray), a0, (((List.length a0) : Nat) : Int), 0, ())) fun r0 =>
  (match r0 with
  | .inl (d1, d2, _) =>
    some (d1, d2)
  | .inr (d3, _) =>
    some (d3, true))
theorem y6r (impl_expand_rec : (List (ByteArray × PT)) → Int → Option (ByteArray × Bool)) : fnF (E29 impl_expand_rec) (L29_1 impl_expand_rec) [.v (.sl (.pair .str .pt)), .v i6] true [.str, .bool] f29.ntmps f29.results.toList (yc4 f29) = fun x => (yq7 impl_expand_rec) x.1 x.2.1 := by kernel_rfl
theorem y6s (impl_expand_rec : (List (ByteArray × PT)) → Int → Option (ByteArray × Bool)) (hrec : FnOk prog 29 (R29 impl_expand_rec)) : FnOk prog 29 ⟨[.v (.sl (.pair .str .pt)), .v i6], true, [.str, .bool], fun x => (yq7 impl_expand_rec) x.1 x.2.1⟩ := by
 have h := yr9 (P := prog) (E := (E29 impl_expand_rec)) (yb8 yg0) (z35 impl_expand_rec hrec) (L := (L29_1 impl_expand_rec)) (ps := [.v (.sl (.pair .str .pt)), .v i6]) (own := true) (outs := [.str, .bool]) func29 (c := yc4 f29) (by kernel_rfl) (ye8 (L := (L29_1 impl_expand_rec)) (yb8 yg0) (z35 impl_expand_rec hrec) mixed (c := yc4 f29) (bs := [ya8 f29 3]) (by kernel_rfl) (ya9 (kk5 impl_expand_rec hrec rfl) ya0) (by kernel_rfl))
 rw [(y6r impl_expand_rec)] at h
 exact h
/-- so many calls within each other -/
def yi5 : Nat → (List (ByteArray × PT)) → Int → Option (ByteArray × Bool)
 | 0 => fun _ _ => none
 | n + 1 => yq7 (yi5 n)
theorem y19 : ∀ n, FnOk prog 29 (R29 (yi5 n))
 | 0 => fun xs r h => by cases h
 | n + 1 => y6s (yi5 n) (y19 n)
def y6t : (List (ByteArray × PT)) → Int → Option (ByteArray × Bool) := yi5 200
def A29 : FnA := R29 y6t
theorem A29_ok : FnOk prog 29 A29 := y19 200
def E10 : Env := ev fun g => ifEq g 28 (some A28) (ifEq g 29 (some A29) (none))
theorem E10_ok : FnsOk prog E10 := (oF A28_ok func28 (oF A29_ok func29 (ye2 _ _)))
def yo3 : ByteArray → Int → Option (ByteArray × Bool) := fun a0 a1 =>
 Option.bind (yz9 a0) fun (r0, r1) =>
  bif (!r1) then
   some ((⟨#[]⟩ : ByteArray), false)
  else
   bif (decide (a1 < 1)) then
    some ((⟨#[]⟩ : ByteArray), false)
   else
    Option.bind (y6t (List.take (List.length r0) (List.drop 0 r0)) a1) fun (r2, r3) =>
     some (r2, r3)
def A10 : FnA := ⟨[.v .str, .v i6], true, [.str, .bool], fun x => yo3 x.1 x.2.1⟩
theorem A10_ok : FnOk prog 10 A10 := fo (L := L0) (by kernel_rfl) func10 E10_ok ya0
def sh30_2 : List Fm := .cell (.val .str) :: D 4 (.cell (.val i6) :: .cell (.val i6) :: D 16 [])
def xs30_2 : List (Ex × List Fm) := [(.ret, (d :: d :: .cell (.val .bool) :: D 20 [])), (.exit 0, (.cell (.val .str) :: D 22 []))]
def ym2 : (ByteArray × Int × Int × Unit) → Option ((ByteArray × Int × Int × Unit) ⊕ ((Bool × Unit) ⊕ (ByteArray × Unit))) := fun (v0, v5, v6, _) =>
 bif (decide (v6 < v5)) then
  if (((0 : Int) ≤ v6) ∧ (v6 < (((ByteArray.size v0) : Nat) : Int))) then
   bif ((((UInt8.toNat (Array.getD (ByteArray.data v0) (Int.toNat v6) (0 : UInt8))) : Nat) : Int) != 97) then
    if (((0 : Int) ≤ v6) ∧ (v6 < (((ByteArray.size v0) : Nat) : Int))) then
     bif ((((UInt8.toNat (Array.getD (ByteArray.data v0) (Int.toNat v6) (0 : UInt8))) : Nat) : Int) != 98) then
      some (Sum.inr (Sum.inl (false, ())))
     else
      some (Sum.inl (v0, v5, (IntKind.wrap .i64 (v6 + 1)), ()))
    else
     none
   else
    some (Sum.inl (v0, v5, (IntKind.wrap .i64 (v6 + 1)), ()))
  else
   none
 else
  some (Sum.inr (Sum.inr (v0, ())))
theorem kk6 {L} (h : L 2 = some ⟨23, sh30_2, xs30_2, ym2⟩) : yc0 prog L (ya8 f30 2) := lo (L' := L0) (by kernel_rfl) yh7 ya0 h
def L30_1 : Nat → Option LoopD := fun n => ifEq n 2 (some ⟨23, sh30_2, xs30_2, ym2⟩) (L0 n)
def yv0 : ByteArray → Option (Bool) := fun a0 =>
 Option.bind (ya2 ym2 (a0, (((ByteArray.size a0) : Nat) : Int), 0, ())) fun r0 =>
  (match r0 with
  | .inl (d1, _) =>
    some d1
  | .inr (d2, _) =>
    some (decide ((((ByteArray.size d2) : Nat) : Int) ≤ 1000)))
def A30 : FnA := ⟨[.v .str], true, [.bool], fun x => yv0 x.1⟩
theorem A30_ok : FnOk prog 30 A30 := fo (L := L30_1) (by kernel_rfl) func30 yh7 (ya9 (kk6 rfl) ya0)
def y5q : Int → Int → Option (Int × Int) := fun a0 a1 =>
 if ((32 : Int) < 0) then
  none
 else
  if ((32 : Int) < 0) then
   none
  else
   if ((32 : Int) < 0) then
    none
   else
    if ((32 : Int) < 0) then
     none
    else
     if ((32 : Int) < 0) then
      none
     else
      some ((IntKind.wrap .u64 ((IntKind.wrap .u64 ((IntKind.wrap .u64 ((Int.fdiv a0 ((2 : Int) ^ (Min.min (Int.toNat 32) (IntKind.bits .u64)))) * (Int.fdiv a1 ((2 : Int) ^ (Min.min (Int.toNat 32) (IntKind.bits .u64)))))) + (Int.fdiv (IntKind.wrap .u64 ((IntKind.wrap .u64 ((Int.fdiv a0 ((2 : Int) ^ (Min.min (Int.toNat 32) (IntKind.bits .u64)))) * ((((BitVec.toNat ((BitVec.ofInt (IntKind.bits .u64) a1) &&& (BitVec.ofInt (IntKind.bits .u64) 4294967295))) % (Int.natAbs ((2 : Int) ^ (IntKind.bits .u64)))) : Nat) : Int))) + (Int.fdiv (IntKind.wrap .u64 (((((BitVec.toNat ((BitVec.ofInt (IntKind.bits .u64) a0) &&& (BitVec.ofInt (IntKind.bits .u64) 4294967295))) % (Int.natAbs ((2 : Int) ^ (IntKind.bits .u64)))) : Nat) : Int) * ((((BitVec.toNat ((BitVec.ofInt (IntKind.bits .u64) a1) &&& (BitVec.ofInt (IntKind.bits .u64) 4294967295))) % (Int.natAbs ((2 : Int) ^ (IntKind.bits .u64)))) : Nat) : Int))) ((2 : Int) ^ (Min.min (Int.toNat 32) (IntKind.bits .u64)))))) ((2 : Int) ^ (Min.min (Int.toNat 32) (IntKind.bits .u64)))))) + (Int.fdiv (IntKind.wrap .u64 (((((BitVec.toNat ((BitVec.ofInt (IntKind.bits .u64) (IntKind.wrap .u64 ((IntKind.wrap .u64 ((Int.fdiv a0 ((2 : Int) ^ (Min.min (Int.toNat 32) (IntKind.bits .u64)))) * ((((BitVec.toNat ((BitVec.ofInt (IntKind.bits .u64) a1) &&& (BitVec.ofInt (IntKind.bits .u64) 4294967295))) % (Int.natAbs ((2 : Int) ^ (IntKind.bits .u64)))) : Nat) : Int))) + (Int.fdiv (IntKind.wrap .u64 (((((BitVec.toNat ((BitVec.ofInt (IntKind.bits .u64) a0) &&& (BitVec.ofInt (IntKind.bits .u64) 4294967295))) % (Int.natAbs ((2 : Int) ^ (IntKind.bits .u64)))) : Nat) : Int) * ((((BitVec.toNat ((BitVec.ofInt (IntKind.bits .u64) a1) &&& (BitVec.ofInt (IntKind.bits .u64) 4294967295))) % (Int.natAbs ((2 : Int) ^ (IntKind.bits .u64)))) : Nat) : Int))) ((2 : Int) ^ (Min.min (Int.toNat 32) (IntKind.bits .u64))))))) &&& (BitVec.ofInt (IntKind.bits .u64) 4294967295))) % (Int.natAbs ((2 : Int) ^ (IntKind.bits .u64)))) : Nat) : Int) + (IntKind.wrap .u64 (((((BitVec.toNat ((BitVec.ofInt (IntKind.bits .u64) a0) &&& (BitVec.ofInt (IntKind.bits .u64) 4294967295))) % (Int.natAbs ((2 : Int) ^ (IntKind.bits .u64)))) : Nat) : Int) * (Int.fdiv a1 ((2 : Int) ^ (Min.min (Int.toNat 32) (IntKind.bits .u64)))))))) ((2 : Int) ^ (Min.min (Int.toNat 32) (IntKind.bits .u64)))))), (IntKind.wrap .u64 (a0 * a1)))
def A128 : FnA := ⟨[.v (.int .u64), .v (.int .u64)], true, [.int .u64, .int .u64], fun x => y5q x.1 x.2.1⟩
theorem A128_ok : FnOk prog 128 A128 := fo (L := L0) (by kernel_rfl) func128 yh7 ya0
def E89 : Env := ev fun g => ifEq g 128 (some A128) (none)
theorem E89_ok : FnsOk prog E89 := (oF A128_ok func128 (ye2 _ _))
def zt2 : Int → Int → Option (Int × Int) := fun a0 a1 =>
 Option.bind (y5q a0 a1) fun (r0, r1) =>
  some (r0, r1)
def A89 : FnA := ⟨[.v (.int .u64), .v (.int .u64)], true, [.int .u64, .int .u64], fun x => zt2 x.1 x.2.1⟩
theorem A89_ok : FnOk prog 89 A89 := fo (L := L0) (by kernel_rfl) func89 E89_ok ya0
def E61 : Env := ev fun g => ifEq g 89 (some A89) (none)
theorem E61_ok : FnsOk prog E61 := (oF A89_ok func89 (ye2 _ _))
def sh61_8 : List Fm := D 7 (.cell (.own i6 100700 false) :: .cell (.val i6) :: D 39 [])
def xs61_8 : List (Ex × List Fm) := [(.exit 0, (D 7 (.cell (.own i6 100700 false) :: D 40 [])))]
def yi6 : (LI × Int × Unit) → Option ((LI × Int × Unit) ⊕ ((LI × Unit))) := fun (v7, v8, _) =>
 bif (decide (v8 < (((List.length v7) : Nat) : Int))) then
  if (((0 : Int) ≤ v8) ∧ (v8 ≤ (((List.length v7) : Nat) : Int))) then
   if (((0 : Int) ≤ v8) ∧ (v8 ≤ (((List.length v7) : Nat) : Int))) then
    some (Sum.inl ((List.take (List.length v7) (List.drop 0 ((List.take (0 + (Int.toNat v8)) v7) ++ ((List.take ((List.length v7) - (Int.toNat v8)) (List.take ((Int.toNat v8) - 0) (List.drop (0 + 0) v7))) ++ (List.drop ((0 + (Int.toNat v8)) + (List.length (List.take ((List.length v7) - (Int.toNat v8)) (List.take ((Int.toNat v8) - 0) (List.drop (0 + 0) v7))))) v7))))), (IntKind.wrap .i64 (v8 + (((List.length (List.take ((List.length v7) - (Int.toNat v8)) (List.take ((Int.toNat v8) - 0) (List.drop (0 + 0) v7)))) : Nat) : Int))), ()))
   else
    none
  else
   none
 else
  some (Sum.inr ((List.take (List.length v7) (List.drop 0 v7)), ()))
theorem kk7 {L} (h : L 8 = some ⟨48, sh61_8, xs61_8, yi6⟩) : yc0 prog L (ya8 f61 8) := lo (L' := L0) (by kernel_rfl) E61_ok ya0 h
def L61_1 : Nat → Option LoopD := fun n => ifEq n 8 (some ⟨48, sh61_8, xs61_8, yi6⟩) (L0 n)
def yt8 : LI → Int → Option (LI) := fun a0 a1 =>
 bif (decide (a1 < 0)) then
  none
 else
  Option.bind (zt2 (IntKind.wrap .u64 (((List.length a0) : Nat) : Int)) (IntKind.wrap .u64 a1)) fun (r0, r1) =>
   bif (decide (r0 > 0)) then
    none
   else
    bif (decide (r1 > 9223372036854775807)) then
     none
    else
     if (((0 : Int) ≤ (IntKind.wrap .i64 r1)) ∧ (((IntKind.wrap .i64 r1) = (IntKind.wrap .i64 r1)) ∧ (((IntKind.wrap .i64 r1) * ((8 : Nat) : Int)) ≤ 140737488355328))) then
      Option.bind (ya2 yi6 ((List.take (Int.toNat (IntKind.wrap .i64 r1)) (List.drop 0 ((List.take 0 (List.replicate (Int.toNat (IntKind.wrap .i64 r1)) 0)) ++ ((List.take (Int.toNat (IntKind.wrap .i64 r1)) a0) ++ (List.drop (0 + (List.length (List.take (Int.toNat (IntKind.wrap .i64 r1)) a0))) (List.replicate (Int.toNat (IntKind.wrap .i64 r1)) 0)))))), (((List.length (List.take (Int.toNat (IntKind.wrap .i64 r1)) a0)) : Nat) : Int), ())) fun (r2, _) =>
       some (List.take (List.length r2) (List.drop 0 r2))
     else
      none
def A61 : FnA := ⟨[.v sI, .v i6], true, [.sl i6], fun x => yt8 x.1 x.2.1⟩
theorem A61_ok : FnOk prog 61 A61 := fo (L := L61_1) (by kernel_rfl) func61 E61_ok (ya9 (kk7 rfl) ya0)
def E94 : Env := ev fun g => ifEq g 61 (some A61) (none)
theorem z36 : FnsOk prog E94 := (oF A61_ok func61 (ye2 _ _))
def sh94_3 : List Fm := d :: .cell (.val .str) :: .box 100200 [.val i6, .val sI, .val sI, .val sS] :: d :: d :: .cell (.own i6 100500 false) :: D 12 (.cell (.val sI) :: .cell (.val i6) :: .cell (.val i6) :: D 60 [])
def xs94_3 : List (Ex × List Fm) := [(.exit 0, [d, .cell (.val .str), .box 100200 [.val i6, .val sI, .val sI, .val sS], d, d, .cell (.own i6 100500 false), d, d, d, d, d, d, d, d, d, d, d, d, d, d, d, d, d, d, d, d, d, d, d, d, d, d, d, d, d, d, d, d, d, d, d, d, d, d, d, d, d, d, d, d, d, d, d, d, d, d, d, d, d, d, d, d, d, d, d, d, d, d, d, d, d, d, d, d, d, d, d, d, d, d, d])]
def yo4 : (ByteArray × (Int × LI × LI × LS × Unit) × LI × LI × Int × Int × Unit) → Option ((ByteArray × (Int × LI × LI × LS × Unit) × LI × LI × Int × Int × Unit) ⊕ ((ByteArray × (Int × LI × LI × LS × Unit) × LI × Unit))) := fun (v1, (v2_0, v2_1, v2_2, v2_3, _), v5, v18, v19, v20, _) =>
 bif (decide (v20 < v19)) then
  if (((0 : Int) ≤ v20) ∧ (v20 < (((List.length v18) : Nat) : Int))) then
   if (((0 : Int) ≤ (List.getD v18 (Int.toNat v20) 0)) ∧ ((List.getD v18 (Int.toNat v20) 0) < (((List.length v5) : Nat) : Int))) then
    some (Sum.inl (v1, (v2_0, v2_1, v2_2, v2_3, ()), (List.take (List.length v5) (List.drop 0 (List.set v5 (0 + (Int.toNat (List.getD v18 (Int.toNat v20) 0))) 0))), v18, v19, (IntKind.wrap .i64 (v20 + 1)), ()))
   else
    none
  else
   none
 else
  some (Sum.inr (v1, (v2_0, v2_1, v2_2, v2_3, ()), (List.take (List.length v5) (List.drop 0 v5)), ()))
theorem kk8 {L} (h : L 3 = some ⟨81, sh94_3, xs94_3, yo4⟩) : yc0 prog L (ya8 f94 3) := lo (L' := L0) (by kernel_rfl) z36 ya0 h
def L94_1 : Nat → Option LoopD := fun n => ifEq n 3 (some ⟨81, sh94_3, xs94_3, yo4⟩) (L0 n)
def kb1 : List Fm := d :: .cell (.val .str) :: .box 100200 [.val i6, .val sI, .val sI, .val sS] :: d :: d :: .cell (.val sI) :: d :: d :: .cell (.own sI 100800 false) :: .cell (.val i6) :: .cell (.own i6 101000 false) :: D 31 (.cell (.val sS) :: .cell (.val i6) :: .cell (.val i6) :: D 36 [])
def kb2 : List (Ex × List Fm) := [(.exit 4, [d, .cell (.val .str), .box 100200 [.val i6, .val sI, .val sI, .val sS], d, d, d, d, d, .cell (.own sI 100800 false), .cell (.val i6), .cell (.own i6 101000 false), d, d, d, d, d, d, d, d, d, d, d, d, d, d, d, d, d, d, d, d, d, d, d, d, d, d, d, d, d, d, d, d, d, d, d, d, d, d, d, d, d, d, d, d, d, d, d, d, d, d, d, d, d, d, d, d, d, d, d, d, d, d, d, d, d, d, d, d, d, d])]
def yj6 : (ByteArray × (Int × LI × LI × LS × Unit) × LI × (List LI) × Int × LI × LS × Int × Int × Unit) → Option ((ByteArray × (Int × LI × LI × LS × Unit) × LI × (List LI) × Int × LI × LS × Int × Int × Unit) ⊕ ((ByteArray × (Int × LI × LI × LS × Unit) × (List LI) × Int × LI × Unit))) := fun (v1, (v2_0, v2_1, v2_2, v2_3, _), v5, v8, v9, v10, v42, v43, v44, _) =>
 bif (decide (v44 < v43)) then
  if (((0 : Int) ≤ v44) ∧ (v44 < (((List.length v42) : Nat) : Int))) then
   if (((0 : Int) ≤ v9) ∧ ((v9 ≤ (IntKind.wrap .i64 (v9 + 1))) ∧ ((IntKind.wrap .i64 (v9 + 1)) ≤ (((ByteArray.size v1) : Nat) : Int)))) then
    bif ((ByteArray.toList (List.getD v42 (Int.toNat v44) ((0 : Int), ⟨Array.empty⟩, 0, 0)).2.1) == (ByteArray.toList (ByteArray.extract v1 (Int.toNat v9) (Int.toNat (IntKind.wrap .i64 (v9 + 1)))))) then
     if (((0 : Int) ≤ (List.getD v42 (Int.toNat v44) ((0 : Int), ⟨Array.empty⟩, 0, 0)).1) ∧ ((List.getD v42 (Int.toNat v44) ((0 : Int), ⟨Array.empty⟩, 0, 0)).1 < (((List.length v10) : Nat) : Int))) then
      if (((0 : Int) ≤ (List.getD v42 (Int.toNat v44) ((0 : Int), ⟨Array.empty⟩, 0, 0)).2.2.1) ∧ ((List.getD v42 (Int.toNat v44) ((0 : Int), ⟨Array.empty⟩, 0, 0)).2.2.1 < (((List.length v5) : Nat) : Int))) then
       if (((0 : Int) ≤ (List.getD v42 (Int.toNat v44) ((0 : Int), ⟨Array.empty⟩, 0, 0)).1) ∧ ((List.getD v42 (Int.toNat v44) ((0 : Int), ⟨Array.empty⟩, 0, 0)).1 < (((List.length v10) : Nat) : Int))) then
        some (Sum.inl (v1, (v2_0, v2_1, v2_2, v2_3, ()), v5, (List.take (List.length v8) (List.drop 0 v8)), v9, (List.take (List.length v10) (List.drop 0 (List.set v10 (0 + (Int.toNat (List.getD v42 (Int.toNat v44) ((0 : Int), ⟨Array.empty⟩, 0, 0)).1)) (if ((IntKind.wrap .i64 ((List.getD v42 (Int.toNat v44) ((0 : Int), ⟨Array.empty⟩, 0, 0)).2.2.2 + (List.getD v5 (Int.toNat (List.getD v42 (Int.toNat v44) ((0 : Int), ⟨Array.empty⟩, 0, 0)).2.2.1) 0))) < (List.getD v10 (0 + (Int.toNat (List.getD v42 (Int.toNat v44) ((0 : Int), ⟨Array.empty⟩, 0, 0)).1)) 0)) then (IntKind.wrap .i64 ((List.getD v42 (Int.toNat v44) ((0 : Int), ⟨Array.empty⟩, 0, 0)).2.2.2 + (List.getD v5 (Int.toNat (List.getD v42 (Int.toNat v44) ((0 : Int), ⟨Array.empty⟩, 0, 0)).2.2.1) 0))) else (List.getD v10 (0 + (Int.toNat (List.getD v42 (Int.toNat v44) ((0 : Int), ⟨Array.empty⟩, 0, 0)).1)) 0))))), v42, v43, (IntKind.wrap .i64 (v44 + 1)), ()))
       else
        none
      else
       none
     else
      none
    else
     some (Sum.inl (v1, (v2_0, v2_1, v2_2, v2_3, ()), v5, (List.take (List.length v8) (List.drop 0 v8)), v9, (List.take (List.length v10) (List.drop 0 v10)), v42, v43, (IntKind.wrap .i64 (v44 + 1)), ()))
   else
    none
  else
   none
 else
  some (Sum.inr (v1, (v2_0, v2_1, v2_2, v2_3, ()), (List.take (List.length v8) (List.drop 0 v8)), v9, (List.take (List.length v10) (List.drop 0 v10)), ()))
theorem kb3 {L} (h : L 13 = some ⟨81, kb1, kb2, yj6⟩) : yc0 prog L (ya8 f94 13) := lo (L' := L94_1) (by kernel_rfl) z36 ya0 h
def L94_2 : Nat → Option LoopD := fun n => ifEq n 13 (some ⟨81, kb1, kb2, yj6⟩) (L94_1 n)
def sh94_9 : List Fm := d :: .cell (.val .str) :: .box 100200 [.val i6, .val sI, .val sI, .val sS] :: d :: d :: .cell (.val sI) :: d :: d :: .cell (.own sI 100800 false) :: .cell (.val i6) :: D 71 []
def xs94_9 : List (Ex × List Fm) := [(.exit 2, (D 8 (.cell (.own sI 100800 false) :: D 72 [])))]
def yq3 : (ByteArray × (Int × LI × LI × LS × Unit) × LI × (List LI) × Int × Unit) → Option ((ByteArray × (Int × LI × LI × LS × Unit) × LI × (List LI) × Int × Unit) ⊕ (((List LI) × Unit))) := fun (v1, (v2_0, v2_1, v2_2, v2_3, _), v5, v8, v9, _) =>
 bif (decide (v9 ≥ 0)) then
  Option.bind (yt8 (List.take 1 (List.drop 0 [(1000000 : Int)])) v2_0) fun r0 =>
   Option.bind (ya2 yj6 (v1, (v2_0, v2_1, v2_2, v2_3, ()), v5, (List.take (List.length v8) (List.drop 0 v8)), v9, (List.take (List.length r0) (List.drop 0 r0)), v2_3, (((List.length v2_3) : Nat) : Int), 0, ())) fun (r1, (r2, r3, r4, r5, _), r6, r7, r8, _) =>
    if (((0 + (List.length r6)) = (List.length r6)) ∧ ((((List.length r6) + (List.length (List.take 1 (List.drop 0 [(List.take (List.length r8) (List.drop 0 r8))])))) * 24) ≤ 140737488355328)) then
     some (Sum.inl (r1, (r2, r3, r4, r5, ()), (List.take (List.length r8) (List.drop 0 r8)), (List.take ((List.length r6) + (List.length (List.take 1 (List.drop 0 [(List.take (List.length r8) (List.drop 0 r8))])))) (List.drop 0 ((List.drop 0 r6) ++ (List.take 1 (List.drop 0 [(List.take (List.length r8) (List.drop 0 r8))]))))), (IntKind.wrap .i64 (r7 - 1)), ()))
    else
     none
 else
  some (Sum.inr ((List.take (List.length v8) (List.drop 0 v8)), ()))
theorem kk9 {L} (h : L 9 = some ⟨81, sh94_9, xs94_9, yq3⟩) : yc0 prog L (ya8 f94 9) := lo (L' := L94_2) (by kernel_rfl) z36 (ya9 (kb3 rfl) ya0) h
def L94_3 : Nat → Option LoopD := fun n => ifEq n 9 (some ⟨81, sh94_9, xs94_9, yq3⟩) (L94_2 n)
def y5r : TA → ByteArray → Option ((List LI)) := fun (a0_0, a0_1, a0_2, a0_3) a1 =>
 Option.bind (yt8 (List.take 1 (List.drop 0 [(1000000 : Int)])) a0_0) fun r0 =>
  Option.bind (ya2 yo4 (a1, (a0_0, a0_1, a0_2, a0_3, ()), (List.take (List.length r0) (List.drop 0 r0)), a0_2, (((List.length a0_2) : Nat) : Int), 0, ())) fun (r1, (r2, r3, r4, r5, _), r6, _) =>
   Option.bind (ya2 yq3 (r1, (r2, r3, r4, r5, ()), (List.take (List.length r6) (List.drop 0 r6)), (List.take 1 (List.drop 0 [(List.take (List.length r6) (List.drop 0 r6))])), (IntKind.wrap .i64 ((((ByteArray.size r1) : Nat) : Int) - 1)), ())) fun (r7, _) =>
    some (List.take (List.length r7) (List.drop 0 r7))
def A94 : FnA := ⟨[.v kA, .v .str], true, [.sl sI], fun x => y5r x.1 x.2.1⟩
theorem A94_ok : FnOk prog 94 A94 := fo (L := L94_3) (by kernel_rfl) func94 z36 (ya9 (kk8 rfl) (ya9 (kk9 rfl) ya0))
def E62 : Env := ev fun g => ifEq g 16 (some A16) (ifEq g 30 (some A30) (ifEq g 94 (some A94) (none)))
theorem E62_ok : FnsOk prog E62 := (oF y2i func16 (oF A30_ok func30 (oF A94_ok func94 (ye2 _ _))))
def sh62_6 : List Fm := d :: .cell (.val .str) :: d :: d :: d :: .cell (.own sI 100500 false) :: .cell (.val i6) :: D 14 (.cell (.val sI) :: .cell (.val i6) :: .cell (.val i6) :: D 15 [])
def xs62_6 : List (Ex × List Fm) := [(.exit 0, (D 6 (.cell (.val i6) :: D 32 [])))]
def yp0 : (ByteArray × (List LI) × Int × LI × Int × Int × Unit) → Option ((ByteArray × (List LI) × Int × LI × Int × Int × Unit) ⊕ ((Int × Unit))) := fun (v1, v5, v6, v21, v22, v23, _) =>
 bif (decide (v23 < v22)) then
  if (((0 : Int) ≤ v23) ∧ (v23 < (((List.length v21) : Nat) : Int))) then
   if (((0 : Int) ≤ (((ByteArray.size v1) : Nat) : Int)) ∧ ((((ByteArray.size v1) : Nat) : Int) < (((List.length v5) : Nat) : Int))) then
    if (((0 : Int) ≤ (List.getD v21 (Int.toNat v23) 0)) ∧ ((List.getD v21 (Int.toNat v23) 0) < (((List.length (List.getD v5 (0 + (Int.toNat (((ByteArray.size v1) : Nat) : Int))) [])) : Nat) : Int))) then
     some (Sum.inl (v1, (List.take (List.length v5) (List.drop 0 v5)), (if ((List.getD (List.getD v5 (0 + (Int.toNat (((ByteArray.size v1) : Nat) : Int))) []) (Int.toNat (List.getD v21 (Int.toNat v23) 0)) 0) < v6) then (List.getD (List.getD v5 (0 + (Int.toNat (((ByteArray.size v1) : Nat) : Int))) []) (Int.toNat (List.getD v21 (Int.toNat v23) 0)) 0) else v6), v21, v22, (IntKind.wrap .i64 (v23 + 1)), ()))
    else
     none
   else
    none
  else
   none
 else
  some (Sum.inr (v6, ()))
theorem kl0 {L} (h : L 6 = some ⟨39, sh62_6, xs62_6, yp0⟩) : yc0 prog L (ya8 f62 6) := lo (L' := L0) (by kernel_rfl) E62_ok ya0 h
def L62_1 : Nat → Option LoopD := fun n => ifEq n 6 (some ⟨39, sh62_6, xs62_6, yp0⟩) (L0 n)
def yv6 : TA → ByteArray → Option (Int) := fun (a0_0, a0_1, a0_2, a0_3) a1 =>
 Option.bind (yc5 (a0_0, a0_1, a0_2, a0_3)) fun r0 =>
  bif (!r0) then
   some (-1)
  else
   Option.bind (yv0 a1) fun r1 =>
    bif (!r1) then
     some (-1)
    else
     Option.bind (y5r (a0_0, a0_1, a0_2, a0_3) a1) fun r2 =>
      Option.bind (ya2 yp0 (a1, (List.take (List.length r2) (List.drop 0 r2)), 1000000, a0_1, (((List.length a0_1) : Nat) : Int), 0, ())) fun (r3, _) =>
       some r3
def A62 : FnA := ⟨[.v kA, .v .str], true, [.int .i64], fun x => yv6 x.1 x.2.1⟩
theorem A62_ok : FnOk prog 62 A62 := fo (L := L62_1) (by kernel_rfl) func62 E62_ok (ya9 (kl0 rfl) ya0)
def E31 : Env := ev fun g => ifEq g 61 (some A61) (ifEq g 62 (some A62) (none))
theorem kb4 : FnsOk prog E31 := (oF A61_ok func61 (oF A62_ok func62 (ye2 _ _)))
def sh31_7 : List Fm := d :: .cell (.val .str) :: .box 100200 [.val i6, .val sI, .val sI, .val sS] :: d :: d :: .cell (.own i6 100500 false) :: .cell (.val i6) :: .cell (.val i6) :: D 52 []
def xs31_7 : List (Ex × List Fm) := [(.exit 2, [d, .cell (.val .str), .box 100200 [.val i6, .val sI, .val sI, .val sS], d, d, .cell (.own i6 100500 false), .cell (.val i6), d, d, d, d, d, d, d, d, d, d, d, d, d, d, d, d, d, d, d, d, d, d, d, d, d, d, d, d, d, d, d, d, d, d, d, d, d, d, d, d, d, d, d, d, d, d, d, d, d, d, d, d, d])]
def yg6 : (ByteArray × (Int × LI × LI × LS × Unit) × LI × Int × Int × Unit) → Option ((ByteArray × (Int × LI × LI × LS × Unit) × LI × Int × Int × Unit) ⊕ ((ByteArray × (Int × LI × LI × LS × Unit) × LI × Int × Unit))) := fun (v1, (v2_0, v2_1, v2_2, v2_3, _), v5, v6, v7, _) =>
 bif (decide (v7 ≤ (((ByteArray.size v1) : Nat) : Int))) then
  if (((0 : Int) ≤ v7) ∧ (v7 < (((List.length v5) : Nat) : Int))) then
   bif (decide ((List.getD v5 (0 + (Int.toNat v7)) 0) < 1000000)) then
    if (((0 : Int) ≤ v6) ∧ ((v6 ≤ v7) ∧ (v7 ≤ (((ByteArray.size v1) : Nat) : Int)))) then
     Option.bind (yv6 (v2_0, v2_1, v2_2, v2_3) (ByteArray.extract v1 (Int.toNat v6) (Int.toNat v7))) fun r0 =>
      bif (decide (r0 < 1000000)) then
       if (((0 : Int) ≤ v6) ∧ (v6 < (((List.length v5) : Nat) : Int))) then
        if (((0 : Int) ≤ v7) ∧ (v7 < (((List.length v5) : Nat) : Int))) then
         if (((0 : Int) ≤ v6) ∧ (v6 < (((List.length v5) : Nat) : Int))) then
          some (Sum.inl (v1, (v2_0, v2_1, v2_2, v2_3, ()), (List.take (List.length v5) (List.drop 0 (List.set v5 (0 + (Int.toNat v6)) (if ((IntKind.wrap .i64 ((List.getD v5 (0 + (Int.toNat v7)) 0) + 1)) < (List.getD v5 (0 + (Int.toNat v6)) 0)) then (IntKind.wrap .i64 ((List.getD v5 (0 + (Int.toNat v7)) 0) + 1)) else (List.getD v5 (0 + (Int.toNat v6)) 0))))), v6, (IntKind.wrap .i64 (v7 + 1)), ()))
         else
          none
        else
         none
       else
        none
      else
       some (Sum.inl (v1, (v2_0, v2_1, v2_2, v2_3, ()), (List.take (List.length v5) (List.drop 0 v5)), v6, (IntKind.wrap .i64 (v7 + 1)), ()))
    else
     none
   else
    some (Sum.inl (v1, (v2_0, v2_1, v2_2, v2_3, ()), (List.take (List.length v5) (List.drop 0 v5)), v6, (IntKind.wrap .i64 (v7 + 1)), ()))
  else
   none
 else
  some (Sum.inr (v1, (v2_0, v2_1, v2_2, v2_3, ()), (List.take (List.length v5) (List.drop 0 v5)), v6, ()))
theorem kl1 {L} (h : L 7 = some ⟨60, sh31_7, xs31_7, yg6⟩) : yc0 prog L (ya8 f31 7) := lo (L' := L0) (by kernel_rfl) kb4 ya0 h
def L31_1 : Nat → Option LoopD := fun n => ifEq n 7 (some ⟨60, sh31_7, xs31_7, yg6⟩) (L0 n)
def sh31_4 : List Fm := d :: .cell (.val .str) :: .box 100200 [.val i6, .val sI, .val sI, .val sS] :: d :: d :: .cell (.own i6 100500 false) :: .cell (.val i6) :: D 53 []
def xs31_4 : List (Ex × List Fm) := [(.exit 0, (D 5 (.cell (.own i6 100500 false) :: D 54 [])))]
def ym9 : (ByteArray × (Int × LI × LI × LS × Unit) × LI × Int × Unit) → Option ((ByteArray × (Int × LI × LI × LS × Unit) × LI × Int × Unit) ⊕ ((LI × Unit))) := fun (v1, (v2_0, v2_1, v2_2, v2_3, _), v5, v6, _) =>
 bif (decide (v6 ≥ 0)) then
  Option.bind (ya2 yg6 (v1, (v2_0, v2_1, v2_2, v2_3, ()), (List.take (List.length v5) (List.drop 0 v5)), v6, (IntKind.wrap .i64 (v6 + 1)), ())) fun (r0, (r1, r2, r3, r4, _), r5, r6, _) =>
   some (Sum.inl (r0, (r1, r2, r3, r4, ()), (List.take (List.length r5) (List.drop 0 r5)), (IntKind.wrap .i64 (r6 - 1)), ()))
 else
  some (Sum.inr ((List.take (List.length v5) (List.drop 0 v5)), ()))
theorem kl2 {L} (h : L 4 = some ⟨60, sh31_4, xs31_4, ym9⟩) : yc0 prog L (ya8 f31 4) := lo (L' := L31_1) (by kernel_rfl) kb4 (ya9 (kl1 rfl) ya0) h
def L31_2 : Nat → Option LoopD := fun n => ifEq n 4 (some ⟨60, sh31_4, xs31_4, ym9⟩) (L31_1 n)
def y2n : TA → ByteArray → Option (LI) := fun (a0_0, a0_1, a0_2, a0_3) a1 =>
 Option.bind (yt8 (List.take 1 (List.drop 0 [(1000000 : Int)])) (IntKind.wrap .i64 ((((ByteArray.size a1) : Nat) : Int) + 1))) fun r0 =>
  if (((0 : Int) ≤ (((ByteArray.size a1) : Nat) : Int)) ∧ ((((ByteArray.size a1) : Nat) : Int) < (((List.length r0) : Nat) : Int))) then
   Option.bind (ya2 ym9 (a1, (a0_0, a0_1, a0_2, a0_3, ()), (List.take (List.length r0) (List.drop 0 (List.set r0 (0 + (Int.toNat (((ByteArray.size a1) : Nat) : Int))) 0))), (IntKind.wrap .i64 ((((ByteArray.size a1) : Nat) : Int) - 1)), ())) fun (r1, _) =>
    some (List.take (List.length r1) (List.drop 0 r1))
  else
   none
def A31 : FnA := ⟨[.v kA, .v .str], true, [.sl i6], fun x => y2n x.1 x.2.1⟩
theorem A31_ok : FnOk prog 31 A31 := fo (L := L31_2) (by kernel_rfl) func31 kb4 (ya9 (kl2 rfl) ya0)
def E11 : Env := ev fun g => ifEq g 16 (some A16) (ifEq g 30 (some A30) (ifEq g 31 (some A31) (none)))
theorem E11_ok : FnsOk prog E11 := (oF y2i func16 (oF A30_ok func30 (oF A31_ok func31 (ye2 _ _))))
def yv1 : TA → ByteArray → Option (Int) := fun (a0_0, a0_1, a0_2, a0_3) a1 =>
 Option.bind (yc5 (a0_0, a0_1, a0_2, a0_3)) fun r0 =>
  bif (!r0) then
   some (-1)
  else
   Option.bind (yv0 a1) fun r1 =>
    bif (!r1) then
     some (-1)
    else
     bif (decide ((((ByteArray.size a1) : Nat) : Int) > 40)) then
      some (-1)
     else
      Option.bind (y2n (a0_0, a0_1, a0_2, a0_3) a1) fun r2 =>
       if (((0 : Int) ≤ 0) ∧ ((0 : Int) < (((List.length r2) : Nat) : Int))) then
        some (List.getD r2 (0 + (Int.toNat 0)) 0)
       else
        none
def A11 : FnA := ⟨[.v kA, .v .str], true, [.int .i64], fun x => yv1 x.1 x.2.1⟩
theorem A11_ok : FnOk prog 11 A11 := fo (L := L0) (by kernel_rfl) func11 E11_ok ya0
def E3 : Env := ev fun g => ifEq g 4 (some A4) (ifEq g 5 (some A5) (ifEq g 6 (some A6) (ifEq g 7 (some A7) (ifEq g 8 (some A8) (ifEq g 9 (some A9) (ifEq g 10 (some A10) (ifEq g 11 (some A11) (none))))))))
theorem E3_ok : FnsOk prog E3 := (oF A4_ok func4 (oF A5_ok func5 (oF A6_ok func6 (oF A7_ok func7 (oF A8_ok func8 (oF A9_ok func9 (oF A10_ok func10 (oF A11_ok func11 (ye2 _ _)))))))))
def yn0 : LI → Option (Bool) := fun a0 =>
 bif (decide ((((List.length a0) : Nat) : Int) > 1048576)) then
  some true
 else
  Option.bind (yk6 a0) fun (r0, r1, r2, r3) =>
   Option.bind (yf2 (r0, r1, r2, r3)) fun (r4, r5) =>
    Option.bind (yl6 (r0, r1, r2, r3)) fun (r6, r7) =>
     bif (!(r4 == r6)) then
      bif (r4 == r6) then
       some (r5 == r7)
      else
       some false
     else
      bif (!(r5 == r7)) then
       bif (r4 == r6) then
        some (r5 == r7)
       else
        some false
      else
       bif (!r5) then
        bif (r4 == r6) then
         some (r5 == r7)
        else
         some false
       else
        Option.bind (yc6 (r0, r1, r2, r3)) fun ((r8, r9, r10, r11), r12) =>
         Option.bind (yi0 (r8, (List.take (List.length r9) (List.drop 0 r9)), (List.take (List.length r10) (List.drop 0 r10)), (List.take (List.length r11) (List.drop 0 r11)))) fun (r13, r14) =>
          Option.bind (yh9 (r8, (List.take (List.length r9) (List.drop 0 r9)), (List.take (List.length r10) (List.drop 0 r10)), (List.take (List.length r11) (List.drop 0 r11)))) fun (r15, r16) =>
           bif r16 then
            Option.bind (yo3 r15 (IntKind.wrap .i64 (r0 + 1))) fun (r17, r18) =>
             bif r18 then
              bif (decide ((((ByteArray.size r17) : Nat) : Int) ≤ 40)) then
               Option.bind (yv1 (r0, r1, r2, r3) r17) fun r19 =>
                bif (decide (r19 < 2)) then
                 some false
                else
                 Option.bind (yv1 (r0, r1, r2, r3) r17) fun r20 =>
                  bif (r20 == 1000000) then
                   some false
                  else
                   bif r14 then
                    bif (r13 == r4) then
                     some (r16 == (!r4))
                    else
                     some false
                   else
                    some false
              else
               bif r14 then
                bif (r13 == r4) then
                 some (r16 == (!r4))
                else
                 some false
               else
                some false
             else
              bif r14 then
               bif (r13 == r4) then
                some (r16 == (!r4))
               else
                some false
              else
               some false
           else
            bif r14 then
             bif (r13 == r4) then
              some (r16 == (!r4))
             else
              some false
            else
             some false
def A3 : FnA := ⟨[.v (.sl (.int .u8))], true, [.bool], fun x => yn0 x.1⟩
theorem A3_ok : FnOk prog 3 A3 := fo (L := L0) (by kernel_rfl) func3 E3_ok ya0
end
end Go.Proofs.YtogigagfgkfkhaaGreat
