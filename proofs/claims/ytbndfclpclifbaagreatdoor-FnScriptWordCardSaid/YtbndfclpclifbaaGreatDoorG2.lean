/- What Go functions that the laws reach compute, and that they do: written by a program of this session. -/
import Derived.Test.YtbndfclpclifbaaGreatDoorG1
import Derived.KernelRfl
set_option linter.unusedVariables false
namespace Go.Proofs.YtbndfclpclifbaaGreatDoor
open Go Go.Proofs.YtbndfclpclifbaaGreatDoor.Am Go.Proofs.Tryz
set_option maxRecDepth 100000
noncomputable section
def sh52_6 : List Fm := .cell (.val i6) :: .clo [.int .i64, .int .i64] i6 :: d :: d :: .box 100400 [.val i6, .own i6 100402 false] :: .box 100500 [.val i6, .own i6 100502 false] :: .cell (.val i6) :: d :: d :: d :: .cell (.val i6) :: .cell (.val i6) :: d :: d :: .cell (.val i6) :: .cell (.val i6) :: D 14 []
def xs52_6 : List (Ex × List Fm) := [(.exit 2, [.cell (.val i6), .clo [.int .i64, .int .i64] i6, d, d, .box 100400 [.val i6, .own i6 100402 false], .box 100500 [.val i6, .own i6 100502 false], d, d, d, d, .cell (.val i6), .cell (.val i6), d, d, d, d, d, d, d, d, d, d, d, d, d, d, d, d, d, d])]
def impl_filled_l6 : (Int × ((Int × Int × Unit) → Option (Int)) × (Int × LI × Unit) × (Int × LI × Unit) × Int × Int × Int × Int × Int × Unit) → Option ((Int × ((Int × Int × Unit) → Option (Int)) × (Int × LI × Unit) × (Int × LI × Unit) × Int × Int × Int × Int × Int × Unit) ⊕ ((Int × ((Int × Int × Unit) → Option (Int)) × (Int × LI × Unit) × (Int × LI × Unit) × Int × Int × Unit))) := fun (v0, v1, (v4_0, v4_1, _), (v5_0, v5_1, _), v6, v10, v11, v14, v15, _) =>
 bif (decide (v15 < v14)) then
  Option.bind (v1 (v6, v15, ())) fun r0 =>
   if (((0 + (List.length v5_1)) = (List.length v5_1)) ∧ ((((List.length v5_1) + (List.length (List.take 1 (List.drop 0 [r0])))) * 8) ≤ 140737488355328)) then
    some (Sum.inl (v0, v1, (v4_0, (List.take (List.length v4_1) (List.drop 0 v4_1)), ()), (v5_0, (List.take ((List.length v5_1) + (List.length (List.take 1 (List.drop 0 [r0])))) (List.drop 0 ((List.drop 0 v5_1) ++ (List.take 1 (List.drop 0 [r0]))))), ()), v6, v10, v11, v14, (IntKind.wrap .i64 (v15 + 1)), ()))
   else
    none
 else
  some (Sum.inr (v0, v1, (v4_0, (List.take (List.length v4_1) (List.drop 0 v4_1)), ()), (v5_0, (List.take (List.length v5_1) (List.drop 0 v5_1)), ()), v10, v11, ()))
theorem loop52_6 {L} (h : L 6 = some ⟨30, sh52_6, xs52_6, impl_filled_l6⟩) : LoopOk prog L (loopOf f52 6) := lo (L' := L0) (by kernel_rfl) E0_ok allNil h
def L52_1 : Nat → Option LoopD := fun n => ifEq n 6 (some ⟨30, sh52_6, xs52_6, impl_filled_l6⟩) (L0 n)
def sh52_3 : List Fm := .cell (.val i6) :: .clo [.int .i64, .int .i64] i6 :: d :: d :: .box 100400 [.val i6, .own i6 100402 false] :: .box 100500 [.val i6, .own i6 100502 false] :: D 4 (.cell (.val i6) :: .cell (.val i6) :: D 18 [])
def xs52_3 : List (Ex × List Fm) := [(.exit 0, [d, d, d, d, .box 100400 [.val i6, .own i6 100402 false], .box 100500 [.val i6, .own i6 100502 false], d, d, d, d, d, d, d, d, d, d, d, d, d, d, d, d, d, d, d, d, d, d, d, d])]
def impl_filled_l3 : (Int × ((Int × Int × Unit) → Option (Int)) × (Int × LI × Unit) × (Int × LI × Unit) × Int × Int × Unit) → Option ((Int × ((Int × Int × Unit) → Option (Int)) × (Int × LI × Unit) × (Int × LI × Unit) × Int × Int × Unit) ⊕ (((Int × LI × Unit) × (Int × LI × Unit) × Unit))) := fun (v0, v1, (v4_0, v4_1, _), (v5_0, v5_1, _), v10, v11, _) =>
 bif (decide (v11 < v10)) then
  Option.bind (loopF impl_filled_l6 (v0, v1, (v4_0, (List.take (List.length v4_1) (List.drop 0 v4_1)), ()), (v5_0, (List.take (List.length v5_1) (List.drop 0 v5_1)), ()), v11, v10, v11, v0, 0, ())) fun (r0, r1, (r2, r3, _), (r4, r5, _), r6, r7, _) =>
   some (Sum.inl (r0, r1, (r2, (List.take (List.length r3) (List.drop 0 r3)), ()), (r4, (List.take (List.length r5) (List.drop 0 r5)), ()), r6, (IntKind.wrap .i64 (r7 + 1)), ()))
 else
  some (Sum.inr ((v4_0, (List.take (List.length v4_1) (List.drop 0 v4_1)), ()), (v5_0, (List.take (List.length v5_1) (List.drop 0 v5_1)), ()), ()))
theorem loop52_3 {L} (h : L 3 = some ⟨30, sh52_3, xs52_3, impl_filled_l3⟩) : LoopOk prog L (loopOf f52 3) := lo (L' := L52_1) (by kernel_rfl) E0_ok (allCons (loop52_6 rfl) allNil) h
def L52_2 : Nat → Option LoopD := fun n => ifEq n 3 (some ⟨30, sh52_3, xs52_3, impl_filled_l3⟩) (L52_1 n)
def impl_filled : Int → ((Int × Int × Unit) → Option (Int)) → Option (TM) := fun a0 a1 =>
 Option.bind (loopF impl_filled_l3 (a0, a1, ((0 : Int), [], ()), (a0, [], ()), a0, 0, ())) fun ((r0, r1, _), (r2, r3, _), _) =>
  some (r2, (List.take (List.length r3) (List.drop 0 r3)))
def A52 : FnA := ⟨[.v i6, .clo [.int .i64, .int .i64] i6], true, [.pair i6 sI], fun x => impl_filled x.1 x.2.1⟩
theorem A52_ok : FnOk prog 52 A52 := fo (L := L52_2) (by kernel_rfl) func52 E0_ok (allCons (loop52_3 rfl) allNil)
def impl_UnitMatrix_1 : Int → Int → Option (Int) := fun a0 a1 =>
 bif (a0 == a1) then
  some 0
 else
  some 1000000
def A53 : FnA := ⟨[.v i6, .v i6], true, [.int .i64], fun x => impl_UnitMatrix_1 x.1 x.2.1⟩
theorem A53_ok : FnOk prog 53 A53 := fo (L := L0) (by kernel_rfl) func53 E0_ok allNil
def E25 : Env := ev fun g => ifEq g 52 (some A52) (ifEq g 53 (some A53) (none))
theorem E25_ok : FnsOk prog E25 := (oF A52_ok func52 (oF A53_ok func53 (noFns _ _)))
def impl_UnitMatrix : Int → Option (TM × Bool) := fun a0 =>
 bif (decide (a0 < 1)) then
  some (((0 : Int), []), false)
 else
  bif (decide (a0 > 4)) then
   some (((0 : Int), []), false)
  else
   Option.bind (impl_filled a0 (fun y0 => (impl_UnitMatrix_1 y0.1 y0.2.1))) fun (r1, r2) =>
    some ((r1, (List.take (List.length r2) (List.drop 0 r2))), true)
def A25 : FnA := ⟨[.v i6], true, [.pair i6 sI, .bool], fun x => impl_UnitMatrix x.1⟩
theorem A25_ok : FnOk prog 25 A25 := fo (L := L0) (by kernel_rfl) func25 E25_ok allNil
def impl_StepMatrix_1 : Int → Int → Option (Int) := fun a0 a1 =>
 some 1000000
def A54 : FnA := ⟨[.v i6, .v i6], true, [.int .i64], fun x => impl_StepMatrix_1 x.1 x.2.1⟩
theorem A54_ok : FnOk prog 54 A54 := fo (L := L0) (by kernel_rfl) func54 E0_ok allNil
def E26 : Env := ev fun g => ifEq g 20 (some A20) (ifEq g 52 (some A52) (ifEq g 54 (some A54) (none)))
theorem E26_ok : FnsOk prog E26 := (oF A20_ok func20 (oF A52_ok func52 (oF A54_ok func54 (noFns _ _))))
def sh26_5 : List Fm := d :: .cell (.val .str) :: d :: d :: .box 100400 [.val i6, .own i6 100402 false] :: d :: .box 100600 [.val i6, .own i6 100602 false] :: D 18 (.cell (.val sS) :: .cell (.val i6) :: .cell (.val i6) :: D 22 [])
def xs26_5 : List (Ex × List Fm) := [(.exit 0, [d, d, d, d, .box 100400 [.val i6, .own i6 100402 false], d, .box 100600 [.val i6, .own i6 100602 false], d, d, d, d, d, d, d, d, d, d, d, d, d, d, d, d, d, d, d, d, d, d, d, d, d, d, d, d, d, d, d, d, d, d, d, d, d, d, d, d, d, d, d])]
def impl_StepMatrix_l5 : (ByteArray × (Int × LI × Unit) × (Int × LI × Unit) × LS × Int × Int × Unit) → Option ((ByteArray × (Int × LI × Unit) × (Int × LI × Unit) × LS × Int × Int × Unit) ⊕ (((Int × LI × Unit) × (Int × LI × Unit) × Unit))) := fun (v1, (v4_0, v4_1, _), (v6_0, v6_1, _), v25, v26, v27, _) =>
 bif (decide (v27 < v26)) then
  if (((0 : Int) ≤ v27) ∧ (v27 < (((List.length v25) : Nat) : Int))) then
   bif ((ByteArray.toList (List.getD v25 (Int.toNat v27) ((0 : Int), ⟨Array.empty⟩, 0, 0)).2.1) == (ByteArray.toList v1)) then
    if (((0 : Int) ≤ (IntKind.wrap .i64 ((IntKind.wrap .i64 ((List.getD v25 (Int.toNat v27) ((0 : Int), ⟨Array.empty⟩, 0, 0)).1 * v6_0)) + (List.getD v25 (Int.toNat v27) ((0 : Int), ⟨Array.empty⟩, 0, 0)).2.2.1))) ∧ ((IntKind.wrap .i64 ((IntKind.wrap .i64 ((List.getD v25 (Int.toNat v27) ((0 : Int), ⟨Array.empty⟩, 0, 0)).1 * v6_0)) + (List.getD v25 (Int.toNat v27) ((0 : Int), ⟨Array.empty⟩, 0, 0)).2.2.1)) < (((List.length v6_1) : Nat) : Int))) then
     some (Sum.inl (v1, (v4_0, (List.take (List.length v4_1) (List.drop 0 v4_1)), ()), (v6_0, (List.take (List.length v6_1) (List.drop 0 (List.set v6_1 (0 + (Int.toNat (IntKind.wrap .i64 ((IntKind.wrap .i64 ((List.getD v25 (Int.toNat v27) ((0 : Int), ⟨Array.empty⟩, 0, 0)).1 * v6_0)) + (List.getD v25 (Int.toNat v27) ((0 : Int), ⟨Array.empty⟩, 0, 0)).2.2.1)))) (List.getD v25 (Int.toNat v27) ((0 : Int), ⟨Array.empty⟩, 0, 0)).2.2.2))), ()), v25, v26, (IntKind.wrap .i64 (v27 + 1)), ()))
    else
     none
   else
    some (Sum.inl (v1, (v4_0, (List.take (List.length v4_1) (List.drop 0 v4_1)), ()), (v6_0, (List.take (List.length v6_1) (List.drop 0 v6_1)), ()), v25, v26, (IntKind.wrap .i64 (v27 + 1)), ()))
  else
   none
 else
  some (Sum.inr ((v4_0, (List.take (List.length v4_1) (List.drop 0 v4_1)), ()), (v6_0, (List.take (List.length v6_1) (List.drop 0 v6_1)), ()), ()))
theorem loop26_5 {L} (h : L 5 = some ⟨50, sh26_5, xs26_5, impl_StepMatrix_l5⟩) : LoopOk prog L (loopOf f26 5) := lo (L' := L0) (by kernel_rfl) E26_ok allNil h
def L26_1 : Nat → Option LoopD := fun n => ifEq n 5 (some ⟨50, sh26_5, xs26_5, impl_StepMatrix_l5⟩) (L0 n)
def impl_StepMatrix : TA → ByteArray → Option (TM × Bool) := fun (a0_0, a0_1, a0_2, a0_3) a1 =>
 Option.bind (impl_AutomatonValid (a0_0, a0_1, a0_2, a0_3)) fun r0 =>
  bif (!r0) then
   some (((0 : Int), []), false)
  else
   bif (!((ByteArray.toList a1) == (ByteArray.toList (⟨#[(97 : UInt8)]⟩ : ByteArray)))) then
    bif (!((ByteArray.toList a1) == (ByteArray.toList (⟨#[(98 : UInt8)]⟩ : ByteArray)))) then
     some (((0 : Int), []), false)
    else
     Option.bind (impl_filled a0_0 (fun y1 => (impl_StepMatrix_1 y1.1 y1.2.1))) fun (r2, r3) =>
      Option.bind (loopF impl_StepMatrix_l5 (a1, ((0 : Int), [], ()), (r2, (List.take (List.length r3) (List.drop 0 r3)), ()), a0_3, (((List.length a0_3) : Nat) : Int), 0, ())) fun ((r4, r5, _), (r6, r7, _), _) =>
       some ((r6, (List.take (List.length r7) (List.drop 0 r7))), true)
   else
    Option.bind (impl_filled a0_0 (fun y8 => (impl_StepMatrix_1 y8.1 y8.2.1))) fun (r9, r10) =>
     Option.bind (loopF impl_StepMatrix_l5 (a1, ((0 : Int), [], ()), (r9, (List.take (List.length r10) (List.drop 0 r10)), ()), a0_3, (((List.length a0_3) : Nat) : Int), 0, ())) fun ((r11, r12, _), (r13, r14, _), _) =>
      some ((r13, (List.take (List.length r14) (List.drop 0 r14))), true)
def A26 : FnA := ⟨[.v kA, .v .str], true, [.pair i6 sI, .bool], fun x => impl_StepMatrix x.1 x.2.1⟩
theorem A26_ok : FnOk prog 26 A26 := fo (L := L26_1) (by kernel_rfl) func26 E26_ok (allCons (loop26_5 rfl) allNil)
def sh136_2 : List Fm := .cell (.val sI) :: .clo [.int .i64] .bool :: D 5 (.cell (.val i6) :: .cell (.val i6) :: D 10 [])
def xs136_2 : List (Ex × List Fm) := [(.ret, (D 4 (.cell (.val i6) :: D 14 []))), (.exit 0, (D 19 []))]
def slices_IndexFunc_l2 : (LI × ((Int × Unit) → Option (Bool)) × Int × Int × Unit) → Option ((LI × ((Int × Unit) → Option (Bool)) × Int × Int × Unit) ⊕ ((Int × Unit) ⊕ (Unit))) := fun (v0, v1, v7, v8, _) =>
 bif (decide (v8 < v7)) then
  if (((0 : Int) ≤ v8) ∧ (v8 < (((List.length v0) : Nat) : Int))) then
   Option.bind (v1 ((List.getD v0 (Int.toNat v8) 0), ())) fun r0 =>
    bif r0 then
     some (Sum.inr (Sum.inl (v8, ())))
    else
     some (Sum.inl (v0, v1, v7, (IntKind.wrap .i64 (v8 + 1)), ()))
  else
   none
 else
  some (Sum.inr (Sum.inr ()))
theorem loop136_2 {L} (h : L 2 = some ⟨19, sh136_2, xs136_2, slices_IndexFunc_l2⟩) : LoopOk prog L (loopOf f136 2) := lo (L' := L0) (by kernel_rfl) E0_ok allNil h
def L136_1 : Nat → Option LoopD := fun n => ifEq n 2 (some ⟨19, sh136_2, xs136_2, slices_IndexFunc_l2⟩) (L0 n)
def slices_IndexFunc : LI → ((Int × Unit) → Option (Bool)) → Option (Int) := fun a0 a1 =>
 Option.bind (loopF slices_IndexFunc_l2 (a0, a1, (((List.length a0) : Nat) : Int), 0, ())) fun r0 =>
  (match r0 with
  | .inl (d1, _) =>
    some d1
  | .inr _ =>
    some (-1))
def A136 : FnA := ⟨[.v sI, .clo [.int .i64] .bool], true, [.int .i64], fun x => slices_IndexFunc x.1 x.2.1⟩
theorem A136_ok : FnOk prog 136 A136 := fo (L := L136_1) (by kernel_rfl) func136 E0_ok (allCons (loop136_2 rfl) allNil)
def E66 : Env := ev fun g => ifEq g 136 (some A136) (none)
theorem E66_ok : FnsOk prog E66 := (oF A136_ok func136 (noFns _ _))
def slices_ContainsFunc : LI → ((Int × Unit) → Option (Bool)) → Option (Bool) := fun a0 a1 =>
 Option.bind (slices_IndexFunc a0 a1) fun r0 =>
  some (decide (r0 ≥ 0))
def A66 : FnA := ⟨[.v sI, .clo [.int .i64] .bool], true, [.bool], fun x => slices_ContainsFunc x.1 x.2.1⟩
theorem A66_ok : FnOk prog 66 A66 := fo (L := L0) (by kernel_rfl) func66 E66_ok allNil
def impl_CostValid : Int → Option (Bool) := fun a0 =>
 bif (decide (a0 ≥ 0)) then
  some (decide (a0 ≤ 1000000))
 else
  some false
def A34 : FnA := ⟨[.v i6], true, [.bool], fun x => impl_CostValid x.1⟩
theorem A34_ok : FnOk prog 34 A34 := fo (L := L0) (by kernel_rfl) func34 E0_ok allNil
def E67 : Env := ev fun g => ifEq g 34 (some A34) (none)
theorem E67_ok : FnsOk prog E67 := (oF A34_ok func34 (noFns _ _))
def impl_MatrixValid_1 : Int → Option (Bool) := fun a0 =>
 Option.bind (impl_CostValid a0) fun r0 =>
  some (!r0)
def A67 : FnA := ⟨[.v i6], true, [.bool], fun x => impl_MatrixValid_1 x.1⟩
theorem A67_ok : FnOk prog 67 A67 := fo (L := L0) (by kernel_rfl) func67 E67_ok allNil
def E35 : Env := ev fun g => ifEq g 66 (some A66) (ifEq g 67 (some A67) (none))
theorem E35_ok : FnsOk prog E35 := (oF A66_ok func66 (oF A67_ok func67 (noFns _ _)))
def impl_MatrixValid : TM → Option (Bool) := fun (a0_0, a0_1) =>
 bif (decide (a0_0 < 1)) then
  some false
 else
  bif (decide (a0_0 > 4)) then
   some false
  else
   bif ((((List.length a0_1) : Nat) : Int) != (IntKind.wrap .i64 (a0_0 * a0_0))) then
    some false
   else
    Option.bind (slices_ContainsFunc a0_1 (fun y0 => (impl_MatrixValid_1 y0.1))) fun r1 =>
     some (!r1)
def A35 : FnA := ⟨[.v kM], true, [.bool], fun x => impl_MatrixValid x.1⟩
theorem A35_ok : FnOk prog 35 A35 := fo (L := L0) (by kernel_rfl) func35 E35_ok allNil
def E55 : Env := ev fun g => ifEq g 35 (some A35) (none)
theorem E55_ok : FnsOk prog E55 := (oF A35_ok func35 (noFns _ _))
def impl_alike : TM → TM → Option (Bool) := fun (a0_0, a0_1) (a1_0, a1_1) =>
 Option.bind (impl_MatrixValid (a0_0, a0_1)) fun r0 =>
  bif r0 then
   Option.bind (impl_MatrixValid (a1_0, a1_1)) fun r1 =>
    bif r1 then
     some (a0_0 == a1_0)
    else
     some false
  else
   some false
def A55 : FnA := ⟨[.v kM, .v kM], true, [.bool], fun x => impl_alike x.1 x.2.1⟩
theorem A55_ok : FnOk prog 55 A55 := fo (L := L0) (by kernel_rfl) func55 E55_ok allNil
def impl_Matrix_at : TM → Int → Int → Option (Int) := fun (a0_0, a0_1) a1 a2 =>
 if (((0 : Int) ≤ (IntKind.wrap .i64 ((IntKind.wrap .i64 (a1 * a0_0)) + a2))) ∧ ((IntKind.wrap .i64 ((IntKind.wrap .i64 (a1 * a0_0)) + a2)) < (((List.length a0_1) : Nat) : Int))) then
  some (List.getD a0_1 (Int.toNat (IntKind.wrap .i64 ((IntKind.wrap .i64 (a1 * a0_0)) + a2))) 0)
 else
  none
def A58 : FnA := ⟨[.v kM, .v i6, .v i6], true, [.int .i64], fun x => impl_Matrix_at x.1 x.2.1 x.2.2.1⟩
theorem A58_ok : FnOk prog 58 A58 := fo (L := L0) (by kernel_rfl) func58 E0_ok allNil
def E57 : Env := ev fun g => ifEq g 34 (some A34) (none)
theorem E57_ok : FnsOk prog E57 := (oF A34_ok func34 (noFns _ _))
def impl_AddCost : Int → Int → Option (Int) := fun a0 a1 =>
 Option.bind (impl_CostValid a0) fun r0 =>
  bif (!r0) then
   some (-1)
  else
   Option.bind (impl_CostValid a1) fun r1 =>
    bif (!r1) then
     some (-1)
    else
     some (if ((1000000 : Int) < (IntKind.wrap .i64 (a0 + a1))) then 1000000 else (IntKind.wrap .i64 (a0 + a1)))
def A57 : FnA := ⟨[.v i6, .v i6], true, [.int .i64], fun x => impl_AddCost x.1 x.2.1⟩
theorem A57_ok : FnOk prog 57 A57 := fo (L := L0) (by kernel_rfl) func57 E57_ok allNil
def E56 : Env := ev fun g => ifEq g 58 (some A58) (ifEq g 57 (some A57) (none))
theorem E56_ok : FnsOk prog E56 := (oF A58_ok func58 (oF A57_ok func57 (noFns _ _)))
def sh56_3 : List Fm := .cell (.val i6) :: .cell (.val i6) :: .fp kM :: .fp kM :: d :: d :: d :: .cell (.val i6) :: d :: d :: .cell (.val i6) :: .cell (.val i6) :: D 15 []
def xs56_3 : List (Ex × List Fm) := [(.exit 0, (D 7 (.cell (.val i6) :: D 19 [])))]
def impl_MulMatrix_1_l3 : (Int × Int × TM × TM × Int × Int × Int × Unit) → Option ((Int × Int × TM × TM × Int × Int × Int × Unit) ⊕ ((Int × Unit))) := fun (v0, v1, (v2_0, v2_1), (v3_0, v3_1), v7, v10, v11, _) =>
 bif (decide (v11 < v10)) then
  Option.bind (impl_Matrix_at (v2_0, v2_1) v0 v11) fun r0 =>
   Option.bind (impl_Matrix_at (v3_0, v3_1) v11 v1) fun r1 =>
    Option.bind (impl_AddCost r0 r1) fun r2 =>
     some (Sum.inl (v0, v1, (v2_0, v2_1), (v3_0, v3_1), (if (r2 < v7) then r2 else v7), v10, (IntKind.wrap .i64 (v11 + 1)), ()))
 else
  some (Sum.inr (v7, ()))
theorem loop56_3 {L} (h : L 3 = some ⟨27, sh56_3, xs56_3, impl_MulMatrix_1_l3⟩) : LoopOk prog L (loopOf f56 3) := lo (L' := L0) (by kernel_rfl) E56_ok allNil h
def L56_1 : Nat → Option LoopD := fun n => ifEq n 3 (some ⟨27, sh56_3, xs56_3, impl_MulMatrix_1_l3⟩) (L0 n)
def impl_MulMatrix_1 : Int → Int → TM → TM → Option (Int) := fun a0 a1 (a2_0, a2_1) (a3_0, a3_1) =>
 Option.bind (loopF impl_MulMatrix_1_l3 (a0, a1, (a2_0, a2_1), (a3_0, a3_1), 1000000, a2_0, 0, ())) fun (r0, _) =>
  some r0
def A56 : FnA := ⟨[.v i6, .v i6, .cap kM, .cap kM], true, [.int .i64], fun x => impl_MulMatrix_1 x.1 x.2.1 x.2.2.1 x.2.2.2.1⟩
theorem A56_ok : FnOk prog 56 A56 := fo (L := L56_1) (by kernel_rfl) func56 E56_ok (allCons (loop56_3 rfl) allNil)
def E27 : Env := ev fun g => ifEq g 55 (some A55) (ifEq g 52 (some A52) (ifEq g 56 (some A56) (none)))
theorem E27_ok : FnsOk prog E27 := (oF A55_ok func55 (oF A52_ok func52 (oF A56_ok func56 (noFns _ _))))
def impl_MulMatrix : TM → TM → Option (TM × Bool) := fun (a0_0, a0_1) (a1_0, a1_1) =>
 Option.bind (impl_alike (a0_0, a0_1) (a1_0, a1_1)) fun r0 =>
  bif (!r0) then
   some (((0 : Int), []), false)
  else
   Option.bind (impl_filled a0_0 (fun y1 => (impl_MulMatrix_1 y1.1 y1.2.1 (a0_0, a0_1) (a1_0, a1_1)))) fun (r2, r3) =>
    some ((r2, (List.take (List.length r3) (List.drop 0 r3))), true)
def A27 : FnA := ⟨[.v kM, .v kM], true, [.pair i6 sI, .bool], fun x => impl_MulMatrix x.1 x.2.1⟩
theorem A27_ok : FnOk prog 27 A27 := fo (L := L0) (by kernel_rfl) func27 E27_ok allNil
def E8 : Env := ev fun g => ifEq g 20 (some A20) (ifEq g 21 (some A21) (ifEq g 25 (some A25) (ifEq g 26 (some A26) (ifEq g 27 (some A27) (none)))))
theorem E8_ok : FnsOk prog E8 := (oF A20_ok func20 (oF A21_ok func21 (oF A25_ok func25 (oF A26_ok func26 (oF A27_ok func27 (noFns _ _))))))
def sh8_5 : List Fm := d :: .cell (.val .str) :: .box 100200 [.val i6, .val sI, .val sI, .val sS] :: d :: .box 100400 [.val i6, .own i6 100402 false] :: d :: .box 100600 [.val i6, .own i6 100602 false] :: D 20 (.cell (.val i6) :: .cell (.val i6) :: D 20 [])
def xs8_5 : List (Ex × List Fm) := [(.exit 0, [d, d, d, d, .box 100400 [.val i6, .own i6 100402 false], d, .box 100600 [.val i6, .own i6 100602 false], d, d, d, d, d, d, d, d, d, d, d, d, d, d, d, d, d, d, d, d, d, d, d, d, d, d, d, d, d, d, d, d, d, d, d, d, d, d, d, d, d, d])]
def impl_WordMatrix_l5 : (ByteArray × (Int × LI × LI × LS × Unit) × (Int × LI × Unit) × (Int × LI × Unit) × Int × Int × Unit) → Option ((ByteArray × (Int × LI × LI × LS × Unit) × (Int × LI × Unit) × (Int × LI × Unit) × Int × Int × Unit) ⊕ (((Int × LI × Unit) × (Int × LI × Unit) × Unit))) := fun (v1, (v2_0, v2_1, v2_2, v2_3, _), (v4_0, v4_1, _), (v6_0, v6_1, _), v27, v28, _) =>
 bif (decide (v28 < v27)) then
  if (((0 : Int) ≤ v28) ∧ ((v28 ≤ (IntKind.wrap .i64 (v28 + 1))) ∧ ((IntKind.wrap .i64 (v28 + 1)) ≤ (((ByteArray.size v1) : Nat) : Int)))) then
   Option.bind (impl_StepMatrix (v2_0, v2_1, v2_2, v2_3) (ByteArray.extract v1 (Int.toNat v28) (Int.toNat (IntKind.wrap .i64 (v28 + 1))))) fun ((r0, r1), r2) =>
    Option.bind (impl_MulMatrix (v6_0, (List.take (List.length v6_1) (List.drop 0 v6_1))) (r0, (List.take (List.length r1) (List.drop 0 r1)))) fun ((r3, r4), r5) =>
     some (Sum.inl (v1, (v2_0, v2_1, v2_2, v2_3, ()), (v4_0, (List.take (List.length v4_1) (List.drop 0 v4_1)), ()), (r3, (List.take (List.length r4) (List.drop 0 r4)), ()), v27, (IntKind.wrap .i64 (v28 + 1)), ()))
  else
   none
 else
  some (Sum.inr ((v4_0, (List.take (List.length v4_1) (List.drop 0 v4_1)), ()), (v6_0, (List.take (List.length v6_1) (List.drop 0 v6_1)), ()), ()))
theorem loop8_5 {L} (h : L 5 = some ⟨49, sh8_5, xs8_5, impl_WordMatrix_l5⟩) : LoopOk prog L (loopOf f8 5) := lo (L' := L0) (by kernel_rfl) E8_ok allNil h
def L8_1 : Nat → Option LoopD := fun n => ifEq n 5 (some ⟨49, sh8_5, xs8_5, impl_WordMatrix_l5⟩) (L0 n)
def impl_WordMatrix : TA → ByteArray → Option (TM × Bool) := fun (a0_0, a0_1, a0_2, a0_3) a1 =>
 Option.bind (impl_AutomatonValid (a0_0, a0_1, a0_2, a0_3)) fun r0 =>
  bif (!r0) then
   some (((0 : Int), []), false)
  else
   Option.bind (impl_WordValid a1) fun r1 =>
    bif (!r1) then
     some (((0 : Int), []), false)
    else
     Option.bind (impl_UnitMatrix a0_0) fun ((r2, r3), r4) =>
      Option.bind (loopF impl_WordMatrix_l5 (a1, (a0_0, a0_1, a0_2, a0_3, ()), ((0 : Int), [], ()), (r2, (List.take (List.length r3) (List.drop 0 r3)), ()), (((ByteArray.size a1) : Nat) : Int), 0, ())) fun ((r5, r6, _), (r7, r8, _), _) =>
       some ((r7, (List.take (List.length r8) (List.drop 0 r8))), true)
def A8 : FnA := ⟨[.v kA, .v .str], true, [.pair i6 sI, .bool], fun x => impl_WordMatrix x.1 x.2.1⟩
theorem A8_ok : FnOk prog 8 A8 := fo (L := L8_1) (by kernel_rfl) func8 E8_ok (allCons (loop8_5 rfl) allNil)
def sh60_3 : List Fm := d :: .clo [.pair i6 (.pair .str (.pair i6 i6))] kS :: d :: d :: d :: .cell (.own kS 100500 false) :: d :: d :: d :: .cell (.val sS) :: .cell (.val i6) :: .cell (.val i6) :: D 11 []
def xs60_3 : List (Ex × List Fm) := [(.exit 0, (D 5 (.cell (.own kS 100500 false) :: D 17 [])))]
def impl_stepped_l3 : (((TS × Unit) → Option (TS)) × LS × LS × Int × Int × Unit) → Option ((((TS × Unit) → Option (TS)) × LS × LS × Int × Int × Unit) ⊕ ((LS × Unit))) := fun (v1, v5, v9, v10, v11, _) =>
 bif (decide (v11 < v10)) then
  if (((0 : Int) ≤ v11) ∧ (v11 < (((List.length v9) : Nat) : Int))) then
   Option.bind (v1 (((List.getD v9 (Int.toNat v11) ((0 : Int), ⟨Array.empty⟩, 0, 0)).1, (List.getD v9 (Int.toNat v11) ((0 : Int), ⟨Array.empty⟩, 0, 0)).2.1, (List.getD v9 (Int.toNat v11) ((0 : Int), ⟨Array.empty⟩, 0, 0)).2.2.1, (List.getD v9 (Int.toNat v11) ((0 : Int), ⟨Array.empty⟩, 0, 0)).2.2.2), ())) fun (r0, r1, r2, r3) =>
    if (((0 + (List.length v5)) = (List.length v5)) ∧ ((((List.length v5) + (List.length (List.take 1 (List.drop 0 [(r0, r1, r2, r3)])))) * 40) ≤ 140737488355328)) then
     some (Sum.inl (v1, (List.take ((List.length v5) + (List.length (List.take 1 (List.drop 0 [(r0, r1, r2, r3)])))) (List.drop 0 ((List.drop 0 v5) ++ (List.take 1 (List.drop 0 [(r0, r1, r2, r3)]))))), v9, v10, (IntKind.wrap .i64 (v11 + 1)), ()))
    else
     none
  else
   none
 else
  some (Sum.inr ((List.take (List.length v5) (List.drop 0 v5)), ()))
theorem loop60_3 {L} (h : L 3 = some ⟨23, sh60_3, xs60_3, impl_stepped_l3⟩) : LoopOk prog L (loopOf f60 3) := lo (L' := L0) (by kernel_rfl) E0_ok allNil h
def L60_1 : Nat → Option LoopD := fun n => ifEq n 3 (some ⟨23, sh60_3, xs60_3, impl_stepped_l3⟩) (L0 n)
def impl_stepped : LS → ((TS × Unit) → Option (TS)) → Option (LS) := fun a0 a1 =>
 Option.bind (loopF impl_stepped_l3 (a1, (List.take 0 (List.drop 0 [])), a0, (((List.length a0) : Nat) : Int), 0, ())) fun (r0, _) =>
  some (List.take (List.length r0) (List.drop 0 r0))
def A60 : FnA := ⟨[.v sS, .clo [.pair i6 (.pair .str (.pair i6 i6))] kS], true, [.sl kS], fun x => impl_stepped x.1 x.2.1⟩
theorem A60_ok : FnOk prog 60 A60 := fo (L := L60_1) (by kernel_rfl) func60 E0_ok (allCons (loop60_3 rfl) allNil)
def impl_ReverseAutomaton_1 : TS → Option (TS) := fun (a0_0, a0_1, a0_2, a0_3) =>
 some (a0_2, a0_1, a0_0, a0_3)
def A61 : FnA := ⟨[.v kS], true, [.pair i6 (.pair .str (.pair i6 i6))], fun x => impl_ReverseAutomaton_1 x.1⟩
theorem A61_ok : FnOk prog 61 A61 := fo (L := L0) (by kernel_rfl) func61 E0_ok allNil
def slices_Clone : LI → Option (LI) := fun a0 =>
 ifSame (some [])
  (if (((0 + 0) = (List.length ([] : List Unit))) ∧ (((0 + (List.length a0)) * 8) ≤ 140737488355328)) then
   some (List.take (0 + (List.length a0)) (List.drop 0 ((List.drop 0 []) ++ a0)))
  else
   none)
  (bif (List.isEmpty a0) then
   none
  else
   if (((0 + 0) = (List.length ([] : List Unit))) ∧ (((0 + (List.length a0)) * 8) ≤ 140737488355328)) then
    some (List.take (0 + (List.length a0)) (List.drop 0 ((List.drop 0 []) ++ a0)))
   else
    none)
def A129 : FnA := ⟨[.v sI], true, [.sl i6], fun x => slices_Clone x.1⟩
theorem A129_ok : FnOk prog 129 A129 := fo (L := L0) (by kernel_rfl) func129 E0_ok allNil
def slices_Clone_Step : LS → Option (LS) := fun a0 =>
 ifSame (some [])
  (if (((0 + 0) = (List.length ([] : List Unit))) ∧ (((0 + (List.length a0)) * 40) ≤ 140737488355328)) then
   some (List.take (0 + (List.length a0)) (List.drop 0 ((List.drop 0 []) ++ a0)))
  else
   none)
  (bif (List.isEmpty a0) then
   none
  else
   if (((0 + 0) = (List.length ([] : List Unit))) ∧ (((0 + (List.length a0)) * 40) ≤ 140737488355328)) then
    some (List.take (0 + (List.length a0)) (List.drop 0 ((List.drop 0 []) ++ a0)))
   else
    none)
def A130 : FnA := ⟨[.v sS], true, [.sl kS], fun x => slices_Clone_Step x.1⟩
theorem A130_ok : FnOk prog 130 A130 := fo (L := L0) (by kernel_rfl) func130 E0_ok allNil
def E59 : Env := ⟨ty0, fun g => ifEq g 129 (some A129) (ifEq g 130 (some A130) (ifEq g 20 (some A20) (none))), fun g => ifEq g 131 (some A131) (ifEq g 132 (some A132) (none)), fun _ => none, fun _ => none, fun _ => 0⟩
theorem E59_ok : FnsOk prog E59 := (oF A129_ok func129 (oF A130_ok func130 (oF A20_ok func20 (oneMs A131_ok (by kernel_rfl) func131 (by kernel_rfl) (by kernel_rfl) (oneMs A132_ok (by kernel_rfl) func132 (by kernel_rfl) (by kernel_rfl) (noFns _ _))))))
def impl_made : Int → LI → LI → LS → Option (TA × Bool) := fun a0 a1 a2 a3 =>
 Option.bind (slices_Clone a1) fun r0 =>
  Option.bind (slices_Clone a2) fun r1 =>
   Option.bind (slices_Clone_Step a3) fun r2 =>
    if ((List.length r0) = (List.length r0)) then
     Option.bind (slices_Sort r0) fun (_, r3, _) =>
      if ((List.length r1) = (List.length r1)) then
       Option.bind (slices_Sort r1) fun (_, r4, _) =>
        if ((List.length r2) = (List.length r2)) then
         Option.bind (slices_SortFunc r2) fun (_, r5, _) =>
          Option.bind (impl_AutomatonValid (a0, (List.take (List.length r0) (List.drop 0 r3)), (List.take (List.length r1) (List.drop 0 r4)), (List.take (List.length r2) (List.drop 0 r5)))) fun r6 =>
           bif (!r6) then
            some (((0 : Int), [], [], []), false)
           else
            some ((a0, (List.take (List.length r0) (List.drop 0 r3)), (List.take (List.length r1) (List.drop 0 r4)), (List.take (List.length r2) (List.drop 0 r5))), true)
        else
         none
      else
       none
    else
     none
def A59 : FnA := ⟨[.v i6, .v sI, .v sI, .v sS], true, [.pair i6 (.pair sI (.pair sI sS)), .bool], fun x => impl_made x.1 x.2.1 x.2.2.1 x.2.2.2.1⟩
theorem A59_ok : FnOk prog 59 A59 := fo (L := L0) (by kernel_rfl) func59 E59_ok allNil
def E28 : Env := ev fun g => ifEq g 20 (some A20) (ifEq g 60 (some A60) (ifEq g 61 (some A61) (ifEq g 59 (some A59) (none))))
theorem E28_ok : FnsOk prog E28 := (oF A20_ok func20 (oF A60_ok func60 (oF A61_ok func61 (oF A59_ok func59 (noFns _ _)))))
def impl_ReverseAutomaton : TA → Option (TA × Bool) := fun (a0_0, a0_1, a0_2, a0_3) =>
 Option.bind (impl_AutomatonValid (a0_0, a0_1, a0_2, a0_3)) fun r0 =>
  bif (!r0) then
   some (((0 : Int), [], [], []), false)
  else
   Option.bind (impl_stepped a0_3 (fun y1 => (impl_ReverseAutomaton_1 y1.1))) fun r2 =>
    Option.bind (impl_made a0_0 a0_2 a0_1 (List.take (List.length r2) (List.drop 0 r2))) fun ((r3, r4, r5, r6), r7) =>
     some ((r3, (List.take (List.length r4) (List.drop 0 r4)), (List.take (List.length r5) (List.drop 0 r5)), (List.take (List.length r6) (List.drop 0 r6))), r7)
def A28 : FnA := ⟨[.v kA], true, [.pair i6 (.pair sI (.pair sI sS)), .bool], fun x => impl_ReverseAutomaton x.1⟩
theorem A28_ok : FnOk prog 28 A28 := fo (L := L0) (by kernel_rfl) func28 E28_ok allNil
def sh29_1 : List Fm := .cell (.own (.int .u8) 200000 false) :: d :: .cell (.val i6) :: .cell (.val i6) :: D 24 []
def xs29_1 : List (Ex × List Fm) := [(.exit 0, (.cell (.own (.int .u8) 200000 false) :: D 27 []))]
def slices_Reverse_l1 : (LI × Int × Int × Unit) → Option ((LI × Int × Int × Unit) ⊕ ((LI × Unit))) := fun (v0, v2, v3, _) =>
 bif (decide (v2 < v3)) then
  if (((0 : Int) ≤ v3) ∧ (v3 < (((List.length v0) : Nat) : Int))) then
   if (((0 : Int) ≤ v2) ∧ (v2 < (((List.length v0) : Nat) : Int))) then
    if (((0 : Int) ≤ v2) ∧ (v2 < (((List.length v0) : Nat) : Int))) then
     if (((0 : Int) ≤ v3) ∧ (v3 < (((List.length v0) : Nat) : Int))) then
      if ((List.length v0) = (List.length (List.set (List.set v0 (0 + (Int.toNat v2)) (List.getD v0 (0 + (Int.toNat v3)) 0)) (0 + (Int.toNat v3)) (List.getD v0 (0 + (Int.toNat v2)) 0)))) then
       some (Sum.inl ((List.set (List.set v0 (0 + (Int.toNat v2)) (List.getD v0 (0 + (Int.toNat v3)) 0)) (0 + (Int.toNat v3)) (List.getD v0 (0 + (Int.toNat v2)) 0)), (IntKind.wrap .i64 (v2 + 1)), (IntKind.wrap .i64 (v3 - 1)), ()))
      else
       none
     else
      none
    else
     none
   else
    none
  else
   none
 else
  if ((List.length v0) = (List.length v0)) then
   some (Sum.inr (v0, ()))
  else
   none
theorem loop29_1 {L} (h : L 1 = some ⟨28, sh29_1, xs29_1, slices_Reverse_l1⟩) : LoopOk prog L (loopOf f29 1) := lo (L' := L0) (by kernel_rfl) E0_ok allNil h
def L29_1 : Nat → Option LoopD := fun n => ifEq n 1 (some ⟨28, sh29_1, xs29_1, slices_Reverse_l1⟩) (L0 n)
def slices_Reverse : LI → Option ((Unit) × (LI × Unit)) := fun a0 =>
 if ((List.length a0) = (List.length a0)) then
  Option.bind (loopF slices_Reverse_l1 (a0, 0, (IntKind.wrap .i64 ((((List.length a0) : Nat) : Int) - 1)), ())) fun (r0, _) =>
   some ((), r0, ())
 else
  none
def A29 : FnM := ⟨[.io (.sl (.int .u8))], true, [], none, fun x => slices_Reverse x.1⟩
theorem A29_ok : FnMOk prog 29 A29 := fm (L := L29_1) (by kernel_rfl) func29 E0_ok (allCons (loop29_1 rfl) allNil)
def E9 : Env := ⟨ty0, fun g => ifEq g 28 (some A28) (ifEq g 21 (some A21) (ifEq g 22 (some A22) (none))), fun g => ifEq g 29 (some A29) (none), fun _ => none, fun _ => none, fun _ => 0⟩
theorem E9_ok : FnsOk prog E9 := (oF A28_ok func28 (oF A21_ok func21 (oF A22_ok func22 (oneMs A29_ok (by kernel_rfl) func29 (by kernel_rfl) (by kernel_rfl) (noFns _ _)))))
def sh9_12 : List Fm := d :: d :: .box 100200 [.val i6, .val sI, .val sI, .val sS] :: D 6 (.cell (.own i6 100900 false) :: d :: .cell (.val sI) :: .cell (.val i6) :: D 22 (.cell (.own sI 103500 false) :: .cell (.val i6) :: .cell (.val i6) :: D 4 (.cell (.val sI) :: .cell (.val i6) :: .cell (.val i6) :: D 16 [])))
def xs9_12 : List (Ex × List Fm) := [(.exit 2, [d, d, .box 100200 [.val i6, .val sI, .val sI, .val sS], d, d, d, d, d, d, .cell (.own i6 100900 false), d, d, .cell (.val i6), d, d, d, d, d, d, d, d, d, d, d, d, d, d, d, d, d, d, d, d, d, d, .cell (.own sI 103500 false), .cell (.val i6), .cell (.val i6), d, d, d, d, d, d, d, d, d, d, d, d, d, d, d, d, d, d, d, d, d, d, d])]
def impl_PrefixCosts_l12 : ((Int × LI × LI × LS × Unit) × LI × LI × Int × (List LI) × Int × Int × LI × Int × Int × Unit) → Option (((Int × LI × LI × LS × Unit) × LI × LI × Int × (List LI) × Int × Int × LI × Int × Int × Unit) ⊕ (((Int × LI × LI × LS × Unit) × LI × Int × (List LI) × Int × Int × Unit))) := fun ((v2_0, v2_1, v2_2, v2_3, _), v9, v11, v12, v35, v36, v37, v42, v43, v44, _) =>
 bif (decide (v44 < v43)) then
  if (((0 : Int) ≤ v44) ∧ (v44 < (((List.length v42) : Nat) : Int))) then
   if (((0 : Int) ≤ (List.getD v42 (Int.toNat v44) 0)) ∧ ((List.getD v42 (Int.toNat v44) 0) < (((List.length v11) : Nat) : Int))) then
    some (Sum.inl ((v2_0, v2_1, v2_2, v2_3, ()), (List.take (List.length v9) (List.drop 0 v9)), v11, (if ((List.getD v11 (Int.toNat (List.getD v42 (Int.toNat v44) 0)) 0) < v12) then (List.getD v11 (Int.toNat (List.getD v42 (Int.toNat v44) 0)) 0) else v12), (List.take (List.length v35) (List.drop 0 v35)), v36, v37, v42, v43, (IntKind.wrap .i64 (v44 + 1)), ()))
   else
    none
  else
   none
 else
  some (Sum.inr ((v2_0, v2_1, v2_2, v2_3, ()), (List.take (List.length v9) (List.drop 0 v9)), v12, (List.take (List.length v35) (List.drop 0 v35)), v36, v37, ()))
theorem loop9_12 {L} (h : L 12 = some ⟨61, sh9_12, xs9_12, impl_PrefixCosts_l12⟩) : LoopOk prog L (loopOf f9 12) := lo (L' := L0) (by kernel_rfl) E9_ok allNil h
def L9_1 : Nat → Option LoopD := fun n => ifEq n 12 (some ⟨61, sh9_12, xs9_12, impl_PrefixCosts_l12⟩) (L0 n)
def sh9_8 : List Fm := d :: d :: .box 100200 [.val i6, .val sI, .val sI, .val sS] :: D 6 (.cell (.own i6 100900 false) :: D 25 (.cell (.own sI 103500 false) :: .cell (.val i6) :: .cell (.val i6) :: D 23 []))
def xs9_8 : List (Ex × List Fm) := [(.exit 0, (D 9 (.cell (.own i6 100900 false) :: D 51 [])))]
def impl_PrefixCosts_l8 : ((Int × LI × LI × LS × Unit) × LI × (List LI) × Int × Int × Unit) → Option (((Int × LI × LI × LS × Unit) × LI × (List LI) × Int × Int × Unit) ⊕ ((LI × Unit))) := fun ((v2_0, v2_1, v2_2, v2_3, _), v9, v35, v36, v37, _) =>
 bif (decide (v37 < v36)) then
  if (((0 : Int) ≤ v37) ∧ (v37 < (((List.length v35) : Nat) : Int))) then
   Option.bind (loopF impl_PrefixCosts_l12 ((v2_0, v2_1, v2_2, v2_3, ()), (List.take (List.length v9) (List.drop 0 v9)), (List.getD v35 (0 + (Int.toNat v37)) []), 1000000, (List.take (List.length v35) (List.drop 0 v35)), v36, v37, v2_2, (((List.length v2_2) : Nat) : Int), 0, ())) fun ((r0, r1, r2, r3, _), r4, r5, r6, r7, r8, _) =>
    if (((0 + (List.length r4)) = (List.length r4)) ∧ ((((List.length r4) + (List.length (List.take 1 (List.drop 0 [r5])))) * 8) ≤ 140737488355328)) then
     some (Sum.inl ((r0, r1, r2, r3, ()), (List.take ((List.length r4) + (List.length (List.take 1 (List.drop 0 [r5])))) (List.drop 0 ((List.drop 0 r4) ++ (List.take 1 (List.drop 0 [r5]))))), (List.take (List.length r6) (List.drop 0 r6)), r7, (IntKind.wrap .i64 (r8 + 1)), ()))
    else
     none
  else
   none
 else
  some (Sum.inr ((List.take (List.length v9) (List.drop 0 v9)), ()))
theorem loop9_8 {L} (h : L 8 = some ⟨61, sh9_8, xs9_8, impl_PrefixCosts_l8⟩) : LoopOk prog L (loopOf f9 8) := lo (L' := L9_1) (by kernel_rfl) E9_ok (allCons (loop9_12 rfl) allNil) h
def L9_2 : Nat → Option LoopD := fun n => ifEq n 8 (some ⟨61, sh9_8, xs9_8, impl_PrefixCosts_l8⟩) (L9_1 n)
def impl_PrefixCosts : TA → ByteArray → Option (LI × Bool) := fun (a0_0, a0_1, a0_2, a0_3) a1 =>
 Option.bind (impl_ReverseAutomaton (a0_0, a0_1, a0_2, a0_3)) fun ((r0, r1, r2, r3), r4) =>
  bif (!r4) then
   some ([], false)
  else
   Option.bind (impl_WordValid a1) fun r5 =>
    bif (!r5) then
     some ([], false)
    else
     if ((List.length (numsOf a1)) = (List.length (numsOf a1))) then
      Option.bind (slices_Reverse (numsOf a1)) fun (_, r6, _) =>
       Option.bind (impl_toEnd (r0, (List.take (List.length r1) (List.drop 0 r1)), (List.take (List.length r2) (List.drop 0 r2)), (List.take (List.length r3) (List.drop 0 r3))) (strOfNums (List.take (List.length (numsOf a1)) (List.drop 0 r6)))) fun r7 =>
        Option.bind (loopF impl_PrefixCosts_l8 ((a0_0, a0_1, a0_2, a0_3, ()), (List.take 0 (List.drop 0 [])), (List.take (List.length r7) (List.drop 0 r7)), (((List.length r7) : Nat) : Int), 0, ())) fun (r8, _) =>
         some ((List.take (List.length r8) (List.drop 0 r8)), true)
     else
      none
def A9 : FnA := ⟨[.v kA, .v .str], true, [.sl i6, .bool], fun x => impl_PrefixCosts x.1 x.2.1⟩
theorem A9_ok : FnOk prog 9 A9 := fo (L := L9_2) (by kernel_rfl) func9 E9_ok (allCons (loop9_8 rfl) allNil)
def E30 : Env := ev fun g => ifEq g 47 (some A47) (ifEq g 5 (some A5) (none))
theorem E30_ok : FnsOk prog E30 := (oF A47_ok func47 (oF A5_ok func5 (noFns _ _)))
def sh30_7 : List Fm := d :: .cell (.val .str) :: .box 100200 [.val i6, .val sI, .val sI, .val sS] :: d :: d :: .cell (.own i6 100500 false) :: .cell (.val i6) :: .cell (.val i6) :: D 52 []
def xs30_7 : List (Ex × List Fm) := [(.exit 2, [d, .cell (.val .str), .box 100200 [.val i6, .val sI, .val sI, .val sS], d, d, .cell (.own i6 100500 false), .cell (.val i6), d, d, d, d, d, d, d, d, d, d, d, d, d, d, d, d, d, d, d, d, d, d, d, d, d, d, d, d, d, d, d, d, d, d, d, d, d, d, d, d, d, d, d, d, d, d, d, d, d, d, d, d, d])]
def impl_factors_l7 : (ByteArray × (Int × LI × LI × LS × Unit) × LI × Int × Int × Unit) → Option ((ByteArray × (Int × LI × LI × LS × Unit) × LI × Int × Int × Unit) ⊕ ((ByteArray × (Int × LI × LI × LS × Unit) × LI × Int × Unit))) := fun (v1, (v2_0, v2_1, v2_2, v2_3, _), v5, v6, v7, _) =>
 bif (decide (v7 ≤ (((ByteArray.size v1) : Nat) : Int))) then
  if (((0 : Int) ≤ v7) ∧ (v7 < (((List.length v5) : Nat) : Int))) then
   bif (decide ((List.getD v5 (0 + (Int.toNat v7)) 0) < 1000000)) then
    if (((0 : Int) ≤ v6) ∧ ((v6 ≤ v7) ∧ (v7 ≤ (((ByteArray.size v1) : Nat) : Int)))) then
     Option.bind (impl_CostOf (v2_0, v2_1, v2_2, v2_3) (ByteArray.extract v1 (Int.toNat v6) (Int.toNat v7))) fun r0 =>
      bif (decide (r0 < 1000000)) then
       if (((0 : Int) ≤ v6) ∧ (v6 < (((List.length v5) : Nat) : Int))) then
        if (((0 : Int) ≤ v7) ∧ (v7 < (((List.length v5) : Nat) : Int))) then
         if (((0 : Int) ≤ v6) ∧ (v6 < (((List.length v5) : Nat) : Int))) then
          some (Sum.inl (v1, (v2_0, v2_1, v2_2, v2_3, ()), (List.take (List.length v5) (List.drop 0 (List.set v5 (0 + (Int.toNat v6)) (if ((IntKind.wrap .i64 ((List.getD v5 (0 + (Int.toNat v7)) 0) + 1)) < (List.getD v5 (0 + (Int.toNat v6)) 0)) then (IntKind.wrap .i64 ((List.getD v5 (0 + (Int.toNat v7)) 0) + 1)) else (List.getD v5 (0 + (Int.toNat v6)) 0))))), v6, (IntKind.wrap .i64 (v7 + 1)), ()))
         else
          none
        else
         none
       else
        none
      else
       some (Sum.inl (v1, (v2_0, v2_1, v2_2, v2_3, ()), (List.take (List.length v5) (List.drop 0 v5)), v6, (IntKind.wrap .i64 (v7 + 1)), ()))
    else
     none
   else
    some (Sum.inl (v1, (v2_0, v2_1, v2_2, v2_3, ()), (List.take (List.length v5) (List.drop 0 v5)), v6, (IntKind.wrap .i64 (v7 + 1)), ()))
  else
   none
 else
  some (Sum.inr (v1, (v2_0, v2_1, v2_2, v2_3, ()), (List.take (List.length v5) (List.drop 0 v5)), v6, ()))
theorem loop30_7 {L} (h : L 7 = some ⟨60, sh30_7, xs30_7, impl_factors_l7⟩) : LoopOk prog L (loopOf f30 7) := lo (L' := L0) (by kernel_rfl) E30_ok allNil h
def L30_1 : Nat → Option LoopD := fun n => ifEq n 7 (some ⟨60, sh30_7, xs30_7, impl_factors_l7⟩) (L0 n)
def sh30_4 : List Fm := d :: .cell (.val .str) :: .box 100200 [.val i6, .val sI, .val sI, .val sS] :: d :: d :: .cell (.own i6 100500 false) :: .cell (.val i6) :: D 53 []
def xs30_4 : List (Ex × List Fm) := [(.exit 0, (D 5 (.cell (.own i6 100500 false) :: D 54 [])))]
def impl_factors_l4 : (ByteArray × (Int × LI × LI × LS × Unit) × LI × Int × Unit) → Option ((ByteArray × (Int × LI × LI × LS × Unit) × LI × Int × Unit) ⊕ ((LI × Unit))) := fun (v1, (v2_0, v2_1, v2_2, v2_3, _), v5, v6, _) =>
 bif (decide (v6 ≥ 0)) then
  Option.bind (loopF impl_factors_l7 (v1, (v2_0, v2_1, v2_2, v2_3, ()), (List.take (List.length v5) (List.drop 0 v5)), v6, (IntKind.wrap .i64 (v6 + 1)), ())) fun (r0, (r1, r2, r3, r4, _), r5, r6, _) =>
   some (Sum.inl (r0, (r1, r2, r3, r4, ()), (List.take (List.length r5) (List.drop 0 r5)), (IntKind.wrap .i64 (r6 - 1)), ()))
 else
  some (Sum.inr ((List.take (List.length v5) (List.drop 0 v5)), ()))
theorem loop30_4 {L} (h : L 4 = some ⟨60, sh30_4, xs30_4, impl_factors_l4⟩) : LoopOk prog L (loopOf f30 4) := lo (L' := L30_1) (by kernel_rfl) E30_ok (allCons (loop30_7 rfl) allNil) h
def L30_2 : Nat → Option LoopD := fun n => ifEq n 4 (some ⟨60, sh30_4, xs30_4, impl_factors_l4⟩) (L30_1 n)
def impl_factors : TA → ByteArray → Option (LI) := fun (a0_0, a0_1, a0_2, a0_3) a1 =>
 Option.bind (slices_Repeat (List.take 1 (List.drop 0 [(1000000 : Int)])) (IntKind.wrap .i64 ((((ByteArray.size a1) : Nat) : Int) + 1))) fun r0 =>
  if (((0 : Int) ≤ (((ByteArray.size a1) : Nat) : Int)) ∧ ((((ByteArray.size a1) : Nat) : Int) < (((List.length r0) : Nat) : Int))) then
   Option.bind (loopF impl_factors_l4 (a1, (a0_0, a0_1, a0_2, a0_3, ()), (List.take (List.length r0) (List.drop 0 (List.set r0 (0 + (Int.toNat (((ByteArray.size a1) : Nat) : Int))) 0))), (IntKind.wrap .i64 ((((ByteArray.size a1) : Nat) : Int) - 1)), ())) fun (r1, _) =>
    some (List.take (List.length r1) (List.drop 0 r1))
  else
   none
def A30 : FnA := ⟨[.v kA, .v .str], true, [.sl i6], fun x => impl_factors x.1 x.2.1⟩
theorem A30_ok : FnOk prog 30 A30 := fo (L := L30_2) (by kernel_rfl) func30 E30_ok (allCons (loop30_4 rfl) allNil)
def E10 : Env := ev fun g => ifEq g 20 (some A20) (ifEq g 21 (some A21) (ifEq g 30 (some A30) (none)))
theorem E10_ok : FnsOk prog E10 := (oF A20_ok func20 (oF A21_ok func21 (oF A30_ok func30 (noFns _ _))))
def impl_FactorsOf : TA → ByteArray → Option (Int) := fun (a0_0, a0_1, a0_2, a0_3) a1 =>
 Option.bind (impl_AutomatonValid (a0_0, a0_1, a0_2, a0_3)) fun r0 =>
  bif (!r0) then
   some (-1)
  else
   Option.bind (impl_WordValid a1) fun r1 =>
    bif (!r1) then
     some (-1)
    else
     bif (decide ((((ByteArray.size a1) : Nat) : Int) > 40)) then
      some (-1)
     else
      Option.bind (impl_factors (a0_0, a0_1, a0_2, a0_3) a1) fun r2 =>
       if (((0 : Int) ≤ 0) ∧ ((0 : Int) < (((List.length r2) : Nat) : Int))) then
        some (List.getD r2 (0 + (Int.toNat 0)) 0)
       else
        none
def A10 : FnA := ⟨[.v kA, .v .str], true, [.int .i64], fun x => impl_FactorsOf x.1 x.2.1⟩
theorem A10_ok : FnOk prog 10 A10 := fo (L := L0) (by kernel_rfl) func10 E10_ok allNil
def E33 : Env := ev fun g => ifEq g 31 (some A31) (ifEq g 32 (some A32) (none))
theorem E33_ok : FnsOk prog E33 := (oF A31_ok func31 (oF A32_ok func32 (noFns _ _)))
def sh33_3 : List Fm := d :: d :: d :: .cell (.own .str 100300 false) :: d :: d :: d :: .cell (.val sI) :: .cell (.val i6) :: .cell (.val i6) :: D 11 []
def xs33_3 : List (Ex × List Fm) := [(.exit 0, (d :: d :: d :: .cell (.own .str 100300 false) :: D 17 []))]
def impl_numbers_l3 : ((List ByteArray) × LI × Int × Int × Unit) → Option (((List ByteArray) × LI × Int × Int × Unit) ⊕ (((List ByteArray) × Unit))) := fun (v3, v7, v8, v9, _) =>
 bif (decide (v9 < v8)) then
  if (((0 : Int) ≤ v9) ∧ (v9 < (((List.length v7) : Nat) : Int))) then
   Option.bind (strconv_Itoa (List.getD v7 (Int.toNat v9) 0)) fun r0 =>
    if (((0 + (List.length v3)) = (List.length v3)) ∧ ((((List.length v3) + (List.length (List.take 1 (List.drop 0 [r0])))) * 16) ≤ 140737488355328)) then
     some (Sum.inl ((List.take ((List.length v3) + (List.length (List.take 1 (List.drop 0 [r0])))) (List.drop 0 ((List.drop 0 v3) ++ (List.take 1 (List.drop 0 [r0]))))), v7, v8, (IntKind.wrap .i64 (v9 + 1)), ()))
    else
     none
  else
   none
 else
  some (Sum.inr ((List.take (List.length v3) (List.drop 0 v3)), ()))
theorem loop33_3 {L} (h : L 3 = some ⟨21, sh33_3, xs33_3, impl_numbers_l3⟩) : LoopOk prog L (loopOf f33 3) := lo (L' := L0) (by kernel_rfl) E33_ok allNil h
def L33_1 : Nat → Option LoopD := fun n => ifEq n 3 (some ⟨21, sh33_3, xs33_3, impl_numbers_l3⟩) (L0 n)
def impl_numbers : LI → Option (ByteArray) := fun a0 =>
 Option.bind (loopF impl_numbers_l3 ((List.take 0 (List.drop 0 [])), a0, (((List.length a0) : Nat) : Int), 0, ())) fun (r0, _) =>
  Option.bind (strings_Join (List.take (List.length r0) (List.drop 0 r0)) (⟨#[(32 : UInt8)]⟩ : ByteArray)) fun r1 =>
   some r1
def A33 : FnA := ⟨[.v sI], true, [.str], fun x => impl_numbers x.1⟩
theorem A33_ok : FnOk prog 33 A33 := fo (L := L33_1) (by kernel_rfl) func33 E33_ok (allCons (loop33_3 rfl) allNil)
def E11 : Env := ev fun g => ifEq g 20 (some A20) (ifEq g 31 (some A31) (ifEq g 33 (some A33) (ifEq g 32 (some A32) (none))))
theorem E11_ok : FnsOk prog E11 := (oF A20_ok func20 (oF A31_ok func31 (oF A33_ok func33 (oF A32_ok func32 (noFns _ _)))))
def sh11_5 : List Fm := d :: .box 100100 [.val i6, .val sI, .val sI, .val sS] :: d :: .cell (.own .str 100300 false) :: D 7 (.cell (.val sS) :: .cell (.val i6) :: .cell (.val i6) :: D 35 [])
def xs11_5 : List (Ex × List Fm) := [(.exit 0, [d, .box 100100 [.val i6, .val sI, .val sI, .val sS], d, .cell (.own .str 100300 false), d, d, d, d, d, d, d, d, d, d, d, d, d, d, d, d, d, d, d, d, d, d, d, d, d, d, d, d, d, d, d, d, d, d, d, d, d, d, d, d, d, d, d, d, d])]
def impl_FormatAutomaton_l5 : ((Int × LI × LI × LS × Unit) × (List ByteArray) × LS × Int × Int × Unit) → Option (((Int × LI × LI × LS × Unit) × (List ByteArray) × LS × Int × Int × Unit) ⊕ (((Int × LI × LI × LS × Unit) × (List ByteArray) × Unit))) := fun ((v1_0, v1_1, v1_2, v1_3, _), v3, v11, v12, v13, _) =>
 bif (decide (v13 < v12)) then
  if (((0 : Int) ≤ v13) ∧ (v13 < (((List.length v11) : Nat) : Int))) then
   Option.bind (strconv_Itoa (List.getD v11 (Int.toNat v13) ((0 : Int), ⟨Array.empty⟩, 0, 0)).1) fun r0 =>
    if (((ByteArray.size r0) + (ByteArray.size (List.getD v11 (Int.toNat v13) ((0 : Int), ⟨Array.empty⟩, 0, 0)).2.1)) ≤ 9223372036854775807) then
     Option.bind (strconv_Itoa (List.getD v11 (Int.toNat v13) ((0 : Int), ⟨Array.empty⟩, 0, 0)).2.2.1) fun r1 =>
      if (((ByteArray.size (r0 ++ (List.getD v11 (Int.toNat v13) ((0 : Int), ⟨Array.empty⟩, 0, 0)).2.1)) + (ByteArray.size r1)) ≤ 9223372036854775807) then
       if (((ByteArray.size ((r0 ++ (List.getD v11 (Int.toNat v13) ((0 : Int), ⟨Array.empty⟩, 0, 0)).2.1) ++ r1)) + (ByteArray.size (⟨#[(58 : UInt8)]⟩ : ByteArray))) ≤ 9223372036854775807) then
        Option.bind (strconv_Itoa (List.getD v11 (Int.toNat v13) ((0 : Int), ⟨Array.empty⟩, 0, 0)).2.2.2) fun r2 =>
         if (((ByteArray.size (((r0 ++ (List.getD v11 (Int.toNat v13) ((0 : Int), ⟨Array.empty⟩, 0, 0)).2.1) ++ r1) ++ (⟨#[(58 : UInt8)]⟩ : ByteArray))) + (ByteArray.size r2)) ≤ 9223372036854775807) then
          if (((0 + (List.length v3)) = (List.length v3)) ∧ ((((List.length v3) + (List.length (List.take 1 (List.drop 0 [((((r0 ++ (List.getD v11 (Int.toNat v13) ((0 : Int), (⟨Array.empty⟩ : ByteArray), (0 : Int), (0 : Int))).2.1) ++ r1) ++ (⟨#[(58 : UInt8)]⟩ : ByteArray)) ++ r2)])))) * 16) ≤ 140737488355328)) then
           some (Sum.inl ((v1_0, v1_1, v1_2, v1_3, ()), (List.take ((List.length v3) + (List.length (List.take 1 (List.drop 0 [((((r0 ++ (List.getD v11 (Int.toNat v13) ((0 : Int), (⟨Array.empty⟩ : ByteArray), (0 : Int), (0 : Int))).2.1) ++ r1) ++ (⟨#[(58 : UInt8)]⟩ : ByteArray)) ++ r2)])))) (List.drop 0 ((List.drop 0 v3) ++ (List.take 1 (List.drop 0 [((((r0 ++ (List.getD v11 (Int.toNat v13) ((0 : Int), (⟨Array.empty⟩ : ByteArray), (0 : Int), (0 : Int))).2.1) ++ r1) ++ (⟨#[(58 : UInt8)]⟩ : ByteArray)) ++ r2)]))))), v11, v12, (IntKind.wrap .i64 (v13 + 1)), ()))
          else
           none
         else
          none
       else
        none
      else
       none
    else
     none
  else
   none
 else
  some (Sum.inr ((v1_0, v1_1, v1_2, v1_3, ()), (List.take (List.length v3) (List.drop 0 v3)), ()))
theorem loop11_5 {L} (h : L 5 = some ⟨49, sh11_5, xs11_5, impl_FormatAutomaton_l5⟩) : LoopOk prog L (loopOf f11 5) := lo (L' := L0) (by kernel_rfl) E11_ok allNil h
def L11_1 : Nat → Option LoopD := fun n => ifEq n 5 (some ⟨49, sh11_5, xs11_5, impl_FormatAutomaton_l5⟩) (L0 n)
def impl_FormatAutomaton : TA → Option (ByteArray) := fun (a0_0, a0_1, a0_2, a0_3) =>
 Option.bind (impl_AutomatonValid (a0_0, a0_1, a0_2, a0_3)) fun r0 =>
  bif (!r0) then
   some (⟨#[]⟩ : ByteArray)
  else
   Option.bind (loopF impl_FormatAutomaton_l5 ((a0_0, a0_1, a0_2, a0_3, ()), (List.take 0 (List.drop 0 [])), a0_3, (((List.length a0_3) : Nat) : Int), 0, ())) fun ((r1, r2, r3, r4, _), r5, _) =>
    Option.bind (strconv_Itoa r1) fun r6 =>
     Option.bind (impl_numbers r2) fun r7 =>
      Option.bind (impl_numbers r3) fun r8 =>
       Option.bind (strings_Join (List.take (List.length r5) (List.drop 0 r5)) (⟨#[(32 : UInt8)]⟩ : ByteArray)) fun r9 =>
        Option.bind (strings_Join (List.take 4 (List.drop 0 [r6, r7, r8, r9])) (⟨#[(59 : UInt8)]⟩ : ByteArray)) fun r10 =>
         some r10
def A11 : FnA := ⟨[.v kA], true, [.str], fun x => impl_FormatAutomaton x.1⟩
theorem A11_ok : FnOk prog 11 A11 := fo (L := L11_1) (by kernel_rfl) func11 E11_ok (allCons (loop11_5 rfl) allNil)
def E12 : Env := ev fun g => ifEq g 34 (some A34) (ifEq g 31 (some A31) (none))
theorem E12_ok : FnsOk prog E12 := (oF A34_ok func34 (oF A31_ok func31 (noFns _ _)))
def impl_FormatCost : Int → Option (ByteArray) := fun a0 =>
 Option.bind (impl_CostValid a0) fun r0 =>
  bif (!r0) then
   some (⟨#[]⟩ : ByteArray)
  else
   bif (a0 == 1000000) then
    some (⟨#[(45 : UInt8)]⟩ : ByteArray)
   else
    Option.bind (strconv_Itoa a0) fun r1 =>
     some r1
def A12 : FnA := ⟨[.v i6], true, [.str], fun x => impl_FormatCost x.1⟩
theorem A12_ok : FnOk prog 12 A12 := fo (L := L0) (by kernel_rfl) func12 E12_ok allNil
def E14 : Env := ev fun g => ifEq g 33 (some A33) (none)
theorem E14_ok : FnsOk prog E14 := (oF A33_ok func33 (noFns _ _))
def impl_FormatNumbers : LI → Option (ByteArray) := fun a0 =>
 bif ((((List.length a0) : Nat) : Int) == 0) then
  some (⟨#[(45 : UInt8)]⟩ : ByteArray)
 else
  Option.bind (impl_numbers a0) fun r0 =>
   some r0
def A14 : FnA := ⟨[.v sI], true, [.str], fun x => impl_FormatNumbers x.1⟩
theorem A14_ok : FnOk prog 14 A14 := fo (L := L0) (by kernel_rfl) func14 E14_ok allNil
def laws_daLine : ByteArray → Bool → Option (ByteArray) := fun a0 a1 =>
 bif (!a1) then
  some (⟨#[(110 : UInt8), (111 : UInt8), (10 : UInt8)]⟩ : ByteArray)
 else
  if (((ByteArray.size a0) + (ByteArray.size (⟨#[(10 : UInt8)]⟩ : ByteArray))) ≤ 9223372036854775807) then
   some (a0 ++ (⟨#[(10 : UInt8)]⟩ : ByteArray))
  else
   none
def A13 : FnA := ⟨[.v .str, .v .bool], true, [.str], fun x => laws_daLine x.1 x.2.1⟩
theorem A13_ok : FnOk prog 13 A13 := fo (L := L0) (by kernel_rfl) func13 E0_ok allNil
def E36 : Env := ev fun g => ifEq g 32 (some A32) (none)
theorem E36_ok : FnsOk prog E36 := (oF A32_ok func32 (noFns _ _))
def sh36_3 : List Fm := d :: .clo [.sl i6] .str :: .box 100200 [.val i6, .val sI] :: d :: d :: .cell (.own .str 100500 false) :: d :: d :: d :: .cell (.val i6) :: .cell (.val i6) :: D 22 []
def xs36_3 : List (Ex × List Fm) := [(.exit 0, (D 5 (.cell (.own .str 100500 false) :: D 27 [])))]
def impl_rows_l3 : (((LI × Unit) → Option (ByteArray)) × (Int × LI × Unit) × (List ByteArray) × Int × Int × Unit) → Option ((((LI × Unit) → Option (ByteArray)) × (Int × LI × Unit) × (List ByteArray) × Int × Int × Unit) ⊕ (((List ByteArray) × Unit))) := fun (v1, (v2_0, v2_1, _), v5, v9, v10, _) =>
 bif (decide (v10 < v9)) then
  if (((0 : Int) ≤ (IntKind.wrap .i64 (v10 * v2_0))) ∧ (((IntKind.wrap .i64 (v10 * v2_0)) ≤ (IntKind.wrap .i64 ((IntKind.wrap .i64 (v10 + 1)) * v2_0))) ∧ ((IntKind.wrap .i64 ((IntKind.wrap .i64 (v10 + 1)) * v2_0)) ≤ (((List.length v2_1) : Nat) : Int)))) then
   Option.bind (v1 ((List.take ((Int.toNat (IntKind.wrap .i64 ((IntKind.wrap .i64 (v10 + 1)) * v2_0))) - (Int.toNat (IntKind.wrap .i64 (v10 * v2_0)))) (List.drop (Int.toNat (IntKind.wrap .i64 (v10 * v2_0))) v2_1)), ())) fun r0 =>
    if (((0 + (List.length v5)) = (List.length v5)) ∧ ((((List.length v5) + (List.length (List.take 1 (List.drop 0 [r0])))) * 16) ≤ 140737488355328)) then
     some (Sum.inl (v1, (v2_0, v2_1, ()), (List.take ((List.length v5) + (List.length (List.take 1 (List.drop 0 [r0])))) (List.drop 0 ((List.drop 0 v5) ++ (List.take 1 (List.drop 0 [r0]))))), v9, (IntKind.wrap .i64 (v10 + 1)), ()))
    else
     none
  else
   none
 else
  some (Sum.inr ((List.take (List.length v5) (List.drop 0 v5)), ()))
theorem loop36_3 {L} (h : L 3 = some ⟨33, sh36_3, xs36_3, impl_rows_l3⟩) : LoopOk prog L (loopOf f36 3) := lo (L' := L0) (by kernel_rfl) E36_ok allNil h
def L36_1 : Nat → Option LoopD := fun n => ifEq n 3 (some ⟨33, sh36_3, xs36_3, impl_rows_l3⟩) (L0 n)
def impl_rows : TM → ((LI × Unit) → Option (ByteArray)) → Option (ByteArray) := fun (a0_0, a0_1) a1 =>
 Option.bind (loopF impl_rows_l3 (a1, (a0_0, a0_1, ()), (List.take 0 (List.drop 0 [])), a0_0, 0, ())) fun (r0, _) =>
  Option.bind (strings_Join (List.take (List.length r0) (List.drop 0 r0)) (⟨#[(47 : UInt8)]⟩ : ByteArray)) fun r1 =>
   some r1
def A36 : FnA := ⟨[.v kM, .clo [.sl i6] .str], true, [.str], fun x => impl_rows x.1 x.2.1⟩
theorem A36_ok : FnOk prog 36 A36 := fo (L := L36_1) (by kernel_rfl) func36 E36_ok (allCons (loop36_3 rfl) allNil)
def E16 : Env := ev fun g => ifEq g 34 (some A34) (ifEq g 12 (some A12) (ifEq g 32 (some A32) (none)))
theorem E16_ok : FnsOk prog E16 := (oF A34_ok func34 (oF A12_ok func12 (oF A32_ok func32 (noFns _ _))))
def sh16_3 : List Fm := d :: d :: d :: .cell (.own .str 100300 false) :: d :: d :: d :: .cell (.val sI) :: .cell (.val i6) :: .cell (.val i6) :: D 14 []
def xs16_3 : List (Ex × List Fm) := [(.ret, (d :: d :: .cell (.val .str) :: D 21 [])), (.exit 0, (d :: d :: d :: .cell (.own .str 100300 false) :: D 20 []))]
def impl_FormatCosts_l3 : ((List ByteArray) × LI × Int × Int × Unit) → Option (((List ByteArray) × LI × Int × Int × Unit) ⊕ ((ByteArray × Unit) ⊕ ((List ByteArray) × Unit))) := fun (v3, v7, v8, v9, _) =>
 bif (decide (v9 < v8)) then
  if (((0 : Int) ≤ v9) ∧ (v9 < (((List.length v7) : Nat) : Int))) then
   Option.bind (impl_CostValid (List.getD v7 (Int.toNat v9) 0)) fun r0 =>
    bif (!r0) then
     some (Sum.inr (Sum.inl ((⟨#[]⟩ : ByteArray), ())))
    else
     Option.bind (impl_FormatCost (List.getD v7 (Int.toNat v9) 0)) fun r1 =>
      if (((0 + (List.length v3)) = (List.length v3)) ∧ ((((List.length v3) + (List.length (List.take 1 (List.drop 0 [r1])))) * 16) ≤ 140737488355328)) then
       some (Sum.inl ((List.take ((List.length v3) + (List.length (List.take 1 (List.drop 0 [r1])))) (List.drop 0 ((List.drop 0 v3) ++ (List.take 1 (List.drop 0 [r1]))))), v7, v8, (IntKind.wrap .i64 (v9 + 1)), ()))
      else
       none
  else
   none
 else
  some (Sum.inr (Sum.inr ((List.take (List.length v3) (List.drop 0 v3)), ())))
theorem loop16_3 {L} (h : L 3 = some ⟨24, sh16_3, xs16_3, impl_FormatCosts_l3⟩) : LoopOk prog L (loopOf f16 3) := lo (L' := L0) (by kernel_rfl) E16_ok allNil h
def L16_1 : Nat → Option LoopD := fun n => ifEq n 3 (some ⟨24, sh16_3, xs16_3, impl_FormatCosts_l3⟩) (L0 n)
def impl_FormatCosts : LI → Option (ByteArray) := fun a0 =>
 Option.bind (loopF impl_FormatCosts_l3 ((List.take 0 (List.drop 0 [])), a0, (((List.length a0) : Nat) : Int), 0, ())) fun r0 =>
  (match r0 with
  | .inl (d1, _) =>
    some d1
  | .inr (d2, _) =>
    Option.bind (strings_Join (List.take (List.length d2) (List.drop 0 d2)) (⟨#[(32 : UInt8)]⟩ : ByteArray)) fun r3 =>
     some r3)
def A16 : FnA := ⟨[.v sI], true, [.str], fun x => impl_FormatCosts x.1⟩
theorem A16_ok : FnOk prog 16 A16 := fo (L := L16_1) (by kernel_rfl) func16 E16_ok (allCons (loop16_3 rfl) allNil)
def E15 : Env := ev fun g => ifEq g 35 (some A35) (ifEq g 36 (some A36) (ifEq g 16 (some A16) (none)))
theorem E15_ok : FnsOk prog E15 := (oF A35_ok func35 (oF A36_ok func36 (oF A16_ok func16 (noFns _ _))))
def impl_FormatMatrix : TM → Option (ByteArray) := fun (a0_0, a0_1) =>
 Option.bind (impl_MatrixValid (a0_0, a0_1)) fun r0 =>
  bif (!r0) then
   some (⟨#[]⟩ : ByteArray)
  else
   Option.bind (impl_rows (a0_0, a0_1) (fun y1 => (impl_FormatCosts y1.1))) fun r2 =>
    some r2
def A15 : FnA := ⟨[.v kM], true, [.str], fun x => impl_FormatMatrix x.1⟩
theorem A15_ok : FnOk prog 15 A15 := fo (L := L0) (by kernel_rfl) func15 E15_ok allNil
def E37 : Env := ev fun g => ifEq g 38 (some A38) (ifEq g 68 (some A68) (ifEq g 69 (some A69) (ifEq g 11 (some A11) (none))))
theorem E37_ok : FnsOk prog E37 := (oF A38_ok func38 (oF A68_ok func68 (oF A69_ok func69 (oF A11_ok func11 (noFns _ _)))))
def sh37_7 : List Fm := .cell (.val .str) :: d :: .box 100200 [.val i6, .own i6 100202 false, .own i6 100203 false, .own kS 100204 false] :: d :: .cell (.own .str 100400 false) :: .box 100500 [.val i6, .own i6 100502 false, .own i6 100503 false, .own kS 100504 false] :: D 27 (.cell (.own .str 103300 false) :: .cell (.val i6) :: .cell (.val i6) :: D 80 [])
def xs37_7 : List (Ex × List Fm) := [(.exit 0, [.cell (.val .str), d, .box 100200 [.val i6, .own i6 100202 false, .own i6 100203 false, .own kS 100204 false], d, .cell (.own .str 100400 false), .box 100500 [.val i6, .own i6 100502 false, .own i6 100503 false, .own kS 100504 false], d, d, d, d, d, d, d, d, d, d, d, d, d, d, d, d, d, d, d, d, d, d, d, d, d, d, d, d, d, d, d, d, d, d, d, d, d, d, d, d, d, d, d, d, d, d, d, d, d, d, d, d, d, d, d, d, d, d, d, d, d, d, d, d, d, d, d, d, d, d, d, d, d, d, d, d, d, d, d, d, d, d, d, d, d, d, d, d, d, d, d, d, d, d, d, d, d, d, d, d, d, d, d, d, d, d, d, d, d, d])]
def impl_ParseAutomaton_l7 : (ByteArray × (Int × LI × LI × LS × Unit) × (List ByteArray) × (Int × LI × LI × LS × Unit) × (List ByteArray) × Int × Int × Unit) → Option ((ByteArray × (Int × LI × LI × LS × Unit) × (List ByteArray) × (Int × LI × LI × LS × Unit) × (List ByteArray) × Int × Int × Unit) ⊕ ((ByteArray × (Int × LI × LI × LS × Unit) × (List ByteArray) × (Int × LI × LI × LS × Unit) × Unit))) := fun (v0, (v2_0, v2_1, v2_2, v2_3, _), v4, (v5_0, v5_1, v5_2, v5_3, _), v33, v34, v35, _) =>
 bif (decide (v35 < v34)) then
  if (((0 : Int) ≤ v35) ∧ (v35 < (((List.length v33) : Nat) : Int))) then
   Option.bind (strconv_Atoi (List.getD v33 (0 + (Int.toNat v35)) ⟨Array.empty⟩)) fun (r0, r1) =>
    if (((0 + (List.length v5_1)) = (List.length v5_1)) ∧ ((((List.length v5_1) + (List.length (List.take 1 (List.drop 0 [r0])))) * 8) ≤ 140737488355328)) then
     some (Sum.inl (v0, (v2_0, (List.take (List.length v2_1) (List.drop 0 v2_1)), (List.take (List.length v2_2) (List.drop 0 v2_2)), (List.take (List.length v2_3) (List.drop 0 v2_3)), ()), (List.take (List.length v4) (List.drop 0 v4)), (v5_0, (List.take ((List.length v5_1) + (List.length (List.take 1 (List.drop 0 [r0])))) (List.drop 0 ((List.drop 0 v5_1) ++ (List.take 1 (List.drop 0 [r0]))))), (List.take (List.length v5_2) (List.drop 0 v5_2)), (List.take (List.length v5_3) (List.drop 0 v5_3)), ()), (List.take (List.length v33) (List.drop 0 v33)), v34, (IntKind.wrap .i64 (v35 + 1)), ()))
    else
     none
  else
   none
 else
  some (Sum.inr (v0, (v2_0, (List.take (List.length v2_1) (List.drop 0 v2_1)), (List.take (List.length v2_2) (List.drop 0 v2_2)), (List.take (List.length v2_3) (List.drop 0 v2_3)), ()), (List.take (List.length v4) (List.drop 0 v4)), (v5_0, (List.take (List.length v5_1) (List.drop 0 v5_1)), (List.take (List.length v5_2) (List.drop 0 v5_2)), (List.take (List.length v5_3) (List.drop 0 v5_3)), ()), ()))
theorem loop37_7 {L} (h : L 7 = some ⟨116, sh37_7, xs37_7, impl_ParseAutomaton_l7⟩) : LoopOk prog L (loopOf f37 7) := lo (L' := L0) (by kernel_rfl) E37_ok allNil h
def L37_1 : Nat → Option LoopD := fun n => ifEq n 7 (some ⟨116, sh37_7, xs37_7, impl_ParseAutomaton_l7⟩) (L0 n)
def sh37_13 : List Fm := .cell (.val .str) :: d :: .box 100200 [.val i6, .own i6 100202 false, .own i6 100203 false, .own kS 100204 false] :: d :: .cell (.own .str 100400 false) :: .box 100500 [.val i6, .own i6 100502 false, .own i6 100503 false, .own kS 100504 false] :: D 48 (.cell (.own .str 105400 false) :: .cell (.val i6) :: .cell (.val i6) :: D 59 [])
def xs37_13 : List (Ex × List Fm) := [(.exit 2, [.cell (.val .str), d, .box 100200 [.val i6, .own i6 100202 false, .own i6 100203 false, .own kS 100204 false], d, .cell (.own .str 100400 false), .box 100500 [.val i6, .own i6 100502 false, .own i6 100503 false, .own kS 100504 false], d, d, d, d, d, d, d, d, d, d, d, d, d, d, d, d, d, d, d, d, d, d, d, d, d, d, d, d, d, d, d, d, d, d, d, d, d, d, d, d, d, d, d, d, d, d, d, d, d, d, d, d, d, d, d, d, d, d, d, d, d, d, d, d, d, d, d, d, d, d, d, d, d, d, d, d, d, d, d, d, d, d, d, d, d, d, d, d, d, d, d, d, d, d, d, d, d, d, d, d, d, d, d, d, d, d, d, d, d, d])]
def impl_ParseAutomaton_l13 : (ByteArray × (Int × LI × LI × LS × Unit) × (List ByteArray) × (Int × LI × LI × LS × Unit) × (List ByteArray) × Int × Int × Unit) → Option ((ByteArray × (Int × LI × LI × LS × Unit) × (List ByteArray) × (Int × LI × LI × LS × Unit) × (List ByteArray) × Int × Int × Unit) ⊕ ((ByteArray × (Int × LI × LI × LS × Unit) × (List ByteArray) × (Int × LI × LI × LS × Unit) × Unit))) := fun (v0, (v2_0, v2_1, v2_2, v2_3, _), v4, (v5_0, v5_1, v5_2, v5_3, _), v54, v55, v56, _) =>
 bif (decide (v56 < v55)) then
  if (((0 : Int) ≤ v56) ∧ (v56 < (((List.length v54) : Nat) : Int))) then
   Option.bind (strconv_Atoi (List.getD v54 (0 + (Int.toNat v56)) ⟨Array.empty⟩)) fun (r0, r1) =>
    if (((0 + (List.length v5_2)) = (List.length v5_2)) ∧ ((((List.length v5_2) + (List.length (List.take 1 (List.drop 0 [r0])))) * 8) ≤ 140737488355328)) then
     some (Sum.inl (v0, (v2_0, (List.take (List.length v2_1) (List.drop 0 v2_1)), (List.take (List.length v2_2) (List.drop 0 v2_2)), (List.take (List.length v2_3) (List.drop 0 v2_3)), ()), (List.take (List.length v4) (List.drop 0 v4)), (v5_0, (List.take (List.length v5_1) (List.drop 0 v5_1)), (List.take ((List.length v5_2) + (List.length (List.take 1 (List.drop 0 [r0])))) (List.drop 0 ((List.drop 0 v5_2) ++ (List.take 1 (List.drop 0 [r0]))))), (List.take (List.length v5_3) (List.drop 0 v5_3)), ()), (List.take (List.length v54) (List.drop 0 v54)), v55, (IntKind.wrap .i64 (v56 + 1)), ()))
    else
     none
  else
   none
 else
  some (Sum.inr (v0, (v2_0, (List.take (List.length v2_1) (List.drop 0 v2_1)), (List.take (List.length v2_2) (List.drop 0 v2_2)), (List.take (List.length v2_3) (List.drop 0 v2_3)), ()), (List.take (List.length v4) (List.drop 0 v4)), (v5_0, (List.take (List.length v5_1) (List.drop 0 v5_1)), (List.take (List.length v5_2) (List.drop 0 v5_2)), (List.take (List.length v5_3) (List.drop 0 v5_3)), ()), ()))
theorem loop37_13 {L} (h : L 13 = some ⟨116, sh37_13, xs37_13, impl_ParseAutomaton_l13⟩) : LoopOk prog L (loopOf f37 13) := lo (L' := L37_1) (by kernel_rfl) E37_ok allNil h
def L37_2 : Nat → Option LoopD := fun n => ifEq n 13 (some ⟨116, sh37_13, xs37_13, impl_ParseAutomaton_l13⟩) (L37_1 n)
def sh37_19 : List Fm := .cell (.val .str) :: d :: .box 100200 [.val i6, .own i6 100202 false, .own i6 100203 false, .own kS 100204 false] :: d :: d :: .box 100500 [.val i6, .own i6 100502 false, .own i6 100503 false, .own kS 100504 false] :: D 69 (.cell (.own .str 107500 false) :: .cell (.val i6) :: .cell (.val i6) :: D 38 [])
def xs37_19 : List (Ex × List Fm) := [(.ret, [d, d, .box 100200 [.val i6, .own i6 100202 false, .own i6 100203 false, .own kS 100204 false], .cell (.val .bool), d, d, d, d, d, d, d, d, d, d, d, d, d, d, d, d, d, d, d, d, d, d, d, d, d, d, d, d, d, d, d, d, d, d, d, d, d, d, d, d, d, d, d, d, d, d, d, d, d, d, d, d, d, d, d, d, d, d, d, d, d, d, d, d, d, d, d, d, d, d, d, d, d, d, d, d, d, d, d, d, d, d, d, d, d, d, d, d, d, d, d, d, d, d, d, d, d, d, d, d, d, d, d, d, d, d, d, d, d, d, d, d]), (.exit 4, [.cell (.val .str), d, .box 100200 [.val i6, .own i6 100202 false, .own i6 100203 false, .own kS 100204 false], d, d, .box 100500 [.val i6, .own i6 100502 false, .own i6 100503 false, .own kS 100504 false], d, d, d, d, d, d, d, d, d, d, d, d, d, d, d, d, d, d, d, d, d, d, d, d, d, d, d, d, d, d, d, d, d, d, d, d, d, d, d, d, d, d, d, d, d, d, d, d, d, d, d, d, d, d, d, d, d, d, d, d, d, d, d, d, d, d, d, d, d, d, d, d, d, d, d, d, d, d, d, d, d, d, d, d, d, d, d, d, d, d, d, d, d, d, d, d, d, d, d, d, d, d, d, d, d, d, d, d, d, d])]
def impl_ParseAutomaton_l19 : (ByteArray × (Int × LI × LI × LS × Unit) × (Int × LI × LI × LS × Unit) × (List ByteArray) × Int × Int × Unit) → Option ((ByteArray × (Int × LI × LI × LS × Unit) × (Int × LI × LI × LS × Unit) × (List ByteArray) × Int × Int × Unit) ⊕ (((Int × LI × LI × LS × Unit) × Bool × Unit) ⊕ (ByteArray × (Int × LI × LI × LS × Unit) × (Int × LI × LI × LS × Unit) × Unit))) := fun (v0, (v2_0, v2_1, v2_2, v2_3, _), (v5_0, v5_1, v5_2, v5_3, _), v75, v76, v77, _) =>
 bif (decide (v77 < v76)) then
  if (((0 : Int) ≤ v77) ∧ (v77 < (((List.length v75) : Nat) : Int))) then
   bif ((((ByteArray.size (List.getD v75 (0 + (Int.toNat v77)) ⟨Array.empty⟩)) : Nat) : Int) != 5) then
    some (Sum.inr (Sum.inl (((0 : Int), [], [], [], ()), false, ())))
   else
    if (((0 : Int) ≤ 0) ∧ ((0 : Int) < (((ByteArray.size (List.getD v75 (0 + (Int.toNat v77)) ⟨Array.empty⟩)) : Nat) : Int))) then
     if (((0 : Int) ≤ 1) ∧ (((1 : Int) ≤ 2) ∧ ((2 : Int) ≤ (((ByteArray.size (List.getD v75 (0 + (Int.toNat v77)) ⟨Array.empty⟩)) : Nat) : Int)))) then
      if (((0 : Int) ≤ 2) ∧ ((2 : Int) < (((ByteArray.size (List.getD v75 (0 + (Int.toNat v77)) ⟨Array.empty⟩)) : Nat) : Int))) then
       if (((0 : Int) ≤ 4) ∧ ((4 : Int) < (((ByteArray.size (List.getD v75 (0 + (Int.toNat v77)) ⟨Array.empty⟩)) : Nat) : Int))) then
        if (((0 + (List.length v5_3)) = (List.length v5_3)) ∧ ((((List.length v5_3) + (List.length (List.take 1 (List.drop 0 [((IntKind.wrap .i64 ((IntKind.wrap .i64 (((UInt8.toNat (Array.getD (ByteArray.data (List.getD v75 (0 + (Int.toNat v77)) (⟨Array.empty⟩ : ByteArray))) (Int.toNat (0 : Int)) (0 : UInt8))) : Nat) : Int)) - (48 : Int))), (ByteArray.extract (List.getD v75 (0 + (Int.toNat v77)) (⟨Array.empty⟩ : ByteArray)) (Int.toNat (1 : Int)) (Int.toNat (2 : Int))), (IntKind.wrap .i64 ((IntKind.wrap .i64 (((UInt8.toNat (Array.getD (ByteArray.data (List.getD v75 (0 + (Int.toNat v77)) (⟨Array.empty⟩ : ByteArray))) (Int.toNat (2 : Int)) (0 : UInt8))) : Nat) : Int)) - (48 : Int))), (IntKind.wrap .i64 ((IntKind.wrap .i64 (((UInt8.toNat (Array.getD (ByteArray.data (List.getD v75 (0 + (Int.toNat v77)) (⟨Array.empty⟩ : ByteArray))) (Int.toNat (4 : Int)) (0 : UInt8))) : Nat) : Int)) - (48 : Int))))])))) * 40) ≤ 140737488355328)) then
         some (Sum.inl (v0, (v2_0, (List.take (List.length v2_1) (List.drop 0 v2_1)), (List.take (List.length v2_2) (List.drop 0 v2_2)), (List.take (List.length v2_3) (List.drop 0 v2_3)), ()), (v5_0, (List.take (List.length v5_1) (List.drop 0 v5_1)), (List.take (List.length v5_2) (List.drop 0 v5_2)), (List.take ((List.length v5_3) + (List.length (List.take 1 (List.drop 0 [((IntKind.wrap .i64 ((IntKind.wrap .i64 (((UInt8.toNat (Array.getD (ByteArray.data (List.getD v75 (0 + (Int.toNat v77)) (⟨Array.empty⟩ : ByteArray))) (Int.toNat (0 : Int)) (0 : UInt8))) : Nat) : Int)) - (48 : Int))), (ByteArray.extract (List.getD v75 (0 + (Int.toNat v77)) (⟨Array.empty⟩ : ByteArray)) (Int.toNat (1 : Int)) (Int.toNat (2 : Int))), (IntKind.wrap .i64 ((IntKind.wrap .i64 (((UInt8.toNat (Array.getD (ByteArray.data (List.getD v75 (0 + (Int.toNat v77)) (⟨Array.empty⟩ : ByteArray))) (Int.toNat (2 : Int)) (0 : UInt8))) : Nat) : Int)) - (48 : Int))), (IntKind.wrap .i64 ((IntKind.wrap .i64 (((UInt8.toNat (Array.getD (ByteArray.data (List.getD v75 (0 + (Int.toNat v77)) (⟨Array.empty⟩ : ByteArray))) (Int.toNat (4 : Int)) (0 : UInt8))) : Nat) : Int)) - (48 : Int))))])))) (List.drop 0 ((List.drop 0 v5_3) ++ (List.take 1 (List.drop 0 [((IntKind.wrap .i64 ((IntKind.wrap .i64 (((UInt8.toNat (Array.getD (ByteArray.data (List.getD v75 (0 + (Int.toNat v77)) (⟨Array.empty⟩ : ByteArray))) (Int.toNat (0 : Int)) (0 : UInt8))) : Nat) : Int)) - (48 : Int))), (ByteArray.extract (List.getD v75 (0 + (Int.toNat v77)) (⟨Array.empty⟩ : ByteArray)) (Int.toNat (1 : Int)) (Int.toNat (2 : Int))), (IntKind.wrap .i64 ((IntKind.wrap .i64 (((UInt8.toNat (Array.getD (ByteArray.data (List.getD v75 (0 + (Int.toNat v77)) (⟨Array.empty⟩ : ByteArray))) (Int.toNat (2 : Int)) (0 : UInt8))) : Nat) : Int)) - (48 : Int))), (IntKind.wrap .i64 ((IntKind.wrap .i64 (((UInt8.toNat (Array.getD (ByteArray.data (List.getD v75 (0 + (Int.toNat v77)) (⟨Array.empty⟩ : ByteArray))) (Int.toNat (4 : Int)) (0 : UInt8))) : Nat) : Int)) - (48 : Int))))]))))), ()), (List.take (List.length v75) (List.drop 0 v75)), v76, (IntKind.wrap .i64 (v77 + 1)), ()))
        else
         none
       else
        none
      else
       none
     else
      none
    else
     none
  else
   none
 else
  some (Sum.inr (Sum.inr (v0, (v2_0, (List.take (List.length v2_1) (List.drop 0 v2_1)), (List.take (List.length v2_2) (List.drop 0 v2_2)), (List.take (List.length v2_3) (List.drop 0 v2_3)), ()), (v5_0, (List.take (List.length v5_1) (List.drop 0 v5_1)), (List.take (List.length v5_2) (List.drop 0 v5_2)), (List.take (List.length v5_3) (List.drop 0 v5_3)), ()), ())))
theorem loop37_19 {L} (h : L 19 = some ⟨116, sh37_19, xs37_19, impl_ParseAutomaton_l19⟩) : LoopOk prog L (loopOf f37 19) := lo (L' := L37_2) (by kernel_rfl) E37_ok allNil h
def L37_3 : Nat → Option LoopD := fun n => ifEq n 19 (some ⟨116, sh37_19, xs37_19, impl_ParseAutomaton_l19⟩) (L37_2 n)
def impl_ParseAutomaton : ByteArray → Option (TA × Bool) := fun a0 =>
 Option.bind (strings_Split a0 (⟨#[(59 : UInt8)]⟩ : ByteArray)) fun r0 =>
  bif ((((List.length r0) : Nat) : Int) != 4) then
   some (((0 : Int), [], [], []), false)
  else
   if (((0 : Int) ≤ 0) ∧ ((0 : Int) < (((List.length r0) : Nat) : Int))) then
    Option.bind (strconv_Atoi (List.getD r0 (0 + (Int.toNat 0)) ⟨Array.empty⟩)) fun (r1, r2) =>
     if (((0 : Int) ≤ 1) ∧ ((1 : Int) < (((List.length r0) : Nat) : Int))) then
      Option.bind (strings_Fields (List.getD r0 (0 + (Int.toNat 1)) ⟨Array.empty⟩)) fun r3 =>
       Option.bind (loopF impl_ParseAutomaton_l7 (a0, ((0 : Int), [], [], [], ()), (List.take (List.length r0) (List.drop 0 r0)), (r1, [], [], [], ()), (List.take (List.length r3) (List.drop 0 r3)), (((List.length r3) : Nat) : Int), 0, ())) fun (r4, (r5, r6, r7, r8, _), r9, (r10, r11, r12, r13, _), _) =>
        if (((0 : Int) ≤ 2) ∧ ((2 : Int) < (((List.length r9) : Nat) : Int))) then
         Option.bind (strings_Fields (List.getD r9 (0 + (Int.toNat 2)) ⟨Array.empty⟩)) fun r14 =>
          Option.bind (loopF impl_ParseAutomaton_l13 (r4, (r5, (List.take (List.length r6) (List.drop 0 r6)), (List.take (List.length r7) (List.drop 0 r7)), (List.take (List.length r8) (List.drop 0 r8)), ()), (List.take (List.length r9) (List.drop 0 r9)), (r10, (List.take (List.length r11) (List.drop 0 r11)), (List.take (List.length r12) (List.drop 0 r12)), (List.take (List.length r13) (List.drop 0 r13)), ()), (List.take (List.length r14) (List.drop 0 r14)), (((List.length r14) : Nat) : Int), 0, ())) fun (r15, (r16, r17, r18, r19, _), r20, (r21, r22, r23, r24, _), _) =>
           if (((0 : Int) ≤ 3) ∧ ((3 : Int) < (((List.length r20) : Nat) : Int))) then
            Option.bind (strings_Fields (List.getD r20 (0 + (Int.toNat 3)) ⟨Array.empty⟩)) fun r25 =>
             Option.bind (loopF impl_ParseAutomaton_l19 (r15, (r16, (List.take (List.length r17) (List.drop 0 r17)), (List.take (List.length r18) (List.drop 0 r18)), (List.take (List.length r19) (List.drop 0 r19)), ()), (r21, (List.take (List.length r22) (List.drop 0 r22)), (List.take (List.length r23) (List.drop 0 r23)), (List.take (List.length r24) (List.drop 0 r24)), ()), (List.take (List.length r25) (List.drop 0 r25)), (((List.length r25) : Nat) : Int), 0, ())) fun r26 =>
              (match r26 with
              | .inl ((d27, d28, d29, d30, _), d31, _) =>
                some ((d27, (List.take (List.length d28) (List.drop 0 d28)), (List.take (List.length d29) (List.drop 0 d29)), (List.take (List.length d30) (List.drop 0 d30))), d31)
              | .inr (d32, (d33, d34, d35, d36, _), (d37, d38, d39, d40, _), _) =>
                bif ((ByteArray.toList d32) == (ByteArray.toList (⟨#[]⟩ : ByteArray))) then
                 some (((0 : Int), [], [], []), false)
                else
                 Option.bind (impl_FormatAutomaton (d37, (List.take (List.length d38) (List.drop 0 d38)), (List.take (List.length d39) (List.drop 0 d39)), (List.take (List.length d40) (List.drop 0 d40)))) fun r41 =>
                  bif (!((ByteArray.toList r41) == (ByteArray.toList d32))) then
                   some (((0 : Int), [], [], []), false)
                  else
                   some ((d37, (List.take (List.length d38) (List.drop 0 d38)), (List.take (List.length d39) (List.drop 0 d39)), (List.take (List.length d40) (List.drop 0 d40))), true))
           else
            none
        else
         none
     else
      none
   else
    none
def A37 : FnA := ⟨[.v .str], true, [.pair i6 (.pair sI (.pair sI sS)), .bool], fun x => impl_ParseAutomaton x.1⟩
theorem A37_ok : FnOk prog 37 A37 := fo (L := L37_3) (by kernel_rfl) func37 E37_ok (allCons (loop37_7 rfl) (allCons (loop37_13 rfl) (allCons (loop37_19 rfl) allNil)))
def impl_ShowWord : ByteArray → Option (ByteArray) := fun a0 =>
 bif ((ByteArray.toList a0) == (ByteArray.toList (⟨#[]⟩ : ByteArray))) then
  some (⟨#[(45 : UInt8)]⟩ : ByteArray)
 else
  some a0
def A172 : FnA := ⟨[.v .str], true, [.str], fun x => impl_ShowWord x.1⟩
theorem A172_ok : FnOk prog 172 A172 := fo (L := L0) (by kernel_rfl) func172 E0_ok allNil
def E88 : Env := ev fun g => ifEq g 172 (some A172) (none)
theorem E88_ok : FnsOk prog E88 := (oF A172_ok func172 (noFns _ _))
def impl_told : ByteArray → Bool → Option (ByteArray) := fun a0 a1 =>
 bif (!a1) then
  some (⟨#[(110 : UInt8), (111 : UInt8)]⟩ : ByteArray)
 else
  Option.bind (impl_ShowWord a0) fun r0 =>
   some r0
def A88 : FnA := ⟨[.v .str, .v .bool], true, [.str], fun x => impl_told x.1 x.2.1⟩
theorem A88_ok : FnOk prog 88 A88 := fo (L := L0) (by kernel_rfl) func88 E88_ok allNil
def E72 : Env := ev fun g => ifEq g 11 (some A11) (ifEq g 88 (some A88) (none))
theorem E72_ok : FnsOk prog E72 := (oF A11_ok func11 (oF A88_ok func88 (noFns _ _)))
def impl_desk_become : (TA × TA) → TA → Bool → Option ((ByteArray) × ((TA × TA) × Unit)) := fun ((a0_0, a0_1, a0_2, a0_3), a0_4, a0_5, a0_6, a0_7) (a1_0, a1_1, a1_2, a1_3) a2 =>
 bif a2 then
  Option.bind (impl_FormatAutomaton (a1_0, a1_1, a1_2, a1_3)) fun r0 =>
   Option.bind (impl_told r0 a2) fun r1 =>
    some (r1, ((a1_0, a1_1, a1_2, a1_3), a0_4, a0_5, a0_6, a0_7), ())
 else
  Option.bind (impl_FormatAutomaton (a0_0, a0_1, a0_2, a0_3)) fun r2 =>
   Option.bind (impl_told r2 a2) fun r3 =>
    some (r3, ((a0_0, a0_1, a0_2, a0_3), a0_4, a0_5, a0_6, a0_7), ())
def A72 : FnM := ⟨[.bx (.pair kA kA), .v kA, .v .bool], true, [.str], none, fun x => impl_desk_become x.1 x.2.1 x.2.2.1⟩
theorem A72_ok : FnMOk prog 72 A72 := fm (L := L0) (by kernel_rfl) func72 E72_ok allNil
def E92 : Env := ev fun g => ifEq g 12 (some A12) (ifEq g 88 (some A88) (none))
theorem E92_ok : FnsOk prog E92 := (oF A12_ok func12 (oF A88_ok func88 (noFns _ _)))
def impl_cost : Int → Option (ByteArray) := fun a0 =>
 Option.bind (impl_FormatCost a0) fun r0 =>
  Option.bind (impl_told r0 (decide (a0 ≥ 0))) fun r1 =>
   some r1
def A92 : FnA := ⟨[.v i6], true, [.str], fun x => impl_cost x.1⟩
theorem A92_ok : FnOk prog 92 A92 := fo (L := L0) (by kernel_rfl) func92 E92_ok allNil
def E93 : Env := ev fun g => ifEq g 14 (some A14) (ifEq g 88 (some A88) (none))
theorem E93_ok : FnsOk prog E93 := (oF A14_ok func14 (oF A88_ok func88 (noFns _ _)))
def impl_numbered : LI → Bool → Option (ByteArray) := fun a0 a1 =>
 Option.bind (impl_FormatNumbers a0) fun r0 =>
  Option.bind (impl_told r0 a1) fun r1 =>
   some r1
def A93 : FnA := ⟨[.v sI, .v .bool], true, [.str], fun x => impl_numbered x.1 x.2.1⟩
theorem A93_ok : FnOk prog 93 A93 := fo (L := L0) (by kernel_rfl) func93 E93_ok allNil
def E94 : Env := ev fun g => ifEq g 16 (some A16) (ifEq g 88 (some A88) (none))
theorem E94_ok : FnsOk prog E94 := (oF A16_ok func16 (oF A88_ok func88 (noFns _ _)))
def impl_costs : LI → Bool → Option (ByteArray) := fun a0 a1 =>
 Option.bind (impl_FormatCosts a0) fun r0 =>
  Option.bind (impl_told r0 a1) fun r1 =>
   some r1
def A94 : FnA := ⟨[.v sI, .v .bool], true, [.str], fun x => impl_costs x.1 x.2.1⟩
theorem A94_ok : FnOk prog 94 A94 := fo (L := L0) (by kernel_rfl) func94 E94_ok allNil
def E41 : Env := ⟨ty0, fun g => ifEq g 37 (some A37) (ifEq g 5 (some A5) (ifEq g 92 (some A92) (ifEq g 7 (some A7) (ifEq g 93 (some A93) (ifEq g 8 (some A8) (ifEq g 15 (some A15) (ifEq g 88 (some A88) (ifEq g 9 (some A9) (ifEq g 94 (some A94) (ifEq g 10 (some A10) (ifEq g 39 (some A39) (none)))))))))))), fun g => ifEq g 72 (some A72) (none), fun _ => none, fun _ => none, fun _ => 0⟩
theorem E41_ok : FnsOk prog E41 := (oF A37_ok func37 (oF A5_ok func5 (oF A92_ok func92 (oF A7_ok func7 (oF A93_ok func93 (oF A8_ok func8 (oF A15_ok func15 (oF A88_ok func88 (oF A9_ok func9 (oF A94_ok func94 (oF A10_ok func10 (oF A39_ok func39 (oneMs A72_ok (by kernel_rfl) func72 (by kernel_rfl) (by kernel_rfl) (noFns _ _))))))))))))))
def impl_desk_text : (TA × TA) → ByteArray → ByteArray → Option ((ByteArray × Bool) × ((TA × TA) × Unit)) := fun ((a0_0, a0_1, a0_2, a0_3), a0_4, a0_5, a0_6, a0_7) a1 a2 =>
 bif ((ByteArray.toList a1) == (ByteArray.toList (⟨#[(97 : UInt8), (117 : UInt8), (116 : UInt8), (111 : UInt8), (109 : UInt8), (97 : UInt8), (116 : UInt8), (111 : UInt8), (110 : UInt8)]⟩ : ByteArray))) then
  Option.bind (impl_ParseAutomaton a2) fun ((r0, r1, r2, r3), r4) =>
   Option.bind (impl_desk_become ((a0_0, a0_1, a0_2, a0_3), a0_4, a0_5, a0_6, a0_7) (r0, (List.take (List.length r1) (List.drop 0 r1)), (List.take (List.length r2) (List.drop 0 r2)), (List.take (List.length r3) (List.drop 0 r3))) r4) fun (r5, ((r6, r7, r8, r9), r10, r11, r12, r13), _) =>
    some ((r5, true), ((r6, r7, r8, r9), r10, r11, r12, r13), ())
 else
  bif ((ByteArray.toList a1) == (ByteArray.toList (⟨#[(99 : UInt8), (111 : UInt8), (115 : UInt8), (116 : UInt8)]⟩ : ByteArray))) then
   Option.bind (impl_CostOf (a0_0, a0_1, a0_2, a0_3) a2) fun r14 =>
    Option.bind (impl_cost r14) fun r15 =>
     some ((r15, true), ((a0_0, a0_1, a0_2, a0_3), a0_4, a0_5, a0_6, a0_7), ())
  else
   bif ((ByteArray.toList a1) == (ByteArray.toList (⟨#[(114 : UInt8), (117 : UInt8), (110 : UInt8)]⟩ : ByteArray))) then
    Option.bind (impl_RunOf (a0_0, a0_1, a0_2, a0_3) a2) fun (r16, r17) =>
     Option.bind (impl_numbered (List.take (List.length r16) (List.drop 0 r16)) r17) fun r18 =>
      some ((r18, true), ((a0_0, a0_1, a0_2, a0_3), a0_4, a0_5, a0_6, a0_7), ())
   else
    bif ((ByteArray.toList a1) == (ByteArray.toList (⟨#[(109 : UInt8), (97 : UInt8), (116 : UInt8), (114 : UInt8), (105 : UInt8), (120 : UInt8)]⟩ : ByteArray))) then
     Option.bind (impl_WordMatrix (a0_0, a0_1, a0_2, a0_3) a2) fun ((r19, r20), r21) =>
      Option.bind (impl_FormatMatrix (r19, (List.take (List.length r20) (List.drop 0 r20)))) fun r22 =>
       Option.bind (impl_told r22 r21) fun r23 =>
        some ((r23, true), ((a0_0, a0_1, a0_2, a0_3), a0_4, a0_5, a0_6, a0_7), ())
    else
     bif ((ByteArray.toList a1) == (ByteArray.toList (⟨#[(112 : UInt8), (114 : UInt8), (101 : UInt8), (102 : UInt8), (105 : UInt8), (120 : UInt8), (101 : UInt8), (115 : UInt8)]⟩ : ByteArray))) then
      Option.bind (impl_PrefixCosts (a0_0, a0_1, a0_2, a0_3) a2) fun (r24, r25) =>
       Option.bind (impl_costs (List.take (List.length r24) (List.drop 0 r24)) r25) fun r26 =>
        some ((r26, true), ((a0_0, a0_1, a0_2, a0_3), a0_4, a0_5, a0_6, a0_7), ())
     else
      bif ((ByteArray.toList a1) == (ByteArray.toList (⟨#[(102 : UInt8), (97 : UInt8), (99 : UInt8), (116 : UInt8), (111 : UInt8), (114 : UInt8), (115 : UInt8)]⟩ : ByteArray))) then
       Option.bind (impl_FactorsOf (a0_0, a0_1, a0_2, a0_3) a2) fun r27 =>
        Option.bind (impl_cost r27) fun r28 =>
         some ((r28, true), ((a0_0, a0_1, a0_2, a0_3), a0_4, a0_5, a0_6, a0_7), ())
      else
       bif ((ByteArray.toList a1) == (ByteArray.toList (⟨#[(115 : UInt8), (112 : UInt8), (108 : UInt8), (105 : UInt8), (116 : UInt8)]⟩ : ByteArray))) then
        none
       else
        bif ((ByteArray.toList a1) == (ByteArray.toList (⟨#[(118 : UInt8), (97 : UInt8), (108 : UInt8), (117 : UInt8), (101 : UInt8)]⟩ : ByteArray))) then
         none
        else
         bif ((ByteArray.toList a1) == (ByteArray.toList (⟨#[(103 : UInt8), (114 : UInt8), (97 : UInt8), (100 : UInt8), (101 : UInt8)]⟩ : ByteArray))) then
          none
         else
          bif ((ByteArray.toList a1) == (ByteArray.toList (⟨#[(101 : UInt8), (120 : UInt8), (112 : UInt8), (97 : UInt8), (110 : UInt8), (100 : UInt8)]⟩ : ByteArray))) then
           bif ((ByteArray.toList a1) == (ByteArray.toList (⟨#[(101 : UInt8), (120 : UInt8), (112 : UInt8), (97 : UInt8), (110 : UInt8), (100 : UInt8)]⟩ : ByteArray))) then
            Option.bind (strings_Cut a2 (⟨#[(32 : UInt8)]⟩ : ByteArray)) fun (r29, r30, r31) =>
             none
           else
            some (((⟨#[]⟩ : ByteArray), false), ((a0_0, a0_1, a0_2, a0_3), a0_4, a0_5, a0_6, a0_7), ())
          else
           bif ((ByteArray.toList a1) == (ByteArray.toList (⟨#[(103 : UInt8), (114 : UInt8), (111 : UInt8), (119 : UInt8), (116 : UInt8), (104 : UInt8)]⟩ : ByteArray))) then
            Option.bind (strings_Cut a2 (⟨#[(32 : UInt8)]⟩ : ByteArray)) fun (r32, r33, r34) =>
             none
           else
            some (((⟨#[]⟩ : ByteArray), false), ((a0_0, a0_1, a0_2, a0_3), a0_4, a0_5, a0_6, a0_7), ())
def A41 : FnM := ⟨[.bx (.pair kA kA), .v .str, .v .str], true, [.str, .bool], none, fun x => impl_desk_text x.1 x.2.1 x.2.2.1⟩
theorem A41_ok : FnMOk prog 41 A41 := fm (L := L0) (by kernel_rfl) func41 E41_ok allNil
def E17 : Env := ⟨ty0, fun g => ifEq g 37 (some A37) (ifEq g 38 (some A38) (ifEq g 39 (some A39) (none))), fun g => ifEq g 41 (some A41) (none), fun _ => none, fun _ => none, fun _ => 0⟩
theorem E17_ok : FnsOk prog E17 := (oF A37_ok func37 (oF A38_ok func38 (oF A39_ok func39 (oneMs A41_ok (by kernel_rfl) func41 (by kernel_rfl) (by kernel_rfl) (noFns _ _)))))
def sh17_7 : List Fm := D 5 (.box 100500 [.val i6, .val sI, .val sI, .val sS, .val i6, .val sI, .val sI, .val sS] :: .cell (.val .str) :: D 19 (.cell (.own .str 102600 false) :: .cell (.val i6) :: .cell (.val i6) :: D 53 []))
def xs17_7 : List (Ex × List Fm) := [(.ret, (d :: d :: .cell (.val .str) :: D 79 [])), (.exit 0, (D 6 (.cell (.val .str) :: D 75 [])))]
def impl_RunScript_l7 : ((Int × LI × LI × LS × Int × LI × LI × LS × Unit) × ByteArray × (List ByteArray) × Int × Int × Unit) → Option (((Int × LI × LI × LS × Int × LI × LI × LS × Unit) × ByteArray × (List ByteArray) × Int × Int × Unit) ⊕ ((ByteArray × Unit) ⊕ (ByteArray × Unit))) := fun ((v5_0, v5_1, v5_2, v5_3, v5_4, v5_5, v5_6, v5_7, _), v6, v26, v27, v28, _) =>
 bif (decide (v28 < v27)) then
  if (((0 : Int) ≤ v28) ∧ (v28 < (((List.length v26) : Nat) : Int))) then
   bif ((ByteArray.toList (List.getD v26 (0 + (Int.toNat v28)) ⟨Array.empty⟩)) == (ByteArray.toList (⟨#[]⟩ : ByteArray))) then
    some (Sum.inl ((v5_0, v5_1, v5_2, v5_3, v5_4, v5_5, v5_6, v5_7, ()), v6, (List.take (List.length v26) (List.drop 0 v26)), v27, (IntKind.wrap .i64 (v28 + 1)), ()))
   else
    bif (decide (v28 ≥ 100)) then
     if (((ByteArray.size v6) + (ByteArray.size (⟨#[(102 : UInt8), (117 : UInt8), (108 : UInt8), (108 : UInt8), (10 : UInt8)]⟩ : ByteArray))) ≤ 9223372036854775807) then
      some (Sum.inr (Sum.inl ((v6 ++ (⟨#[(102 : UInt8), (117 : UInt8), (108 : UInt8), (108 : UInt8), (10 : UInt8)]⟩ : ByteArray)), ())))
     else
      none
    else
     bif (decide ((((ByteArray.size v6) : Nat) : Int) > 40000)) then
      if (((ByteArray.size v6) + (ByteArray.size (⟨#[(102 : UInt8), (117 : UInt8), (108 : UInt8), (108 : UInt8), (10 : UInt8)]⟩ : ByteArray))) ≤ 9223372036854775807) then
       some (Sum.inr (Sum.inl ((v6 ++ (⟨#[(102 : UInt8), (117 : UInt8), (108 : UInt8), (108 : UInt8), (10 : UInt8)]⟩ : ByteArray)), ())))
      else
       none
     else
      Option.bind (strings_Cut (List.getD v26 (0 + (Int.toNat v28)) ⟨Array.empty⟩) (⟨#[(32 : UInt8)]⟩ : ByteArray)) fun (r0, r1, r2) =>
       bif (!r2) then
        none
       else
        Option.bind (impl_desk_text ((v5_0, v5_1, v5_2, v5_3), v5_4, v5_5, v5_6, v5_7) r0 r1) fun ((r3, r4), ((r5, r6, r7, r8), r9, r10, r11, r12), _) =>
         bif (!r4) then
          none
         else
          bif (!r4) then
           if (((ByteArray.size (⟨#[(119 : UInt8), (104 : UInt8), (97 : UInt8), (116 : UInt8)]⟩ : ByteArray)) + (ByteArray.size (⟨#[(10 : UInt8)]⟩ : ByteArray))) ≤ 9223372036854775807) then
            if (((ByteArray.size v6) + (ByteArray.size ((⟨#[(119 : UInt8), (104 : UInt8), (97 : UInt8), (116 : UInt8)]⟩ : ByteArray) ++ (⟨#[(10 : UInt8)]⟩ : ByteArray)))) ≤ 9223372036854775807) then
             some (Sum.inl ((r5, r6, r7, r8, r9, r10, r11, r12, ()), (v6 ++ ((⟨#[(119 : UInt8), (104 : UInt8), (97 : UInt8), (116 : UInt8)]⟩ : ByteArray) ++ (⟨#[(10 : UInt8)]⟩ : ByteArray))), (List.take (List.length v26) (List.drop 0 v26)), v27, (IntKind.wrap .i64 (v28 + 1)), ()))
            else
             none
           else
            none
          else
           if (((ByteArray.size r3) + (ByteArray.size (⟨#[(10 : UInt8)]⟩ : ByteArray))) ≤ 9223372036854775807) then
            if (((ByteArray.size v6) + (ByteArray.size (r3 ++ (⟨#[(10 : UInt8)]⟩ : ByteArray)))) ≤ 9223372036854775807) then
             some (Sum.inl ((r5, r6, r7, r8, r9, r10, r11, r12, ()), (v6 ++ (r3 ++ (⟨#[(10 : UInt8)]⟩ : ByteArray))), (List.take (List.length v26) (List.drop 0 v26)), v27, (IntKind.wrap .i64 (v28 + 1)), ()))
            else
             none
           else
            none
  else
   none
 else
  some (Sum.inr (Sum.inr (v6, ())))
theorem loop17_7 {L} (h : L 7 = some ⟨82, sh17_7, xs17_7, impl_RunScript_l7⟩) : LoopOk prog L (loopOf f17 7) := lo (L' := L0) (by kernel_rfl) E17_ok allNil h
def L17_1 : Nat → Option LoopD := fun n => ifEq n 7 (some ⟨82, sh17_7, xs17_7, impl_RunScript_l7⟩) (L0 n)
def impl_RunScript : ByteArray → Option (ByteArray) := fun a0 =>
 bif (decide ((((ByteArray.size a0) : Nat) : Int) > 20000)) then
  some (⟨#[(108 : UInt8), (111 : UInt8), (110 : UInt8), (103 : UInt8), (10 : UInt8)]⟩ : ByteArray)
 else
  Option.bind (impl_ParseAutomaton (⟨#[(49 : UInt8), (59 : UInt8), (48 : UInt8), (59 : UInt8), (48 : UInt8), (59 : UInt8)]⟩ : ByteArray)) fun ((r0, r1, r2, r3), r4) =>
   Option.bind (strings_Split a0 (⟨#[(10 : UInt8)]⟩ : ByteArray)) fun r5 =>
    Option.bind (loopF impl_RunScript_l7 ((r0, (List.take (List.length r1) (List.drop 0 r1)), (List.take (List.length r2) (List.drop 0 r2)), (List.take (List.length r3) (List.drop 0 r3)), r0, (List.take (List.length r1) (List.drop 0 r1)), (List.take (List.length r2) (List.drop 0 r2)), (List.take (List.length r3) (List.drop 0 r3)), ()), (⟨#[]⟩ : ByteArray), (List.take (List.length r5) (List.drop 0 r5)), (((List.length r5) : Nat) : Int), 0, ())) fun r6 =>
     (match r6 with
     | .inl (d7, _) =>
       some d7
     | .inr (d8, _) =>
       some d8)
def A17 : FnA := ⟨[.v .str], true, [.str], fun x => impl_RunScript x.1⟩
theorem A17_ok : FnOk prog 17 A17 := fo (L := L17_1) (by kernel_rfl) func17 E17_ok (allCons (loop17_7 rfl) allNil)
def E3 : Env := ev fun g => ifEq g 4 (some A4) (ifEq g 5 (some A5) (ifEq g 6 (some A6) (ifEq g 7 (some A7) (ifEq g 8 (some A8) (ifEq g 9 (some A9) (ifEq g 10 (some A10) (ifEq g 11 (some A11) (ifEq g 12 (some A12) (ifEq g 14 (some A14) (ifEq g 13 (some A13) (ifEq g 15 (some A15) (ifEq g 16 (some A16) (ifEq g 17 (some A17) (none))))))))))))))
theorem E3_ok : FnsOk prog E3 := (oF A4_ok func4 (oF A5_ok func5 (oF A6_ok func6 (oF A7_ok func7 (oF A8_ok func8 (oF A9_ok func9 (oF A10_ok func10 (oF A11_ok func11 (oF A12_ok func12 (oF A14_ok func14 (oF A13_ok func13 (oF A15_ok func15 (oF A16_ok func16 (oF A17_ok func17 (noFns _ _)))))))))))))))
def laws_FnScriptWord : LI → Option (Bool) := fun a0 =>
 bif (decide ((((List.length a0) : Nat) : Int) > 1048576)) then
  some true
 else
  Option.bind (spec_DrawRunOf a0) fun ((r0, r1, r2, r3), r4) =>
   Option.bind (impl_CostOf (r0, r1, r2, r3) r4) fun r5 =>
    Option.bind (spec_CostOf (r0, r1, r2, r3) r4) fun r6 =>
     bif (r5 != r6) then
      Option.bind (spec_CostOf (r0, r1, r2, r3) r4) fun r7 =>
       some (r5 == r7)
     else
      bif (decide (r5 < 0)) then
       Option.bind (spec_CostOf (r0, r1, r2, r3) r4) fun r8 =>
        some (r5 == r8)
      else
       Option.bind (impl_RunOf (r0, r1, r2, r3) r4) fun (r9, r10) =>
        Option.bind (impl_WordMatrix (r0, r1, r2, r3) r4) fun ((r11, r12), r13) =>
         Option.bind (impl_PrefixCosts (r0, r1, r2, r3) r4) fun (r14, r15) =>
          Option.bind (impl_FactorsOf (r0, r1, r2, r3) r4) fun r16 =>
           Option.bind (impl_FormatAutomaton (r0, r1, r2, r3)) fun r17 =>
            if (((ByteArray.size (⟨#[(97 : UInt8), (117 : UInt8), (116 : UInt8), (111 : UInt8), (109 : UInt8), (97 : UInt8), (116 : UInt8), (111 : UInt8), (110 : UInt8), (32 : UInt8)]⟩ : ByteArray)) + (ByteArray.size r17)) ≤ 9223372036854775807) then
             if (((ByteArray.size ((⟨#[(97 : UInt8), (117 : UInt8), (116 : UInt8), (111 : UInt8), (109 : UInt8), (97 : UInt8), (116 : UInt8), (111 : UInt8), (110 : UInt8), (32 : UInt8)]⟩ : ByteArray) ++ r17)) + (ByteArray.size (⟨#[(10 : UInt8), (99 : UInt8), (111 : UInt8), (115 : UInt8), (116 : UInt8), (32 : UInt8)]⟩ : ByteArray))) ≤ 9223372036854775807) then
              if (((ByteArray.size (((⟨#[(97 : UInt8), (117 : UInt8), (116 : UInt8), (111 : UInt8), (109 : UInt8), (97 : UInt8), (116 : UInt8), (111 : UInt8), (110 : UInt8), (32 : UInt8)]⟩ : ByteArray) ++ r17) ++ (⟨#[(10 : UInt8), (99 : UInt8), (111 : UInt8), (115 : UInt8), (116 : UInt8), (32 : UInt8)]⟩ : ByteArray))) + (ByteArray.size r4)) ≤ 9223372036854775807) then
               if (((ByteArray.size ((((⟨#[(97 : UInt8), (117 : UInt8), (116 : UInt8), (111 : UInt8), (109 : UInt8), (97 : UInt8), (116 : UInt8), (111 : UInt8), (110 : UInt8), (32 : UInt8)]⟩ : ByteArray) ++ r17) ++ (⟨#[(10 : UInt8), (99 : UInt8), (111 : UInt8), (115 : UInt8), (116 : UInt8), (32 : UInt8)]⟩ : ByteArray)) ++ r4)) + (ByteArray.size (⟨#[(10 : UInt8), (114 : UInt8), (117 : UInt8), (110 : UInt8), (32 : UInt8)]⟩ : ByteArray))) ≤ 9223372036854775807) then
                if (((ByteArray.size (((((⟨#[(97 : UInt8), (117 : UInt8), (116 : UInt8), (111 : UInt8), (109 : UInt8), (97 : UInt8), (116 : UInt8), (111 : UInt8), (110 : UInt8), (32 : UInt8)]⟩ : ByteArray) ++ r17) ++ (⟨#[(10 : UInt8), (99 : UInt8), (111 : UInt8), (115 : UInt8), (116 : UInt8), (32 : UInt8)]⟩ : ByteArray)) ++ r4) ++ (⟨#[(10 : UInt8), (114 : UInt8), (117 : UInt8), (110 : UInt8), (32 : UInt8)]⟩ : ByteArray))) + (ByteArray.size r4)) ≤ 9223372036854775807) then
                 if (((ByteArray.size ((((((⟨#[(97 : UInt8), (117 : UInt8), (116 : UInt8), (111 : UInt8), (109 : UInt8), (97 : UInt8), (116 : UInt8), (111 : UInt8), (110 : UInt8), (32 : UInt8)]⟩ : ByteArray) ++ r17) ++ (⟨#[(10 : UInt8), (99 : UInt8), (111 : UInt8), (115 : UInt8), (116 : UInt8), (32 : UInt8)]⟩ : ByteArray)) ++ r4) ++ (⟨#[(10 : UInt8), (114 : UInt8), (117 : UInt8), (110 : UInt8), (32 : UInt8)]⟩ : ByteArray)) ++ r4)) + (ByteArray.size (⟨#[(10 : UInt8), (109 : UInt8), (97 : UInt8), (116 : UInt8), (114 : UInt8), (105 : UInt8), (120 : UInt8), (32 : UInt8)]⟩ : ByteArray))) ≤ 9223372036854775807) then
                  if (((ByteArray.size (((((((⟨#[(97 : UInt8), (117 : UInt8), (116 : UInt8), (111 : UInt8), (109 : UInt8), (97 : UInt8), (116 : UInt8), (111 : UInt8), (110 : UInt8), (32 : UInt8)]⟩ : ByteArray) ++ r17) ++ (⟨#[(10 : UInt8), (99 : UInt8), (111 : UInt8), (115 : UInt8), (116 : UInt8), (32 : UInt8)]⟩ : ByteArray)) ++ r4) ++ (⟨#[(10 : UInt8), (114 : UInt8), (117 : UInt8), (110 : UInt8), (32 : UInt8)]⟩ : ByteArray)) ++ r4) ++ (⟨#[(10 : UInt8), (109 : UInt8), (97 : UInt8), (116 : UInt8), (114 : UInt8), (105 : UInt8), (120 : UInt8), (32 : UInt8)]⟩ : ByteArray))) + (ByteArray.size r4)) ≤ 9223372036854775807) then
                   if (((ByteArray.size ((((((((⟨#[(97 : UInt8), (117 : UInt8), (116 : UInt8), (111 : UInt8), (109 : UInt8), (97 : UInt8), (116 : UInt8), (111 : UInt8), (110 : UInt8), (32 : UInt8)]⟩ : ByteArray) ++ r17) ++ (⟨#[(10 : UInt8), (99 : UInt8), (111 : UInt8), (115 : UInt8), (116 : UInt8), (32 : UInt8)]⟩ : ByteArray)) ++ r4) ++ (⟨#[(10 : UInt8), (114 : UInt8), (117 : UInt8), (110 : UInt8), (32 : UInt8)]⟩ : ByteArray)) ++ r4) ++ (⟨#[(10 : UInt8), (109 : UInt8), (97 : UInt8), (116 : UInt8), (114 : UInt8), (105 : UInt8), (120 : UInt8), (32 : UInt8)]⟩ : ByteArray)) ++ r4)) + (ByteArray.size (⟨#[(10 : UInt8), (112 : UInt8), (114 : UInt8), (101 : UInt8), (102 : UInt8), (105 : UInt8), (120 : UInt8), (101 : UInt8), (115 : UInt8), (32 : UInt8)]⟩ : ByteArray))) ≤ 9223372036854775807) then
                    if (((ByteArray.size (((((((((⟨#[(97 : UInt8), (117 : UInt8), (116 : UInt8), (111 : UInt8), (109 : UInt8), (97 : UInt8), (116 : UInt8), (111 : UInt8), (110 : UInt8), (32 : UInt8)]⟩ : ByteArray) ++ r17) ++ (⟨#[(10 : UInt8), (99 : UInt8), (111 : UInt8), (115 : UInt8), (116 : UInt8), (32 : UInt8)]⟩ : ByteArray)) ++ r4) ++ (⟨#[(10 : UInt8), (114 : UInt8), (117 : UInt8), (110 : UInt8), (32 : UInt8)]⟩ : ByteArray)) ++ r4) ++ (⟨#[(10 : UInt8), (109 : UInt8), (97 : UInt8), (116 : UInt8), (114 : UInt8), (105 : UInt8), (120 : UInt8), (32 : UInt8)]⟩ : ByteArray)) ++ r4) ++ (⟨#[(10 : UInt8), (112 : UInt8), (114 : UInt8), (101 : UInt8), (102 : UInt8), (105 : UInt8), (120 : UInt8), (101 : UInt8), (115 : UInt8), (32 : UInt8)]⟩ : ByteArray))) + (ByteArray.size r4)) ≤ 9223372036854775807) then
                     if (((ByteArray.size ((((((((((⟨#[(97 : UInt8), (117 : UInt8), (116 : UInt8), (111 : UInt8), (109 : UInt8), (97 : UInt8), (116 : UInt8), (111 : UInt8), (110 : UInt8), (32 : UInt8)]⟩ : ByteArray) ++ r17) ++ (⟨#[(10 : UInt8), (99 : UInt8), (111 : UInt8), (115 : UInt8), (116 : UInt8), (32 : UInt8)]⟩ : ByteArray)) ++ r4) ++ (⟨#[(10 : UInt8), (114 : UInt8), (117 : UInt8), (110 : UInt8), (32 : UInt8)]⟩ : ByteArray)) ++ r4) ++ (⟨#[(10 : UInt8), (109 : UInt8), (97 : UInt8), (116 : UInt8), (114 : UInt8), (105 : UInt8), (120 : UInt8), (32 : UInt8)]⟩ : ByteArray)) ++ r4) ++ (⟨#[(10 : UInt8), (112 : UInt8), (114 : UInt8), (101 : UInt8), (102 : UInt8), (105 : UInt8), (120 : UInt8), (101 : UInt8), (115 : UInt8), (32 : UInt8)]⟩ : ByteArray)) ++ r4)) + (ByteArray.size (⟨#[(10 : UInt8), (102 : UInt8), (97 : UInt8), (99 : UInt8), (116 : UInt8), (111 : UInt8), (114 : UInt8), (115 : UInt8), (32 : UInt8)]⟩ : ByteArray))) ≤ 9223372036854775807) then
                      if (((ByteArray.size (((((((((((⟨#[(97 : UInt8), (117 : UInt8), (116 : UInt8), (111 : UInt8), (109 : UInt8), (97 : UInt8), (116 : UInt8), (111 : UInt8), (110 : UInt8), (32 : UInt8)]⟩ : ByteArray) ++ r17) ++ (⟨#[(10 : UInt8), (99 : UInt8), (111 : UInt8), (115 : UInt8), (116 : UInt8), (32 : UInt8)]⟩ : ByteArray)) ++ r4) ++ (⟨#[(10 : UInt8), (114 : UInt8), (117 : UInt8), (110 : UInt8), (32 : UInt8)]⟩ : ByteArray)) ++ r4) ++ (⟨#[(10 : UInt8), (109 : UInt8), (97 : UInt8), (116 : UInt8), (114 : UInt8), (105 : UInt8), (120 : UInt8), (32 : UInt8)]⟩ : ByteArray)) ++ r4) ++ (⟨#[(10 : UInt8), (112 : UInt8), (114 : UInt8), (101 : UInt8), (102 : UInt8), (105 : UInt8), (120 : UInt8), (101 : UInt8), (115 : UInt8), (32 : UInt8)]⟩ : ByteArray)) ++ r4) ++ (⟨#[(10 : UInt8), (102 : UInt8), (97 : UInt8), (99 : UInt8), (116 : UInt8), (111 : UInt8), (114 : UInt8), (115 : UInt8), (32 : UInt8)]⟩ : ByteArray))) + (ByteArray.size r4)) ≤ 9223372036854775807) then
                       if (((ByteArray.size ((((((((((((⟨#[(97 : UInt8), (117 : UInt8), (116 : UInt8), (111 : UInt8), (109 : UInt8), (97 : UInt8), (116 : UInt8), (111 : UInt8), (110 : UInt8), (32 : UInt8)]⟩ : ByteArray) ++ r17) ++ (⟨#[(10 : UInt8), (99 : UInt8), (111 : UInt8), (115 : UInt8), (116 : UInt8), (32 : UInt8)]⟩ : ByteArray)) ++ r4) ++ (⟨#[(10 : UInt8), (114 : UInt8), (117 : UInt8), (110 : UInt8), (32 : UInt8)]⟩ : ByteArray)) ++ r4) ++ (⟨#[(10 : UInt8), (109 : UInt8), (97 : UInt8), (116 : UInt8), (114 : UInt8), (105 : UInt8), (120 : UInt8), (32 : UInt8)]⟩ : ByteArray)) ++ r4) ++ (⟨#[(10 : UInt8), (112 : UInt8), (114 : UInt8), (101 : UInt8), (102 : UInt8), (105 : UInt8), (120 : UInt8), (101 : UInt8), (115 : UInt8), (32 : UInt8)]⟩ : ByteArray)) ++ r4) ++ (⟨#[(10 : UInt8), (102 : UInt8), (97 : UInt8), (99 : UInt8), (116 : UInt8), (111 : UInt8), (114 : UInt8), (115 : UInt8), (32 : UInt8)]⟩ : ByteArray)) ++ r4)) + (ByteArray.size (⟨#[(10 : UInt8)]⟩ : ByteArray))) ≤ 9223372036854775807) then
                        Option.bind (impl_FormatAutomaton (r0, r1, r2, r3)) fun r18 =>
                         if (((ByteArray.size r18) + (ByteArray.size (⟨#[(10 : UInt8)]⟩ : ByteArray))) ≤ 9223372036854775807) then
                          Option.bind (impl_FormatCost r5) fun r19 =>
                           if (((ByteArray.size (r18 ++ (⟨#[(10 : UInt8)]⟩ : ByteArray))) + (ByteArray.size r19)) ≤ 9223372036854775807) then
                            if (((ByteArray.size ((r18 ++ (⟨#[(10 : UInt8)]⟩ : ByteArray)) ++ r19)) + (ByteArray.size (⟨#[(10 : UInt8)]⟩ : ByteArray))) ≤ 9223372036854775807) then
                             Option.bind (impl_FormatNumbers (List.take (List.length r9) (List.drop 0 r9))) fun r20 =>
                              Option.bind (laws_daLine r20 r10) fun r21 =>
                               if (((ByteArray.size (((r18 ++ (⟨#[(10 : UInt8)]⟩ : ByteArray)) ++ r19) ++ (⟨#[(10 : UInt8)]⟩ : ByteArray))) + (ByteArray.size r21)) ≤ 9223372036854775807) then
                                Option.bind (impl_FormatMatrix (r11, (List.take (List.length r12) (List.drop 0 r12)))) fun r22 =>
                                 if (((ByteArray.size ((((r18 ++ (⟨#[(10 : UInt8)]⟩ : ByteArray)) ++ r19) ++ (⟨#[(10 : UInt8)]⟩ : ByteArray)) ++ r21)) + (ByteArray.size r22)) ≤ 9223372036854775807) then
                                  if (((ByteArray.size (((((r18 ++ (⟨#[(10 : UInt8)]⟩ : ByteArray)) ++ r19) ++ (⟨#[(10 : UInt8)]⟩ : ByteArray)) ++ r21) ++ r22)) + (ByteArray.size (⟨#[(10 : UInt8)]⟩ : ByteArray))) ≤ 9223372036854775807) then
                                   Option.bind (impl_FormatCosts (List.take (List.length r14) (List.drop 0 r14))) fun r23 =>
                                    if (((ByteArray.size ((((((r18 ++ (⟨#[(10 : UInt8)]⟩ : ByteArray)) ++ r19) ++ (⟨#[(10 : UInt8)]⟩ : ByteArray)) ++ r21) ++ r22) ++ (⟨#[(10 : UInt8)]⟩ : ByteArray))) + (ByteArray.size r23)) ≤ 9223372036854775807) then
                                     if (((ByteArray.size (((((((r18 ++ (⟨#[(10 : UInt8)]⟩ : ByteArray)) ++ r19) ++ (⟨#[(10 : UInt8)]⟩ : ByteArray)) ++ r21) ++ r22) ++ (⟨#[(10 : UInt8)]⟩ : ByteArray)) ++ r23)) + (ByteArray.size (⟨#[(10 : UInt8)]⟩ : ByteArray))) ≤ 9223372036854775807) then
                                      Option.bind (impl_FormatCost r16) fun r24 =>
                                       if (((ByteArray.size ((((((((r18 ++ (⟨#[(10 : UInt8)]⟩ : ByteArray)) ++ r19) ++ (⟨#[(10 : UInt8)]⟩ : ByteArray)) ++ r21) ++ r22) ++ (⟨#[(10 : UInt8)]⟩ : ByteArray)) ++ r23) ++ (⟨#[(10 : UInt8)]⟩ : ByteArray))) + (ByteArray.size r24)) ≤ 9223372036854775807) then
                                        if (((ByteArray.size (((((((((r18 ++ (⟨#[(10 : UInt8)]⟩ : ByteArray)) ++ r19) ++ (⟨#[(10 : UInt8)]⟩ : ByteArray)) ++ r21) ++ r22) ++ (⟨#[(10 : UInt8)]⟩ : ByteArray)) ++ r23) ++ (⟨#[(10 : UInt8)]⟩ : ByteArray)) ++ r24)) + (ByteArray.size (⟨#[(10 : UInt8)]⟩ : ByteArray))) ≤ 9223372036854775807) then
                                         Option.bind (impl_RunScript (((((((((((((⟨#[(97 : UInt8), (117 : UInt8), (116 : UInt8), (111 : UInt8), (109 : UInt8), (97 : UInt8), (116 : UInt8), (111 : UInt8), (110 : UInt8), (32 : UInt8)]⟩ : ByteArray) ++ r17) ++ (⟨#[(10 : UInt8), (99 : UInt8), (111 : UInt8), (115 : UInt8), (116 : UInt8), (32 : UInt8)]⟩ : ByteArray)) ++ r4) ++ (⟨#[(10 : UInt8), (114 : UInt8), (117 : UInt8), (110 : UInt8), (32 : UInt8)]⟩ : ByteArray)) ++ r4) ++ (⟨#[(10 : UInt8), (109 : UInt8), (97 : UInt8), (116 : UInt8), (114 : UInt8), (105 : UInt8), (120 : UInt8), (32 : UInt8)]⟩ : ByteArray)) ++ r4) ++ (⟨#[(10 : UInt8), (112 : UInt8), (114 : UInt8), (101 : UInt8), (102 : UInt8), (105 : UInt8), (120 : UInt8), (101 : UInt8), (115 : UInt8), (32 : UInt8)]⟩ : ByteArray)) ++ r4) ++ (⟨#[(10 : UInt8), (102 : UInt8), (97 : UInt8), (99 : UInt8), (116 : UInt8), (111 : UInt8), (114 : UInt8), (115 : UInt8), (32 : UInt8)]⟩ : ByteArray)) ++ r4) ++ (⟨#[(10 : UInt8)]⟩ : ByteArray))) fun r25 =>
                                          some ((ByteArray.toList r25) == (ByteArray.toList ((((((((((r18 ++ (⟨#[(10 : UInt8)]⟩ : ByteArray)) ++ r19) ++ (⟨#[(10 : UInt8)]⟩ : ByteArray)) ++ r21) ++ r22) ++ (⟨#[(10 : UInt8)]⟩ : ByteArray)) ++ r23) ++ (⟨#[(10 : UInt8)]⟩ : ByteArray)) ++ r24) ++ (⟨#[(10 : UInt8)]⟩ : ByteArray))))
                                        else
                                         none
                                       else
                                        none
                                     else
                                      none
                                    else
                                     none
                                  else
                                   none
                                 else
                                  none
                               else
                                none
                            else
                             none
                           else
                            none
                         else
                          none
                       else
                        none
                      else
                       none
                     else
                      none
                    else
                     none
                   else
                    none
                  else
                   none
                 else
                  none
                else
                 none
               else
                none
              else
               none
             else
              none
            else
             none
def A3 : FnA := ⟨[.v (.sl (.int .u8))], true, [.bool], fun x => laws_FnScriptWord x.1⟩
theorem A3_ok : FnOk prog 3 A3 := fo (L := L0) (by kernel_rfl) func3 E3_ok allNil
end
end Go.Proofs.YtbndfclpclifbaaGreatDoor
