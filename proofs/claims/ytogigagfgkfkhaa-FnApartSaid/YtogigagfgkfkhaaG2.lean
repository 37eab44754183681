/- What Go functions that the laws reach compute, and that they do: written by a program of this session. -/
import Derived.Test.YtogigagfgkfkhaaG1
import Derived.KernelRfl
set_option linter.unusedVariables false
namespace Go.Proofs.Ytogigagfgkfkhaa
open Go Go.Proofs.Ytogigagfgkfkhaa.Am Go.Proofs.Try
set_option maxRecDepth 100000
noncomputable section
def E29 : Env := ev fun g => ifEq g 47 (some A47) (none)
theorem E29_ok : FnsOk prog E29 := (oF A47_ok func47 (noFns _ _))
def sh29_3 : List Fm := d :: .cell (.val .str) :: .box 100200 [.val i6, .val sI, .val sI, .val sS] :: d :: d :: .cell (.own i6 100500 false) :: D 12 (.cell (.val sI) :: .cell (.val i6) :: .cell (.val i6) :: D 60 [])
def xs29_3 : List (Ex × List Fm) := [(.exit 0, [d, .cell (.val .str), .box 100200 [.val i6, .val sI, .val sI, .val sS], d, d, .cell (.own i6 100500 false), d, d, d, d, d, d, d, d, d, d, d, d, d, d, d, d, d, d, d, d, d, d, d, d, d, d, d, d, d, d, d, d, d, d, d, d, d, d, d, d, d, d, d, d, d, d, d, d, d, d, d, d, d, d, d, d, d, d, d, d, d, d, d, d, d, d, d, d, d, d, d, d, d, d, d])]
def impl_toEnd_l3 : (ByteArray × (Int × LI × LI × LS × Unit) × LI × LI × Int × Int × Unit) → Option ((ByteArray × (Int × LI × LI × LS × Unit) × LI × LI × Int × Int × Unit) ⊕ ((ByteArray × (Int × LI × LI × LS × Unit) × LI × Unit))) := fun (v1, (v2_0, v2_1, v2_2, v2_3, _), v5, v18, v19, v20, _) =>
 bif (decide (v20 < v19)) then
  if (((0 : Int) ≤ v20) ∧ (v20 < (((List.length v18) : Nat) : Int))) then
   if (((0 : Int) ≤ (List.getD v18 (Int.toNat v20) 0)) ∧ ((List.getD v18 (Int.toNat v20) 0) < (((List.length v5) : Nat) : Int))) then
    some (Sum.inl (v1, (v2_0, v2_1, v2_2, v2_3, ()), (List.take (List.length v5) (List.drop 0 (List.set v5 (0 + (Int.toNat (List.getD v18 (Int.toNat v20) 0))) 0))), v18, v19, (IntKind.wrap .i64 (v20 + 1)), ()))
   else
    none
  else
   none
 else
  some (Sum.inr (v1, (v2_0, v2_1, v2_2, v2_3, ()), (List.take (List.length v5) (List.drop 0 v5)), ()))
theorem loop29_3 {L} (h : L 3 = some ⟨81, sh29_3, xs29_3, impl_toEnd_l3⟩) : LoopOk prog L (loopOf f29 3) := lo (L' := L0) (by kernel_rfl) E29_ok allNil h
def L29_1 : Nat → Option LoopD := fun n => ifEq n 3 (some ⟨81, sh29_3, xs29_3, impl_toEnd_l3⟩) (L0 n)
def sh29_13 : List Fm := d :: .cell (.val .str) :: .box 100200 [.val i6, .val sI, .val sI, .val sS] :: d :: d :: .cell (.val sI) :: d :: d :: .cell (.own sI 100800 false) :: .cell (.val i6) :: .cell (.own i6 101000 false) :: D 31 (.cell (.val sS) :: .cell (.val i6) :: .cell (.val i6) :: D 36 [])
def xs29_13 : List (Ex × List Fm) := [(.exit 4, [d, .cell (.val .str), .box 100200 [.val i6, .val sI, .val sI, .val sS], d, d, d, d, d, .cell (.own sI 100800 false), .cell (.val i6), .cell (.own i6 101000 false), d, d, d, d, d, d, d, d, d, d, d, d, d, d, d, d, d, d, d, d, d, d, d, d, d, d, d, d, d, d, d, d, d, d, d, d, d, d, d, d, d, d, d, d, d, d, d, d, d, d, d, d, d, d, d, d, d, d, d, d, d, d, d, d, d, d, d, d, d, d])]
def impl_toEnd_l13 : (ByteArray × (Int × LI × LI × LS × Unit) × LI × (List LI) × Int × LI × LS × Int × Int × Unit) → Option ((ByteArray × (Int × LI × LI × LS × Unit) × LI × (List LI) × Int × LI × LS × Int × Int × Unit) ⊕ ((ByteArray × (Int × LI × LI × LS × Unit) × (List LI) × Int × LI × Unit))) := fun (v1, (v2_0, v2_1, v2_2, v2_3, _), v5, v8, v9, v10, v42, v43, v44, _) =>
 bif (decide (v44 < v43)) then
  if (((0 : Int) ≤ v44) ∧ (v44 < (((List.length v42) : Nat) : Int))) then
   if (((0 : Int) ≤ v9) ∧ ((v9 ≤ (IntKind.wrap .i64 (v9 + 1))) ∧ ((IntKind.wrap .i64 (v9 + 1)) ≤ (((ByteArray.size v1) : Nat) : Int)))) then
    bif ((ByteArray.toList (List.getD v42 (Int.toNat v44) ((0 : Int), ⟨Array.empty⟩, 0, 0)).2.1) == (ByteArray.toList (ByteArray.extract v1 (Int.toNat v9) (Int.toNat (IntKind.wrap .i64 (v9 + 1)))))) then
     if (((0 : Int) ≤ (List.getD v42 (Int.toNat v44) ((0 : Int), ⟨Array.empty⟩, 0, 0)).1) ∧ ((List.getD v42 (Int.toNat v44) ((0 : Int), ⟨Array.empty⟩, 0, 0)).1 < (((List.length v10) : Nat) : Int))) then
      if (((0 : Int) ≤ (List.getD v42 (Int.toNat v44) ((0 : Int), ⟨Array.empty⟩, 0, 0)).2.2.1) ∧ ((List.getD v42 (Int.toNat v44) ((0 : Int), ⟨Array.empty⟩, 0, 0)).2.2.1 < (((List.length v5) : Nat) : Int))) then
       if (((0 : Int) ≤ (List.getD v42 (Int.toNat v44) ((0 : Int), ⟨Array.empty⟩, 0, 0)).1) ∧ ((List.getD v42 (Int.toNat v44) ((0 : Int), ⟨Array.empty⟩, 0, 0)).1 < (((List.length v10) : Nat) : Int))) then
        some (Sum.inl (v1, (v2_0, v2_1, v2_2, v2_3, ()), v5, (List.take (List.length v8) (List.drop 0 v8)), v9, (List.take (List.length v10) (List.drop 0 (List.set v10 (0 + (Int.toNat (List.getD v42 (Int.toNat v44) ((0 : Int), ⟨Array.empty⟩, 0, 0)).1)) (if ((IntKind.wrap .i64 ((List.getD v42 (Int.toNat v44) ((0 : Int), ⟨Array.empty⟩, 0, 0)).2.2.2 + (List.getD v5 (Int.toNat (List.getD v42 (Int.toNat v44) ((0 : Int), ⟨Array.empty⟩, 0, 0)).2.2.1) 0))) < (List.getD v10 (0 + (Int.toNat (List.getD v42 (Int.toNat v44) ((0 : Int), ⟨Array.empty⟩, 0, 0)).1)) 0)) then (IntKind.wrap .i64 ((List.getD v42 (Int.toNat v44) ((0 : Int), ⟨Array.empty⟩, 0, 0)).2.2.2 + (List.getD v5 (Int.toNat (List.getD v42 (Int.toNat v44) ((0 : Int), ⟨Array.empty⟩, 0, 0)).2.2.1) 0))) else (List.getD v10 (0 + (Int.toNat (List.getD v42 (Int.toNat v44) ((0 : Int), ⟨Array.empty⟩, 0, 0)).1)) 0))))), v42, v43, (IntKind.wrap .i64 (v44 + 1)), ()))
       else
        none
      else
       none
     else
      none
    else
     some (Sum.inl (v1, (v2_0, v2_1, v2_2, v2_3, ()), v5, (List.take (List.length v8) (List.drop 0 v8)), v9, (List.take (List.length v10) (List.drop 0 v10)), v42, v43, (IntKind.wrap .i64 (v44 + 1)), ()))
   else
    none
  else
   none
 else
  some (Sum.inr (v1, (v2_0, v2_1, v2_2, v2_3, ()), (List.take (List.length v8) (List.drop 0 v8)), v9, (List.take (List.length v10) (List.drop 0 v10)), ()))
theorem loop29_13 {L} (h : L 13 = some ⟨81, sh29_13, xs29_13, impl_toEnd_l13⟩) : LoopOk prog L (loopOf f29 13) := lo (L' := L29_1) (by kernel_rfl) E29_ok allNil h
def L29_2 : Nat → Option LoopD := fun n => ifEq n 13 (some ⟨81, sh29_13, xs29_13, impl_toEnd_l13⟩) (L29_1 n)
def sh29_9 : List Fm := d :: .cell (.val .str) :: .box 100200 [.val i6, .val sI, .val sI, .val sS] :: d :: d :: .cell (.val sI) :: d :: d :: .cell (.own sI 100800 false) :: .cell (.val i6) :: D 71 []
def xs29_9 : List (Ex × List Fm) := [(.exit 2, (D 8 (.cell (.own sI 100800 false) :: D 72 [])))]
def impl_toEnd_l9 : (ByteArray × (Int × LI × LI × LS × Unit) × LI × (List LI) × Int × Unit) → Option ((ByteArray × (Int × LI × LI × LS × Unit) × LI × (List LI) × Int × Unit) ⊕ (((List LI) × Unit))) := fun (v1, (v2_0, v2_1, v2_2, v2_3, _), v5, v8, v9, _) =>
 bif (decide (v9 ≥ 0)) then
  Option.bind (slices_Repeat (List.take 1 (List.drop 0 [(1000000 : Int)])) v2_0) fun r0 =>
   Option.bind (loopF impl_toEnd_l13 (v1, (v2_0, v2_1, v2_2, v2_3, ()), v5, (List.take (List.length v8) (List.drop 0 v8)), v9, (List.take (List.length r0) (List.drop 0 r0)), v2_3, (((List.length v2_3) : Nat) : Int), 0, ())) fun (r1, (r2, r3, r4, r5, _), r6, r7, r8, _) =>
    if (((0 + (List.length r6)) = (List.length r6)) ∧ ((((List.length r6) + (List.length (List.take 1 (List.drop 0 [(List.take (List.length r8) (List.drop 0 r8))])))) * 24) ≤ 140737488355328)) then
     some (Sum.inl (r1, (r2, r3, r4, r5, ()), (List.take (List.length r8) (List.drop 0 r8)), (List.take ((List.length r6) + (List.length (List.take 1 (List.drop 0 [(List.take (List.length r8) (List.drop 0 r8))])))) (List.drop 0 ((List.drop 0 r6) ++ (List.take 1 (List.drop 0 [(List.take (List.length r8) (List.drop 0 r8))]))))), (IntKind.wrap .i64 (r7 - 1)), ()))
    else
     none
 else
  some (Sum.inr ((List.take (List.length v8) (List.drop 0 v8)), ()))
theorem loop29_9 {L} (h : L 9 = some ⟨81, sh29_9, xs29_9, impl_toEnd_l9⟩) : LoopOk prog L (loopOf f29 9) := lo (L' := L29_2) (by kernel_rfl) E29_ok (allCons (loop29_13 rfl) allNil) h
def L29_3 : Nat → Option LoopD := fun n => ifEq n 9 (some ⟨81, sh29_9, xs29_9, impl_toEnd_l9⟩) (L29_2 n)
def impl_toEnd : TA → ByteArray → Option ((List LI)) := fun (a0_0, a0_1, a0_2, a0_3) a1 =>
 Option.bind (slices_Repeat (List.take 1 (List.drop 0 [(1000000 : Int)])) a0_0) fun r0 =>
  Option.bind (loopF impl_toEnd_l3 (a1, (a0_0, a0_1, a0_2, a0_3, ()), (List.take (List.length r0) (List.drop 0 r0)), a0_2, (((List.length a0_2) : Nat) : Int), 0, ())) fun (r1, (r2, r3, r4, r5, _), r6, _) =>
   Option.bind (loopF impl_toEnd_l9 (r1, (r2, r3, r4, r5, ()), (List.take (List.length r6) (List.drop 0 r6)), (List.take 1 (List.drop 0 [(List.take (List.length r6) (List.drop 0 r6))])), (IntKind.wrap .i64 ((((ByteArray.size r1) : Nat) : Int) - 1)), ())) fun (r7, _) =>
    some (List.take (List.length r7) (List.drop 0 r7))
def A29 : FnA := ⟨[.v kA, .v .str], true, [.sl sI], fun x => impl_toEnd x.1 x.2.1⟩
theorem A29_ok : FnOk prog 29 A29 := fo (L := L29_3) (by kernel_rfl) func29 E29_ok (allCons (loop29_3 rfl) (allCons (loop29_9 rfl) allNil))
def E13 : Env := ev fun g => ifEq g 9 (some A9) (ifEq g 28 (some A28) (ifEq g 29 (some A29) (none)))
theorem E13_ok : FnsOk prog E13 := (oF A9_ok func9 (oF A28_ok func28 (oF A29_ok func29 (noFns _ _))))
def sh13_6 : List Fm := d :: .cell (.val .str) :: d :: d :: d :: .cell (.own sI 100500 false) :: .cell (.val i6) :: D 14 (.cell (.val sI) :: .cell (.val i6) :: .cell (.val i6) :: D 15 [])
def xs13_6 : List (Ex × List Fm) := [(.exit 0, (D 6 (.cell (.val i6) :: D 32 [])))]
def impl_CostOf_l6 : (ByteArray × (List LI) × Int × LI × Int × Int × Unit) → Option ((ByteArray × (List LI) × Int × LI × Int × Int × Unit) ⊕ ((Int × Unit))) := fun (v1, v5, v6, v21, v22, v23, _) =>
 bif (decide (v23 < v22)) then
  if (((0 : Int) ≤ v23) ∧ (v23 < (((List.length v21) : Nat) : Int))) then
   if (((0 : Int) ≤ (((ByteArray.size v1) : Nat) : Int)) ∧ ((((ByteArray.size v1) : Nat) : Int) < (((List.length v5) : Nat) : Int))) then
    if (((0 : Int) ≤ (List.getD v21 (Int.toNat v23) 0)) ∧ ((List.getD v21 (Int.toNat v23) 0) < (((List.length (List.getD v5 (0 + (Int.toNat (((ByteArray.size v1) : Nat) : Int))) [])) : Nat) : Int))) then
     some (Sum.inl (v1, (List.take (List.length v5) (List.drop 0 v5)), (if ((List.getD (List.getD v5 (0 + (Int.toNat (((ByteArray.size v1) : Nat) : Int))) []) (Int.toNat (List.getD v21 (Int.toNat v23) 0)) 0) < v6) then (List.getD (List.getD v5 (0 + (Int.toNat (((ByteArray.size v1) : Nat) : Int))) []) (Int.toNat (List.getD v21 (Int.toNat v23) 0)) 0) else v6), v21, v22, (IntKind.wrap .i64 (v23 + 1)), ()))
    else
     none
   else
    none
  else
   none
 else
  some (Sum.inr (v6, ()))
theorem loop13_6 {L} (h : L 6 = some ⟨39, sh13_6, xs13_6, impl_CostOf_l6⟩) : LoopOk prog L (loopOf f13 6) := lo (L' := L0) (by kernel_rfl) E13_ok allNil h
def L13_1 : Nat → Option LoopD := fun n => ifEq n 6 (some ⟨39, sh13_6, xs13_6, impl_CostOf_l6⟩) (L0 n)
def impl_CostOf : TA → ByteArray → Option (Int) := fun (a0_0, a0_1, a0_2, a0_3) a1 =>
 Option.bind (impl_AutomatonValid (a0_0, a0_1, a0_2, a0_3)) fun r0 =>
  bif (!r0) then
   some (-1)
  else
   Option.bind (impl_WordValid a1) fun r1 =>
    bif (!r1) then
     some (-1)
    else
     Option.bind (impl_toEnd (a0_0, a0_1, a0_2, a0_3) a1) fun r2 =>
      Option.bind (loopF impl_CostOf_l6 (a1, (List.take (List.length r2) (List.drop 0 r2)), 1000000, a0_1, (((List.length a0_1) : Nat) : Int), 0, ())) fun (r3, _) =>
       some r3
def A13 : FnA := ⟨[.v kA, .v .str], true, [.int .i64], fun x => impl_CostOf x.1 x.2.1⟩
theorem A13_ok : FnOk prog 13 A13 := fo (L := L13_1) (by kernel_rfl) func13 E13_ok (allCons (loop13_6 rfl) allNil)
def E5 : Env := ev fun g => ifEq g 12 (some A12) (ifEq g 13 (some A13) (none))
theorem E5_ok : FnsOk prog E5 := (oF A12_ok func12 (oF A13_ok func13 (noFns _ _)))
def sh5_3 : List Fm := d :: d :: d :: .box 100300 [.val i6, .val sI, .val sI, .val sS] :: .box 100400 [.val i6, .val sI, .val sI, .val sS] :: d :: d :: d :: .cell (.val .bool) :: D 10 (.cell (.val (.sl .str)) :: .cell (.val i6) :: .cell (.val i6) :: D 18 [])
def xs5_3 : List (Ex × List Fm) := [(.ret, (D 6 (.cell (.val .bool) :: D 33 []))), (.exit 0, (D 8 (.cell (.val .bool) :: D 31 [])))]
def impl_AreApart_l3 : ((Int × LI × LI × LS × Unit) × (Int × LI × LI × LS × Unit) × Bool × (List ByteArray) × Int × Int × Unit) → Option (((Int × LI × LI × LS × Unit) × (Int × LI × LI × LS × Unit) × Bool × (List ByteArray) × Int × Int × Unit) ⊕ ((Bool × Unit) ⊕ (Bool × Unit))) := fun ((v3_0, v3_1, v3_2, v3_3, _), (v4_0, v4_1, v4_2, v4_3, _), v8, v19, v20, v21, _) =>
 bif (decide (v21 < v20)) then
  if (((0 : Int) ≤ v21) ∧ (v21 < (((List.length v19) : Nat) : Int))) then
   bif v8 then
    Option.bind (impl_CostOf (v3_0, v3_1, v3_2, v3_3) (List.getD v19 (Int.toNat v21) ⟨Array.empty⟩)) fun r0 =>
     bif (decide (r0 < 1000000)) then
      Option.bind (impl_CostOf (v4_0, v4_1, v4_2, v4_3) (List.getD v19 (Int.toNat v21) ⟨Array.empty⟩)) fun r1 =>
       bif (decide (r1 < 1000000)) then
        some (Sum.inr (Sum.inl (false, ())))
       else
        some (Sum.inl ((v3_0, v3_1, v3_2, v3_3, ()), (v4_0, v4_1, v4_2, v4_3, ()), v8, v19, v20, (IntKind.wrap .i64 (v21 + 1)), ()))
     else
      some (Sum.inl ((v3_0, v3_1, v3_2, v3_3, ()), (v4_0, v4_1, v4_2, v4_3, ()), v8, v19, v20, (IntKind.wrap .i64 (v21 + 1)), ()))
   else
    some (Sum.inl ((v3_0, v3_1, v3_2, v3_3, ()), (v4_0, v4_1, v4_2, v4_3, ()), v8, v19, v20, (IntKind.wrap .i64 (v21 + 1)), ()))
  else
   none
 else
  some (Sum.inr (Sum.inr (v8, ())))
theorem loop5_3 {L} (h : L 3 = some ⟨40, sh5_3, xs5_3, impl_AreApart_l3⟩) : LoopOk prog L (loopOf f5 3) := lo (L' := L0) (by kernel_rfl) E5_ok allNil h
def L5_1 : Nat → Option LoopD := fun n => ifEq n 3 (some ⟨40, sh5_3, xs5_3, impl_AreApart_l3⟩) (L0 n)
def impl_AreApart : TA → TA → Int → Option (Bool) := fun (a0_0, a0_1, a0_2, a0_3) (a1_0, a1_1, a1_2, a1_3) a2 =>
 Option.bind (impl_short a2 (List.take 2 (List.drop 0 [(a0_0, a0_1, a0_2, a0_3), (a1_0, a1_1, a1_2, a1_3)]))) fun (r0, r1) =>
  Option.bind (loopF impl_AreApart_l3 ((a0_0, a0_1, a0_2, a0_3, ()), (a1_0, a1_1, a1_2, a1_3, ()), r1, r0, (((List.length r0) : Nat) : Int), 0, ())) fun r2 =>
   (match r2 with
   | .inl (d3, _) =>
     some d3
   | .inr (d4, _) =>
     some d4)
def A5 : FnA := ⟨[.v kA, .v kA, .v i6], true, [.bool], fun x => impl_AreApart x.1 x.2.1 x.2.2.1⟩
theorem A5_ok : FnOk prog 5 A5 := fo (L := L5_1) (by kernel_rfl) func5 E5_ok (allCons (loop5_3 rfl) allNil)
def E14 : Env := ev fun g => ifEq g 30 (some A30) (ifEq g 31 (some A31) (none))
theorem E14_ok : FnsOk prog E14 := (oF A30_ok func30 (oF A31_ok func31 (noFns _ _)))
def spec_l11Short : TA → Int → Option (Bool) := fun (a0_0, a0_1, a0_2, a0_3) a1 =>
 Option.bind (spec_AutomatonValid (a0_0, a0_1, a0_2, a0_3)) fun r0 =>
  bif r0 then
   Option.bind (spec_l1In a1 0 7) fun r1 =>
    some r1
  else
   some false
def A14 : FnA := ⟨[.v kA, .v i6], true, [.bool], fun x => spec_l11Short x.1 x.2.1⟩
theorem A14_ok : FnOk prog 14 A14 := fo (L := L0) (by kernel_rfl) func14 E14_ok allNil
def sh15_7 : List Fm := d :: d :: d :: .cell (.own .str 100300 true) :: d :: .cell (.val i6) :: d :: d :: d :: .cell (.val i6) :: .cell (.val i6) :: D 6 (.cell (.val (.sl .str)) :: .cell (.val i6) :: .cell (.val i6) :: D 14 [])
def xs15_7 : List (Ex × List Fm) := [(.exit 2, (d :: d :: d :: .cell (.own .str 100300 true) :: d :: .cell (.val i6) :: d :: d :: d :: .cell (.val i6) :: .cell (.val i6) :: D 23 []))]
def spec_l4Words_l7 : ((List ByteArray) × Int × Int × Int × (List ByteArray) × Int × Int × Unit) → Option (((List ByteArray) × Int × Int × Int × (List ByteArray) × Int × Int × Unit) ⊕ (((List ByteArray) × Int × Int × Int × Unit))) := fun (v3, v5, v9, v10, v17, v18, v19, _) =>
 bif (decide (v19 < v18)) then
  if (((0 : Int) ≤ v19) ∧ (v19 < (((List.length v17) : Nat) : Int))) then
   if (((ByteArray.size (List.getD v17 (Int.toNat v19) ⟨Array.empty⟩)) + (ByteArray.size (⟨#[(97 : UInt8)]⟩ : ByteArray))) ≤ 9223372036854775807) then
    if (((ByteArray.size (List.getD v17 (Int.toNat v19) ⟨Array.empty⟩)) + (ByteArray.size (⟨#[(98 : UInt8)]⟩ : ByteArray))) ≤ 9223372036854775807) then
     if (((0 + (List.length v3)) = (List.length v3)) ∧ ((((List.length v3) + (List.length (List.take 2 (List.drop 0 [((List.getD v17 (Int.toNat v19) (⟨Array.empty⟩ : ByteArray)) ++ (⟨#[(97 : UInt8)]⟩ : ByteArray)), ((List.getD v17 (Int.toNat v19) (⟨Array.empty⟩ : ByteArray)) ++ (⟨#[(98 : UInt8)]⟩ : ByteArray))])))) * 16) ≤ 140737488355328)) then
      if ((0 + ((List.length v3) + (List.length (List.take 2 (List.drop 0 [((List.getD v17 (Int.toNat v19) (⟨Array.empty⟩ : ByteArray)) ++ (⟨#[(97 : UInt8)]⟩ : ByteArray)), ((List.getD v17 (Int.toNat v19) (⟨Array.empty⟩ : ByteArray)) ++ (⟨#[(98 : UInt8)]⟩ : ByteArray))]))))) = (List.length ((List.drop 0 v3) ++ (List.take 2 (List.drop 0 [((List.getD v17 (Int.toNat v19) (⟨Array.empty⟩ : ByteArray)) ++ (⟨#[(97 : UInt8)]⟩ : ByteArray)), ((List.getD v17 (Int.toNat v19) (⟨Array.empty⟩ : ByteArray)) ++ (⟨#[(98 : UInt8)]⟩ : ByteArray))]))))) then
       some (Sum.inl ((List.drop 0 ((List.drop 0 v3) ++ (List.take 2 (List.drop 0 [((List.getD v17 (Int.toNat v19) (⟨Array.empty⟩ : ByteArray)) ++ (⟨#[(97 : UInt8)]⟩ : ByteArray)), ((List.getD v17 (Int.toNat v19) (⟨Array.empty⟩ : ByteArray)) ++ (⟨#[(98 : UInt8)]⟩ : ByteArray))])))), v5, v9, v10, v17, v18, (IntKind.wrap .i64 (v19 + 1)), ()))
      else
       none
     else
      none
    else
     none
   else
    none
  else
   none
 else
  if ((0 + (List.length v3)) = (List.length v3)) then
   some (Sum.inr ((List.drop 0 v3), v5, v9, v10, ()))
  else
   none
theorem loop15_7 {L} (h : L 7 = some ⟨34, sh15_7, xs15_7, spec_l4Words_l7⟩) : LoopOk prog L (loopOf f15 7) := lo (L' := L0) (by kernel_rfl) E0_ok allNil h
def L15_1 : Nat → Option LoopD := fun n => ifEq n 7 (some ⟨34, sh15_7, xs15_7, spec_l4Words_l7⟩) (L0 n)
def sh15_4 : List Fm := d :: d :: d :: .cell (.own .str 100300 true) :: .cell (.val i6) :: D 4 (.cell (.val i6) :: .cell (.val i6) :: D 23 [])
def xs15_4 : List (Ex × List Fm) := [(.exit 0, (d :: d :: d :: .cell (.val (.sl .str)) :: D 30 []))]
def spec_l4Words_l4 : ((List ByteArray) × Int × Int × Int × Unit) → Option (((List ByteArray) × Int × Int × Int × Unit) ⊕ (((List ByteArray) × Unit))) := fun (v3, v4, v9, v10, _) =>
 bif (decide (v10 < v9)) then
  if (((0 : Int) ≤ v4) ∧ ((v4 ≤ (((List.length v3) : Nat) : Int)) ∧ ((((List.length v3) : Nat) : Int) ≤ (((List.length v3) : Nat) : Int)))) then
   if ((0 + (List.length v3)) = (List.length v3)) then
    Option.bind (loopF spec_l4Words_l7 ((List.drop 0 v3), (((List.length v3) : Nat) : Int), v9, v10, (List.take ((Int.toNat (((List.length v3) : Nat) : Int)) - (Int.toNat v4)) (List.drop (0 + (Int.toNat v4)) v3)), ((((Int.toNat (((List.length v3) : Nat) : Int)) - (Int.toNat v4)) : Nat) : Int), 0, ())) fun (r0, r1, r2, r3, _) =>
     if ((0 + (List.length r0)) = (List.length r0)) then
      some (Sum.inl ((List.drop 0 r0), r1, r2, (IntKind.wrap .i64 (r3 + 1)), ()))
     else
      none
   else
    none
  else
   none
 else
  some (Sum.inr ((List.take (List.length v3) (List.drop 0 v3)), ()))
theorem loop15_4 {L} (h : L 4 = some ⟨34, sh15_4, xs15_4, spec_l4Words_l4⟩) : LoopOk prog L (loopOf f15 4) := lo (L' := L15_1) (by kernel_rfl) E0_ok (allCons (loop15_7 rfl) allNil) h
def L15_2 : Nat → Option LoopD := fun n => ifEq n 4 (some ⟨34, sh15_4, xs15_4, spec_l4Words_l4⟩) (L15_1 n)
def spec_l4Words : Int → Option ((List ByteArray)) := fun a0 =>
 if ((0 + 1) = (List.length [(⟨#[]⟩ : ByteArray)])) then
  Option.bind (loopF spec_l4Words_l4 ((List.drop 0 [(⟨#[]⟩ : ByteArray)]), 0, a0, 0, ())) fun (r0, _) =>
   some r0
 else
  none
def A15 : FnA := ⟨[.v i6], false, [.sl .str], fun x => spec_l4Words x.1⟩
theorem A15_ok : FnOk prog 15 A15 := fo (L := L15_2) (by kernel_rfl) func15 E0_ok (allCons (loop15_4 rfl) allNil)
def sh51_3 : List Fm := .cell (.val i6) :: d :: .box 100200 [.val i6, .own i6 100202 false] :: .box 100300 [.val i6, .own i6 100302 false] :: D 5 (.cell (.val i6) :: .cell (.val i6) :: D 21 [])
def xs51_3 : List (Ex × List Fm) := [(.exit 0, [d, d, .box 100200 [.val i6, .own i6 100202 false], .box 100300 [.val i6, .own i6 100302 false], d, d, d, d, d, d, d, d, d, d, d, d, d, d, d, d, d, d, d, d, d, d, d, d, d, d, d, d])]
def spec_l2Unit_l3 : (Int × (Int × LI × Unit) × (Int × LI × Unit) × Int × Int × Unit) → Option ((Int × (Int × LI × Unit) × (Int × LI × Unit) × Int × Int × Unit) ⊕ (((Int × LI × Unit) × (Int × LI × Unit) × Unit))) := fun (v0, (v2_0, v2_1, _), (v3_0, v3_1, _), v9, v10, _) =>
 bif (decide (v10 < v9)) then
  if (v0 = 0) then
   none
  else
   if (v0 = 0) then
    none
   else
    bif ((IntKind.wrap .i64 (Int.tdiv v10 v0)) == (Int.tmod v10 v0)) then
     if (((0 + (List.length v3_1)) = (List.length v3_1)) ∧ ((((List.length v3_1) + (List.length (List.take 1 (List.drop 0 [(0 : Int)])))) * 8) ≤ 140737488355328)) then
      some (Sum.inl (v0, (v2_0, (List.take (List.length v2_1) (List.drop 0 v2_1)), ()), (v3_0, (List.take ((List.length v3_1) + (List.length (List.take 1 (List.drop 0 [(0 : Int)])))) (List.drop 0 ((List.drop 0 v3_1) ++ (List.take 1 (List.drop 0 [(0 : Int)]))))), ()), v9, (IntKind.wrap .i64 (v10 + 1)), ()))
     else
      none
    else
     if (((0 + (List.length v3_1)) = (List.length v3_1)) ∧ ((((List.length v3_1) + (List.length (List.take 1 (List.drop 0 [(1000000 : Int)])))) * 8) ≤ 140737488355328)) then
      some (Sum.inl (v0, (v2_0, (List.take (List.length v2_1) (List.drop 0 v2_1)), ()), (v3_0, (List.take ((List.length v3_1) + (List.length (List.take 1 (List.drop 0 [(1000000 : Int)])))) (List.drop 0 ((List.drop 0 v3_1) ++ (List.take 1 (List.drop 0 [(1000000 : Int)]))))), ()), v9, (IntKind.wrap .i64 (v10 + 1)), ()))
     else
      none
 else
  some (Sum.inr ((v2_0, (List.take (List.length v2_1) (List.drop 0 v2_1)), ()), (v3_0, (List.take (List.length v3_1) (List.drop 0 v3_1)), ()), ()))
theorem loop51_3 {L} (h : L 3 = some ⟨32, sh51_3, xs51_3, spec_l2Unit_l3⟩) : LoopOk prog L (loopOf f51 3) := lo (L' := L0) (by kernel_rfl) E0_ok allNil h
def L51_1 : Nat → Option LoopD := fun n => ifEq n 3 (some ⟨32, sh51_3, xs51_3, spec_l2Unit_l3⟩) (L0 n)
def spec_l2Unit : Int → Option (TM) := fun a0 =>
 Option.bind (loopF spec_l2Unit_l3 (a0, ((0 : Int), [], ()), (a0, [], ()), (IntKind.wrap .i64 (a0 * a0)), 0, ())) fun ((r0, r1, _), (r2, r3, _), _) =>
  some (r2, (List.take (List.length r3) (List.drop 0 r3)))
def A51 : FnA := ⟨[.v i6], true, [.pair i6 sI], fun x => spec_l2Unit x.1⟩
theorem A51_ok : FnOk prog 51 A51 := fo (L := L51_1) (by kernel_rfl) func51 E0_ok (allCons (loop51_3 rfl) allNil)
def sh52_3 : List Fm := d :: .cell (.val .str) :: .box 100200 [.val i6, .val sI, .val sI, .val sS] :: d :: .box 100400 [.val i6, .own i6 100402 false] :: .box 100500 [.val i6, .own i6 100502 false] :: D 9 (.cell (.val i6) :: .cell (.val i6) :: D 33 [])
def xs52_3 : List (Ex × List Fm) := [(.exit 0, [d, .cell (.val .str), .box 100200 [.val i6, .val sI, .val sI, .val sS], d, .box 100400 [.val i6, .own i6 100402 false], .box 100500 [.val i6, .own i6 100502 false], d, d, d, d, d, d, d, d, d, d, d, d, d, d, d, d, d, d, d, d, d, d, d, d, d, d, d, d, d, d, d, d, d, d, d, d, d, d, d, d, d, d, d, d])]
def spec_l3Matrix_l3 : (ByteArray × (Int × LI × LI × LS × Unit) × (Int × LI × Unit) × (Int × LI × Unit) × Int × Int × Unit) → Option ((ByteArray × (Int × LI × LI × LS × Unit) × (Int × LI × Unit) × (Int × LI × Unit) × Int × Int × Unit) ⊕ ((ByteArray × (Int × LI × LI × LS × Unit) × (Int × LI × Unit) × (Int × LI × Unit) × Unit))) := fun (v1, (v2_0, v2_1, v2_2, v2_3, _), (v4_0, v4_1, _), (v5_0, v5_1, _), v15, v16, _) =>
 bif (decide (v16 < v15)) then
  if (((0 + (List.length v5_1)) = (List.length v5_1)) ∧ ((((List.length v5_1) + (List.length (List.take 1 (List.drop 0 [(1000000 : Int)])))) * 8) ≤ 140737488355328)) then
   some (Sum.inl (v1, (v2_0, v2_1, v2_2, v2_3, ()), (v4_0, (List.take (List.length v4_1) (List.drop 0 v4_1)), ()), (v5_0, (List.take ((List.length v5_1) + (List.length (List.take 1 (List.drop 0 [(1000000 : Int)])))) (List.drop 0 ((List.drop 0 v5_1) ++ (List.take 1 (List.drop 0 [(1000000 : Int)]))))), ()), v15, (IntKind.wrap .i64 (v16 + 1)), ()))
  else
   none
 else
  some (Sum.inr (v1, (v2_0, v2_1, v2_2, v2_3, ()), (v4_0, (List.take (List.length v4_1) (List.drop 0 v4_1)), ()), (v5_0, (List.take (List.length v5_1) (List.drop 0 v5_1)), ()), ()))
theorem loop52_3 {L} (h : L 3 = some ⟨50, sh52_3, xs52_3, spec_l3Matrix_l3⟩) : LoopOk prog L (loopOf f52 3) := lo (L' := L0) (by kernel_rfl) E0_ok allNil h
def L52_1 : Nat → Option LoopD := fun n => ifEq n 3 (some ⟨50, sh52_3, xs52_3, spec_l3Matrix_l3⟩) (L0 n)
def sh52_7 : List Fm := d :: .cell (.val .str) :: .box 100200 [.val i6, .val sI, .val sI, .val sS] :: d :: .box 100400 [.val i6, .own i6 100402 false] :: .box 100500 [.val i6, .own i6 100502 false] :: D 19 (.cell (.val sS) :: .cell (.val i6) :: .cell (.val i6) :: D 22 [])
def xs52_7 : List (Ex × List Fm) := [(.exit 2, [d, d, d, d, .box 100400 [.val i6, .own i6 100402 false], .box 100500 [.val i6, .own i6 100502 false], d, d, d, d, d, d, d, d, d, d, d, d, d, d, d, d, d, d, d, d, d, d, d, d, d, d, d, d, d, d, d, d, d, d, d, d, d, d, d, d, d, d, d, d])]
def spec_l3Matrix_l7 : (ByteArray × (Int × LI × LI × LS × Unit) × (Int × LI × Unit) × (Int × LI × Unit) × LS × Int × Int × Unit) → Option ((ByteArray × (Int × LI × LI × LS × Unit) × (Int × LI × Unit) × (Int × LI × Unit) × LS × Int × Int × Unit) ⊕ (((Int × LI × Unit) × (Int × LI × Unit) × Unit))) := fun (v1, (v2_0, v2_1, v2_2, v2_3, _), (v4_0, v4_1, _), (v5_0, v5_1, _), v25, v26, v27, _) =>
 bif (decide (v27 < v26)) then
  if (((0 : Int) ≤ v27) ∧ (v27 < (((List.length v25) : Nat) : Int))) then
   bif ((ByteArray.toList (List.getD v25 (Int.toNat v27) ((0 : Int), ⟨Array.empty⟩, 0, 0)).2.1) == (ByteArray.toList v1)) then
    if (((0 : Int) ≤ (IntKind.wrap .i64 ((IntKind.wrap .i64 ((List.getD v25 (Int.toNat v27) ((0 : Int), ⟨Array.empty⟩, 0, 0)).1 * v2_0)) + (List.getD v25 (Int.toNat v27) ((0 : Int), ⟨Array.empty⟩, 0, 0)).2.2.1))) ∧ ((IntKind.wrap .i64 ((IntKind.wrap .i64 ((List.getD v25 (Int.toNat v27) ((0 : Int), ⟨Array.empty⟩, 0, 0)).1 * v2_0)) + (List.getD v25 (Int.toNat v27) ((0 : Int), ⟨Array.empty⟩, 0, 0)).2.2.1)) < (((List.length v5_1) : Nat) : Int))) then
     some (Sum.inl (v1, (v2_0, v2_1, v2_2, v2_3, ()), (v4_0, (List.take (List.length v4_1) (List.drop 0 v4_1)), ()), (v5_0, (List.take (List.length v5_1) (List.drop 0 (List.set v5_1 (0 + (Int.toNat (IntKind.wrap .i64 ((IntKind.wrap .i64 ((List.getD v25 (Int.toNat v27) ((0 : Int), ⟨Array.empty⟩, 0, 0)).1 * v2_0)) + (List.getD v25 (Int.toNat v27) ((0 : Int), ⟨Array.empty⟩, 0, 0)).2.2.1)))) (List.getD v25 (Int.toNat v27) ((0 : Int), ⟨Array.empty⟩, 0, 0)).2.2.2))), ()), v25, v26, (IntKind.wrap .i64 (v27 + 1)), ()))
    else
     none
   else
    some (Sum.inl (v1, (v2_0, v2_1, v2_2, v2_3, ()), (v4_0, (List.take (List.length v4_1) (List.drop 0 v4_1)), ()), (v5_0, (List.take (List.length v5_1) (List.drop 0 v5_1)), ()), v25, v26, (IntKind.wrap .i64 (v27 + 1)), ()))
  else
   none
 else
  some (Sum.inr ((v4_0, (List.take (List.length v4_1) (List.drop 0 v4_1)), ()), (v5_0, (List.take (List.length v5_1) (List.drop 0 v5_1)), ()), ()))
theorem loop52_7 {L} (h : L 7 = some ⟨50, sh52_7, xs52_7, spec_l3Matrix_l7⟩) : LoopOk prog L (loopOf f52 7) := lo (L' := L52_1) (by kernel_rfl) E0_ok allNil h
def L52_2 : Nat → Option LoopD := fun n => ifEq n 7 (some ⟨50, sh52_7, xs52_7, spec_l3Matrix_l7⟩) (L52_1 n)
def spec_l3Matrix : TA → ByteArray → Option (TM) := fun (a0_0, a0_1, a0_2, a0_3) a1 =>
 Option.bind (loopF spec_l3Matrix_l3 (a1, (a0_0, a0_1, a0_2, a0_3, ()), ((0 : Int), [], ()), (a0_0, [], ()), (IntKind.wrap .i64 (a0_0 * a0_0)), 0, ())) fun (r0, (r1, r2, r3, r4, _), (r5, r6, _), (r7, r8, _), _) =>
  Option.bind (loopF spec_l3Matrix_l7 (r0, (r1, r2, r3, r4, ()), (r5, (List.take (List.length r6) (List.drop 0 r6)), ()), (r7, (List.take (List.length r8) (List.drop 0 r8)), ()), r4, (((List.length r4) : Nat) : Int), 0, ())) fun ((r9, r10, _), (r11, r12, _), _) =>
   some (r11, (List.take (List.length r12) (List.drop 0 r12)))
def A52 : FnA := ⟨[.v kA, .v .str], true, [.pair i6 sI], fun x => spec_l3Matrix x.1 x.2.1⟩
theorem A52_ok : FnOk prog 52 A52 := fo (L := L52_2) (by kernel_rfl) func52 E0_ok (allCons (loop52_3 rfl) (allCons (loop52_7 rfl) allNil))
def spec_l1Add : Int → Int → Option (Int) := fun a0 a1 =>
 some (if ((1000000 : Int) < (IntKind.wrap .i64 (a0 + a1))) then 1000000 else (IntKind.wrap .i64 (a0 + a1)))
def A65 : FnA := ⟨[.v i6, .v i6], true, [.int .i64], fun x => spec_l1Add x.1 x.2.1⟩
theorem A65_ok : FnOk prog 65 A65 := fo (L := L0) (by kernel_rfl) func65 E0_ok allNil
def E53 : Env := ev fun g => ifEq g 65 (some A65) (none)
theorem E53_ok : FnsOk prog E53 := (oF A65_ok func65 (noFns _ _))
def sh53_8 : List Fm := d :: d :: .box 100200 [.val i6, .val sI] :: .box 100300 [.val i6, .val sI] :: .box 100400 [.val i6, .own i6 100402 false] :: .box 100500 [.val i6, .own i6 100502 false] :: d :: .cell (.val i6) :: .cell (.val i6) :: .cell (.val i6) :: D 8 (.cell (.val i6) :: .cell (.val i6) :: D 11 (.cell (.val i6) :: .cell (.val i6) :: D 34 []))
def xs53_8 : List (Ex × List Fm) := [(.exit 2, [d, d, .box 100200 [.val i6, .val sI], .box 100300 [.val i6, .val sI], .box 100400 [.val i6, .own i6 100402 false], .box 100500 [.val i6, .own i6 100502 false], d, d, d, .cell (.val i6), d, d, d, d, d, d, d, d, .cell (.val i6), .cell (.val i6), d, d, d, d, d, d, d, d, d, d, d, d, d, d, d, d, d, d, d, d, d, d, d, d, d, d, d, d, d, d, d, d, d, d, d, d, d, d, d, d, d, d, d, d, d, d, d])]
def spec_l2Mul_l8 : ((Int × LI × Unit) × (Int × LI × Unit) × (Int × LI × Unit) × (Int × LI × Unit) × Int × Int × Int × Int × Int × Int × Int × Unit) → Option (((Int × LI × Unit) × (Int × LI × Unit) × (Int × LI × Unit) × (Int × LI × Unit) × Int × Int × Int × Int × Int × Int × Int × Unit) ⊕ (((Int × LI × Unit) × (Int × LI × Unit) × (Int × LI × Unit) × (Int × LI × Unit) × Int × Int × Int × Unit))) := fun ((v2_0, v2_1, _), (v3_0, v3_1, _), (v4_0, v4_1, _), (v5_0, v5_1, _), v7, v8, v9, v18, v19, v31, v32, _) =>
 bif (decide (v32 < v31)) then
  if (((0 : Int) ≤ (IntKind.wrap .i64 ((IntKind.wrap .i64 (v7 * v2_0)) + v32))) ∧ ((IntKind.wrap .i64 ((IntKind.wrap .i64 (v7 * v2_0)) + v32)) < (((List.length v2_1) : Nat) : Int))) then
   if (((0 : Int) ≤ (IntKind.wrap .i64 ((IntKind.wrap .i64 (v32 * v2_0)) + v8))) ∧ ((IntKind.wrap .i64 ((IntKind.wrap .i64 (v32 * v2_0)) + v8)) < (((List.length v3_1) : Nat) : Int))) then
    Option.bind (spec_l1Add (List.getD v2_1 (Int.toNat (IntKind.wrap .i64 ((IntKind.wrap .i64 (v7 * v2_0)) + v32))) 0) (List.getD v3_1 (Int.toNat (IntKind.wrap .i64 ((IntKind.wrap .i64 (v32 * v2_0)) + v8))) 0)) fun r0 =>
     some (Sum.inl ((v2_0, v2_1, ()), (v3_0, v3_1, ()), (v4_0, (List.take (List.length v4_1) (List.drop 0 v4_1)), ()), (v5_0, (List.take (List.length v5_1) (List.drop 0 v5_1)), ()), v7, v8, (if (r0 < v9) then r0 else v9), v18, v19, v31, (IntKind.wrap .i64 (v32 + 1)), ()))
   else
    none
  else
   none
 else
  some (Sum.inr ((v2_0, v2_1, ()), (v3_0, v3_1, ()), (v4_0, (List.take (List.length v4_1) (List.drop 0 v4_1)), ()), (v5_0, (List.take (List.length v5_1) (List.drop 0 v5_1)), ()), v9, v18, v19, ()))
theorem loop53_8 {L} (h : L 8 = some ⟨67, sh53_8, xs53_8, spec_l2Mul_l8⟩) : LoopOk prog L (loopOf f53 8) := lo (L' := L0) (by kernel_rfl) E53_ok allNil h
def L53_1 : Nat → Option LoopD := fun n => ifEq n 8 (some ⟨67, sh53_8, xs53_8, spec_l2Mul_l8⟩) (L0 n)
def sh53_3 : List Fm := d :: d :: .box 100200 [.val i6, .val sI] :: .box 100300 [.val i6, .val sI] :: .box 100400 [.val i6, .own i6 100402 false] :: .box 100500 [.val i6, .own i6 100502 false] :: D 12 (.cell (.val i6) :: .cell (.val i6) :: D 47 [])
def xs53_3 : List (Ex × List Fm) := [(.exit 0, [d, d, d, d, .box 100400 [.val i6, .own i6 100402 false], .box 100500 [.val i6, .own i6 100502 false], d, d, d, d, d, d, d, d, d, d, d, d, d, d, d, d, d, d, d, d, d, d, d, d, d, d, d, d, d, d, d, d, d, d, d, d, d, d, d, d, d, d, d, d, d, d, d, d, d, d, d, d, d, d, d, d, d, d, d, d, d])]
def spec_l2Mul_l3 : ((Int × LI × Unit) × (Int × LI × Unit) × (Int × LI × Unit) × (Int × LI × Unit) × Int × Int × Unit) → Option (((Int × LI × Unit) × (Int × LI × Unit) × (Int × LI × Unit) × (Int × LI × Unit) × Int × Int × Unit) ⊕ (((Int × LI × Unit) × (Int × LI × Unit) × Unit))) := fun ((v2_0, v2_1, _), (v3_0, v3_1, _), (v4_0, v4_1, _), (v5_0, v5_1, _), v18, v19, _) =>
 bif (decide (v19 < v18)) then
  if (v2_0 = 0) then
   none
  else
   if (v2_0 = 0) then
    none
   else
    Option.bind (loopF spec_l2Mul_l8 ((v2_0, v2_1, ()), (v3_0, v3_1, ()), (v4_0, (List.take (List.length v4_1) (List.drop 0 v4_1)), ()), (v5_0, (List.take (List.length v5_1) (List.drop 0 v5_1)), ()), (IntKind.wrap .i64 (Int.tdiv v19 v2_0)), (Int.tmod v19 v2_0), 1000000, v18, v19, v2_0, 0, ())) fun ((r0, r1, _), (r2, r3, _), (r4, r5, _), (r6, r7, _), r8, r9, r10, _) =>
     if (((0 + (List.length r7)) = (List.length r7)) ∧ ((((List.length r7) + (List.length (List.take 1 (List.drop 0 [r8])))) * 8) ≤ 140737488355328)) then
      some (Sum.inl ((r0, r1, ()), (r2, r3, ()), (r4, (List.take (List.length r5) (List.drop 0 r5)), ()), (r6, (List.take ((List.length r7) + (List.length (List.take 1 (List.drop 0 [r8])))) (List.drop 0 ((List.drop 0 r7) ++ (List.take 1 (List.drop 0 [r8]))))), ()), r9, (IntKind.wrap .i64 (r10 + 1)), ()))
     else
      none
 else
  some (Sum.inr ((v4_0, (List.take (List.length v4_1) (List.drop 0 v4_1)), ()), (v5_0, (List.take (List.length v5_1) (List.drop 0 v5_1)), ()), ()))
theorem loop53_3 {L} (h : L 3 = some ⟨67, sh53_3, xs53_3, spec_l2Mul_l3⟩) : LoopOk prog L (loopOf f53 3) := lo (L' := L53_1) (by kernel_rfl) E53_ok (allCons (loop53_8 rfl) allNil) h
def L53_2 : Nat → Option LoopD := fun n => ifEq n 3 (some ⟨67, sh53_3, xs53_3, spec_l2Mul_l3⟩) (L53_1 n)
def spec_l2Mul : TM → TM → Option (TM) := fun (a0_0, a0_1) (a1_0, a1_1) =>
 Option.bind (loopF spec_l2Mul_l3 ((a0_0, a0_1, ()), (a1_0, a1_1, ()), ((0 : Int), [], ()), (a0_0, [], ()), (IntKind.wrap .i64 (a0_0 * a0_0)), 0, ())) fun ((r0, r1, _), (r2, r3, _), _) =>
  some (r2, (List.take (List.length r3) (List.drop 0 r3)))
def A53 : FnA := ⟨[.v kM, .v kM], true, [.pair i6 sI], fun x => spec_l2Mul x.1 x.2.1⟩
theorem A53_ok : FnOk prog 53 A53 := fo (L := L53_2) (by kernel_rfl) func53 E53_ok (allCons (loop53_3 rfl) allNil)
def E33 : Env := ev fun g => ifEq g 51 (some A51) (ifEq g 52 (some A52) (ifEq g 53 (some A53) (none)))
theorem E33_ok : FnsOk prog E33 := (oF A51_ok func51 (oF A52_ok func52 (oF A53_ok func53 (noFns _ _))))
def sh33_4 : List Fm := d :: .cell (.val .str) :: d :: d :: .box 100400 [.val i6, .own i6 100402 false] :: .box 100500 [.val i6, .own i6 100502 false] :: .box 100600 [.val i6, .own i6 100602 false] :: .box 100700 [.val i6, .own i6 100702 false] :: D 9 (.cell (.val i6) :: .cell (.val i6) :: D 14 [])
def xs33_4 : List (Ex × List Fm) := [(.exit 0, [d, d, d, d, .box 100400 [.val i6, .own i6 100402 false], .box 100500 [.val i6, .own i6 100502 false], d, d, d, d, d, d, d, d, d, d, d, d, d, d, d, d, d, d, d, d, d, d, d, d, d, d, d])]
def spec_l4Matrix_l4 : (ByteArray × (Int × LI × Unit) × (Int × LI × Unit) × (Int × LI × Unit) × (Int × LI × Unit) × Int × Int × Unit) → Option ((ByteArray × (Int × LI × Unit) × (Int × LI × Unit) × (Int × LI × Unit) × (Int × LI × Unit) × Int × Int × Unit) ⊕ (((Int × LI × Unit) × (Int × LI × Unit) × Unit))) := fun (v1, (v4_0, v4_1, _), (v5_0, v5_1, _), (v6_0, v6_1, _), (v7_0, v7_1, _), v17, v18, _) =>
 bif (decide (v18 < v17)) then
  if (((0 : Int) ≤ v18) ∧ (v18 < (((ByteArray.size v1) : Nat) : Int))) then
   bif ((((UInt8.toNat (Array.getD (ByteArray.data v1) (Int.toNat v18) (0 : UInt8))) : Nat) : Int) == 97) then
    Option.bind (spec_l2Mul (v5_0, (List.take (List.length v5_1) (List.drop 0 v5_1))) (v6_0, (List.take (List.length v6_1) (List.drop 0 v6_1)))) fun (r0, r1) =>
     some (Sum.inl (v1, (v4_0, (List.take (List.length v4_1) (List.drop 0 v4_1)), ()), (r0, (List.take (List.length r1) (List.drop 0 r1)), ()), (v6_0, (List.take (List.length v6_1) (List.drop 0 v6_1)), ()), (v7_0, (List.take (List.length v7_1) (List.drop 0 v7_1)), ()), v17, (IntKind.wrap .i64 (v18 + 1)), ()))
   else
    Option.bind (spec_l2Mul (v5_0, (List.take (List.length v5_1) (List.drop 0 v5_1))) (v7_0, (List.take (List.length v7_1) (List.drop 0 v7_1)))) fun (r2, r3) =>
     some (Sum.inl (v1, (v4_0, (List.take (List.length v4_1) (List.drop 0 v4_1)), ()), (r2, (List.take (List.length r3) (List.drop 0 r3)), ()), (v6_0, (List.take (List.length v6_1) (List.drop 0 v6_1)), ()), (v7_0, (List.take (List.length v7_1) (List.drop 0 v7_1)), ()), v17, (IntKind.wrap .i64 (v18 + 1)), ()))
  else
   none
 else
  some (Sum.inr ((v4_0, (List.take (List.length v4_1) (List.drop 0 v4_1)), ()), (v5_0, (List.take (List.length v5_1) (List.drop 0 v5_1)), ()), ()))
theorem loop33_4 {L} (h : L 4 = some ⟨33, sh33_4, xs33_4, spec_l4Matrix_l4⟩) : LoopOk prog L (loopOf f33 4) := lo (L' := L0) (by kernel_rfl) E33_ok allNil h
def L33_1 : Nat → Option LoopD := fun n => ifEq n 4 (some ⟨33, sh33_4, xs33_4, spec_l4Matrix_l4⟩) (L0 n)
def spec_l4Matrix : TA → ByteArray → Option (TM) := fun (a0_0, a0_1, a0_2, a0_3) a1 =>
 Option.bind (spec_l2Unit a0_0) fun (r0, r1) =>
  Option.bind (spec_l3Matrix (a0_0, a0_1, a0_2, a0_3) (⟨#[(97 : UInt8)]⟩ : ByteArray)) fun (r2, r3) =>
   Option.bind (spec_l3Matrix (a0_0, a0_1, a0_2, a0_3) (⟨#[(98 : UInt8)]⟩ : ByteArray)) fun (r4, r5) =>
    Option.bind (loopF spec_l4Matrix_l4 (a1, ((0 : Int), [], ()), (r0, (List.take (List.length r1) (List.drop 0 r1)), ()), (r2, (List.take (List.length r3) (List.drop 0 r3)), ()), (r4, (List.take (List.length r5) (List.drop 0 r5)), ()), (((ByteArray.size a1) : Nat) : Int), 0, ())) fun ((r6, r7, _), (r8, r9, _), _) =>
     some (r8, (List.take (List.length r9) (List.drop 0 r9)))
def A33 : FnA := ⟨[.v kA, .v .str], true, [.pair i6 sI], fun x => spec_l4Matrix x.1 x.2.1⟩
theorem A33_ok : FnOk prog 33 A33 := fo (L := L33_1) (by kernel_rfl) func33 E33_ok (allCons (loop33_4 rfl) allNil)
def sh32_6 : List Fm := d :: d :: .box 100200 [.val i6, .val sI, .val sI, .val sS] :: .box 100300 [.val i6, .val sI] :: d :: .cell (.val i6) :: d :: .cell (.val i6) :: d :: d :: d :: .cell (.val sI) :: .cell (.val i6) :: .cell (.val i6) :: D 4 (.cell (.val sI) :: .cell (.val i6) :: .cell (.val i6) :: D 18 [])
def xs32_6 : List (Ex × List Fm) := [(.exit 2, [d, d, .box 100200 [.val i6, .val sI, .val sI, .val sS], .box 100300 [.val i6, .val sI], d, .cell (.val i6), d, d, d, d, d, .cell (.val sI), .cell (.val i6), .cell (.val i6), d, d, d, d, d, d, d, d, d, d, d, d, d, d, d, d, d, d, d, d, d, d, d, d, d])]
def spec_l4Least_l6 : ((Int × LI × LI × LS × Unit) × (Int × LI × Unit) × Int × Int × LI × Int × Int × LI × Int × Int × Unit) → Option (((Int × LI × LI × LS × Unit) × (Int × LI × Unit) × Int × Int × LI × Int × Int × LI × Int × Int × Unit) ⊕ (((Int × LI × LI × LS × Unit) × (Int × LI × Unit) × Int × LI × Int × Int × Unit))) := fun ((v2_0, v2_1, v2_2, v2_3, _), (v3_0, v3_1, _), v5, v7, v11, v12, v13, v18, v19, v20, _) =>
 bif (decide (v20 < v19)) then
  if (((0 : Int) ≤ v20) ∧ (v20 < (((List.length v18) : Nat) : Int))) then
   if (((0 : Int) ≤ (IntKind.wrap .i64 ((IntKind.wrap .i64 (v7 * v2_0)) + (List.getD v18 (Int.toNat v20) 0)))) ∧ ((IntKind.wrap .i64 ((IntKind.wrap .i64 (v7 * v2_0)) + (List.getD v18 (Int.toNat v20) 0))) < (((List.length v3_1) : Nat) : Int))) then
    some (Sum.inl ((v2_0, v2_1, v2_2, v2_3, ()), (v3_0, v3_1, ()), (if ((List.getD v3_1 (Int.toNat (IntKind.wrap .i64 ((IntKind.wrap .i64 (v7 * v2_0)) + (List.getD v18 (Int.toNat v20) 0)))) 0) < v5) then (List.getD v3_1 (Int.toNat (IntKind.wrap .i64 ((IntKind.wrap .i64 (v7 * v2_0)) + (List.getD v18 (Int.toNat v20) 0)))) 0) else v5), v7, v11, v12, v13, v18, v19, (IntKind.wrap .i64 (v20 + 1)), ()))
   else
    none
  else
   none
 else
  some (Sum.inr ((v2_0, v2_1, v2_2, v2_3, ()), (v3_0, v3_1, ()), v5, v11, v12, v13, ()))
theorem loop32_6 {L} (h : L 6 = some ⟨39, sh32_6, xs32_6, spec_l4Least_l6⟩) : LoopOk prog L (loopOf f32 6) := lo (L' := L0) (by kernel_rfl) E0_ok allNil h
def L32_1 : Nat → Option LoopD := fun n => ifEq n 6 (some ⟨39, sh32_6, xs32_6, spec_l4Least_l6⟩) (L0 n)
def sh32_3 : List Fm := d :: d :: .box 100200 [.val i6, .val sI, .val sI, .val sS] :: .box 100300 [.val i6, .val sI] :: d :: .cell (.val i6) :: D 5 (.cell (.val sI) :: .cell (.val i6) :: .cell (.val i6) :: D 25 [])
def xs32_3 : List (Ex × List Fm) := [(.exit 0, (D 5 (.cell (.val i6) :: D 33 [])))]
def spec_l4Least_l3 : ((Int × LI × LI × LS × Unit) × (Int × LI × Unit) × Int × LI × Int × Int × Unit) → Option (((Int × LI × LI × LS × Unit) × (Int × LI × Unit) × Int × LI × Int × Int × Unit) ⊕ ((Int × Unit))) := fun ((v2_0, v2_1, v2_2, v2_3, _), (v3_0, v3_1, _), v5, v11, v12, v13, _) =>
 bif (decide (v13 < v12)) then
  if (((0 : Int) ≤ v13) ∧ (v13 < (((List.length v11) : Nat) : Int))) then
   Option.bind (loopF spec_l4Least_l6 ((v2_0, v2_1, v2_2, v2_3, ()), (v3_0, v3_1, ()), v5, (List.getD v11 (Int.toNat v13) 0), v11, v12, v13, v2_2, (((List.length v2_2) : Nat) : Int), 0, ())) fun ((r0, r1, r2, r3, _), (r4, r5, _), r6, r7, r8, r9, _) =>
    some (Sum.inl ((r0, r1, r2, r3, ()), (r4, r5, ()), r6, r7, r8, (IntKind.wrap .i64 (r9 + 1)), ()))
  else
   none
 else
  some (Sum.inr (v5, ()))
theorem loop32_3 {L} (h : L 3 = some ⟨39, sh32_3, xs32_3, spec_l4Least_l3⟩) : LoopOk prog L (loopOf f32 3) := lo (L' := L32_1) (by kernel_rfl) E0_ok (allCons (loop32_6 rfl) allNil) h
def L32_2 : Nat → Option LoopD := fun n => ifEq n 3 (some ⟨39, sh32_3, xs32_3, spec_l4Least_l3⟩) (L32_1 n)
def spec_l4Least : TA → TM → Option (Int) := fun (a0_0, a0_1, a0_2, a0_3) (a1_0, a1_1) =>
 Option.bind (loopF spec_l4Least_l3 ((a0_0, a0_1, a0_2, a0_3, ()), (a1_0, a1_1, ()), 1000000, a0_1, (((List.length a0_1) : Nat) : Int), 0, ())) fun (r0, _) =>
  some r0
def A32 : FnA := ⟨[.v kA, .v kM], true, [.int .i64], fun x => spec_l4Least x.1 x.2.1⟩
theorem A32_ok : FnOk prog 32 A32 := fo (L := L32_2) (by kernel_rfl) func32 E0_ok (allCons (loop32_3 rfl) allNil)
def E16 : Env := ev fun g => ifEq g 33 (some A33) (ifEq g 32 (some A32) (none))
theorem E16_ok : FnsOk prog E16 := (oF A33_ok func33 (oF A32_ok func32 (noFns _ _)))
def spec_l4Cost : TA → ByteArray → Option (Int) := fun (a0_0, a0_1, a0_2, a0_3) a1 =>
 Option.bind (spec_l4Matrix (a0_0, a0_1, a0_2, a0_3) a1) fun (r0, r1) =>
  Option.bind (spec_l4Least (a0_0, a0_1, a0_2, a0_3) (r0, (List.take (List.length r1) (List.drop 0 r1)))) fun r2 =>
   some r2
def A16 : FnA := ⟨[.v kA, .v .str], true, [.int .i64], fun x => spec_l4Cost x.1 x.2.1⟩
theorem A16_ok : FnOk prog 16 A16 := fo (L := L0) (by kernel_rfl) func16 E16_ok allNil
def E6 : Env := ev fun g => ifEq g 14 (some A14) (ifEq g 15 (some A15) (ifEq g 16 (some A16) (none)))
theorem E6_ok : FnsOk prog E6 := (oF A14_ok func14 (oF A15_ok func15 (oF A16_ok func16 (noFns _ _))))
def sh6_4 : List Fm := d :: d :: d :: .box 100300 [.val i6, .val sI, .val sI, .val sS] :: .box 100400 [.val i6, .val sI, .val sI, .val sS] :: D 15 (.cell (.val (.sl .str)) :: .cell (.val i6) :: .cell (.val i6) :: D 12 [])
def xs6_4 : List (Ex × List Fm) := [(.ret, (D 6 (.cell (.val .bool) :: D 28 []))), (.exit 0, (D 35 []))]
def spec_AreApart_l4 : ((Int × LI × LI × LS × Unit) × (Int × LI × LI × LS × Unit) × (List ByteArray) × Int × Int × Unit) → Option (((Int × LI × LI × LS × Unit) × (Int × LI × LI × LS × Unit) × (List ByteArray) × Int × Int × Unit) ⊕ ((Bool × Unit) ⊕ (Unit))) := fun ((v3_0, v3_1, v3_2, v3_3, _), (v4_0, v4_1, v4_2, v4_3, _), v20, v21, v22, _) =>
 bif (decide (v22 < v21)) then
  if (((0 : Int) ≤ v22) ∧ (v22 < (((List.length v20) : Nat) : Int))) then
   Option.bind (spec_l4Cost (v3_0, v3_1, v3_2, v3_3) (List.getD v20 (Int.toNat v22) ⟨Array.empty⟩)) fun r0 =>
    Option.bind (spec_l4Cost (v4_0, v4_1, v4_2, v4_3) (List.getD v20 (Int.toNat v22) ⟨Array.empty⟩)) fun r1 =>
     bif (decide ((if (r1 > r0) then r1 else r0) < 1000000)) then
      some (Sum.inr (Sum.inl (false, ())))
     else
      some (Sum.inl ((v3_0, v3_1, v3_2, v3_3, ()), (v4_0, v4_1, v4_2, v4_3, ()), v20, v21, (IntKind.wrap .i64 (v22 + 1)), ()))
  else
   none
 else
  some (Sum.inr (Sum.inr ()))
theorem loop6_4 {L} (h : L 4 = some ⟨35, sh6_4, xs6_4, spec_AreApart_l4⟩) : LoopOk prog L (loopOf f6 4) := lo (L' := L0) (by kernel_rfl) E6_ok allNil h
def L6_1 : Nat → Option LoopD := fun n => ifEq n 4 (some ⟨35, sh6_4, xs6_4, spec_AreApart_l4⟩) (L0 n)
def spec_AreApart : TA → TA → Int → Option (Bool) := fun (a0_0, a0_1, a0_2, a0_3) (a1_0, a1_1, a1_2, a1_3) a2 =>
 Option.bind (spec_l11Short (a0_0, a0_1, a0_2, a0_3) a2) fun r0 =>
  bif (!r0) then
   some false
  else
   Option.bind (spec_l11Short (a1_0, a1_1, a1_2, a1_3) a2) fun r1 =>
    bif (!r1) then
     some false
    else
     Option.bind (spec_l4Words a2) fun r2 =>
      Option.bind (loopF spec_AreApart_l4 ((a0_0, a0_1, a0_2, a0_3, ()), (a1_0, a1_1, a1_2, a1_3, ()), r2, (((List.length r2) : Nat) : Int), 0, ())) fun r3 =>
       (match r3 with
       | .inl (d4, _) =>
         some d4
       | .inr _ =>
         some true)
def A6 : FnA := ⟨[.v kA, .v kA, .v i6], true, [.bool], fun x => spec_AreApart x.1 x.2.1 x.2.2.1⟩
theorem A6_ok : FnOk prog 6 A6 := fo (L := L6_1) (by kernel_rfl) func6 E6_ok (allCons (loop6_4 rfl) allNil)
def impl_SumAutomaton_1 : Int → Int → TA → Option (Int) := fun a0 a1 (a2_0, a2_1, a2_2, a2_3) =>
 some (IntKind.wrap .i64 ((IntKind.wrap .i64 (a0 * a2_0)) + a1))
def A17 : FnA := ⟨[.v i6, .v i6, .cap kA], true, [.int .i64], fun x => impl_SumAutomaton_1 x.1 x.2.1 x.2.2.1⟩
theorem A17_ok : FnOk prog 17 A17 := fo (L := L0) (by kernel_rfl) func17 E0_ok allNil
def E18 : Env := ⟨ty0, fun _ => none, fun _ => none, fun _ => none, fun _ => none, fun t => ifEq t 45 1 0⟩
theorem E18_ok : FnsOk prog E18 := (noFnsS (sp1 (by kernel_rfl)))
def sh18_6 : List Fm := d :: .cell (.val sI) :: .clo [.unit, .int .i64, .int .i64] i6 :: d :: d :: d :: .cell (.own i6 100600 false) :: d :: .cell (.val i6) :: d :: d :: d :: .cell (.val sI) :: .cell (.val i6) :: .cell (.val i6) :: d :: d :: d :: .cell (.val sI) :: .cell (.val i6) :: .cell (.val i6) :: D 13 []
def xs18_6 : List (Ex × List Fm) := [(.exit 2, [d, .cell (.val sI), .clo [.unit, .int .i64, .int .i64] i6, d, d, d, .cell (.own i6 100600 false), d, d, d, d, d, .cell (.val sI), .cell (.val i6), .cell (.val i6), d, d, d, d, d, d, d, d, d, d, d, d, d, d, d, d, d, d, d])]
def impl_SumAutomaton_2_l6 : (LI × ((Unit × Int × Int × Unit) → Option (Int)) × LI × Int × LI × Int × Int × LI × Int × Int × Unit) → Option ((LI × ((Unit × Int × Int × Unit) → Option (Int)) × LI × Int × LI × Int × Int × LI × Int × Int × Unit) ⊕ ((LI × ((Unit × Int × Int × Unit) → Option (Int)) × LI × LI × Int × Int × Unit))) := fun (v1, v2, v6, v8, v12, v13, v14, v18, v19, v20, _) =>
 bif (decide (v20 < v19)) then
  if (((0 : Int) ≤ v20) ∧ (v20 < (((List.length v18) : Nat) : Int))) then
   Option.bind (v2 ((), v8, (List.getD v18 (Int.toNat v20) 0), ())) fun r0 =>
    if (((0 + (List.length v6)) = (List.length v6)) ∧ ((((List.length v6) + (List.length (List.take 1 (List.drop 0 [r0])))) * 8) ≤ 140737488355328)) then
     some (Sum.inl (v1, v2, (List.take ((List.length v6) + (List.length (List.take 1 (List.drop 0 [r0])))) (List.drop 0 ((List.drop 0 v6) ++ (List.take 1 (List.drop 0 [r0]))))), v8, v12, v13, v14, v18, v19, (IntKind.wrap .i64 (v20 + 1)), ()))
    else
     none
  else
   none
 else
  some (Sum.inr (v1, v2, (List.take (List.length v6) (List.drop 0 v6)), v12, v13, v14, ()))
theorem loop18_6 {L} (h : L 6 = some ⟨34, sh18_6, xs18_6, impl_SumAutomaton_2_l6⟩) : LoopOk prog L (loopOf f18 6) := lo (L' := L0) (by kernel_rfl) E18_ok allNil h
def L18_1 : Nat → Option LoopD := fun n => ifEq n 6 (some ⟨34, sh18_6, xs18_6, impl_SumAutomaton_2_l6⟩) (L0 n)
def sh18_3 : List Fm := d :: .cell (.val sI) :: .clo [.unit, .int .i64, .int .i64] i6 :: d :: d :: d :: .cell (.own i6 100600 false) :: D 5 (.cell (.val sI) :: .cell (.val i6) :: .cell (.val i6) :: D 19 [])
def xs18_3 : List (Ex × List Fm) := [(.exit 0, (D 6 (.cell (.own i6 100600 false) :: D 27 [])))]
def impl_SumAutomaton_2_l3 : (LI × ((Unit × Int × Int × Unit) → Option (Int)) × LI × LI × Int × Int × Unit) → Option ((LI × ((Unit × Int × Int × Unit) → Option (Int)) × LI × LI × Int × Int × Unit) ⊕ ((LI × Unit))) := fun (v1, v2, v6, v12, v13, v14, _) =>
 bif (decide (v14 < v13)) then
  if (((0 : Int) ≤ v14) ∧ (v14 < (((List.length v12) : Nat) : Int))) then
   Option.bind (loopF impl_SumAutomaton_2_l6 (v1, v2, (List.take (List.length v6) (List.drop 0 v6)), (List.getD v12 (Int.toNat v14) 0), v12, v13, v14, v1, (((List.length v1) : Nat) : Int), 0, ())) fun (r0, r1, r2, r3, r4, r5, _) =>
    some (Sum.inl (r0, r1, (List.take (List.length r2) (List.drop 0 r2)), r3, r4, (IntKind.wrap .i64 (r5 + 1)), ()))
  else
   none
 else
  some (Sum.inr ((List.take (List.length v6) (List.drop 0 v6)), ()))
theorem loop18_3 {L} (h : L 3 = some ⟨34, sh18_3, xs18_3, impl_SumAutomaton_2_l3⟩) : LoopOk prog L (loopOf f18 3) := lo (L' := L18_1) (by kernel_rfl) E18_ok (allCons (loop18_6 rfl) allNil) h
def L18_2 : Nat → Option LoopD := fun n => ifEq n 3 (some ⟨34, sh18_3, xs18_3, impl_SumAutomaton_2_l3⟩) (L18_1 n)
def impl_SumAutomaton_2 : LI → LI → ((Unit × Int × Int × Unit) → Option (Int)) → Option (LI) := fun a0 a1 a2 =>
 Option.bind (loopF impl_SumAutomaton_2_l3 (a1, a2, (List.take 0 (List.drop 0 [])), a0, (((List.length a0) : Nat) : Int), 0, ())) fun (r0, _) =>
  some (List.take (List.length r0) (List.drop 0 r0))
def A18 : FnA := ⟨[.v sI, .v sI, .clo [.unit, .int .i64, .int .i64] i6], true, [.sl i6], fun x => impl_SumAutomaton_2 x.1 x.2.1 x.2.2.1⟩
theorem A18_ok : FnOk prog 18 A18 := fo (L := L18_2) (by kernel_rfl) func18 E18_ok (allCons (loop18_3 rfl) allNil)
def slices_Clone : LI → Option (LI) := fun a0 =>
 ifSame (some [])
  (if (((0 + 0) = (List.length ([] : List Unit))) ∧ (((0 + (List.length a0)) * 8) ≤ 140737488355328)) then
   some (List.take (0 + (List.length a0)) (List.drop 0 ((List.drop 0 []) ++ a0)))
  else
   none)
  (bif (List.isEmpty a0) then
   none
  else
   if (((0 + 0) = (List.length ([] : List Unit))) ∧ (((0 + (List.length a0)) * 8) ≤ 140737488355328)) then
    some (List.take (0 + (List.length a0)) (List.drop 0 ((List.drop 0 []) ++ a0)))
   else
    none)
def A34 : FnA := ⟨[.v sI], true, [.sl i6], fun x => slices_Clone x.1⟩
theorem A34_ok : FnOk prog 34 A34 := fo (L := L0) (by kernel_rfl) func34 E0_ok allNil
def slices_Clone_Step : LS → Option (LS) := fun a0 =>
 ifSame (some [])
  (if (((0 + 0) = (List.length ([] : List Unit))) ∧ (((0 + (List.length a0)) * 40) ≤ 140737488355328)) then
   some (List.take (0 + (List.length a0)) (List.drop 0 ((List.drop 0 []) ++ a0)))
  else
   none)
  (bif (List.isEmpty a0) then
   none
  else
   if (((0 + 0) = (List.length ([] : List Unit))) ∧ (((0 + (List.length a0)) * 40) ≤ 140737488355328)) then
    some (List.take (0 + (List.length a0)) (List.drop 0 ((List.drop 0 []) ++ a0)))
   else
    none)
def A35 : FnA := ⟨[.v sS], true, [.sl kS], fun x => slices_Clone_Step x.1⟩
theorem A35_ok : FnOk prog 35 A35 := fo (L := L0) (by kernel_rfl) func35 E0_ok allNil
def E19 : Env := ⟨ty0, fun g => ifEq g 34 (some A34) (ifEq g 35 (some A35) (ifEq g 9 (some A9) (none))), fun g => ifEq g 36 (some A36) (ifEq g 37 (some A37) (none)), fun _ => none, fun _ => none, fun _ => 0⟩
theorem E19_ok : FnsOk prog E19 := (oF A34_ok func34 (oF A35_ok func35 (oF A9_ok func9 (oneMs A36_ok (by kernel_rfl) func36 (by kernel_rfl) (by kernel_rfl) (oneMs A37_ok (by kernel_rfl) func37 (by kernel_rfl) (by kernel_rfl) (noFns _ _))))))
def impl_made : Int → LI → LI → LS → Option (TA × Bool) := fun a0 a1 a2 a3 =>
 Option.bind (slices_Clone a1) fun r0 =>
  Option.bind (slices_Clone a2) fun r1 =>
   Option.bind (slices_Clone_Step a3) fun r2 =>
    if ((List.length r0) = (List.length r0)) then
     Option.bind (slices_Sort r0) fun (_, r3, _) =>
      if ((List.length r1) = (List.length r1)) then
       Option.bind (slices_Sort r1) fun (_, r4, _) =>
        if ((List.length r2) = (List.length r2)) then
         Option.bind (slices_SortFunc r2) fun (_, r5, _) =>
          Option.bind (impl_AutomatonValid (a0, (List.take (List.length r0) (List.drop 0 r3)), (List.take (List.length r1) (List.drop 0 r4)), (List.take (List.length r2) (List.drop 0 r5)))) fun r6 =>
           bif (!r6) then
            some (((0 : Int), [], [], []), false)
           else
            some ((a0, (List.take (List.length r0) (List.drop 0 r3)), (List.take (List.length r1) (List.drop 0 r4)), (List.take (List.length r2) (List.drop 0 r5))), true)
        else
         none
      else
       none
    else
     none
def A19 : FnA := ⟨[.v i6, .v sI, .v sI, .v sS], true, [.pair i6 (.pair sI (.pair sI sS)), .bool], fun x => impl_made x.1 x.2.1 x.2.2.1 x.2.2.2.1⟩
theorem A19_ok : FnOk prog 19 A19 := fo (L := L0) (by kernel_rfl) func19 E19_ok allNil
def E7 : Env := ⟨ty0, fun g => ifEq g 9 (some A9) (ifEq g 17 (some A17) (ifEq g 18 (some A18) (ifEq g 19 (some A19) (none)))), fun _ => none, fun _ => none, fun _ => none, fun t => ifEq t 45 1 (ifEq t 26 2 0)⟩
theorem E7_ok : FnsOk prog E7 := (oF A9_ok func9 (oF A17_ok func17 (oF A18_ok func18 (oF A19_ok func19 (noFnsS (sp12 (by kernel_rfl)))))))
def sh7_10 : List Fm := d :: d :: .fp kA :: .fp kA :: .box 100400 [.val i6, .own i6 100402 false, .own i6 100403 false, .own kS 100404 false] :: d :: .clo [.unit, .int .i64, .int .i64] i6 :: .clo [.sl i6, .sl i6] sI :: .cell (.own kS 100800 false) :: d :: .box 101000 [.val i6, .val .str, .val i6, .val i6] :: D 15 (.cell (.val sS) :: .cell (.val i6) :: .cell (.val i6) :: D 4 (.cell (.val sS) :: .cell (.val i6) :: .cell (.val i6) :: D 54 []))
def xs7_10 : List (Ex × List Fm) := [(.exit 2, [d, d, .fp kA, .fp kA, .box 100400 [.val i6, .own i6 100402 false, .own i6 100403 false, .own kS 100404 false], d, .clo [.unit, .int .i64, .int .i64] i6, .clo [.sl i6, .sl i6] sI, .cell (.own kS 100800 false), d, d, d, d, d, d, d, d, d, d, d, d, d, d, d, d, d, .cell (.val sS), .cell (.val i6), .cell (.val i6), d, d, d, d, d, d, d, d, d, d, d, d, d, d, d, d, d, d, d, d, d, d, d, d, d, d, d, d, d, d, d, d, d, d, d, d, d, d, d, d, d, d, d, d, d, d, d, d, d, d, d, d, d, d, d, d, d, d, d, d, d])]
def impl_SumAutomaton_l10 : (TA × TA × (Int × LI × LI × LS × Unit) × ((Unit × Int × Int × Unit) → Option (Int)) × ((LI × LI × Unit) → Option (LI)) × LS × (Int × ByteArray × Int × Int × Unit) × LS × Int × Int × LS × Int × Int × Unit) → Option ((TA × TA × (Int × LI × LI × LS × Unit) × ((Unit × Int × Int × Unit) → Option (Int)) × ((LI × LI × Unit) → Option (LI)) × LS × (Int × ByteArray × Int × Int × Unit) × LS × Int × Int × LS × Int × Int × Unit) ⊕ ((TA × TA × (Int × LI × LI × LS × Unit) × ((Unit × Int × Int × Unit) → Option (Int)) × ((LI × LI × Unit) → Option (LI)) × LS × LS × Int × Int × Unit))) := fun ((v2_0, v2_1, v2_2, v2_3), (v3_0, v3_1, v3_2, v3_3), (v4_0, v4_1, v4_2, v4_3, _), v6, v7, v8, (v10_0, v10_1, v10_2, v10_3, _), v26, v27, v28, v33, v34, v35, _) =>
 bif (decide (v35 < v34)) then
  if (((0 : Int) ≤ v35) ∧ (v35 < (((List.length v33) : Nat) : Int))) then
   bif ((ByteArray.toList v10_1) == (ByteArray.toList (List.getD v33 (Int.toNat v35) ((0 : Int), ⟨Array.empty⟩, 0, 0)).2.1)) then
    Option.bind (v6 ((), v10_0, (List.getD v33 (Int.toNat v35) ((0 : Int), ⟨Array.empty⟩, 0, 0)).1, ())) fun r0 =>
     Option.bind (v6 ((), v10_2, (List.getD v33 (Int.toNat v35) ((0 : Int), ⟨Array.empty⟩, 0, 0)).2.2.1, ())) fun r1 =>
      if (((0 + (List.length v8)) = (List.length v8)) ∧ ((((List.length v8) + (List.length (List.take 1 (List.drop 0 [(r0, v10_1, r1, (IntKind.wrap .i64 (v10_3 + (List.getD v33 (Int.toNat v35) ((0 : Int), (⟨Array.empty⟩ : ByteArray), (0 : Int), (0 : Int))).2.2.2)))])))) * 40) ≤ 140737488355328)) then
       some (Sum.inl ((v2_0, v2_1, v2_2, v2_3), (v3_0, v3_1, v3_2, v3_3), (v4_0, (List.take (List.length v4_1) (List.drop 0 v4_1)), (List.take (List.length v4_2) (List.drop 0 v4_2)), (List.take (List.length v4_3) (List.drop 0 v4_3)), ()), v6, v7, (List.take ((List.length v8) + (List.length (List.take 1 (List.drop 0 [(r0, v10_1, r1, (IntKind.wrap .i64 (v10_3 + (List.getD v33 (Int.toNat v35) ((0 : Int), (⟨Array.empty⟩ : ByteArray), (0 : Int), (0 : Int))).2.2.2)))])))) (List.drop 0 ((List.drop 0 v8) ++ (List.take 1 (List.drop 0 [(r0, v10_1, r1, (IntKind.wrap .i64 (v10_3 + (List.getD v33 (Int.toNat v35) ((0 : Int), (⟨Array.empty⟩ : ByteArray), (0 : Int), (0 : Int))).2.2.2)))]))))), (v10_0, v10_1, v10_2, v10_3, ()), v26, v27, v28, v33, v34, (IntKind.wrap .i64 (v35 + 1)), ()))
      else
       none
   else
    some (Sum.inl ((v2_0, v2_1, v2_2, v2_3), (v3_0, v3_1, v3_2, v3_3), (v4_0, (List.take (List.length v4_1) (List.drop 0 v4_1)), (List.take (List.length v4_2) (List.drop 0 v4_2)), (List.take (List.length v4_3) (List.drop 0 v4_3)), ()), v6, v7, (List.take (List.length v8) (List.drop 0 v8)), (v10_0, v10_1, v10_2, v10_3, ()), v26, v27, v28, v33, v34, (IntKind.wrap .i64 (v35 + 1)), ()))
  else
   none
 else
  some (Sum.inr ((v2_0, v2_1, v2_2, v2_3), (v3_0, v3_1, v3_2, v3_3), (v4_0, (List.take (List.length v4_1) (List.drop 0 v4_1)), (List.take (List.length v4_2) (List.drop 0 v4_2)), (List.take (List.length v4_3) (List.drop 0 v4_3)), ()), v6, v7, (List.take (List.length v8) (List.drop 0 v8)), v26, v27, v28, ()))
theorem loop7_10 {L} (h : L 10 = some ⟨90, sh7_10, xs7_10, impl_SumAutomaton_l10⟩) : LoopOk prog L (loopOf f7 10) := lo (L' := L0) (by kernel_rfl) E7_ok allNil h
def L7_1 : Nat → Option LoopD := fun n => ifEq n 10 (some ⟨90, sh7_10, xs7_10, impl_SumAutomaton_l10⟩) (L0 n)
def sh7_7 : List Fm := d :: d :: .fp kA :: .fp kA :: .box 100400 [.val i6, .own i6 100402 false, .own i6 100403 false, .own kS 100404 false] :: d :: .clo [.unit, .int .i64, .int .i64] i6 :: .clo [.sl i6, .sl i6] sI :: .cell (.own kS 100800 false) :: D 17 (.cell (.val sS) :: .cell (.val i6) :: .cell (.val i6) :: D 61 [])
def xs7_7 : List (Ex × List Fm) := [(.exit 0, [d, d, .fp kA, .fp kA, .box 100400 [.val i6, .own i6 100402 false, .own i6 100403 false, .own kS 100404 false], d, d, .clo [.sl i6, .sl i6] sI, .cell (.own kS 100800 false), d, d, d, d, d, d, d, d, d, d, d, d, d, d, d, d, d, d, d, d, d, d, d, d, d, d, d, d, d, d, d, d, d, d, d, d, d, d, d, d, d, d, d, d, d, d, d, d, d, d, d, d, d, d, d, d, d, d, d, d, d, d, d, d, d, d, d, d, d, d, d, d, d, d, d, d, d, d, d, d, d])]
def impl_SumAutomaton_l7 : (TA × TA × (Int × LI × LI × LS × Unit) × ((Unit × Int × Int × Unit) → Option (Int)) × ((LI × LI × Unit) → Option (LI)) × LS × LS × Int × Int × Unit) → Option ((TA × TA × (Int × LI × LI × LS × Unit) × ((Unit × Int × Int × Unit) → Option (Int)) × ((LI × LI × Unit) → Option (LI)) × LS × LS × Int × Int × Unit) ⊕ ((TA × TA × (Int × LI × LI × LS × Unit) × ((LI × LI × Unit) → Option (LI)) × LS × Unit))) := fun ((v2_0, v2_1, v2_2, v2_3), (v3_0, v3_1, v3_2, v3_3), (v4_0, v4_1, v4_2, v4_3, _), v6, v7, v8, v26, v27, v28, _) =>
 bif (decide (v28 < v27)) then
  if (((0 : Int) ≤ v28) ∧ (v28 < (((List.length v26) : Nat) : Int))) then
   Option.bind (loopF impl_SumAutomaton_l10 ((v2_0, v2_1, v2_2, v2_3), (v3_0, v3_1, v3_2, v3_3), (v4_0, (List.take (List.length v4_1) (List.drop 0 v4_1)), (List.take (List.length v4_2) (List.drop 0 v4_2)), (List.take (List.length v4_3) (List.drop 0 v4_3)), ()), v6, v7, (List.take (List.length v8) (List.drop 0 v8)), ((List.getD v26 (Int.toNat v28) ((0 : Int), ⟨Array.empty⟩, 0, 0)).1, (List.getD v26 (Int.toNat v28) ((0 : Int), ⟨Array.empty⟩, 0, 0)).2.1, (List.getD v26 (Int.toNat v28) ((0 : Int), ⟨Array.empty⟩, 0, 0)).2.2.1, (List.getD v26 (Int.toNat v28) ((0 : Int), ⟨Array.empty⟩, 0, 0)).2.2.2, ()), v26, v27, v28, v3_3, (((List.length v3_3) : Nat) : Int), 0, ())) fun ((r0, r1, r2, r3), (r4, r5, r6, r7), (r8, r9, r10, r11, _), r12, r13, r14, r15, r16, r17, _) =>
    some (Sum.inl ((r0, r1, r2, r3), (r4, r5, r6, r7), (r8, (List.take (List.length r9) (List.drop 0 r9)), (List.take (List.length r10) (List.drop 0 r10)), (List.take (List.length r11) (List.drop 0 r11)), ()), r12, r13, (List.take (List.length r14) (List.drop 0 r14)), r15, r16, (IntKind.wrap .i64 (r17 + 1)), ()))
  else
   none
 else
  some (Sum.inr ((v2_0, v2_1, v2_2, v2_3), (v3_0, v3_1, v3_2, v3_3), (v4_0, (List.take (List.length v4_1) (List.drop 0 v4_1)), (List.take (List.length v4_2) (List.drop 0 v4_2)), (List.take (List.length v4_3) (List.drop 0 v4_3)), ()), v7, (List.take (List.length v8) (List.drop 0 v8)), ()))
theorem loop7_7 {L} (h : L 7 = some ⟨90, sh7_7, xs7_7, impl_SumAutomaton_l7⟩) : LoopOk prog L (loopOf f7 7) := lo (L' := L7_1) (by kernel_rfl) E7_ok (allCons (loop7_10 rfl) allNil) h
def L7_2 : Nat → Option LoopD := fun n => ifEq n 7 (some ⟨90, sh7_7, xs7_7, impl_SumAutomaton_l7⟩) (L7_1 n)
def impl_SumAutomaton : TA → TA → Option (TA × Bool) := fun (a0_0, a0_1, a0_2, a0_3) (a1_0, a1_1, a1_2, a1_3) =>
 Option.bind (impl_AutomatonValid (a0_0, a0_1, a0_2, a0_3)) fun r0 =>
  bif (!r0) then
   some (((0 : Int), [], [], []), false)
  else
   Option.bind (impl_AutomatonValid (a1_0, a1_1, a1_2, a1_3)) fun r1 =>
    bif (!r1) then
     some (((0 : Int), [], [], []), false)
    else
     Option.bind (loopF impl_SumAutomaton_l7 ((a0_0, a0_1, a0_2, a0_3), (a1_0, a1_1, a1_2, a1_3), ((0 : Int), [], [], [], ()), (fun y4 => (impl_SumAutomaton_1 y4.2.1 y4.2.2.1 (a1_0, a1_1, a1_2, a1_3))), (fun y2 => (impl_SumAutomaton_2 y2.1 y2.2.1 (fun y3 => (impl_SumAutomaton_1 y3.2.1 y3.2.2.1 (a1_0, a1_1, a1_2, a1_3))))), (List.take 0 (List.drop 0 [])), a0_3, (((List.length a0_3) : Nat) : Int), 0, ())) fun ((r5, r6, r7, r8), (r9, r10, r11, r12), (r13, r14, r15, r16, _), r17, r18, _) =>
      Option.bind (r17 (r6, r10, ())) fun r19 =>
       Option.bind (r17 (r7, r11, ())) fun r20 =>
        Option.bind (impl_made (IntKind.wrap .i64 (r5 * r9)) r19 r20 (List.take (List.length r18) (List.drop 0 r18))) fun ((r21, r22, r23, r24), r25) =>
         some ((r21, (List.take (List.length r22) (List.drop 0 r22)), (List.take (List.length r23) (List.drop 0 r23)), (List.take (List.length r24) (List.drop 0 r24))), r25)
def A7 : FnA := ⟨[.v kA, .v kA], true, [.pair i6 (.pair sI (.pair sI sS)), .bool], fun x => impl_SumAutomaton x.1 x.2.1⟩
theorem A7_ok : FnOk prog 7 A7 := fo (L := L7_2) (by kernel_rfl) func7 E7_ok (allCons (loop7_7 rfl) allNil)
def E8 : Env := ev fun g => ifEq g 12 (some A12) (ifEq g 13 (some A13) (none))
theorem E8_ok : FnsOk prog E8 := (oF A12_ok func12 (oF A13_ok func13 (noFns _ _)))
def sh8_6 : List Fm := d :: d :: .box 100200 [.val i6, .val sI, .val sI, .val sS] :: D 5 (.cell (.own i6 100800 false) :: D 12 (.cell (.val (.sl .str)) :: .cell (.val i6) :: .cell (.val i6) :: D 11 []))
def xs8_6 : List (Ex × List Fm) := [(.exit 0, (D 8 (.cell (.own i6 100800 false) :: D 26 [])))]
def impl_TableOf_l6 : ((Int × LI × LI × LS × Unit) × LI × (List ByteArray) × Int × Int × Unit) → Option (((Int × LI × LI × LS × Unit) × LI × (List ByteArray) × Int × Int × Unit) ⊕ ((LI × Unit))) := fun ((v2_0, v2_1, v2_2, v2_3, _), v8, v21, v22, v23, _) =>
 bif (decide (v23 < v22)) then
  if (((0 : Int) ≤ v23) ∧ (v23 < (((List.length v21) : Nat) : Int))) then
   Option.bind (impl_CostOf (v2_0, v2_1, v2_2, v2_3) (List.getD v21 (Int.toNat v23) ⟨Array.empty⟩)) fun r0 =>
    if (((0 + (List.length v8)) = (List.length v8)) ∧ ((((List.length v8) + (List.length (List.take 1 (List.drop 0 [r0])))) * 8) ≤ 140737488355328)) then
     some (Sum.inl ((v2_0, v2_1, v2_2, v2_3, ()), (List.take ((List.length v8) + (List.length (List.take 1 (List.drop 0 [r0])))) (List.drop 0 ((List.drop 0 v8) ++ (List.take 1 (List.drop 0 [r0]))))), v21, v22, (IntKind.wrap .i64 (v23 + 1)), ()))
    else
     none
  else
   none
 else
  some (Sum.inr ((List.take (List.length v8) (List.drop 0 v8)), ()))
theorem loop8_6 {L} (h : L 6 = some ⟨35, sh8_6, xs8_6, impl_TableOf_l6⟩) : LoopOk prog L (loopOf f8 6) := lo (L' := L0) (by kernel_rfl) E8_ok allNil h
def L8_1 : Nat → Option LoopD := fun n => ifEq n 6 (some ⟨35, sh8_6, xs8_6, impl_TableOf_l6⟩) (L0 n)
def impl_TableOf : TA → Int → Option (LI × Bool) := fun (a0_0, a0_1, a0_2, a0_3) a1 =>
 Option.bind (impl_short a1 (List.take 1 (List.drop 0 [(a0_0, a0_1, a0_2, a0_3)]))) fun (r0, r1) =>
  bif (!r1) then
   some ([], false)
  else
   Option.bind (loopF impl_TableOf_l6 ((a0_0, a0_1, a0_2, a0_3, ()), (List.take 0 (List.drop 0 [])), r0, (((List.length r0) : Nat) : Int), 0, ())) fun (r2, _) =>
    some ((List.take (List.length r2) (List.drop 0 r2)), true)
def A8 : FnA := ⟨[.v kA, .v i6], true, [.sl i6, .bool], fun x => impl_TableOf x.1 x.2.1⟩
theorem A8_ok : FnOk prog 8 A8 := fo (L := L8_1) (by kernel_rfl) func8 E8_ok (allCons (loop8_6 rfl) allNil)
def E3 : Env := ev fun g => ifEq g 4 (some A4) (ifEq g 5 (some A5) (ifEq g 6 (some A6) (ifEq g 7 (some A7) (ifEq g 8 (some A8) (ifEq g 9 (some A9) (none))))))
theorem E3_ok : FnsOk prog E3 := (oF A4_ok func4 (oF A5_ok func5 (oF A6_ok func6 (oF A7_ok func7 (oF A8_ok func8 (oF A9_ok func9 (noFns _ _)))))))
def sh3_13 : List Fm := d :: d :: d :: .box 100300 [.val i6, .val sI, .val sI, .val sS] :: .box 100400 [.val i6, .val sI, .val sI, .val sS] :: .cell (.val i6) :: .cell (.val .bool) :: D 4 (.cell (.val .bool) :: D 55 (.cell (.own i6 106700 false) :: .cell (.val i6) :: .cell (.val i6) :: D 20 []))
def xs3_13 : List (Ex × List Fm) := [(.exit 0, [d, d, d, .box 100300 [.val i6, .val sI, .val sI, .val sS], .box 100400 [.val i6, .val sI, .val sI, .val sS], .cell (.val i6), .cell (.val .bool), d, d, d, d, .cell (.val .bool), d, d, d, d, d, d, d, d, d, d, d, d, d, d, d, d, d, d, d, d, d, d, d, d, d, d, d, d, d, d, d, d, d, d, d, d, d, d, d, d, d, d, d, d, d, d, d, d, d, d, d, d, d, d, d, d, d, d, d, d, d, d, d, d, d, d, d, d, d, d, d, d, d, d, d, d, d, d])]
def laws_FnApart_l13 : ((Int × LI × LI × LS × Unit) × (Int × LI × LI × LS × Unit) × Int × Bool × Bool × LI × Int × Int × Unit) → Option (((Int × LI × LI × LS × Unit) × (Int × LI × LI × LS × Unit) × Int × Bool × Bool × LI × Int × Int × Unit) ⊕ (((Int × LI × LI × LS × Unit) × (Int × LI × LI × LS × Unit) × Int × Bool × Bool × Unit))) := fun ((v3_0, v3_1, v3_2, v3_3, _), (v4_0, v4_1, v4_2, v4_3, _), v5, v6, v11, v67, v68, v69, _) =>
 bif (decide (v69 < v68)) then
  if (((0 : Int) ≤ v69) ∧ (v69 < (((List.length v67) : Nat) : Int))) then
   bif v11 then
    some (Sum.inl ((v3_0, v3_1, v3_2, v3_3, ()), (v4_0, v4_1, v4_2, v4_3, ()), v5, v6, ((List.getD v67 (0 + (Int.toNat v69)) 0) == 1000000), (List.take (List.length v67) (List.drop 0 v67)), v68, (IntKind.wrap .i64 (v69 + 1)), ()))
   else
    some (Sum.inl ((v3_0, v3_1, v3_2, v3_3, ()), (v4_0, v4_1, v4_2, v4_3, ()), v5, v6, false, (List.take (List.length v67) (List.drop 0 v67)), v68, (IntKind.wrap .i64 (v69 + 1)), ()))
  else
   none
 else
  some (Sum.inr ((v3_0, v3_1, v3_2, v3_3, ()), (v4_0, v4_1, v4_2, v4_3, ()), v5, v6, v11, ()))
theorem loop3_13 {L} (h : L 13 = some ⟨90, sh3_13, xs3_13, laws_FnApart_l13⟩) : LoopOk prog L (loopOf f3 13) := lo (L' := L0) (by kernel_rfl) E3_ok allNil h
def L3_1 : Nat → Option LoopD := fun n => ifEq n 13 (some ⟨90, sh3_13, xs3_13, laws_FnApart_l13⟩) (L0 n)
def laws_FnApart : LI → Option (Bool) := fun a0 =>
 bif (decide ((((List.length a0) : Nat) : Int) > 1048576)) then
  some true
 else
  Option.bind (spec_DrawAreApart a0) fun ((r0, r1, r2, r3), (r4, r5, r6, r7), r8) =>
   Option.bind (impl_AreApart (r0, r1, r2, r3) (r4, r5, r6, r7) r8) fun r9 =>
    Option.bind (spec_AreApart (r0, r1, r2, r3) (r4, r5, r6, r7) r8) fun r10 =>
     bif (!(r9 == r10)) then
      some false
     else
      Option.bind (impl_SumAutomaton (r0, r1, r2, r3) (r4, r5, r6, r7)) fun ((r11, r12, r13, r14), r15) =>
       Option.bind (impl_TableOf (r11, (List.take (List.length r12) (List.drop 0 r12)), (List.take (List.length r13) (List.drop 0 r13)), (List.take (List.length r14) (List.drop 0 r14))) r8) fun (r16, r17) =>
        bif (!r15) then
         bif (!r9) then
          some true
         else
          Option.bind (impl_AutomatonValid (r0, r1, r2, r3)) fun r18 =>
           bif r18 then
            Option.bind (impl_AutomatonValid (r4, r5, r6, r7)) fun r19 =>
             bif r19 then
              Option.bind (impl_AreApart (r4, r5, r6, r7) (r0, r1, r2, r3) r8) fun r20 =>
               some r20
             else
              some false
           else
            some false
        else
         bif (!r17) then
          bif (!r9) then
           some true
          else
           Option.bind (impl_AutomatonValid (r0, r1, r2, r3)) fun r21 =>
            bif r21 then
             Option.bind (impl_AutomatonValid (r4, r5, r6, r7)) fun r22 =>
              bif r22 then
               Option.bind (impl_AreApart (r4, r5, r6, r7) (r0, r1, r2, r3) r8) fun r23 =>
                some r23
              else
               some false
            else
             some false
         else
          Option.bind (loopF laws_FnApart_l13 ((r0, r1, r2, r3, ()), (r4, r5, r6, r7, ()), r8, r9, true, (List.take (List.length r16) (List.drop 0 r16)), (((List.length r16) : Nat) : Int), 0, ())) fun ((r24, r25, r26, r27, _), (r28, r29, r30, r31, _), r32, r33, r34, _) =>
           bif (r33 == r34) then
            Option.bind (impl_AreApart (r28, r29, r30, r31) (r24, r25, r26, r27) r32) fun r35 =>
             some (r35 == r33)
           else
            some false
def A3 : FnA := ⟨[.v (.sl (.int .u8))], true, [.bool], fun x => laws_FnApart x.1⟩
theorem A3_ok : FnOk prog 3 A3 := fo (L := L3_1) (by kernel_rfl) func3 E3_ok (allCons (loop3_13 rfl) allNil)
end
end Go.Proofs.Ytogigagfgkfkhaa
