/- What Go functions that the laws reach compute, and that they do: written by a program of this session. -/
import Derived.Test.YtfdhmmnffahhgaaGreatG1
import Derived.KernelRfl
set_option linter.unusedVariables false
namespace Go.Proofs.YtfdhmmnffahhgaaGreat
open Go Go.Proofs.YtfdhmmnffahhgaaGreat.Am Go.Proofs.Tryz
set_option maxRecDepth 100000
/-! impl.toEnd -/
noncomputable def E36 : Env := ⟨ty0, fun g => ifEq g 57 (some A57) (none), fun _ => none, fun _ => none, fun _ => none⟩
theorem E36_ok : FnsOk prog E36 := (oF A57_ok func57 (noFns _ _))
noncomputable def L36_0 : Nat → Option LoopD := fun _ => none
def sh36_3 : List Fm := d :: .cell (.val .str) :: .box 100200 [.val (.int .i64), .val (.sl (.int .i64)), .val (.sl (.int .i64)), .val (.sl (.pair (.int .i64) (.pair .str (.pair (.int .i64) (.int .i64)))))] :: d :: d :: .cell (.own (.int .i64) 100500 false) :: D 12 (.cell (.val (.sl (.int .i64))) :: .cell (.val (.int .i64)) :: .cell (.val (.int .i64)) :: D 60 [])
def xs36_3 : List (Ex × List Fm) := [(.exit 0, [d, .cell (.val .str), .box 100200 [.val (.int .i64), .val (.sl (.int .i64)), .val (.sl (.int .i64)), .val (.sl (.pair (.int .i64) (.pair .str (.pair (.int .i64) (.int .i64)))))], d, d, .cell (.own (.int .i64) 100500 false), d, d, d, d, d, d, d, d, d, d, d, d, d, d, d, d, d, d, d, d, d, d, d, d, d, d, d, d, d, d, d, d, d, d, d, d, d, d, d, d, d, d, d, d, d, d, d, d, d, d, d, d, d, d, d, d, d, d, d, d, d, d, d, d, d, d, d, d, d, d, d, d, d, d, d])]
noncomputable def impl_toEnd_l3 : (ByteArray × (Int × (List Int) × (List Int) × (List (Int × (ByteArray × (Int × Int)))) × Unit) × (List Int) × (List Int) × Int × Int × Unit) → Option ((ByteArray × (Int × (List Int) × (List Int) × (List (Int × (ByteArray × (Int × Int)))) × Unit) × (List Int) × (List Int) × Int × Int × Unit) ⊕ ((ByteArray × (Int × (List Int) × (List Int) × (List (Int × (ByteArray × (Int × Int)))) × Unit) × (List Int) × Unit))) := fun (v1, (v2_0, v2_1, v2_2, v2_3, _), v5, v18, v19, v20, _) =>
 bif (decide (v20 < v19)) then
  if (((0 : Int) ≤ v20) ∧ (v20 < (((List.length v18) : Nat) : Int))) then
   if (((0 : Int) ≤ (List.getD v18 (Int.toNat v20) (0 : Int))) ∧ ((List.getD v18 (Int.toNat v20) (0 : Int)) < (((List.length v5) : Nat) : Int))) then
    some (Sum.inl (v1, (v2_0, v2_1, v2_2, v2_3, ()), (List.take (List.length v5) (List.drop 0 (List.set v5 (0 + (Int.toNat (List.getD v18 (Int.toNat v20) (0 : Int)))) (0 : Int)))), v18, v19, (IntKind.wrap .i64 (v20 + (1 : Int))), ()))
   else
    none
  else
   none
 else
  some (Sum.inr (v1, (v2_0, v2_1, v2_2, v2_3, ()), (List.take (List.length v5) (List.drop 0 v5)), ()))
theorem impl_toEnd_l3_eq : loopStep 81 E36 L36_0 (loopOf f36 3) sh36_3 xs36_3 = impl_toEnd_l3 := by kernel_rfl
theorem loop36_3 {L} (h : L 3 = some ⟨81, sh36_3, xs36_3, impl_toEnd_l3⟩) : LoopOk prog L (loopOf f36 3) := lo impl_toEnd_l3_eq E36_ok allNil h
noncomputable def L36_1 : Nat → Option LoopD := fun n => ifEq n 3 (some ⟨81, sh36_3, xs36_3, impl_toEnd_l3⟩) (L36_0 n)
def sh36_13 : List Fm := d :: .cell (.val .str) :: .box 100200 [.val (.int .i64), .val (.sl (.int .i64)), .val (.sl (.int .i64)), .val (.sl (.pair (.int .i64) (.pair .str (.pair (.int .i64) (.int .i64)))))] :: d :: d :: .cell (.val (.sl (.int .i64))) :: d :: d :: .cell (.own (.sl (.int .i64)) 100800 false) :: .cell (.val (.int .i64)) :: .cell (.own (.int .i64) 101000 false) :: D 31 (.cell (.val (.sl (.pair (.int .i64) (.pair .str (.pair (.int .i64) (.int .i64)))))) :: .cell (.val (.int .i64)) :: .cell (.val (.int .i64)) :: D 36 [])
def xs36_13 : List (Ex × List Fm) := [(.exit 4, [d, .cell (.val .str), .box 100200 [.val (.int .i64), .val (.sl (.int .i64)), .val (.sl (.int .i64)), .val (.sl (.pair (.int .i64) (.pair .str (.pair (.int .i64) (.int .i64)))))], d, d, d, d, d, .cell (.own (.sl (.int .i64)) 100800 false), .cell (.val (.int .i64)), .cell (.own (.int .i64) 101000 false), d, d, d, d, d, d, d, d, d, d, d, d, d, d, d, d, d, d, d, d, d, d, d, d, d, d, d, d, d, d, d, d, d, d, d, d, d, d, d, d, d, d, d, d, d, d, d, d, d, d, d, d, d, d, d, d, d, d, d, d, d, d, d, d, d, d, d, d, d, d])]
noncomputable def impl_toEnd_l13 : (ByteArray × (Int × (List Int) × (List Int) × (List (Int × (ByteArray × (Int × Int)))) × Unit) × (List Int) × (List (List Int)) × Int × (List Int) × (List (Int × (ByteArray × (Int × Int)))) × Int × Int × Unit) → Option ((ByteArray × (Int × (List Int) × (List Int) × (List (Int × (ByteArray × (Int × Int)))) × Unit) × (List Int) × (List (List Int)) × Int × (List Int) × (List (Int × (ByteArray × (Int × Int)))) × Int × Int × Unit) ⊕ ((ByteArray × (Int × (List Int) × (List Int) × (List (Int × (ByteArray × (Int × Int)))) × Unit) × (List (List Int)) × Int × (List Int) × Unit))) := fun (v1, (v2_0, v2_1, v2_2, v2_3, _), v5, v8, v9, v10, v42, v43, v44, _) =>
 bif (decide (v44 < v43)) then
  if (((0 : Int) ≤ v44) ∧ (v44 < (((List.length v42) : Nat) : Int))) then
   if (((0 : Int) ≤ v9) ∧ ((v9 ≤ (IntKind.wrap .i64 (v9 + (1 : Int)))) ∧ ((IntKind.wrap .i64 (v9 + (1 : Int))) ≤ (((ByteArray.size v1) : Nat) : Int)))) then
    bif ((ByteArray.toList (List.getD v42 (Int.toNat v44) ((0 : Int), (⟨Array.empty⟩ : ByteArray), (0 : Int), (0 : Int))).2.1) == (ByteArray.toList (ByteArray.extract v1 (Int.toNat v9) (Int.toNat (IntKind.wrap .i64 (v9 + (1 : Int))))))) then
     if (((0 : Int) ≤ (List.getD v42 (Int.toNat v44) ((0 : Int), (⟨Array.empty⟩ : ByteArray), (0 : Int), (0 : Int))).1) ∧ ((List.getD v42 (Int.toNat v44) ((0 : Int), (⟨Array.empty⟩ : ByteArray), (0 : Int), (0 : Int))).1 < (((List.length v10) : Nat) : Int))) then
      if (((0 : Int) ≤ (List.getD v42 (Int.toNat v44) ((0 : Int), (⟨Array.empty⟩ : ByteArray), (0 : Int), (0 : Int))).2.2.1) ∧ ((List.getD v42 (Int.toNat v44) ((0 : Int), (⟨Array.empty⟩ : ByteArray), (0 : Int), (0 : Int))).2.2.1 < (((List.length v5) : Nat) : Int))) then
       if (((0 : Int) ≤ (List.getD v42 (Int.toNat v44) ((0 : Int), (⟨Array.empty⟩ : ByteArray), (0 : Int), (0 : Int))).1) ∧ ((List.getD v42 (Int.toNat v44) ((0 : Int), (⟨Array.empty⟩ : ByteArray), (0 : Int), (0 : Int))).1 < (((List.length v10) : Nat) : Int))) then
        some (Sum.inl (v1, (v2_0, v2_1, v2_2, v2_3, ()), v5, (List.take (List.length v8) (List.drop 0 v8)), v9, (List.take (List.length v10) (List.drop 0 (List.set v10 (0 + (Int.toNat (List.getD v42 (Int.toNat v44) ((0 : Int), (⟨Array.empty⟩ : ByteArray), (0 : Int), (0 : Int))).1)) (if ((IntKind.wrap .i64 ((List.getD v42 (Int.toNat v44) ((0 : Int), (⟨Array.empty⟩ : ByteArray), (0 : Int), (0 : Int))).2.2.2 + (List.getD v5 (Int.toNat (List.getD v42 (Int.toNat v44) ((0 : Int), (⟨Array.empty⟩ : ByteArray), (0 : Int), (0 : Int))).2.2.1) (0 : Int)))) < (List.getD v10 (0 + (Int.toNat (List.getD v42 (Int.toNat v44) ((0 : Int), (⟨Array.empty⟩ : ByteArray), (0 : Int), (0 : Int))).1)) (0 : Int))) then (IntKind.wrap .i64 ((List.getD v42 (Int.toNat v44) ((0 : Int), (⟨Array.empty⟩ : ByteArray), (0 : Int), (0 : Int))).2.2.2 + (List.getD v5 (Int.toNat (List.getD v42 (Int.toNat v44) ((0 : Int), (⟨Array.empty⟩ : ByteArray), (0 : Int), (0 : Int))).2.2.1) (0 : Int)))) else (List.getD v10 (0 + (Int.toNat (List.getD v42 (Int.toNat v44) ((0 : Int), (⟨Array.empty⟩ : ByteArray), (0 : Int), (0 : Int))).1)) (0 : Int)))))), v42, v43, (IntKind.wrap .i64 (v44 + (1 : Int))), ()))
       else
        none
      else
       none
     else
      none
    else
     some (Sum.inl (v1, (v2_0, v2_1, v2_2, v2_3, ()), v5, (List.take (List.length v8) (List.drop 0 v8)), v9, (List.take (List.length v10) (List.drop 0 v10)), v42, v43, (IntKind.wrap .i64 (v44 + (1 : Int))), ()))
   else
    none
  else
   none
 else
  some (Sum.inr (v1, (v2_0, v2_1, v2_2, v2_3, ()), (List.take (List.length v8) (List.drop 0 v8)), v9, (List.take (List.length v10) (List.drop 0 v10)), ()))
theorem impl_toEnd_l13_eq : loopStep 81 E36 L36_1 (loopOf f36 13) sh36_13 xs36_13 = impl_toEnd_l13 := by kernel_rfl
theorem loop36_13 {L} (h : L 13 = some ⟨81, sh36_13, xs36_13, impl_toEnd_l13⟩) : LoopOk prog L (loopOf f36 13) := lo impl_toEnd_l13_eq E36_ok allNil h
noncomputable def L36_2 : Nat → Option LoopD := fun n => ifEq n 13 (some ⟨81, sh36_13, xs36_13, impl_toEnd_l13⟩) (L36_1 n)
def sh36_9 : List Fm := d :: .cell (.val .str) :: .box 100200 [.val (.int .i64), .val (.sl (.int .i64)), .val (.sl (.int .i64)), .val (.sl (.pair (.int .i64) (.pair .str (.pair (.int .i64) (.int .i64)))))] :: d :: d :: .cell (.val (.sl (.int .i64))) :: d :: d :: .cell (.own (.sl (.int .i64)) 100800 false) :: .cell (.val (.int .i64)) :: D 71 []
def xs36_9 : List (Ex × List Fm) := [(.exit 2, (D 8 (.cell (.own (.sl (.int .i64)) 100800 false) :: D 72 [])))]
noncomputable def impl_toEnd_l9 : (ByteArray × (Int × (List Int) × (List Int) × (List (Int × (ByteArray × (Int × Int)))) × Unit) × (List Int) × (List (List Int)) × Int × Unit) → Option ((ByteArray × (Int × (List Int) × (List Int) × (List (Int × (ByteArray × (Int × Int)))) × Unit) × (List Int) × (List (List Int)) × Int × Unit) ⊕ (((List (List Int)) × Unit))) := fun (v1, (v2_0, v2_1, v2_2, v2_3, _), v5, v8, v9, _) =>
 bif (decide (v9 ≥ (0 : Int))) then
  Option.bind (slices_Repeat (List.take 1 (List.drop 0 [(1000000 : Int)])) v2_0) fun r0 =>
   Option.bind (loopF impl_toEnd_l13 (v1, (v2_0, v2_1, v2_2, v2_3, ()), v5, (List.take (List.length v8) (List.drop 0 v8)), v9, (List.take (List.length r0) (List.drop 0 r0)), v2_3, (((List.length v2_3) : Nat) : Int), (0 : Int), ())) fun (r1, (r2, r3, r4, r5, _), r6, r7, r8, _) =>
    if (((0 + (List.length r6)) = (List.length r6)) ∧ ((((List.length r6) + (List.length (List.take 1 (List.drop 0 [(List.take (List.length r8) (List.drop 0 r8))])))) * 24) ≤ 140737488355328)) then
     some (Sum.inl (r1, (r2, r3, r4, r5, ()), (List.take (List.length r8) (List.drop 0 r8)), (List.take ((List.length r6) + (List.length (List.take 1 (List.drop 0 [(List.take (List.length r8) (List.drop 0 r8))])))) (List.drop 0 ((List.drop 0 r6) ++ (List.take 1 (List.drop 0 [(List.take (List.length r8) (List.drop 0 r8))]))))), (IntKind.wrap .i64 (r7 - (1 : Int))), ()))
    else
     none
 else
  some (Sum.inr ((List.take (List.length v8) (List.drop 0 v8)), ()))
theorem impl_toEnd_l9_eq : loopStep 81 E36 L36_2 (loopOf f36 9) sh36_9 xs36_9 = impl_toEnd_l9 := by kernel_rfl
theorem loop36_9 {L} (h : L 9 = some ⟨81, sh36_9, xs36_9, impl_toEnd_l9⟩) : LoopOk prog L (loopOf f36 9) := lo impl_toEnd_l9_eq E36_ok (allCons (loop36_13 rfl) allNil) h
noncomputable def L36_3 : Nat → Option LoopD := fun n => ifEq n 9 (some ⟨81, sh36_9, xs36_9, impl_toEnd_l9⟩) (L36_2 n)
noncomputable def impl_toEnd : (Int × ((List Int) × ((List Int) × (List (Int × (ByteArray × (Int × Int))))))) → ByteArray → Option ((List (List Int))) := fun (a0_0, a0_1, a0_2, a0_3) a1 =>
 Option.bind (slices_Repeat (List.take 1 (List.drop 0 [(1000000 : Int)])) a0_0) fun r0 =>
  Option.bind (loopF impl_toEnd_l3 (a1, (a0_0, a0_1, a0_2, a0_3, ()), (List.take (List.length r0) (List.drop 0 r0)), a0_2, (((List.length a0_2) : Nat) : Int), (0 : Int), ())) fun (r1, (r2, r3, r4, r5, _), r6, _) =>
   Option.bind (loopF impl_toEnd_l9 (r1, (r2, r3, r4, r5, ()), (List.take (List.length r6) (List.drop 0 r6)), (List.take 1 (List.drop 0 [(List.take (List.length r6) (List.drop 0 r6))])), (IntKind.wrap .i64 ((((ByteArray.size r1) : Nat) : Int) - (1 : Int))), ())) fun (r7, _) =>
    some (List.take (List.length r7) (List.drop 0 r7))
noncomputable def A36 : FnA := ⟨[.v (.pair (.int .i64) (.pair (.sl (.int .i64)) (.pair (.sl (.int .i64)) (.sl (.pair (.int .i64) (.pair .str (.pair (.int .i64) (.int .i64)))))))), .v .str], true, [.sl (.sl (.int .i64))], fun x => impl_toEnd x.1 x.2.1⟩
theorem impl_toEnd_eq : fnF E36 L36_3 [.v (.pair (.int .i64) (.pair (.sl (.int .i64)) (.pair (.sl (.int .i64)) (.sl (.pair (.int .i64) (.pair .str (.pair (.int .i64) (.int .i64)))))))), .v .str] true [.sl (.sl (.int .i64))] f36.ntmps f36.results.toList (codeOf f36) = fun x => impl_toEnd x.1 x.2.1 := by kernel_rfl
theorem A36_ok : FnOk prog 36 A36 := fo impl_toEnd_eq func36 E36_ok (allCons (loop36_3 rfl) (allCons (loop36_9 rfl) allNil))
/-! impl.CostOf -/
noncomputable def E13 : Env := ⟨ty0, fun g => ifEq g 34 (some A34) (ifEq g 35 (some A35) (ifEq g 36 (some A36) (none))), fun _ => none, fun _ => none, fun _ => none⟩
theorem E13_ok : FnsOk prog E13 := (oF A34_ok func34 (oF A35_ok func35 (oF A36_ok func36 (noFns _ _))))
noncomputable def L13_0 : Nat → Option LoopD := fun _ => none
def sh13_6 : List Fm := d :: .cell (.val .str) :: d :: d :: d :: .cell (.own (.sl (.int .i64)) 100500 false) :: .cell (.val (.int .i64)) :: D 14 (.cell (.val (.sl (.int .i64))) :: .cell (.val (.int .i64)) :: .cell (.val (.int .i64)) :: D 15 [])
def xs13_6 : List (Ex × List Fm) := [(.exit 0, (D 6 (.cell (.val (.int .i64)) :: D 32 [])))]
noncomputable def impl_CostOf_l6 : (ByteArray × (List (List Int)) × Int × (List Int) × Int × Int × Unit) → Option ((ByteArray × (List (List Int)) × Int × (List Int) × Int × Int × Unit) ⊕ ((Int × Unit))) := fun (v1, v5, v6, v21, v22, v23, _) =>
 bif (decide (v23 < v22)) then
  if (((0 : Int) ≤ v23) ∧ (v23 < (((List.length v21) : Nat) : Int))) then
   if (((0 : Int) ≤ (((ByteArray.size v1) : Nat) : Int)) ∧ ((((ByteArray.size v1) : Nat) : Int) < (((List.length v5) : Nat) : Int))) then
    if (((0 : Int) ≤ (List.getD v21 (Int.toNat v23) (0 : Int))) ∧ ((List.getD v21 (Int.toNat v23) (0 : Int)) < (((List.length (List.getD v5 (0 + (Int.toNat (((ByteArray.size v1) : Nat) : Int))) [])) : Nat) : Int))) then
     some (Sum.inl (v1, (List.take (List.length v5) (List.drop 0 v5)), (if ((List.getD (List.getD v5 (0 + (Int.toNat (((ByteArray.size v1) : Nat) : Int))) []) (Int.toNat (List.getD v21 (Int.toNat v23) (0 : Int))) (0 : Int)) < v6) then (List.getD (List.getD v5 (0 + (Int.toNat (((ByteArray.size v1) : Nat) : Int))) []) (Int.toNat (List.getD v21 (Int.toNat v23) (0 : Int))) (0 : Int)) else v6), v21, v22, (IntKind.wrap .i64 (v23 + (1 : Int))), ()))
    else
     none
   else
    none
  else
   none
 else
  some (Sum.inr (v6, ()))
theorem impl_CostOf_l6_eq : loopStep 39 E13 L13_0 (loopOf f13 6) sh13_6 xs13_6 = impl_CostOf_l6 := by kernel_rfl
theorem loop13_6 {L} (h : L 6 = some ⟨39, sh13_6, xs13_6, impl_CostOf_l6⟩) : LoopOk prog L (loopOf f13 6) := lo impl_CostOf_l6_eq E13_ok allNil h
noncomputable def L13_1 : Nat → Option LoopD := fun n => ifEq n 6 (some ⟨39, sh13_6, xs13_6, impl_CostOf_l6⟩) (L13_0 n)
noncomputable def impl_CostOf : (Int × ((List Int) × ((List Int) × (List (Int × (ByteArray × (Int × Int))))))) → ByteArray → Option (Int) := fun (a0_0, a0_1, a0_2, a0_3) a1 =>
 Option.bind (impl_AutomatonValid (a0_0, a0_1, a0_2, a0_3)) fun r0 =>
  bif (!r0) then
   some (-1 : Int)
  else
   Option.bind (impl_WordValid a1) fun r1 =>
    bif (!r1) then
     some (-1 : Int)
    else
     Option.bind (impl_toEnd (a0_0, a0_1, a0_2, a0_3) a1) fun r2 =>
      Option.bind (loopF impl_CostOf_l6 (a1, (List.take (List.length r2) (List.drop 0 r2)), (1000000 : Int), a0_1, (((List.length a0_1) : Nat) : Int), (0 : Int), ())) fun (r3, _) =>
       some r3
noncomputable def A13 : FnA := ⟨[.v (.pair (.int .i64) (.pair (.sl (.int .i64)) (.pair (.sl (.int .i64)) (.sl (.pair (.int .i64) (.pair .str (.pair (.int .i64) (.int .i64)))))))), .v .str], true, [.int .i64], fun x => impl_CostOf x.1 x.2.1⟩
theorem impl_CostOf_eq : fnF E13 L13_1 [.v (.pair (.int .i64) (.pair (.sl (.int .i64)) (.pair (.sl (.int .i64)) (.sl (.pair (.int .i64) (.pair .str (.pair (.int .i64) (.int .i64)))))))), .v .str] true [.int .i64] f13.ntmps f13.results.toList (codeOf f13) = fun x => impl_CostOf x.1 x.2.1 := by kernel_rfl
theorem A13_ok : FnOk prog 13 A13 := fo impl_CostOf_eq func13 E13_ok (allCons (loop13_6 rfl) allNil)
/-! impl.GradeOf -/
noncomputable def E19 : Env := ⟨ty0, fun g => ifEq g 42 (some A42) (ifEq g 33 (some A33) (none)), fun _ => none, fun _ => none, fun _ => none⟩
theorem E19_ok : FnsOk prog E19 := (oF A42_ok func42 (oF A33_ok func33 (noFns _ _)))
noncomputable def L19_0 : Nat → Option LoopD := fun _ => none
noncomputable def impl_GradeOf : (Int × ((List Int) × ((List Int) × (List (Int × (ByteArray × (Int × Int))))))) → ByteArray → Option (Int) := fun (a0_0, a0_1, a0_2, a0_3) a1 =>
 Option.bind (impl_ValueOf (a0_0, a0_1, a0_2, a0_3) a1) fun ((r0, r1), r2) =>
  bif (!r2) then
   some (-1 : Int)
  else
   Option.bind (impl_GradeBetween (a0_0, a0_1, a0_2, a0_3) (r0, (List.take (List.length r1) (List.drop 0 r1)))) fun r3 =>
    some r3
noncomputable def A19 : FnA := ⟨[.v (.pair (.int .i64) (.pair (.sl (.int .i64)) (.pair (.sl (.int .i64)) (.sl (.pair (.int .i64) (.pair .str (.pair (.int .i64) (.int .i64)))))))), .v .str], true, [.int .i64], fun x => impl_GradeOf x.1 x.2.1⟩
theorem impl_GradeOf_eq : fnF E19 L19_0 [.v (.pair (.int .i64) (.pair (.sl (.int .i64)) (.pair (.sl (.int .i64)) (.sl (.pair (.int .i64) (.pair .str (.pair (.int .i64) (.int .i64)))))))), .v .str] true [.int .i64] f19.ntmps f19.results.toList (codeOf f19) = fun x => impl_GradeOf x.1 x.2.1 := by kernel_rfl
theorem A19_ok : FnOk prog 19 A19 := fo impl_GradeOf_eq func19 E19_ok allNil
/-! laws.FnGrowingOf -/
noncomputable def E5 : Env := ⟨ty0, fun g => ifEq g 15 (some A15) (ifEq g 12 (some A12) (ifEq g 16 (some A16) (ifEq g 17 (some A17) (ifEq g 18 (some A18) (ifEq g 14 (some A14) (ifEq g 13 (some A13) (ifEq g 19 (some A19) (none)))))))), fun _ => none, fun _ => none, fun _ => none⟩
theorem E5_ok : FnsOk prog E5 := (oF A15_ok func15 (oF A12_ok func12 (oF A16_ok func16 (oF A17_ok func17 (oF A18_ok func18 (oF A14_ok func14 (oF A13_ok func13 (oF A19_ok func19 (noFns _ _)))))))))
noncomputable def L5_0 : Nat → Option LoopD := fun _ => none
def sh5_13 : List Fm := d :: d :: d :: .box 100300 [.val (.int .i64), .val (.sl (.int .i64)), .val (.sl (.int .i64)), .val (.sl (.pair (.int .i64) (.pair .str (.pair (.int .i64) (.int .i64)))))] :: .cell (.val .str) :: d :: d :: d :: .cell (.val .bool) :: d :: d :: d :: .cell (.val (.int .i64)) :: D 126 []
def xs5_13 : List (Ex × List Fm) := [(.ret, (d :: d :: .cell (.val .bool) :: D 136 [])), (.exit 0, [d, d, d, .box 100300 [.val (.int .i64), .val (.sl (.int .i64)), .val (.sl (.int .i64)), .val (.sl (.pair (.int .i64) (.pair .str (.pair (.int .i64) (.int .i64)))))], .cell (.val .str), d, d, d, .cell (.val .bool), d, d, d, d, d, d, d, d, d, d, d, d, d, d, d, d, d, d, d, d, d, d, d, d, d, d, d, d, d, d, d, d, d, d, d, d, d, d, d, d, d, d, d, d, d, d, d, d, d, d, d, d, d, d, d, d, d, d, d, d, d, d, d, d, d, d, d, d, d, d, d, d, d, d, d, d, d, d, d, d, d, d, d, d, d, d, d, d, d, d, d, d, d, d, d, d, d, d, d, d, d, d, d, d, d, d, d, d, d, d, d, d, d, d, d, d, d, d, d, d, d, d, d, d, d, d, d, d, d, d])]
noncomputable def laws_FnGrowingOf_l13 : ((Int × (List Int) × (List Int) × (List (Int × (ByteArray × (Int × Int)))) × Unit) × ByteArray × Bool × Int × Unit) → Option (((Int × (List Int) × (List Int) × (List (Int × (ByteArray × (Int × Int)))) × Unit) × ByteArray × Bool × Int × Unit) ⊕ ((Bool × Unit) ⊕ ((Int × (List Int) × (List Int) × (List (Int × (ByteArray × (Int × Int)))) × Unit) × ByteArray × Bool × Unit))) := fun ((v3_0, v3_1, v3_2, v3_3, _), v4, v8, v12, _) =>
 bif (decide (v12 ≤ (IntKind.wrap .i64 ((IntKind.wrap .i64 ((2 : Int) * v3_0)) + (2 : Int))))) then
  Option.bind (impl_ExpandExpression v4 v12) fun (r0, r1) =>
   Option.bind (impl_CostOf (v3_0, v3_1, v3_2, v3_3) r0) fun r2 =>
    bif r1 then
     bif (decide ((((ByteArray.size r0) : Nat) : Int) < (200 : Int))) then
      bif (r2 == (1000000 : Int)) then
       some (Sum.inr (Sum.inl (false, ())))
      else
       if ((IntKind.wrap .i64 (v3_0 + (1 : Int))) = (0 : Int)) then
        none
       else
        bif (decide (r2 < (IntKind.wrap .i64 (Int.tdiv v12 (IntKind.wrap .i64 (v3_0 + (1 : Int))))))) then
         some (Sum.inr (Sum.inl (false, ())))
        else
         some (Sum.inl ((v3_0, v3_1, v3_2, v3_3, ()), v4, v8, (IntKind.wrap .i64 (v12 + (1 : Int))), ()))
     else
      some (Sum.inl ((v3_0, v3_1, v3_2, v3_3, ()), v4, v8, (IntKind.wrap .i64 (v12 + (1 : Int))), ()))
    else
     some (Sum.inl ((v3_0, v3_1, v3_2, v3_3, ()), v4, v8, (IntKind.wrap .i64 (v12 + (1 : Int))), ()))
 else
  some (Sum.inr (Sum.inr ((v3_0, v3_1, v3_2, v3_3, ()), v4, v8, ())))
theorem laws_FnGrowingOf_l13_eq : loopStep 139 E5 L5_0 (loopOf f5 13) sh5_13 xs5_13 = laws_FnGrowingOf_l13 := by kernel_rfl
theorem loop5_13 {L} (h : L 13 = some ⟨139, sh5_13, xs5_13, laws_FnGrowingOf_l13⟩) : LoopOk prog L (loopOf f5 13) := lo laws_FnGrowingOf_l13_eq E5_ok allNil h
noncomputable def L5_1 : Nat → Option LoopD := fun n => ifEq n 13 (some ⟨139, sh5_13, xs5_13, laws_FnGrowingOf_l13⟩) (L5_0 n)
noncomputable def laws_FnGrowingOf : (List Int) → Option (Bool) := fun a0 =>
 bif (decide ((((List.length a0) : Nat) : Int) > (1048576 : Int))) then
  some true
 else
  Option.bind (spec_DrawGrowingOf a0) fun (r0, r1, r2, r3) =>
   Option.bind (impl_GrowingOf (r0, r1, r2, r3)) fun (r4, r5) =>
    Option.bind (spec_GrowingOf (r0, r1, r2, r3)) fun (r6, r7) =>
     Option.bind (impl_IsBounded (r0, r1, r2, r3)) fun (r8, r9) =>
      Option.bind (spec_IsBounded (r0, r1, r2, r3)) fun (r10, r11) =>
       bif (!((ByteArray.toList r4) == (ByteArray.toList r6))) then
        bif ((ByteArray.toList r4) == (ByteArray.toList r6)) then
         bif (r5 == r7) then
          bif (r8 == r10) then
           bif (r9 == r11) then
            some (!r5)
           else
            some false
          else
           some false
         else
          some false
        else
         some false
       else
        bif (!(r5 == r7)) then
         bif ((ByteArray.toList r4) == (ByteArray.toList r6)) then
          bif (r5 == r7) then
           bif (r8 == r10) then
            bif (r9 == r11) then
             some (!r5)
            else
             some false
           else
            some false
          else
           some false
         else
          some false
        else
         bif (!(r8 == r10)) then
          bif ((ByteArray.toList r4) == (ByteArray.toList r6)) then
           bif (r5 == r7) then
            bif (r8 == r10) then
             bif (r9 == r11) then
              some (!r5)
             else
              some false
            else
             some false
           else
            some false
          else
           some false
         else
          bif (!(r9 == r11)) then
           bif ((ByteArray.toList r4) == (ByteArray.toList r6)) then
            bif (r5 == r7) then
             bif (r8 == r10) then
              bif (r9 == r11) then
               some (!r5)
              else
               some false
             else
              some false
            else
             some false
           else
            some false
          else
           bif (!r9) then
            bif ((ByteArray.toList r4) == (ByteArray.toList r6)) then
             bif (r5 == r7) then
              bif (r8 == r10) then
               bif (r9 == r11) then
                some (!r5)
               else
                some false
              else
               some false
             else
              some false
            else
             some false
           else
            bif (!r5) then
             bif r8 then
              some ((ByteArray.toList r4) == (ByteArray.toList (⟨#[]⟩ : ByteArray)))
             else
              some false
            else
             Option.bind (loopF laws_FnGrowingOf_l13 ((r0, r1, r2, r3, ()), r4, r8, (IntKind.wrap .i64 (r0 + (1 : Int))), ())) fun r12 =>
              (match r12 with
              | .inl (d13, _) =>
                some d13
              | .inr ((d14, d15, d16, d17, _), d18, d19, _) =>
                bif (!d19) then
                 Option.bind (impl_GradeOf (d14, d15, d16, d17) d18) fun r20 =>
                  some (r20 == (2 : Int))
                else
                 some false)
noncomputable def A5 : FnA := ⟨[.v (.sl (.int .u8))], true, [.bool], fun x => laws_FnGrowingOf x.1⟩
theorem laws_FnGrowingOf_eq : fnF E5 L5_1 [.v (.sl (.int .u8))] true [.bool] f5.ntmps f5.results.toList (codeOf f5) = fun x => laws_FnGrowingOf x.1 := by kernel_rfl
theorem A5_ok : FnOk prog 5 A5 := fo laws_FnGrowingOf_eq func5 E5_ok (allCons (loop5_13 rfl) allNil)
end Go.Proofs.YtfdhmmnffahhgaaGreat
