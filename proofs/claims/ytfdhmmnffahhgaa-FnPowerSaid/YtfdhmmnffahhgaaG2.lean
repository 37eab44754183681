/- What Go functions that the laws reach compute, and that they do: written by a program of this session. -/
import Derived.Test.YtfdhmmnffahhgaaG1
import Derived.KernelRfl
set_option linter.unusedVariables false
namespace Go.Proofs.Ytfdhmmnffahhgaa
open Go Go.Proofs.Ytfdhmmnffahhgaa.Am Go.Proofs.Try
set_option maxRecDepth 100000
/-! impl.toEnd -/
noncomputable def E63 : Env := ⟨ty0, fun g => ifEq g 108 (some A108) (none), fun _ => none, fun _ => none, fun _ => none⟩
theorem E63_ok : FnsOk prog E63 := (oF A108_ok func108 (noFns _ _))
noncomputable def L63_0 : Nat → Option LoopD := fun _ => none
def sh63_3 : List Fm := d :: .cell (.val .str) :: .box 100200 [.val (.int .i64), .val (.sl (.int .i64)), .val (.sl (.int .i64)), .val (.sl (.pair (.int .i64) (.pair .str (.pair (.int .i64) (.int .i64)))))] :: d :: d :: .cell (.own (.int .i64) 100500 false) :: D 12 (.cell (.val (.sl (.int .i64))) :: .cell (.val (.int .i64)) :: .cell (.val (.int .i64)) :: D 60 [])
def xs63_3 : List (Ex × List Fm) := [(.exit 0, [d, .cell (.val .str), .box 100200 [.val (.int .i64), .val (.sl (.int .i64)), .val (.sl (.int .i64)), .val (.sl (.pair (.int .i64) (.pair .str (.pair (.int .i64) (.int .i64)))))], d, d, .cell (.own (.int .i64) 100500 false), d, d, d, d, d, d, d, d, d, d, d, d, d, d, d, d, d, d, d, d, d, d, d, d, d, d, d, d, d, d, d, d, d, d, d, d, d, d, d, d, d, d, d, d, d, d, d, d, d, d, d, d, d, d, d, d, d, d, d, d, d, d, d, d, d, d, d, d, d, d, d, d, d, d, d])]
noncomputable def impl_toEnd_l3 : (ByteArray × (Int × (List Int) × (List Int) × (List (Int × (ByteArray × (Int × Int)))) × Unit) × (List Int) × (List Int) × Int × Int × Unit) → Option ((ByteArray × (Int × (List Int) × (List Int) × (List (Int × (ByteArray × (Int × Int)))) × Unit) × (List Int) × (List Int) × Int × Int × Unit) ⊕ ((ByteArray × (Int × (List Int) × (List Int) × (List (Int × (ByteArray × (Int × Int)))) × Unit) × (List Int) × Unit))) := fun (v1, (v2_0, v2_1, v2_2, v2_3, _), v5, v18, v19, v20, _) =>
 bif (decide (v20 < v19)) then
  if (((0 : Int) ≤ v20) ∧ (v20 < (((List.length v18) : Nat) : Int))) then
   if (((0 : Int) ≤ (List.getD v18 (Int.toNat v20) (0 : Int))) ∧ ((List.getD v18 (Int.toNat v20) (0 : Int)) < (((List.length v5) : Nat) : Int))) then
    some (Sum.inl (v1, (v2_0, v2_1, v2_2, v2_3, ()), (List.take (List.length v5) (List.drop 0 (List.set v5 (0 + (Int.toNat (List.getD v18 (Int.toNat v20) (0 : Int)))) (0 : Int)))), v18, v19, (IntKind.wrap .i64 (v20 + (1 : Int))), ()))
   else
    none
  else
   none
 else
  some (Sum.inr (v1, (v2_0, v2_1, v2_2, v2_3, ()), (List.take (List.length v5) (List.drop 0 v5)), ()))
theorem impl_toEnd_l3_eq : loopStep 81 E63 L63_0 (loopOf f63 3) sh63_3 xs63_3 = impl_toEnd_l3 := by kernel_rfl
theorem loop63_3 {L} (h : L 3 = some ⟨81, sh63_3, xs63_3, impl_toEnd_l3⟩) : LoopOk prog L (loopOf f63 3) := lo impl_toEnd_l3_eq E63_ok allNil h
noncomputable def L63_1 : Nat → Option LoopD := fun n => ifEq n 3 (some ⟨81, sh63_3, xs63_3, impl_toEnd_l3⟩) (L63_0 n)
def sh63_13 : List Fm := d :: .cell (.val .str) :: .box 100200 [.val (.int .i64), .val (.sl (.int .i64)), .val (.sl (.int .i64)), .val (.sl (.pair (.int .i64) (.pair .str (.pair (.int .i64) (.int .i64)))))] :: d :: d :: .cell (.val (.sl (.int .i64))) :: d :: d :: .cell (.own (.sl (.int .i64)) 100800 false) :: .cell (.val (.int .i64)) :: .cell (.own (.int .i64) 101000 false) :: D 31 (.cell (.val (.sl (.pair (.int .i64) (.pair .str (.pair (.int .i64) (.int .i64)))))) :: .cell (.val (.int .i64)) :: .cell (.val (.int .i64)) :: D 36 [])
def xs63_13 : List (Ex × List Fm) := [(.exit 4, [d, .cell (.val .str), .box 100200 [.val (.int .i64), .val (.sl (.int .i64)), .val (.sl (.int .i64)), .val (.sl (.pair (.int .i64) (.pair .str (.pair (.int .i64) (.int .i64)))))], d, d, d, d, d, .cell (.own (.sl (.int .i64)) 100800 false), .cell (.val (.int .i64)), .cell (.own (.int .i64) 101000 false), d, d, d, d, d, d, d, d, d, d, d, d, d, d, d, d, d, d, d, d, d, d, d, d, d, d, d, d, d, d, d, d, d, d, d, d, d, d, d, d, d, d, d, d, d, d, d, d, d, d, d, d, d, d, d, d, d, d, d, d, d, d, d, d, d, d, d, d, d, d])]
noncomputable def impl_toEnd_l13 : (ByteArray × (Int × (List Int) × (List Int) × (List (Int × (ByteArray × (Int × Int)))) × Unit) × (List Int) × (List (List Int)) × Int × (List Int) × (List (Int × (ByteArray × (Int × Int)))) × Int × Int × Unit) → Option ((ByteArray × (Int × (List Int) × (List Int) × (List (Int × (ByteArray × (Int × Int)))) × Unit) × (List Int) × (List (List Int)) × Int × (List Int) × (List (Int × (ByteArray × (Int × Int)))) × Int × Int × Unit) ⊕ ((ByteArray × (Int × (List Int) × (List Int) × (List (Int × (ByteArray × (Int × Int)))) × Unit) × (List (List Int)) × Int × (List Int) × Unit))) := fun (v1, (v2_0, v2_1, v2_2, v2_3, _), v5, v8, v9, v10, v42, v43, v44, _) =>
 bif (decide (v44 < v43)) then
  if (((0 : Int) ≤ v44) ∧ (v44 < (((List.length v42) : Nat) : Int))) then
   if (((0 : Int) ≤ v9) ∧ ((v9 ≤ (IntKind.wrap .i64 (v9 + (1 : Int)))) ∧ ((IntKind.wrap .i64 (v9 + (1 : Int))) ≤ (((ByteArray.size v1) : Nat) : Int)))) then
    bif ((ByteArray.toList (List.getD v42 (Int.toNat v44) ((0 : Int), (⟨Array.empty⟩ : ByteArray), (0 : Int), (0 : Int))).2.1) == (ByteArray.toList (ByteArray.extract v1 (Int.toNat v9) (Int.toNat (IntKind.wrap .i64 (v9 + (1 : Int))))))) then
     if (((0 : Int) ≤ (List.getD v42 (Int.toNat v44) ((0 : Int), (⟨Array.empty⟩ : ByteArray), (0 : Int), (0 : Int))).1) ∧ ((List.getD v42 (Int.toNat v44) ((0 : Int), (⟨Array.empty⟩ : ByteArray), (0 : Int), (0 : Int))).1 < (((List.length v10) : Nat) : Int))) then
      if (((0 : Int) ≤ (List.getD v42 (Int.toNat v44) ((0 : Int), (⟨Array.empty⟩ : ByteArray), (0 : Int), (0 : Int))).2.2.1) ∧ ((List.getD v42 (Int.toNat v44) ((0 : Int), (⟨Array.empty⟩ : ByteArray), (0 : Int), (0 : Int))).2.2.1 < (((List.length v5) : Nat) : Int))) then
       if (((0 : Int) ≤ (List.getD v42 (Int.toNat v44) ((0 : Int), (⟨Array.empty⟩ : ByteArray), (0 : Int), (0 : Int))).1) ∧ ((List.getD v42 (Int.toNat v44) ((0 : Int), (⟨Array.empty⟩ : ByteArray), (0 : Int), (0 : Int))).1 < (((List.length v10) : Nat) : Int))) then
        some (Sum.inl (v1, (v2_0, v2_1, v2_2, v2_3, ()), v5, (List.take (List.length v8) (List.drop 0 v8)), v9, (List.take (List.length v10) (List.drop 0 (List.set v10 (0 + (Int.toNat (List.getD v42 (Int.toNat v44) ((0 : Int), (⟨Array.empty⟩ : ByteArray), (0 : Int), (0 : Int))).1)) (if ((IntKind.wrap .i64 ((List.getD v42 (Int.toNat v44) ((0 : Int), (⟨Array.empty⟩ : ByteArray), (0 : Int), (0 : Int))).2.2.2 + (List.getD v5 (Int.toNat (List.getD v42 (Int.toNat v44) ((0 : Int), (⟨Array.empty⟩ : ByteArray), (0 : Int), (0 : Int))).2.2.1) (0 : Int)))) < (List.getD v10 (0 + (Int.toNat (List.getD v42 (Int.toNat v44) ((0 : Int), (⟨Array.empty⟩ : ByteArray), (0 : Int), (0 : Int))).1)) (0 : Int))) then (IntKind.wrap .i64 ((List.getD v42 (Int.toNat v44) ((0 : Int), (⟨Array.empty⟩ : ByteArray), (0 : Int), (0 : Int))).2.2.2 + (List.getD v5 (Int.toNat (List.getD v42 (Int.toNat v44) ((0 : Int), (⟨Array.empty⟩ : ByteArray), (0 : Int), (0 : Int))).2.2.1) (0 : Int)))) else (List.getD v10 (0 + (Int.toNat (List.getD v42 (Int.toNat v44) ((0 : Int), (⟨Array.empty⟩ : ByteArray), (0 : Int), (0 : Int))).1)) (0 : Int)))))), v42, v43, (IntKind.wrap .i64 (v44 + (1 : Int))), ()))
       else
        none
      else
       none
     else
      none
    else
     some (Sum.inl (v1, (v2_0, v2_1, v2_2, v2_3, ()), v5, (List.take (List.length v8) (List.drop 0 v8)), v9, (List.take (List.length v10) (List.drop 0 v10)), v42, v43, (IntKind.wrap .i64 (v44 + (1 : Int))), ()))
   else
    none
  else
   none
 else
  some (Sum.inr (v1, (v2_0, v2_1, v2_2, v2_3, ()), (List.take (List.length v8) (List.drop 0 v8)), v9, (List.take (List.length v10) (List.drop 0 v10)), ()))
theorem impl_toEnd_l13_eq : loopStep 81 E63 L63_1 (loopOf f63 13) sh63_13 xs63_13 = impl_toEnd_l13 := by kernel_rfl
theorem loop63_13 {L} (h : L 13 = some ⟨81, sh63_13, xs63_13, impl_toEnd_l13⟩) : LoopOk prog L (loopOf f63 13) := lo impl_toEnd_l13_eq E63_ok allNil h
noncomputable def L63_2 : Nat → Option LoopD := fun n => ifEq n 13 (some ⟨81, sh63_13, xs63_13, impl_toEnd_l13⟩) (L63_1 n)
def sh63_9 : List Fm := d :: .cell (.val .str) :: .box 100200 [.val (.int .i64), .val (.sl (.int .i64)), .val (.sl (.int .i64)), .val (.sl (.pair (.int .i64) (.pair .str (.pair (.int .i64) (.int .i64)))))] :: d :: d :: .cell (.val (.sl (.int .i64))) :: d :: d :: .cell (.own (.sl (.int .i64)) 100800 false) :: .cell (.val (.int .i64)) :: D 71 []
def xs63_9 : List (Ex × List Fm) := [(.exit 2, (D 8 (.cell (.own (.sl (.int .i64)) 100800 false) :: D 72 [])))]
noncomputable def impl_toEnd_l9 : (ByteArray × (Int × (List Int) × (List Int) × (List (Int × (ByteArray × (Int × Int)))) × Unit) × (List Int) × (List (List Int)) × Int × Unit) → Option ((ByteArray × (Int × (List Int) × (List Int) × (List (Int × (ByteArray × (Int × Int)))) × Unit) × (List Int) × (List (List Int)) × Int × Unit) ⊕ (((List (List Int)) × Unit))) := fun (v1, (v2_0, v2_1, v2_2, v2_3, _), v5, v8, v9, _) =>
 bif (decide (v9 ≥ (0 : Int))) then
  Option.bind (slices_Repeat (List.take 1 (List.drop 0 [(1000000 : Int)])) v2_0) fun r0 =>
   Option.bind (loopF impl_toEnd_l13 (v1, (v2_0, v2_1, v2_2, v2_3, ()), v5, (List.take (List.length v8) (List.drop 0 v8)), v9, (List.take (List.length r0) (List.drop 0 r0)), v2_3, (((List.length v2_3) : Nat) : Int), (0 : Int), ())) fun (r1, (r2, r3, r4, r5, _), r6, r7, r8, _) =>
    if (((0 + (List.length r6)) = (List.length r6)) ∧ ((((List.length r6) + (List.length (List.take 1 (List.drop 0 [(List.take (List.length r8) (List.drop 0 r8))])))) * 24) ≤ 140737488355328)) then
     some (Sum.inl (r1, (r2, r3, r4, r5, ()), (List.take (List.length r8) (List.drop 0 r8)), (List.take ((List.length r6) + (List.length (List.take 1 (List.drop 0 [(List.take (List.length r8) (List.drop 0 r8))])))) (List.drop 0 ((List.drop 0 r6) ++ (List.take 1 (List.drop 0 [(List.take (List.length r8) (List.drop 0 r8))]))))), (IntKind.wrap .i64 (r7 - (1 : Int))), ()))
    else
     none
 else
  some (Sum.inr ((List.take (List.length v8) (List.drop 0 v8)), ()))
theorem impl_toEnd_l9_eq : loopStep 81 E63 L63_2 (loopOf f63 9) sh63_9 xs63_9 = impl_toEnd_l9 := by kernel_rfl
theorem loop63_9 {L} (h : L 9 = some ⟨81, sh63_9, xs63_9, impl_toEnd_l9⟩) : LoopOk prog L (loopOf f63 9) := lo impl_toEnd_l9_eq E63_ok (allCons (loop63_13 rfl) allNil) h
noncomputable def L63_3 : Nat → Option LoopD := fun n => ifEq n 9 (some ⟨81, sh63_9, xs63_9, impl_toEnd_l9⟩) (L63_2 n)
noncomputable def impl_toEnd : (Int × ((List Int) × ((List Int) × (List (Int × (ByteArray × (Int × Int))))))) → ByteArray → Option ((List (List Int))) := fun (a0_0, a0_1, a0_2, a0_3) a1 =>
 Option.bind (slices_Repeat (List.take 1 (List.drop 0 [(1000000 : Int)])) a0_0) fun r0 =>
  Option.bind (loopF impl_toEnd_l3 (a1, (a0_0, a0_1, a0_2, a0_3, ()), (List.take (List.length r0) (List.drop 0 r0)), a0_2, (((List.length a0_2) : Nat) : Int), (0 : Int), ())) fun (r1, (r2, r3, r4, r5, _), r6, _) =>
   Option.bind (loopF impl_toEnd_l9 (r1, (r2, r3, r4, r5, ()), (List.take (List.length r6) (List.drop 0 r6)), (List.take 1 (List.drop 0 [(List.take (List.length r6) (List.drop 0 r6))])), (IntKind.wrap .i64 ((((ByteArray.size r1) : Nat) : Int) - (1 : Int))), ())) fun (r7, _) =>
    some (List.take (List.length r7) (List.drop 0 r7))
noncomputable def A63 : FnA := ⟨[.v (.pair (.int .i64) (.pair (.sl (.int .i64)) (.pair (.sl (.int .i64)) (.sl (.pair (.int .i64) (.pair .str (.pair (.int .i64) (.int .i64)))))))), .v .str], true, [.sl (.sl (.int .i64))], fun x => impl_toEnd x.1 x.2.1⟩
theorem impl_toEnd_eq : fnF E63 L63_3 [.v (.pair (.int .i64) (.pair (.sl (.int .i64)) (.pair (.sl (.int .i64)) (.sl (.pair (.int .i64) (.pair .str (.pair (.int .i64) (.int .i64)))))))), .v .str] true [.sl (.sl (.int .i64))] f63.ntmps f63.results.toList (codeOf f63) = fun x => impl_toEnd x.1 x.2.1 := by kernel_rfl
theorem A63_ok : FnOk prog 63 A63 := fo impl_toEnd_eq func63 E63_ok (allCons (loop63_3 rfl) (allCons (loop63_9 rfl) allNil))
/-! impl.CostOf -/
noncomputable def E20 : Env := ⟨ty0, fun g => ifEq g 21 (some A21) (ifEq g 38 (some A38) (ifEq g 63 (some A63) (none))), fun _ => none, fun _ => none, fun _ => none⟩
theorem E20_ok : FnsOk prog E20 := (oF A21_ok func21 (oF A38_ok func38 (oF A63_ok func63 (noFns _ _))))
noncomputable def L20_0 : Nat → Option LoopD := fun _ => none
def sh20_6 : List Fm := d :: .cell (.val .str) :: d :: d :: d :: .cell (.own (.sl (.int .i64)) 100500 false) :: .cell (.val (.int .i64)) :: D 14 (.cell (.val (.sl (.int .i64))) :: .cell (.val (.int .i64)) :: .cell (.val (.int .i64)) :: D 15 [])
def xs20_6 : List (Ex × List Fm) := [(.exit 0, (D 6 (.cell (.val (.int .i64)) :: D 32 [])))]
noncomputable def impl_CostOf_l6 : (ByteArray × (List (List Int)) × Int × (List Int) × Int × Int × Unit) → Option ((ByteArray × (List (List Int)) × Int × (List Int) × Int × Int × Unit) ⊕ ((Int × Unit))) := fun (v1, v5, v6, v21, v22, v23, _) =>
 bif (decide (v23 < v22)) then
  if (((0 : Int) ≤ v23) ∧ (v23 < (((List.length v21) : Nat) : Int))) then
   if (((0 : Int) ≤ (((ByteArray.size v1) : Nat) : Int)) ∧ ((((ByteArray.size v1) : Nat) : Int) < (((List.length v5) : Nat) : Int))) then
    if (((0 : Int) ≤ (List.getD v21 (Int.toNat v23) (0 : Int))) ∧ ((List.getD v21 (Int.toNat v23) (0 : Int)) < (((List.length (List.getD v5 (0 + (Int.toNat (((ByteArray.size v1) : Nat) : Int))) [])) : Nat) : Int))) then
     some (Sum.inl (v1, (List.take (List.length v5) (List.drop 0 v5)), (if ((List.getD (List.getD v5 (0 + (Int.toNat (((ByteArray.size v1) : Nat) : Int))) []) (Int.toNat (List.getD v21 (Int.toNat v23) (0 : Int))) (0 : Int)) < v6) then (List.getD (List.getD v5 (0 + (Int.toNat (((ByteArray.size v1) : Nat) : Int))) []) (Int.toNat (List.getD v21 (Int.toNat v23) (0 : Int))) (0 : Int)) else v6), v21, v22, (IntKind.wrap .i64 (v23 + (1 : Int))), ()))
    else
     none
   else
    none
  else
   none
 else
  some (Sum.inr (v6, ()))
theorem impl_CostOf_l6_eq : loopStep 39 E20 L20_0 (loopOf f20 6) sh20_6 xs20_6 = impl_CostOf_l6 := by kernel_rfl
theorem loop20_6 {L} (h : L 6 = some ⟨39, sh20_6, xs20_6, impl_CostOf_l6⟩) : LoopOk prog L (loopOf f20 6) := lo impl_CostOf_l6_eq E20_ok allNil h
noncomputable def L20_1 : Nat → Option LoopD := fun n => ifEq n 6 (some ⟨39, sh20_6, xs20_6, impl_CostOf_l6⟩) (L20_0 n)
noncomputable def impl_CostOf : (Int × ((List Int) × ((List Int) × (List (Int × (ByteArray × (Int × Int))))))) → ByteArray → Option (Int) := fun (a0_0, a0_1, a0_2, a0_3) a1 =>
 Option.bind (impl_AutomatonValid (a0_0, a0_1, a0_2, a0_3)) fun r0 =>
  bif (!r0) then
   some (-1 : Int)
  else
   Option.bind (impl_WordValid a1) fun r1 =>
    bif (!r1) then
     some (-1 : Int)
    else
     Option.bind (impl_toEnd (a0_0, a0_1, a0_2, a0_3) a1) fun r2 =>
      Option.bind (loopF impl_CostOf_l6 (a1, (List.take (List.length r2) (List.drop 0 r2)), (1000000 : Int), a0_1, (((List.length a0_1) : Nat) : Int), (0 : Int), ())) fun (r3, _) =>
       some r3
noncomputable def A20 : FnA := ⟨[.v (.pair (.int .i64) (.pair (.sl (.int .i64)) (.pair (.sl (.int .i64)) (.sl (.pair (.int .i64) (.pair .str (.pair (.int .i64) (.int .i64)))))))), .v .str], true, [.int .i64], fun x => impl_CostOf x.1 x.2.1⟩
theorem impl_CostOf_eq : fnF E20 L20_1 [.v (.pair (.int .i64) (.pair (.sl (.int .i64)) (.pair (.sl (.int .i64)) (.sl (.pair (.int .i64) (.pair .str (.pair (.int .i64) (.int .i64)))))))), .v .str] true [.int .i64] f20.ntmps f20.results.toList (codeOf f20) = fun x => impl_CostOf x.1 x.2.1 := by kernel_rfl
theorem A20_ok : FnOk prog 20 A20 := fo impl_CostOf_eq func20 E20_ok (allCons (loop20_6 rfl) allNil)
/-! impl.factors -/
noncomputable def E62 : Env := ⟨ty0, fun g => ifEq g 108 (some A108) (ifEq g 20 (some A20) (none)), fun _ => none, fun _ => none, fun _ => none⟩
theorem E62_ok : FnsOk prog E62 := (oF A108_ok func108 (oF A20_ok func20 (noFns _ _)))
noncomputable def L62_0 : Nat → Option LoopD := fun _ => none
def sh62_7 : List Fm := d :: .cell (.val .str) :: .box 100200 [.val (.int .i64), .val (.sl (.int .i64)), .val (.sl (.int .i64)), .val (.sl (.pair (.int .i64) (.pair .str (.pair (.int .i64) (.int .i64)))))] :: d :: d :: .cell (.own (.int .i64) 100500 false) :: .cell (.val (.int .i64)) :: .cell (.val (.int .i64)) :: D 52 []
def xs62_7 : List (Ex × List Fm) := [(.exit 2, [d, .cell (.val .str), .box 100200 [.val (.int .i64), .val (.sl (.int .i64)), .val (.sl (.int .i64)), .val (.sl (.pair (.int .i64) (.pair .str (.pair (.int .i64) (.int .i64)))))], d, d, .cell (.own (.int .i64) 100500 false), .cell (.val (.int .i64)), d, d, d, d, d, d, d, d, d, d, d, d, d, d, d, d, d, d, d, d, d, d, d, d, d, d, d, d, d, d, d, d, d, d, d, d, d, d, d, d, d, d, d, d, d, d, d, d, d, d, d, d, d])]
noncomputable def impl_factors_l7 : (ByteArray × (Int × (List Int) × (List Int) × (List (Int × (ByteArray × (Int × Int)))) × Unit) × (List Int) × Int × Int × Unit) → Option ((ByteArray × (Int × (List Int) × (List Int) × (List (Int × (ByteArray × (Int × Int)))) × Unit) × (List Int) × Int × Int × Unit) ⊕ ((ByteArray × (Int × (List Int) × (List Int) × (List (Int × (ByteArray × (Int × Int)))) × Unit) × (List Int) × Int × Unit))) := fun (v1, (v2_0, v2_1, v2_2, v2_3, _), v5, v6, v7, _) =>
 bif (decide (v7 ≤ (((ByteArray.size v1) : Nat) : Int))) then
  if (((0 : Int) ≤ v7) ∧ (v7 < (((List.length v5) : Nat) : Int))) then
   bif (decide ((List.getD v5 (0 + (Int.toNat v7)) (0 : Int)) < (1000000 : Int))) then
    if (((0 : Int) ≤ v6) ∧ ((v6 ≤ v7) ∧ (v7 ≤ (((ByteArray.size v1) : Nat) : Int)))) then
     Option.bind (impl_CostOf (v2_0, v2_1, v2_2, v2_3) (ByteArray.extract v1 (Int.toNat v6) (Int.toNat v7))) fun r0 =>
      bif (decide (r0 < (1000000 : Int))) then
       if (((0 : Int) ≤ v6) ∧ (v6 < (((List.length v5) : Nat) : Int))) then
        if (((0 : Int) ≤ v7) ∧ (v7 < (((List.length v5) : Nat) : Int))) then
         if (((0 : Int) ≤ v6) ∧ (v6 < (((List.length v5) : Nat) : Int))) then
          some (Sum.inl (v1, (v2_0, v2_1, v2_2, v2_3, ()), (List.take (List.length v5) (List.drop 0 (List.set v5 (0 + (Int.toNat v6)) (if ((IntKind.wrap .i64 ((List.getD v5 (0 + (Int.toNat v7)) (0 : Int)) + (1 : Int))) < (List.getD v5 (0 + (Int.toNat v6)) (0 : Int))) then (IntKind.wrap .i64 ((List.getD v5 (0 + (Int.toNat v7)) (0 : Int)) + (1 : Int))) else (List.getD v5 (0 + (Int.toNat v6)) (0 : Int)))))), v6, (IntKind.wrap .i64 (v7 + (1 : Int))), ()))
         else
          none
        else
         none
       else
        none
      else
       some (Sum.inl (v1, (v2_0, v2_1, v2_2, v2_3, ()), (List.take (List.length v5) (List.drop 0 v5)), v6, (IntKind.wrap .i64 (v7 + (1 : Int))), ()))
    else
     none
   else
    some (Sum.inl (v1, (v2_0, v2_1, v2_2, v2_3, ()), (List.take (List.length v5) (List.drop 0 v5)), v6, (IntKind.wrap .i64 (v7 + (1 : Int))), ()))
  else
   none
 else
  some (Sum.inr (v1, (v2_0, v2_1, v2_2, v2_3, ()), (List.take (List.length v5) (List.drop 0 v5)), v6, ()))
theorem impl_factors_l7_eq : loopStep 60 E62 L62_0 (loopOf f62 7) sh62_7 xs62_7 = impl_factors_l7 := by kernel_rfl
theorem loop62_7 {L} (h : L 7 = some ⟨60, sh62_7, xs62_7, impl_factors_l7⟩) : LoopOk prog L (loopOf f62 7) := lo impl_factors_l7_eq E62_ok allNil h
noncomputable def L62_1 : Nat → Option LoopD := fun n => ifEq n 7 (some ⟨60, sh62_7, xs62_7, impl_factors_l7⟩) (L62_0 n)
def sh62_4 : List Fm := d :: .cell (.val .str) :: .box 100200 [.val (.int .i64), .val (.sl (.int .i64)), .val (.sl (.int .i64)), .val (.sl (.pair (.int .i64) (.pair .str (.pair (.int .i64) (.int .i64)))))] :: d :: d :: .cell (.own (.int .i64) 100500 false) :: .cell (.val (.int .i64)) :: D 53 []
def xs62_4 : List (Ex × List Fm) := [(.exit 0, (D 5 (.cell (.own (.int .i64) 100500 false) :: D 54 [])))]
noncomputable def impl_factors_l4 : (ByteArray × (Int × (List Int) × (List Int) × (List (Int × (ByteArray × (Int × Int)))) × Unit) × (List Int) × Int × Unit) → Option ((ByteArray × (Int × (List Int) × (List Int) × (List (Int × (ByteArray × (Int × Int)))) × Unit) × (List Int) × Int × Unit) ⊕ (((List Int) × Unit))) := fun (v1, (v2_0, v2_1, v2_2, v2_3, _), v5, v6, _) =>
 bif (decide (v6 ≥ (0 : Int))) then
  Option.bind (loopF impl_factors_l7 (v1, (v2_0, v2_1, v2_2, v2_3, ()), (List.take (List.length v5) (List.drop 0 v5)), v6, (IntKind.wrap .i64 (v6 + (1 : Int))), ())) fun (r0, (r1, r2, r3, r4, _), r5, r6, _) =>
   some (Sum.inl (r0, (r1, r2, r3, r4, ()), (List.take (List.length r5) (List.drop 0 r5)), (IntKind.wrap .i64 (r6 - (1 : Int))), ()))
 else
  some (Sum.inr ((List.take (List.length v5) (List.drop 0 v5)), ()))
theorem impl_factors_l4_eq : loopStep 60 E62 L62_1 (loopOf f62 4) sh62_4 xs62_4 = impl_factors_l4 := by kernel_rfl
theorem loop62_4 {L} (h : L 4 = some ⟨60, sh62_4, xs62_4, impl_factors_l4⟩) : LoopOk prog L (loopOf f62 4) := lo impl_factors_l4_eq E62_ok (allCons (loop62_7 rfl) allNil) h
noncomputable def L62_2 : Nat → Option LoopD := fun n => ifEq n 4 (some ⟨60, sh62_4, xs62_4, impl_factors_l4⟩) (L62_1 n)
noncomputable def impl_factors : (Int × ((List Int) × ((List Int) × (List (Int × (ByteArray × (Int × Int))))))) → ByteArray → Option ((List Int)) := fun (a0_0, a0_1, a0_2, a0_3) a1 =>
 Option.bind (slices_Repeat (List.take 1 (List.drop 0 [(1000000 : Int)])) (IntKind.wrap .i64 ((((ByteArray.size a1) : Nat) : Int) + (1 : Int)))) fun r0 =>
  if (((0 : Int) ≤ (((ByteArray.size a1) : Nat) : Int)) ∧ ((((ByteArray.size a1) : Nat) : Int) < (((List.length r0) : Nat) : Int))) then
   Option.bind (loopF impl_factors_l4 (a1, (a0_0, a0_1, a0_2, a0_3, ()), (List.take (List.length r0) (List.drop 0 (List.set r0 (0 + (Int.toNat (((ByteArray.size a1) : Nat) : Int))) (0 : Int)))), (IntKind.wrap .i64 ((((ByteArray.size a1) : Nat) : Int) - (1 : Int))), ())) fun (r1, _) =>
    some (List.take (List.length r1) (List.drop 0 r1))
  else
   none
noncomputable def A62 : FnA := ⟨[.v (.pair (.int .i64) (.pair (.sl (.int .i64)) (.pair (.sl (.int .i64)) (.sl (.pair (.int .i64) (.pair .str (.pair (.int .i64) (.int .i64)))))))), .v .str], true, [.sl (.int .i64)], fun x => impl_factors x.1 x.2.1⟩
theorem impl_factors_eq : fnF E62 L62_2 [.v (.pair (.int .i64) (.pair (.sl (.int .i64)) (.pair (.sl (.int .i64)) (.sl (.pair (.int .i64) (.pair .str (.pair (.int .i64) (.int .i64)))))))), .v .str] true [.sl (.int .i64)] f62.ntmps f62.results.toList (codeOf f62) = fun x => impl_factors x.1 x.2.1 := by kernel_rfl
theorem A62_ok : FnOk prog 62 A62 := fo impl_factors_eq func62 E62_ok (allCons (loop62_4 rfl) allNil)
/-! impl.FactorsOf -/
noncomputable def E19 : Env := ⟨ty0, fun g => ifEq g 21 (some A21) (ifEq g 38 (some A38) (ifEq g 62 (some A62) (none))), fun _ => none, fun _ => none, fun _ => none⟩
theorem E19_ok : FnsOk prog E19 := (oF A21_ok func21 (oF A38_ok func38 (oF A62_ok func62 (noFns _ _))))
noncomputable def L19_0 : Nat → Option LoopD := fun _ => none
noncomputable def impl_FactorsOf : (Int × ((List Int) × ((List Int) × (List (Int × (ByteArray × (Int × Int))))))) → ByteArray → Option (Int) := fun (a0_0, a0_1, a0_2, a0_3) a1 =>
 Option.bind (impl_AutomatonValid (a0_0, a0_1, a0_2, a0_3)) fun r0 =>
  bif (!r0) then
   some (-1 : Int)
  else
   Option.bind (impl_WordValid a1) fun r1 =>
    bif (!r1) then
     some (-1 : Int)
    else
     bif (decide ((((ByteArray.size a1) : Nat) : Int) > (40 : Int))) then
      some (-1 : Int)
     else
      Option.bind (impl_factors (a0_0, a0_1, a0_2, a0_3) a1) fun r2 =>
       if (((0 : Int) ≤ (0 : Int)) ∧ ((0 : Int) < (((List.length r2) : Nat) : Int))) then
        some (List.getD r2 (0 + (Int.toNat (0 : Int))) (0 : Int))
       else
        none
noncomputable def A19 : FnA := ⟨[.v (.pair (.int .i64) (.pair (.sl (.int .i64)) (.pair (.sl (.int .i64)) (.sl (.pair (.int .i64) (.pair .str (.pair (.int .i64) (.int .i64)))))))), .v .str], true, [.int .i64], fun x => impl_FactorsOf x.1 x.2.1⟩
theorem impl_FactorsOf_eq : fnF E19 L19_0 [.v (.pair (.int .i64) (.pair (.sl (.int .i64)) (.pair (.sl (.int .i64)) (.sl (.pair (.int .i64) (.pair .str (.pair (.int .i64) (.int .i64)))))))), .v .str] true [.int .i64] f19.ntmps f19.results.toList (codeOf f19) = fun x => impl_FactorsOf x.1 x.2.1 := by kernel_rfl
theorem A19_ok : FnOk prog 19 A19 := fo impl_FactorsOf_eq func19 E19_ok allNil
/-! impl.ReverseAutomaton$1 -/
noncomputable def E109 : Env := ⟨ty0, fun _ => none, fun _ => none, fun _ => none, fun _ => none⟩
theorem E109_ok : FnsOk prog E109 := (noFns _ _)
noncomputable def L109_0 : Nat → Option LoopD := fun _ => none
noncomputable def impl_ReverseAutomaton_1 : (Int × (ByteArray × (Int × Int))) → Option ((Int × (ByteArray × (Int × Int)))) := fun (a0_0, a0_1, a0_2, a0_3) =>
 some (a0_2, a0_1, a0_0, a0_3)
noncomputable def A109 : FnA := ⟨[.v (.pair (.int .i64) (.pair .str (.pair (.int .i64) (.int .i64))))], true, [.pair (.int .i64) (.pair .str (.pair (.int .i64) (.int .i64)))], fun x => impl_ReverseAutomaton_1 x.1⟩
theorem impl_ReverseAutomaton_1_eq : fnF E109 L109_0 [.v (.pair (.int .i64) (.pair .str (.pair (.int .i64) (.int .i64))))] true [.pair (.int .i64) (.pair .str (.pair (.int .i64) (.int .i64)))] f109.ntmps f109.results.toList (codeOf f109) = fun x => impl_ReverseAutomaton_1 x.1 := by kernel_rfl
theorem A109_ok : FnOk prog 109 A109 := fo impl_ReverseAutomaton_1_eq func109 E109_ok allNil
/-! impl.ReverseAutomaton -/
noncomputable def E65 : Env := ⟨ty0, fun g => ifEq g 21 (some A21) (ifEq g 50 (some A50) (ifEq g 109 (some A109) (ifEq g 56 (some A56) (none)))), fun _ => none, fun _ => none, fun _ => none⟩
theorem E65_ok : FnsOk prog E65 := (oF A21_ok func21 (oF A50_ok func50 (oF A109_ok func109 (oF A56_ok func56 (noFns _ _)))))
noncomputable def L65_0 : Nat → Option LoopD := fun _ => none
noncomputable def impl_ReverseAutomaton : (Int × ((List Int) × ((List Int) × (List (Int × (ByteArray × (Int × Int))))))) → Option ((Int × ((List Int) × ((List Int) × (List (Int × (ByteArray × (Int × Int))))))) × Bool) := fun (a0_0, a0_1, a0_2, a0_3) =>
 Option.bind (impl_AutomatonValid (a0_0, a0_1, a0_2, a0_3)) fun r0 =>
  bif (!r0) then
   some (((0 : Int), [], [], []), false)
  else
   Option.bind (impl_stepped a0_3 (fun y1 => (impl_ReverseAutomaton_1 y1.1))) fun r2 =>
    Option.bind (impl_made a0_0 a0_2 a0_1 (List.take (List.length r2) (List.drop 0 r2))) fun ((r3, r4, r5, r6), r7) =>
     some ((r3, (List.take (List.length r4) (List.drop 0 r4)), (List.take (List.length r5) (List.drop 0 r5)), (List.take (List.length r6) (List.drop 0 r6))), r7)
noncomputable def A65 : FnA := ⟨[.v (.pair (.int .i64) (.pair (.sl (.int .i64)) (.pair (.sl (.int .i64)) (.sl (.pair (.int .i64) (.pair .str (.pair (.int .i64) (.int .i64))))))))], true, [.pair (.int .i64) (.pair (.sl (.int .i64)) (.pair (.sl (.int .i64)) (.sl (.pair (.int .i64) (.pair .str (.pair (.int .i64) (.int .i64))))))), .bool], fun x => impl_ReverseAutomaton x.1⟩
theorem impl_ReverseAutomaton_eq : fnF E65 L65_0 [.v (.pair (.int .i64) (.pair (.sl (.int .i64)) (.pair (.sl (.int .i64)) (.sl (.pair (.int .i64) (.pair .str (.pair (.int .i64) (.int .i64))))))))] true [.pair (.int .i64) (.pair (.sl (.int .i64)) (.pair (.sl (.int .i64)) (.sl (.pair (.int .i64) (.pair .str (.pair (.int .i64) (.int .i64))))))), .bool] f65.ntmps f65.results.toList (codeOf f65) = fun x => impl_ReverseAutomaton x.1 := by kernel_rfl
theorem A65_ok : FnOk prog 65 A65 := fo impl_ReverseAutomaton_eq func65 E65_ok allNil
/-! impl.reached -/
noncomputable def E66 : Env := ⟨ty0, fun _ => none, fun _ => none, fun _ => none, fun _ => none⟩
theorem E66_ok : FnsOk prog E66 := (noFns _ _)
noncomputable def L66_0 : Nat → Option LoopD := fun _ => none
def sh66_3 : List Fm := d :: d :: .box 100200 [.val (.int .i64), .val (.sl (.int .i64)), .val (.sl (.int .i64)), .val (.sl (.pair (.int .i64) (.pair .str (.pair (.int .i64) (.int .i64)))))] :: d :: d :: .cell (.own .bool 100500 false) :: D 7 (.cell (.val (.sl (.int .i64))) :: .cell (.val (.int .i64)) :: .cell (.val (.int .i64)) :: D 37 [])
def xs66_3 : List (Ex × List Fm) := [(.exit 0, [d, d, .box 100200 [.val (.int .i64), .val (.sl (.int .i64)), .val (.sl (.int .i64)), .val (.sl (.pair (.int .i64) (.pair .str (.pair (.int .i64) (.int .i64)))))], d, d, .cell (.own .bool 100500 false), d, d, d, d, d, d, d, d, d, d, d, d, d, d, d, d, d, d, d, d, d, d, d, d, d, d, d, d, d, d, d, d, d, d, d, d, d, d, d, d, d, d, d, d, d, d, d])]
noncomputable def impl_reached_l3 : ((Int × (List Int) × (List Int) × (List (Int × (ByteArray × (Int × Int)))) × Unit) × (List Bool) × (List Int) × Int × Int × Unit) → Option (((Int × (List Int) × (List Int) × (List (Int × (ByteArray × (Int × Int)))) × Unit) × (List Bool) × (List Int) × Int × Int × Unit) ⊕ (((Int × (List Int) × (List Int) × (List (Int × (ByteArray × (Int × Int)))) × Unit) × (List Bool) × Unit))) := fun ((v2_0, v2_1, v2_2, v2_3, _), v5, v13, v14, v15, _) =>
 bif (decide (v15 < v14)) then
  if (((0 : Int) ≤ v15) ∧ (v15 < (((List.length v13) : Nat) : Int))) then
   if (((0 : Int) ≤ (List.getD v13 (Int.toNat v15) (0 : Int))) ∧ ((List.getD v13 (Int.toNat v15) (0 : Int)) < (((List.length v5) : Nat) : Int))) then
    some (Sum.inl ((v2_0, v2_1, v2_2, v2_3, ()), (List.take (List.length v5) (List.drop 0 (List.set v5 (0 + (Int.toNat (List.getD v13 (Int.toNat v15) (0 : Int)))) true))), v13, v14, (IntKind.wrap .i64 (v15 + (1 : Int))), ()))
   else
    none
  else
   none
 else
  some (Sum.inr ((v2_0, v2_1, v2_2, v2_3, ()), (List.take (List.length v5) (List.drop 0 v5)), ()))
theorem impl_reached_l3_eq : loopStep 53 E66 L66_0 (loopOf f66 3) sh66_3 xs66_3 = impl_reached_l3 := by kernel_rfl
theorem loop66_3 {L} (h : L 3 = some ⟨53, sh66_3, xs66_3, impl_reached_l3⟩) : LoopOk prog L (loopOf f66 3) := lo impl_reached_l3_eq E66_ok allNil h
noncomputable def L66_1 : Nat → Option LoopD := fun n => ifEq n 3 (some ⟨53, sh66_3, xs66_3, impl_reached_l3⟩) (L66_0 n)
def sh66_10 : List Fm := d :: d :: .box 100200 [.val (.int .i64), .val (.sl (.int .i64)), .val (.sl (.int .i64)), .val (.sl (.pair (.int .i64) (.pair .str (.pair (.int .i64) (.int .i64)))))] :: d :: d :: .cell (.own .bool 100500 false) :: D 18 (.cell (.val (.int .i64)) :: .cell (.val (.int .i64)) :: d :: d :: .cell (.val (.sl (.pair (.int .i64) (.pair .str (.pair (.int .i64) (.int .i64)))))) :: .cell (.val (.int .i64)) :: .cell (.val (.int .i64)) :: D 22 [])
def xs66_10 : List (Ex × List Fm) := [(.exit 4, [d, d, .box 100200 [.val (.int .i64), .val (.sl (.int .i64)), .val (.sl (.int .i64)), .val (.sl (.pair (.int .i64) (.pair .str (.pair (.int .i64) (.int .i64)))))], d, d, .cell (.own .bool 100500 false), d, d, d, d, d, d, d, d, d, d, d, d, d, d, d, d, d, d, .cell (.val (.int .i64)), .cell (.val (.int .i64)), d, d, d, d, d, d, d, d, d, d, d, d, d, d, d, d, d, d, d, d, d, d, d, d, d, d, d])]
noncomputable def impl_reached_l10 : ((Int × (List Int) × (List Int) × (List (Int × (ByteArray × (Int × Int)))) × Unit) × (List Bool) × Int × Int × (List (Int × (ByteArray × (Int × Int)))) × Int × Int × Unit) → Option (((Int × (List Int) × (List Int) × (List (Int × (ByteArray × (Int × Int)))) × Unit) × (List Bool) × Int × Int × (List (Int × (ByteArray × (Int × Int)))) × Int × Int × Unit) ⊕ (((Int × (List Int) × (List Int) × (List (Int × (ByteArray × (Int × Int)))) × Unit) × (List Bool) × Int × Int × Unit))) := fun ((v2_0, v2_1, v2_2, v2_3, _), v5, v24, v25, v28, v29, v30, _) =>
 bif (decide (v30 < v29)) then
  if (((0 : Int) ≤ v30) ∧ (v30 < (((List.length v28) : Nat) : Int))) then
   if (((0 : Int) ≤ (List.getD v28 (Int.toNat v30) ((0 : Int), (⟨Array.empty⟩ : ByteArray), (0 : Int), (0 : Int))).2.2.1) ∧ ((List.getD v28 (Int.toNat v30) ((0 : Int), (⟨Array.empty⟩ : ByteArray), (0 : Int), (0 : Int))).2.2.1 < (((List.length v5) : Nat) : Int))) then
    bif (List.getD v5 (0 + (Int.toNat (List.getD v28 (Int.toNat v30) ((0 : Int), (⟨Array.empty⟩ : ByteArray), (0 : Int), (0 : Int))).2.2.1)) false) then
     if (((0 : Int) ≤ (List.getD v28 (Int.toNat v30) ((0 : Int), (⟨Array.empty⟩ : ByteArray), (0 : Int), (0 : Int))).2.2.1) ∧ ((List.getD v28 (Int.toNat v30) ((0 : Int), (⟨Array.empty⟩ : ByteArray), (0 : Int), (0 : Int))).2.2.1 < (((List.length v5) : Nat) : Int))) then
      some (Sum.inl ((v2_0, v2_1, v2_2, v2_3, ()), (List.take (List.length v5) (List.drop 0 (List.set v5 (0 + (Int.toNat (List.getD v28 (Int.toNat v30) ((0 : Int), (⟨Array.empty⟩ : ByteArray), (0 : Int), (0 : Int))).2.2.1)) true))), v24, v25, v28, v29, (IntKind.wrap .i64 (v30 + (1 : Int))), ()))
     else
      none
    else
     if (((0 : Int) ≤ (List.getD v28 (Int.toNat v30) ((0 : Int), (⟨Array.empty⟩ : ByteArray), (0 : Int), (0 : Int))).1) ∧ ((List.getD v28 (Int.toNat v30) ((0 : Int), (⟨Array.empty⟩ : ByteArray), (0 : Int), (0 : Int))).1 < (((List.length v5) : Nat) : Int))) then
      if (((0 : Int) ≤ (List.getD v28 (Int.toNat v30) ((0 : Int), (⟨Array.empty⟩ : ByteArray), (0 : Int), (0 : Int))).2.2.1) ∧ ((List.getD v28 (Int.toNat v30) ((0 : Int), (⟨Array.empty⟩ : ByteArray), (0 : Int), (0 : Int))).2.2.1 < (((List.length v5) : Nat) : Int))) then
       some (Sum.inl ((v2_0, v2_1, v2_2, v2_3, ()), (List.take (List.length v5) (List.drop 0 (List.set v5 (0 + (Int.toNat (List.getD v28 (Int.toNat v30) ((0 : Int), (⟨Array.empty⟩ : ByteArray), (0 : Int), (0 : Int))).2.2.1)) (List.getD v5 (0 + (Int.toNat (List.getD v28 (Int.toNat v30) ((0 : Int), (⟨Array.empty⟩ : ByteArray), (0 : Int), (0 : Int))).1)) false)))), v24, v25, v28, v29, (IntKind.wrap .i64 (v30 + (1 : Int))), ()))
      else
       none
     else
      none
   else
    none
  else
   none
 else
  some (Sum.inr ((v2_0, v2_1, v2_2, v2_3, ()), (List.take (List.length v5) (List.drop 0 v5)), v24, v25, ()))
theorem impl_reached_l10_eq : loopStep 53 E66 L66_1 (loopOf f66 10) sh66_10 xs66_10 = impl_reached_l10 := by kernel_rfl
theorem loop66_10 {L} (h : L 10 = some ⟨53, sh66_10, xs66_10, impl_reached_l10⟩) : LoopOk prog L (loopOf f66 10) := lo impl_reached_l10_eq E66_ok allNil h
noncomputable def L66_2 : Nat → Option LoopD := fun n => ifEq n 10 (some ⟨53, sh66_10, xs66_10, impl_reached_l10⟩) (L66_1 n)
def sh66_8 : List Fm := d :: d :: .box 100200 [.val (.int .i64), .val (.sl (.int .i64)), .val (.sl (.int .i64)), .val (.sl (.pair (.int .i64) (.pair .str (.pair (.int .i64) (.int .i64)))))] :: d :: d :: .cell (.own .bool 100500 false) :: D 18 (.cell (.val (.int .i64)) :: .cell (.val (.int .i64)) :: D 27 [])
def xs66_8 : List (Ex × List Fm) := [(.exit 2, (D 5 (.cell (.own .bool 100500 false) :: D 47 [])))]
noncomputable def impl_reached_l8 : ((Int × (List Int) × (List Int) × (List (Int × (ByteArray × (Int × Int)))) × Unit) × (List Bool) × Int × Int × Unit) → Option (((Int × (List Int) × (List Int) × (List (Int × (ByteArray × (Int × Int)))) × Unit) × (List Bool) × Int × Int × Unit) ⊕ (((List Bool) × Unit))) := fun ((v2_0, v2_1, v2_2, v2_3, _), v5, v24, v25, _) =>
 bif (decide (v25 < v24)) then
  Option.bind (loopF impl_reached_l10 ((v2_0, v2_1, v2_2, v2_3, ()), (List.take (List.length v5) (List.drop 0 v5)), v24, v25, v2_3, (((List.length v2_3) : Nat) : Int), (0 : Int), ())) fun ((r0, r1, r2, r3, _), r4, r5, r6, _) =>
   some (Sum.inl ((r0, r1, r2, r3, ()), (List.take (List.length r4) (List.drop 0 r4)), r5, (IntKind.wrap .i64 (r6 + (1 : Int))), ()))
 else
  some (Sum.inr ((List.take (List.length v5) (List.drop 0 v5)), ()))
theorem impl_reached_l8_eq : loopStep 53 E66 L66_2 (loopOf f66 8) sh66_8 xs66_8 = impl_reached_l8 := by kernel_rfl
theorem loop66_8 {L} (h : L 8 = some ⟨53, sh66_8, xs66_8, impl_reached_l8⟩) : LoopOk prog L (loopOf f66 8) := lo impl_reached_l8_eq E66_ok (allCons (loop66_10 rfl) allNil) h
noncomputable def L66_3 : Nat → Option LoopD := fun n => ifEq n 8 (some ⟨53, sh66_8, xs66_8, impl_reached_l8⟩) (L66_2 n)
noncomputable def impl_reached : (Int × ((List Int) × ((List Int) × (List (Int × (ByteArray × (Int × Int))))))) → (List Int) → Option ((List Bool)) := fun (a0_0, a0_1, a0_2, a0_3) a1 =>
 if (((0 : Int) ≤ a0_0) ∧ ((a0_0 = a0_0) ∧ ((a0_0 * ((1 : Nat) : Int)) ≤ (140737488355328 : Int)))) then
  Option.bind (loopF impl_reached_l3 ((a0_0, a0_1, a0_2, a0_3, ()), (List.take (Int.toNat a0_0) (List.drop 0 (List.replicate (Int.toNat a0_0) false))), a1, (((List.length a1) : Nat) : Int), (0 : Int), ())) fun ((r0, r1, r2, r3, _), r4, _) =>
   Option.bind (loopF impl_reached_l8 ((r0, r1, r2, r3, ()), (List.take (List.length r4) (List.drop 0 r4)), r0, (0 : Int), ())) fun (r5, _) =>
    some (List.take (List.length r5) (List.drop 0 r5))
 else
  none
noncomputable def A66 : FnA := ⟨[.v (.pair (.int .i64) (.pair (.sl (.int .i64)) (.pair (.sl (.int .i64)) (.sl (.pair (.int .i64) (.pair .str (.pair (.int .i64) (.int .i64)))))))), .v (.sl (.int .i64))], true, [.sl .bool], fun x => impl_reached x.1 x.2.1⟩
theorem impl_reached_eq : fnF E66 L66_3 [.v (.pair (.int .i64) (.pair (.sl (.int .i64)) (.pair (.sl (.int .i64)) (.sl (.pair (.int .i64) (.pair .str (.pair (.int .i64) (.int .i64)))))))), .v (.sl (.int .i64))] true [.sl .bool] f66.ntmps f66.results.toList (codeOf f66) = fun x => impl_reached x.1 x.2.1 := by kernel_rfl
theorem A66_ok : FnOk prog 66 A66 := fo impl_reached_eq func66 E66_ok (allCons (loop66_3 rfl) (allCons (loop66_8 rfl) allNil))
/-! impl.UsefulOf -/
noncomputable def E23 : Env := ⟨ty0, fun g => ifEq g 65 (some A65) (ifEq g 66 (some A66) (none)), fun _ => none, fun _ => none, fun _ => none⟩
theorem E23_ok : FnsOk prog E23 := (oF A65_ok func65 (oF A66_ok func66 (noFns _ _)))
noncomputable def L23_0 : Nat → Option LoopD := fun _ => none
def sh23_7 : List Fm := D 5 (.cell (.own .bool 100500 false) :: .cell (.own .bool 100600 false) :: .cell (.own (.int .i64) 100700 false) :: D 18 (.cell (.val (.int .i64)) :: .cell (.val (.int .i64)) :: D 18 []))
def xs23_7 : List (Ex × List Fm) := [(.exit 0, (D 7 (.cell (.own (.int .i64) 100700 false) :: D 38 [])))]
noncomputable def impl_UsefulOf_l7 : ((List Bool) × (List Bool) × (List Int) × Int × Int × Unit) → Option (((List Bool) × (List Bool) × (List Int) × Int × Int × Unit) ⊕ (((List Int) × Unit))) := fun (v5, v6, v7, v26, v27, _) =>
 bif (decide (v27 < v26)) then
  if (((0 : Int) ≤ v27) ∧ (v27 < (((List.length v5) : Nat) : Int))) then
   bif (List.getD v5 (0 + (Int.toNat v27)) false) then
    if (((0 : Int) ≤ v27) ∧ (v27 < (((List.length v6) : Nat) : Int))) then
     bif (List.getD v6 (0 + (Int.toNat v27)) false) then
      if (((0 + (List.length v7)) = (List.length v7)) ∧ ((((List.length v7) + (List.length (List.take 1 (List.drop 0 [v27])))) * 8) ≤ 140737488355328)) then
       some (Sum.inl ((List.take (List.length v5) (List.drop 0 v5)), (List.take (List.length v6) (List.drop 0 v6)), (List.take ((List.length v7) + (List.length (List.take 1 (List.drop 0 [v27])))) (List.drop 0 ((List.drop 0 v7) ++ (List.take 1 (List.drop 0 [v27]))))), v26, (IntKind.wrap .i64 (v27 + (1 : Int))), ()))
      else
       none
     else
      some (Sum.inl ((List.take (List.length v5) (List.drop 0 v5)), (List.take (List.length v6) (List.drop 0 v6)), (List.take (List.length v7) (List.drop 0 v7)), v26, (IntKind.wrap .i64 (v27 + (1 : Int))), ()))
    else
     none
   else
    some (Sum.inl ((List.take (List.length v5) (List.drop 0 v5)), (List.take (List.length v6) (List.drop 0 v6)), (List.take (List.length v7) (List.drop 0 v7)), v26, (IntKind.wrap .i64 (v27 + (1 : Int))), ()))
  else
   none
 else
  some (Sum.inr ((List.take (List.length v7) (List.drop 0 v7)), ()))
theorem impl_UsefulOf_l7_eq : loopStep 46 E23 L23_0 (loopOf f23 7) sh23_7 xs23_7 = impl_UsefulOf_l7 := by kernel_rfl
theorem loop23_7 {L} (h : L 7 = some ⟨46, sh23_7, xs23_7, impl_UsefulOf_l7⟩) : LoopOk prog L (loopOf f23 7) := lo impl_UsefulOf_l7_eq E23_ok allNil h
noncomputable def L23_1 : Nat → Option LoopD := fun n => ifEq n 7 (some ⟨46, sh23_7, xs23_7, impl_UsefulOf_l7⟩) (L23_0 n)
noncomputable def impl_UsefulOf : (Int × ((List Int) × ((List Int) × (List (Int × (ByteArray × (Int × Int))))))) → Option ((List Int)) := fun (a0_0, a0_1, a0_2, a0_3) =>
 Option.bind (impl_ReverseAutomaton (a0_0, a0_1, a0_2, a0_3)) fun ((r0, r1, r2, r3), r4) =>
  bif (!r4) then
   some []
  else
   Option.bind (impl_reached (a0_0, a0_1, a0_2, a0_3) a0_1) fun r5 =>
    Option.bind (impl_reached (r0, (List.take (List.length r1) (List.drop 0 r1)), (List.take (List.length r2) (List.drop 0 r2)), (List.take (List.length r3) (List.drop 0 r3))) a0_2) fun r6 =>
     Option.bind (loopF impl_UsefulOf_l7 ((List.take (List.length r5) (List.drop 0 r5)), (List.take (List.length r6) (List.drop 0 r6)), (List.take 0 (List.drop 0 [])), a0_0, (0 : Int), ())) fun (r7, _) =>
      some (List.take (List.length r7) (List.drop 0 r7))
noncomputable def A23 : FnA := ⟨[.v (.pair (.int .i64) (.pair (.sl (.int .i64)) (.pair (.sl (.int .i64)) (.sl (.pair (.int .i64) (.pair .str (.pair (.int .i64) (.int .i64))))))))], true, [.sl (.int .i64)], fun x => impl_UsefulOf x.1⟩
theorem impl_UsefulOf_eq : fnF E23 L23_1 [.v (.pair (.int .i64) (.pair (.sl (.int .i64)) (.pair (.sl (.int .i64)) (.sl (.pair (.int .i64) (.pair .str (.pair (.int .i64) (.int .i64))))))))] true [.sl (.int .i64)] f23.ntmps f23.results.toList (codeOf f23) = fun x => impl_UsefulOf x.1 := by kernel_rfl
theorem A23_ok : FnOk prog 23 A23 := fo impl_UsefulOf_eq func23 E23_ok (allCons (loop23_7 rfl) allNil)
/-! laws.FnPower -/
noncomputable def E4 : Env := ⟨ty0, fun g => ifEq g 14 (some A14) (ifEq g 15 (some A15) (ifEq g 16 (some A16) (ifEq g 17 (some A17) (ifEq g 18 (some A18) (ifEq g 19 (some A19) (ifEq g 20 (some A20) (ifEq g 21 (some A21) (ifEq g 23 (some A23) (ifEq g 22 (some A22) (none)))))))))), fun _ => none, fun _ => none, fun _ => none⟩
theorem E4_ok : FnsOk prog E4 := (oF A14_ok func14 (oF A15_ok func15 (oF A16_ok func16 (oF A17_ok func17 (oF A18_ok func18 (oF A19_ok func19 (oF A20_ok func20 (oF A21_ok func21 (oF A23_ok func23 (oF A22_ok func22 (noFns _ _)))))))))))
noncomputable def L4_0 : Nat → Option LoopD := fun _ => none
def sh4_10 : List Fm := d :: d :: d :: .box 100300 [.val (.int .i64), .val (.sl (.int .i64)), .val (.sl (.int .i64)), .val (.sl (.pair (.int .i64) (.pair .str (.pair (.int .i64) (.int .i64)))))] :: .box 100400 [.val (.int .i64), .own (.int .i64) 100402 false, .own (.int .i64) 100403 false, .own (.pair (.int .i64) (.pair .str (.pair (.int .i64) (.int .i64)))) 100404 false] :: D 50 (.cell (.val (.sl .str)) :: .cell (.val (.int .i64)) :: .cell (.val (.int .i64)) :: D 34 [])
def xs4_10 : List (Ex × List Fm) := [(.ret, (d :: d :: .cell (.val .bool) :: D 89 [])), (.exit 0, [d, d, d, .box 100300 [.val (.int .i64), .val (.sl (.int .i64)), .val (.sl (.int .i64)), .val (.sl (.pair (.int .i64) (.pair .str (.pair (.int .i64) (.int .i64)))))], .box 100400 [.val (.int .i64), .own (.int .i64) 100402 false, .own (.int .i64) 100403 false, .own (.pair (.int .i64) (.pair .str (.pair (.int .i64) (.int .i64)))) 100404 false], d, d, d, d, d, d, d, d, d, d, d, d, d, d, d, d, d, d, d, d, d, d, d, d, d, d, d, d, d, d, d, d, d, d, d, d, d, d, d, d, d, d, d, d, d, d, d, d, d, d, d, d, d, d, d, d, d, d, d, d, d, d, d, d, d, d, d, d, d, d, d, d, d, d, d, d, d, d, d, d, d, d, d, d, d, d, d])]
noncomputable def laws_FnPower_l10 : ((Int × (List Int) × (List Int) × (List (Int × (ByteArray × (Int × Int)))) × Unit) × (Int × (List Int) × (List Int) × (List (Int × (ByteArray × (Int × Int)))) × Unit) × (List ByteArray) × Int × Int × Unit) → Option (((Int × (List Int) × (List Int) × (List (Int × (ByteArray × (Int × Int)))) × Unit) × (Int × (List Int) × (List Int) × (List (Int × (ByteArray × (Int × Int)))) × Unit) × (List ByteArray) × Int × Int × Unit) ⊕ ((Bool × Unit) ⊕ ((Int × (List Int) × (List Int) × (List (Int × (ByteArray × (Int × Int)))) × Unit) × (Int × (List Int) × (List Int) × (List (Int × (ByteArray × (Int × Int)))) × Unit) × Unit))) := fun ((v3_0, v3_1, v3_2, v3_3, _), (v4_0, v4_1, v4_2, v4_3, _), v55, v56, v57, _) =>
 bif (decide (v57 < v56)) then
  if (((0 : Int) ≤ v57) ∧ (v57 < (((List.length v55) : Nat) : Int))) then
   Option.bind (impl_FactorsOf (v3_0, v3_1, v3_2, v3_3) (List.getD v55 (Int.toNat v57) (⟨Array.empty⟩ : ByteArray))) fun r0 =>
    Option.bind (impl_CostOf (v4_0, (List.take (List.length v4_1) (List.drop 0 v4_1)), (List.take (List.length v4_2) (List.drop 0 v4_2)), (List.take (List.length v4_3) (List.drop 0 v4_3))) (List.getD v55 (Int.toNat v57) (⟨Array.empty⟩ : ByteArray))) fun r1 =>
     bif (!((r0 == (1000000 : Int)) == (r1 == (1000000 : Int)))) then
      some (Sum.inr (Sum.inl (false, ())))
     else
      bif (decide (r0 < (1000000 : Int))) then
       bif (r1 != (IntKind.wrap .i64 (r0 - (1 : Int)))) then
        some (Sum.inr (Sum.inl (false, ())))
       else
        some (Sum.inl ((v3_0, v3_1, v3_2, v3_3, ()), (v4_0, (List.take (List.length v4_1) (List.drop 0 v4_1)), (List.take (List.length v4_2) (List.drop 0 v4_2)), (List.take (List.length v4_3) (List.drop 0 v4_3)), ()), v55, v56, (IntKind.wrap .i64 (v57 + (1 : Int))), ()))
      else
       some (Sum.inl ((v3_0, v3_1, v3_2, v3_3, ()), (v4_0, (List.take (List.length v4_1) (List.drop 0 v4_1)), (List.take (List.length v4_2) (List.drop 0 v4_2)), (List.take (List.length v4_3) (List.drop 0 v4_3)), ()), v55, v56, (IntKind.wrap .i64 (v57 + (1 : Int))), ()))
  else
   none
 else
  some (Sum.inr (Sum.inr ((v3_0, v3_1, v3_2, v3_3, ()), (v4_0, (List.take (List.length v4_1) (List.drop 0 v4_1)), (List.take (List.length v4_2) (List.drop 0 v4_2)), (List.take (List.length v4_3) (List.drop 0 v4_3)), ()), ())))
theorem laws_FnPower_l10_eq : loopStep 92 E4 L4_0 (loopOf f4 10) sh4_10 xs4_10 = laws_FnPower_l10 := by kernel_rfl
theorem loop4_10 {L} (h : L 10 = some ⟨92, sh4_10, xs4_10, laws_FnPower_l10⟩) : LoopOk prog L (loopOf f4 10) := lo laws_FnPower_l10_eq E4_ok allNil h
noncomputable def L4_1 : Nat → Option LoopD := fun n => ifEq n 10 (some ⟨92, sh4_10, xs4_10, laws_FnPower_l10⟩) (L4_0 n)
noncomputable def laws_FnPower : (List Int) → Option (Bool) := fun a0 =>
 bif (decide ((((List.length a0) : Nat) : Int) > (1048576 : Int))) then
  some true
 else
  Option.bind (spec_DrawPowerAutomaton a0) fun (r0, r1, r2, r3) =>
   Option.bind (impl_PowerAutomaton (r0, r1, r2, r3)) fun ((r4, r5, r6, r7), r8) =>
    Option.bind (spec_PowerAutomaton (r0, r1, r2, r3)) fun ((r9, r10, r11, r12), r13) =>
     Option.bind (laws_daAutomaton (r4, (List.take (List.length r5) (List.drop 0 r5)), (List.take (List.length r6) (List.drop 0 r6)), (List.take (List.length r7) (List.drop 0 r7))) (r9, r10, r11, r12)) fun r14 =>
      bif (!r14) then
       Option.bind (laws_daAutomaton (r4, (List.take (List.length r5) (List.drop 0 r5)), (List.take (List.length r6) (List.drop 0 r6)), (List.take (List.length r7) (List.drop 0 r7))) (r9, r10, r11, r12)) fun r15 =>
        bif r15 then
         some (r8 == r13)
        else
         some false
      else
       bif (!(r8 == r13)) then
        Option.bind (laws_daAutomaton (r4, (List.take (List.length r5) (List.drop 0 r5)), (List.take (List.length r6) (List.drop 0 r6)), (List.take (List.length r7) (List.drop 0 r7))) (r9, r10, r11, r12)) fun r16 =>
         bif r16 then
          some (r8 == r13)
         else
          some false
       else
        bif (!r8) then
         Option.bind (laws_daAutomaton (r4, (List.take (List.length r5) (List.drop 0 r5)), (List.take (List.length r6) (List.drop 0 r6)), (List.take (List.length r7) (List.drop 0 r7))) (r9, r10, r11, r12)) fun r17 =>
          bif r17 then
           some (r8 == r13)
          else
           some false
        else
         Option.bind (impl_ShortWords (4 : Int)) fun (r18, r19) =>
          if (((0 : Int) ≤ (1 : Int)) ∧ ((1 : Int) ≤ (((List.length r18) : Nat) : Int))) then
           Option.bind (loopF laws_FnPower_l10 ((r0, r1, r2, r3, ()), (r4, (List.take (List.length r5) (List.drop 0 r5)), (List.take (List.length r6) (List.drop 0 r6)), (List.take (List.length r7) (List.drop 0 r7)), ()), (List.take ((List.length r18) - (Int.toNat (1 : Int))) (List.drop (Int.toNat (1 : Int)) r18)), (((List.length (List.take ((List.length r18) - (Int.toNat (1 : Int))) (List.drop (Int.toNat (1 : Int)) r18))) : Nat) : Int), (0 : Int), ())) fun r20 =>
            (match r20 with
            | .inl (d21, _) =>
              some d21
            | .inr ((d22, d23, d24, d25, _), (d26, d27, d28, d29, _), _) =>
              Option.bind (impl_AutomatonValid (d26, (List.take (List.length d27) (List.drop 0 d27)), (List.take (List.length d28) (List.drop 0 d28)), (List.take (List.length d29) (List.drop 0 d29)))) fun r30 =>
               bif r30 then
                Option.bind (impl_UsefulOf (d26, (List.take (List.length d27) (List.drop 0 d27)), (List.take (List.length d28) (List.drop 0 d28)), (List.take (List.length d29) (List.drop 0 d29)))) fun r31 =>
                 Option.bind (impl_UsefulOf (d22, d23, d24, d25)) fun r32 =>
                  Option.bind (laws_daSame (List.take (List.length r31) (List.drop 0 r31)) (List.take (List.length r32) (List.drop 0 r32))) fun r33 =>
                   some r33
               else
                some false)
          else
           none
noncomputable def A4 : FnA := ⟨[.v (.sl (.int .u8))], true, [.bool], fun x => laws_FnPower x.1⟩
theorem laws_FnPower_eq : fnF E4 L4_1 [.v (.sl (.int .u8))] true [.bool] f4.ntmps f4.results.toList (codeOf f4) = fun x => laws_FnPower x.1 := by kernel_rfl
theorem A4_ok : FnOk prog 4 A4 := fo laws_FnPower_eq func4 E4_ok (allCons (loop4_10 rfl) allNil)
end Go.Proofs.Ytfdhmmnffahhgaa
