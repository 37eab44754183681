/- What Go functions that the laws reach compute, and that they do: written by a program of this session. -/
import Derived.Test.YtcmcjhdccnbmoaaG0
import Derived.KernelRfl
set_option linter.unusedVariables false
namespace Go.Proofs.Ytcmcjhdccnbmoaa
open Go Go.Proofs.Ytcmcjhdccnbmoaa.Am Go.Proofs.Try
set_option maxRecDepth 100000
/-! slices.Repeat[[]int,int] -/
noncomputable def E43 : Env := ⟨ty0, fun g => ifEq g 62 (some A62) (none), fun _ => none, fun _ => none, fun _ => none⟩
theorem E43_ok : FnsOk prog E43 := (oF A62_ok func62 (noFns _ _))
noncomputable def L43_0 : Nat → Option LoopD := fun _ => none
def sh43_8 : List Fm := D 7 (.cell (.own (.int .i64) 100700 false) :: .cell (.val (.int .i64)) :: D 39 [])
def xs43_8 : List (Ex × List Fm) := [(.exit 0, (D 7 (.cell (.own (.int .i64) 100700 false) :: D 40 [])))]
noncomputable def slices_Repeat_l8 : ((List Int) × Int × Unit) → Option (((List Int) × Int × Unit) ⊕ (((List Int) × Unit))) := fun (v7, v8, _) =>
 bif (decide (v8 < (((List.length v7) : Nat) : Int))) then
  if (((0 : Int) ≤ v8) ∧ (v8 ≤ (((List.length v7) : Nat) : Int))) then
   if (((0 : Int) ≤ v8) ∧ (v8 ≤ (((List.length v7) : Nat) : Int))) then
    some (Sum.inl ((List.take (List.length v7) (List.drop 0 ((List.take (0 + (Int.toNat v8)) v7) ++ ((List.take ((List.length v7) - (Int.toNat v8)) (List.take ((Int.toNat v8) - 0) (List.drop (0 + 0) v7))) ++ (List.drop ((0 + (Int.toNat v8)) + (List.length (List.take ((List.length v7) - (Int.toNat v8)) (List.take ((Int.toNat v8) - 0) (List.drop (0 + 0) v7))))) v7))))), (IntKind.wrap .i64 (v8 + (((List.length (List.take ((List.length v7) - (Int.toNat v8)) (List.take ((Int.toNat v8) - 0) (List.drop (0 + 0) v7)))) : Nat) : Int))), ()))
   else
    none
  else
   none
 else
  some (Sum.inr ((List.take (List.length v7) (List.drop 0 v7)), ()))
theorem slices_Repeat_l8_eq : loopStep 48 E43 L43_0 (loopOf f43 8) sh43_8 xs43_8 = slices_Repeat_l8 := by kernel_rfl
theorem loop43_8 {L} (h : L 8 = some ⟨48, sh43_8, xs43_8, slices_Repeat_l8⟩) : LoopOk prog L (loopOf f43 8) := lo slices_Repeat_l8_eq E43_ok allNil h
noncomputable def L43_1 : Nat → Option LoopD := fun n => ifEq n 8 (some ⟨48, sh43_8, xs43_8, slices_Repeat_l8⟩) (L43_0 n)
noncomputable def slices_Repeat : (List Int) → Int → Option ((List Int)) := fun a0 a1 =>
 bif (decide (a1 < (0 : Int))) then
  none
 else
  Option.bind (bits_Mul (IntKind.wrap .u64 (((List.length a0) : Nat) : Int)) (IntKind.wrap .u64 a1)) fun (r0, r1) =>
   bif (decide (r0 > (0 : Int))) then
    none
   else
    bif (decide (r1 > (9223372036854775807 : Int))) then
     none
    else
     if (((0 : Int) ≤ (IntKind.wrap .i64 r1)) ∧ (((IntKind.wrap .i64 r1) = (IntKind.wrap .i64 r1)) ∧ (((IntKind.wrap .i64 r1) * ((8 : Nat) : Int)) ≤ (140737488355328 : Int)))) then
      Option.bind (loopF slices_Repeat_l8 ((List.take (Int.toNat (IntKind.wrap .i64 r1)) (List.drop 0 ((List.take 0 (List.replicate (Int.toNat (IntKind.wrap .i64 r1)) (0 : Int))) ++ ((List.take (Int.toNat (IntKind.wrap .i64 r1)) a0) ++ (List.drop (0 + (List.length (List.take (Int.toNat (IntKind.wrap .i64 r1)) a0))) (List.replicate (Int.toNat (IntKind.wrap .i64 r1)) (0 : Int))))))), (((List.length (List.take (Int.toNat (IntKind.wrap .i64 r1)) a0)) : Nat) : Int), ())) fun (r2, _) =>
       some (List.take (List.length r2) (List.drop 0 r2))
     else
      none
noncomputable def A43 : FnA := ⟨[.v (.sl (.int .i64)), .v (.int .i64)], true, [.sl (.int .i64)], fun x => slices_Repeat x.1 x.2.1⟩
theorem slices_Repeat_eq : fnF E43 L43_1 [.v (.sl (.int .i64)), .v (.int .i64)] true [.sl (.int .i64)] f43.ntmps f43.results.toList (codeOf f43) = fun x => slices_Repeat x.1 x.2.1 := by kernel_rfl
theorem A43_ok : FnOk prog 43 A43 := fo slices_Repeat_eq func43 E43_ok (allCons (loop43_8 rfl) allNil)
/-! impl.toEnd -/
noncomputable def E27 : Env := ⟨ty0, fun g => ifEq g 43 (some A43) (none), fun _ => none, fun _ => none, fun _ => none⟩
theorem E27_ok : FnsOk prog E27 := (oF A43_ok func43 (noFns _ _))
noncomputable def L27_0 : Nat → Option LoopD := fun _ => none
def sh27_3 : List Fm := d :: .cell (.val .str) :: .box 100200 [.val (.int .i64), .val (.sl (.int .i64)), .val (.sl (.int .i64)), .val (.sl (.pair (.int .i64) (.pair .str (.pair (.int .i64) (.int .i64)))))] :: d :: d :: .cell (.own (.int .i64) 100500 false) :: D 12 (.cell (.val (.sl (.int .i64))) :: .cell (.val (.int .i64)) :: .cell (.val (.int .i64)) :: D 60 [])
def xs27_3 : List (Ex × List Fm) := [(.exit 0, [d, .cell (.val .str), .box 100200 [.val (.int .i64), .val (.sl (.int .i64)), .val (.sl (.int .i64)), .val (.sl (.pair (.int .i64) (.pair .str (.pair (.int .i64) (.int .i64)))))], d, d, .cell (.own (.int .i64) 100500 false), d, d, d, d, d, d, d, d, d, d, d, d, d, d, d, d, d, d, d, d, d, d, d, d, d, d, d, d, d, d, d, d, d, d, d, d, d, d, d, d, d, d, d, d, d, d, d, d, d, d, d, d, d, d, d, d, d, d, d, d, d, d, d, d, d, d, d, d, d, d, d, d, d, d, d])]
noncomputable def impl_toEnd_l3 : (ByteArray × (Int × (List Int) × (List Int) × (List (Int × (ByteArray × (Int × Int)))) × Unit) × (List Int) × (List Int) × Int × Int × Unit) → Option ((ByteArray × (Int × (List Int) × (List Int) × (List (Int × (ByteArray × (Int × Int)))) × Unit) × (List Int) × (List Int) × Int × Int × Unit) ⊕ ((ByteArray × (Int × (List Int) × (List Int) × (List (Int × (ByteArray × (Int × Int)))) × Unit) × (List Int) × Unit))) := fun (v1, (v2_0, v2_1, v2_2, v2_3, _), v5, v18, v19, v20, _) =>
 bif (decide (v20 < v19)) then
  if (((0 : Int) ≤ v20) ∧ (v20 < (((List.length v18) : Nat) : Int))) then
   if (((0 : Int) ≤ (List.getD v18 (Int.toNat v20) (0 : Int))) ∧ ((List.getD v18 (Int.toNat v20) (0 : Int)) < (((List.length v5) : Nat) : Int))) then
    some (Sum.inl (v1, (v2_0, v2_1, v2_2, v2_3, ()), (List.take (List.length v5) (List.drop 0 (List.set v5 (0 + (Int.toNat (List.getD v18 (Int.toNat v20) (0 : Int)))) (0 : Int)))), v18, v19, (IntKind.wrap .i64 (v20 + (1 : Int))), ()))
   else
    none
  else
   none
 else
  some (Sum.inr (v1, (v2_0, v2_1, v2_2, v2_3, ()), (List.take (List.length v5) (List.drop 0 v5)), ()))
theorem impl_toEnd_l3_eq : loopStep 81 E27 L27_0 (loopOf f27 3) sh27_3 xs27_3 = impl_toEnd_l3 := by kernel_rfl
theorem loop27_3 {L} (h : L 3 = some ⟨81, sh27_3, xs27_3, impl_toEnd_l3⟩) : LoopOk prog L (loopOf f27 3) := lo impl_toEnd_l3_eq E27_ok allNil h
noncomputable def L27_1 : Nat → Option LoopD := fun n => ifEq n 3 (some ⟨81, sh27_3, xs27_3, impl_toEnd_l3⟩) (L27_0 n)
def sh27_13 : List Fm := d :: .cell (.val .str) :: .box 100200 [.val (.int .i64), .val (.sl (.int .i64)), .val (.sl (.int .i64)), .val (.sl (.pair (.int .i64) (.pair .str (.pair (.int .i64) (.int .i64)))))] :: d :: d :: .cell (.val (.sl (.int .i64))) :: d :: d :: .cell (.own (.sl (.int .i64)) 100800 false) :: .cell (.val (.int .i64)) :: .cell (.own (.int .i64) 101000 false) :: D 31 (.cell (.val (.sl (.pair (.int .i64) (.pair .str (.pair (.int .i64) (.int .i64)))))) :: .cell (.val (.int .i64)) :: .cell (.val (.int .i64)) :: D 36 [])
def xs27_13 : List (Ex × List Fm) := [(.exit 4, [d, .cell (.val .str), .box 100200 [.val (.int .i64), .val (.sl (.int .i64)), .val (.sl (.int .i64)), .val (.sl (.pair (.int .i64) (.pair .str (.pair (.int .i64) (.int .i64)))))], d, d, d, d, d, .cell (.own (.sl (.int .i64)) 100800 false), .cell (.val (.int .i64)), .cell (.own (.int .i64) 101000 false), d, d, d, d, d, d, d, d, d, d, d, d, d, d, d, d, d, d, d, d, d, d, d, d, d, d, d, d, d, d, d, d, d, d, d, d, d, d, d, d, d, d, d, d, d, d, d, d, d, d, d, d, d, d, d, d, d, d, d, d, d, d, d, d, d, d, d, d, d, d])]
noncomputable def impl_toEnd_l13 : (ByteArray × (Int × (List Int) × (List Int) × (List (Int × (ByteArray × (Int × Int)))) × Unit) × (List Int) × (List (List Int)) × Int × (List Int) × (List (Int × (ByteArray × (Int × Int)))) × Int × Int × Unit) → Option ((ByteArray × (Int × (List Int) × (List Int) × (List (Int × (ByteArray × (Int × Int)))) × Unit) × (List Int) × (List (List Int)) × Int × (List Int) × (List (Int × (ByteArray × (Int × Int)))) × Int × Int × Unit) ⊕ ((ByteArray × (Int × (List Int) × (List Int) × (List (Int × (ByteArray × (Int × Int)))) × Unit) × (List (List Int)) × Int × (List Int) × Unit))) := fun (v1, (v2_0, v2_1, v2_2, v2_3, _), v5, v8, v9, v10, v42, v43, v44, _) =>
 bif (decide (v44 < v43)) then
  if (((0 : Int) ≤ v44) ∧ (v44 < (((List.length v42) : Nat) : Int))) then
   if (((0 : Int) ≤ v9) ∧ ((v9 ≤ (IntKind.wrap .i64 (v9 + (1 : Int)))) ∧ ((IntKind.wrap .i64 (v9 + (1 : Int))) ≤ (((ByteArray.size v1) : Nat) : Int)))) then
    bif ((ByteArray.toList (List.getD v42 (Int.toNat v44) ((0 : Int), (⟨Array.empty⟩ : ByteArray), (0 : Int), (0 : Int))).2.1) == (ByteArray.toList (ByteArray.extract v1 (Int.toNat v9) (Int.toNat (IntKind.wrap .i64 (v9 + (1 : Int))))))) then
     if (((0 : Int) ≤ (List.getD v42 (Int.toNat v44) ((0 : Int), (⟨Array.empty⟩ : ByteArray), (0 : Int), (0 : Int))).1) ∧ ((List.getD v42 (Int.toNat v44) ((0 : Int), (⟨Array.empty⟩ : ByteArray), (0 : Int), (0 : Int))).1 < (((List.length v10) : Nat) : Int))) then
      if (((0 : Int) ≤ (List.getD v42 (Int.toNat v44) ((0 : Int), (⟨Array.empty⟩ : ByteArray), (0 : Int), (0 : Int))).2.2.1) ∧ ((List.getD v42 (Int.toNat v44) ((0 : Int), (⟨Array.empty⟩ : ByteArray), (0 : Int), (0 : Int))).2.2.1 < (((List.length v5) : Nat) : Int))) then
       if (((0 : Int) ≤ (List.getD v42 (Int.toNat v44) ((0 : Int), (⟨Array.empty⟩ : ByteArray), (0 : Int), (0 : Int))).1) ∧ ((List.getD v42 (Int.toNat v44) ((0 : Int), (⟨Array.empty⟩ : ByteArray), (0 : Int), (0 : Int))).1 < (((List.length v10) : Nat) : Int))) then
        some (Sum.inl (v1, (v2_0, v2_1, v2_2, v2_3, ()), v5, (List.take (List.length v8) (List.drop 0 v8)), v9, (List.take (List.length v10) (List.drop 0 (List.set v10 (0 + (Int.toNat (List.getD v42 (Int.toNat v44) ((0 : Int), (⟨Array.empty⟩ : ByteArray), (0 : Int), (0 : Int))).1)) (if ((IntKind.wrap .i64 ((List.getD v42 (Int.toNat v44) ((0 : Int), (⟨Array.empty⟩ : ByteArray), (0 : Int), (0 : Int))).2.2.2 + (List.getD v5 (Int.toNat (List.getD v42 (Int.toNat v44) ((0 : Int), (⟨Array.empty⟩ : ByteArray), (0 : Int), (0 : Int))).2.2.1) (0 : Int)))) < (List.getD v10 (0 + (Int.toNat (List.getD v42 (Int.toNat v44) ((0 : Int), (⟨Array.empty⟩ : ByteArray), (0 : Int), (0 : Int))).1)) (0 : Int))) then (IntKind.wrap .i64 ((List.getD v42 (Int.toNat v44) ((0 : Int), (⟨Array.empty⟩ : ByteArray), (0 : Int), (0 : Int))).2.2.2 + (List.getD v5 (Int.toNat (List.getD v42 (Int.toNat v44) ((0 : Int), (⟨Array.empty⟩ : ByteArray), (0 : Int), (0 : Int))).2.2.1) (0 : Int)))) else (List.getD v10 (0 + (Int.toNat (List.getD v42 (Int.toNat v44) ((0 : Int), (⟨Array.empty⟩ : ByteArray), (0 : Int), (0 : Int))).1)) (0 : Int)))))), v42, v43, (IntKind.wrap .i64 (v44 + (1 : Int))), ()))
       else
        none
      else
       none
     else
      none
    else
     some (Sum.inl (v1, (v2_0, v2_1, v2_2, v2_3, ()), v5, (List.take (List.length v8) (List.drop 0 v8)), v9, (List.take (List.length v10) (List.drop 0 v10)), v42, v43, (IntKind.wrap .i64 (v44 + (1 : Int))), ()))
   else
    none
  else
   none
 else
  some (Sum.inr (v1, (v2_0, v2_1, v2_2, v2_3, ()), (List.take (List.length v8) (List.drop 0 v8)), v9, (List.take (List.length v10) (List.drop 0 v10)), ()))
theorem impl_toEnd_l13_eq : loopStep 81 E27 L27_1 (loopOf f27 13) sh27_13 xs27_13 = impl_toEnd_l13 := by kernel_rfl
theorem loop27_13 {L} (h : L 13 = some ⟨81, sh27_13, xs27_13, impl_toEnd_l13⟩) : LoopOk prog L (loopOf f27 13) := lo impl_toEnd_l13_eq E27_ok allNil h
noncomputable def L27_2 : Nat → Option LoopD := fun n => ifEq n 13 (some ⟨81, sh27_13, xs27_13, impl_toEnd_l13⟩) (L27_1 n)
def sh27_9 : List Fm := d :: .cell (.val .str) :: .box 100200 [.val (.int .i64), .val (.sl (.int .i64)), .val (.sl (.int .i64)), .val (.sl (.pair (.int .i64) (.pair .str (.pair (.int .i64) (.int .i64)))))] :: d :: d :: .cell (.val (.sl (.int .i64))) :: d :: d :: .cell (.own (.sl (.int .i64)) 100800 false) :: .cell (.val (.int .i64)) :: D 71 []
def xs27_9 : List (Ex × List Fm) := [(.exit 2, (D 8 (.cell (.own (.sl (.int .i64)) 100800 false) :: D 72 [])))]
noncomputable def impl_toEnd_l9 : (ByteArray × (Int × (List Int) × (List Int) × (List (Int × (ByteArray × (Int × Int)))) × Unit) × (List Int) × (List (List Int)) × Int × Unit) → Option ((ByteArray × (Int × (List Int) × (List Int) × (List (Int × (ByteArray × (Int × Int)))) × Unit) × (List Int) × (List (List Int)) × Int × Unit) ⊕ (((List (List Int)) × Unit))) := fun (v1, (v2_0, v2_1, v2_2, v2_3, _), v5, v8, v9, _) =>
 bif (decide (v9 ≥ (0 : Int))) then
  Option.bind (slices_Repeat (List.take 1 (List.drop 0 [(1000000 : Int)])) v2_0) fun r0 =>
   Option.bind (loopF impl_toEnd_l13 (v1, (v2_0, v2_1, v2_2, v2_3, ()), v5, (List.take (List.length v8) (List.drop 0 v8)), v9, (List.take (List.length r0) (List.drop 0 r0)), v2_3, (((List.length v2_3) : Nat) : Int), (0 : Int), ())) fun (r1, (r2, r3, r4, r5, _), r6, r7, r8, _) =>
    if (((0 + (List.length r6)) = (List.length r6)) ∧ ((((List.length r6) + (List.length (List.take 1 (List.drop 0 [(List.take (List.length r8) (List.drop 0 r8))])))) * 24) ≤ 140737488355328)) then
     some (Sum.inl (r1, (r2, r3, r4, r5, ()), (List.take (List.length r8) (List.drop 0 r8)), (List.take ((List.length r6) + (List.length (List.take 1 (List.drop 0 [(List.take (List.length r8) (List.drop 0 r8))])))) (List.drop 0 ((List.drop 0 r6) ++ (List.take 1 (List.drop 0 [(List.take (List.length r8) (List.drop 0 r8))]))))), (IntKind.wrap .i64 (r7 - (1 : Int))), ()))
    else
     none
 else
  some (Sum.inr ((List.take (List.length v8) (List.drop 0 v8)), ()))
theorem impl_toEnd_l9_eq : loopStep 81 E27 L27_2 (loopOf f27 9) sh27_9 xs27_9 = impl_toEnd_l9 := by kernel_rfl
theorem loop27_9 {L} (h : L 9 = some ⟨81, sh27_9, xs27_9, impl_toEnd_l9⟩) : LoopOk prog L (loopOf f27 9) := lo impl_toEnd_l9_eq E27_ok (allCons (loop27_13 rfl) allNil) h
noncomputable def L27_3 : Nat → Option LoopD := fun n => ifEq n 9 (some ⟨81, sh27_9, xs27_9, impl_toEnd_l9⟩) (L27_2 n)
noncomputable def impl_toEnd : (Int × ((List Int) × ((List Int) × (List (Int × (ByteArray × (Int × Int))))))) → ByteArray → Option ((List (List Int))) := fun (a0_0, a0_1, a0_2, a0_3) a1 =>
 Option.bind (slices_Repeat (List.take 1 (List.drop 0 [(1000000 : Int)])) a0_0) fun r0 =>
  Option.bind (loopF impl_toEnd_l3 (a1, (a0_0, a0_1, a0_2, a0_3, ()), (List.take (List.length r0) (List.drop 0 r0)), a0_2, (((List.length a0_2) : Nat) : Int), (0 : Int), ())) fun (r1, (r2, r3, r4, r5, _), r6, _) =>
   Option.bind (loopF impl_toEnd_l9 (r1, (r2, r3, r4, r5, ()), (List.take (List.length r6) (List.drop 0 r6)), (List.take 1 (List.drop 0 [(List.take (List.length r6) (List.drop 0 r6))])), (IntKind.wrap .i64 ((((ByteArray.size r1) : Nat) : Int) - (1 : Int))), ())) fun (r7, _) =>
    some (List.take (List.length r7) (List.drop 0 r7))
noncomputable def A27 : FnA := ⟨[.v (.pair (.int .i64) (.pair (.sl (.int .i64)) (.pair (.sl (.int .i64)) (.sl (.pair (.int .i64) (.pair .str (.pair (.int .i64) (.int .i64)))))))), .v .str], true, [.sl (.sl (.int .i64))], fun x => impl_toEnd x.1 x.2.1⟩
theorem impl_toEnd_eq : fnF E27 L27_3 [.v (.pair (.int .i64) (.pair (.sl (.int .i64)) (.pair (.sl (.int .i64)) (.sl (.pair (.int .i64) (.pair .str (.pair (.int .i64) (.int .i64)))))))), .v .str] true [.sl (.sl (.int .i64))] f27.ntmps f27.results.toList (codeOf f27) = fun x => impl_toEnd x.1 x.2.1 := by kernel_rfl
theorem A27_ok : FnOk prog 27 A27 := fo impl_toEnd_eq func27 E27_ok (allCons (loop27_3 rfl) (allCons (loop27_9 rfl) allNil))
/-! impl.CostOf -/
noncomputable def E12 : Env := ⟨ty0, fun g => ifEq g 11 (some A11) (ifEq g 26 (some A26) (ifEq g 27 (some A27) (none))), fun _ => none, fun _ => none, fun _ => none⟩
theorem E12_ok : FnsOk prog E12 := (oF A11_ok func11 (oF A26_ok func26 (oF A27_ok func27 (noFns _ _))))
noncomputable def L12_0 : Nat → Option LoopD := fun _ => none
def sh12_6 : List Fm := d :: .cell (.val .str) :: d :: d :: d :: .cell (.own (.sl (.int .i64)) 100500 false) :: .cell (.val (.int .i64)) :: D 14 (.cell (.val (.sl (.int .i64))) :: .cell (.val (.int .i64)) :: .cell (.val (.int .i64)) :: D 15 [])
def xs12_6 : List (Ex × List Fm) := [(.exit 0, (D 6 (.cell (.val (.int .i64)) :: D 32 [])))]
noncomputable def impl_CostOf_l6 : (ByteArray × (List (List Int)) × Int × (List Int) × Int × Int × Unit) → Option ((ByteArray × (List (List Int)) × Int × (List Int) × Int × Int × Unit) ⊕ ((Int × Unit))) := fun (v1, v5, v6, v21, v22, v23, _) =>
 bif (decide (v23 < v22)) then
  if (((0 : Int) ≤ v23) ∧ (v23 < (((List.length v21) : Nat) : Int))) then
   if (((0 : Int) ≤ (((ByteArray.size v1) : Nat) : Int)) ∧ ((((ByteArray.size v1) : Nat) : Int) < (((List.length v5) : Nat) : Int))) then
    if (((0 : Int) ≤ (List.getD v21 (Int.toNat v23) (0 : Int))) ∧ ((List.getD v21 (Int.toNat v23) (0 : Int)) < (((List.length (List.getD v5 (0 + (Int.toNat (((ByteArray.size v1) : Nat) : Int))) [])) : Nat) : Int))) then
     some (Sum.inl (v1, (List.take (List.length v5) (List.drop 0 v5)), (if ((List.getD (List.getD v5 (0 + (Int.toNat (((ByteArray.size v1) : Nat) : Int))) []) (Int.toNat (List.getD v21 (Int.toNat v23) (0 : Int))) (0 : Int)) < v6) then (List.getD (List.getD v5 (0 + (Int.toNat (((ByteArray.size v1) : Nat) : Int))) []) (Int.toNat (List.getD v21 (Int.toNat v23) (0 : Int))) (0 : Int)) else v6), v21, v22, (IntKind.wrap .i64 (v23 + (1 : Int))), ()))
    else
     none
   else
    none
  else
   none
 else
  some (Sum.inr (v6, ()))
theorem impl_CostOf_l6_eq : loopStep 39 E12 L12_0 (loopOf f12 6) sh12_6 xs12_6 = impl_CostOf_l6 := by kernel_rfl
theorem loop12_6 {L} (h : L 6 = some ⟨39, sh12_6, xs12_6, impl_CostOf_l6⟩) : LoopOk prog L (loopOf f12 6) := lo impl_CostOf_l6_eq E12_ok allNil h
noncomputable def L12_1 : Nat → Option LoopD := fun n => ifEq n 6 (some ⟨39, sh12_6, xs12_6, impl_CostOf_l6⟩) (L12_0 n)
noncomputable def impl_CostOf : (Int × ((List Int) × ((List Int) × (List (Int × (ByteArray × (Int × Int))))))) → ByteArray → Option (Int) := fun (a0_0, a0_1, a0_2, a0_3) a1 =>
 Option.bind (impl_AutomatonValid (a0_0, a0_1, a0_2, a0_3)) fun r0 =>
  bif (!r0) then
   some (-1 : Int)
  else
   Option.bind (impl_WordValid a1) fun r1 =>
    bif (!r1) then
     some (-1 : Int)
    else
     Option.bind (impl_toEnd (a0_0, a0_1, a0_2, a0_3) a1) fun r2 =>
      Option.bind (loopF impl_CostOf_l6 (a1, (List.take (List.length r2) (List.drop 0 r2)), (1000000 : Int), a0_1, (((List.length a0_1) : Nat) : Int), (0 : Int), ())) fun (r3, _) =>
       some r3
noncomputable def A12 : FnA := ⟨[.v (.pair (.int .i64) (.pair (.sl (.int .i64)) (.pair (.sl (.int .i64)) (.sl (.pair (.int .i64) (.pair .str (.pair (.int .i64) (.int .i64)))))))), .v .str], true, [.int .i64], fun x => impl_CostOf x.1 x.2.1⟩
theorem impl_CostOf_eq : fnF E12 L12_1 [.v (.pair (.int .i64) (.pair (.sl (.int .i64)) (.pair (.sl (.int .i64)) (.sl (.pair (.int .i64) (.pair .str (.pair (.int .i64) (.int .i64)))))))), .v .str] true [.int .i64] f12.ntmps f12.results.toList (codeOf f12) = fun x => impl_CostOf x.1 x.2.1 := by kernel_rfl
theorem A12_ok : FnOk prog 12 A12 := fo impl_CostOf_eq func12 E12_ok (allCons (loop12_6 rfl) allNil)
/-! impl.FirstOver -/
noncomputable def E6 : Env := ⟨ty0, fun g => ifEq g 20 (some A20) (ifEq g 12 (some A12) (none)), fun _ => none, fun _ => none, fun _ => none⟩
theorem E6_ok : FnsOk prog E6 := (oF A20_ok func20 (oF A12_ok func12 (noFns _ _)))
noncomputable def L6_0 : Nat → Option LoopD := fun _ => none
def sh6_3 : List Fm := d :: d :: d :: .box 100300 [.val (.int .i64), .val (.sl (.int .i64)), .val (.sl (.int .i64)), .val (.sl (.pair (.int .i64) (.pair .str (.pair (.int .i64) (.int .i64)))))] :: .box 100400 [.val (.int .i64), .val (.sl (.int .i64)), .val (.sl (.int .i64)), .val (.sl (.pair (.int .i64) (.pair .str (.pair (.int .i64) (.int .i64)))))] :: D 4 (.cell (.val .bool) :: D 10 (.cell (.val (.sl .str)) :: .cell (.val (.int .i64)) :: .cell (.val (.int .i64)) :: D 15 []))
def xs6_3 : List (Ex × List Fm) := [(.ret, (D 6 (.cell (.val .str) :: .cell (.val .bool) :: D 30 []))), (.exit 0, (D 38 []))]
noncomputable def impl_FirstOver_l3 : ((Int × (List Int) × (List Int) × (List (Int × (ByteArray × (Int × Int)))) × Unit) × (Int × (List Int) × (List Int) × (List (Int × (ByteArray × (Int × Int)))) × Unit) × Bool × (List ByteArray) × Int × Int × Unit) → Option (((Int × (List Int) × (List Int) × (List (Int × (ByteArray × (Int × Int)))) × Unit) × (Int × (List Int) × (List Int) × (List (Int × (ByteArray × (Int × Int)))) × Unit) × Bool × (List ByteArray) × Int × Int × Unit) ⊕ ((ByteArray × Bool × Unit) ⊕ (Unit))) := fun ((v3_0, v3_1, v3_2, v3_3, _), (v4_0, v4_1, v4_2, v4_3, _), v9, v20, v21, v22, _) =>
 bif (decide (v22 < v21)) then
  if (((0 : Int) ≤ v22) ∧ (v22 < (((List.length v20) : Nat) : Int))) then
   bif v9 then
    Option.bind (impl_CostOf (v3_0, v3_1, v3_2, v3_3) (List.getD v20 (Int.toNat v22) (⟨Array.empty⟩ : ByteArray))) fun r0 =>
     Option.bind (impl_CostOf (v4_0, v4_1, v4_2, v4_3) (List.getD v20 (Int.toNat v22) (⟨Array.empty⟩ : ByteArray))) fun r1 =>
      bif (decide (r0 > r1)) then
       some (Sum.inr (Sum.inl ((List.getD v20 (Int.toNat v22) (⟨Array.empty⟩ : ByteArray)), true, ())))
      else
       some (Sum.inl ((v3_0, v3_1, v3_2, v3_3, ()), (v4_0, v4_1, v4_2, v4_3, ()), v9, v20, v21, (IntKind.wrap .i64 (v22 + (1 : Int))), ()))
   else
    some (Sum.inl ((v3_0, v3_1, v3_2, v3_3, ()), (v4_0, v4_1, v4_2, v4_3, ()), v9, v20, v21, (IntKind.wrap .i64 (v22 + (1 : Int))), ()))
  else
   none
 else
  some (Sum.inr (Sum.inr ()))
theorem impl_FirstOver_l3_eq : loopStep 38 E6 L6_0 (loopOf f6 3) sh6_3 xs6_3 = impl_FirstOver_l3 := by kernel_rfl
theorem loop6_3 {L} (h : L 3 = some ⟨38, sh6_3, xs6_3, impl_FirstOver_l3⟩) : LoopOk prog L (loopOf f6 3) := lo impl_FirstOver_l3_eq E6_ok allNil h
noncomputable def L6_1 : Nat → Option LoopD := fun n => ifEq n 3 (some ⟨38, sh6_3, xs6_3, impl_FirstOver_l3⟩) (L6_0 n)
noncomputable def impl_FirstOver : (Int × ((List Int) × ((List Int) × (List (Int × (ByteArray × (Int × Int))))))) → (Int × ((List Int) × ((List Int) × (List (Int × (ByteArray × (Int × Int))))))) → Int → Option (ByteArray × Bool) := fun (a0_0, a0_1, a0_2, a0_3) (a1_0, a1_1, a1_2, a1_3) a2 =>
 Option.bind (impl_short a2 (List.take 2 (List.drop 0 [(a0_0, a0_1, a0_2, a0_3), (a1_0, a1_1, a1_2, a1_3)]))) fun (r0, r1) =>
  Option.bind (loopF impl_FirstOver_l3 ((a0_0, a0_1, a0_2, a0_3, ()), (a1_0, a1_1, a1_2, a1_3, ()), r1, r0, (((List.length r0) : Nat) : Int), (0 : Int), ())) fun r2 =>
   (match r2 with
   | .inl (d3, d4, _) =>
     some (d3, d4)
   | .inr _ =>
     some ((⟨#[]⟩ : ByteArray), false))
noncomputable def A6 : FnA := ⟨[.v (.pair (.int .i64) (.pair (.sl (.int .i64)) (.pair (.sl (.int .i64)) (.sl (.pair (.int .i64) (.pair .str (.pair (.int .i64) (.int .i64)))))))), .v (.pair (.int .i64) (.pair (.sl (.int .i64)) (.pair (.sl (.int .i64)) (.sl (.pair (.int .i64) (.pair .str (.pair (.int .i64) (.int .i64)))))))), .v (.int .i64)], true, [.str, .bool], fun x => impl_FirstOver x.1 x.2.1 x.2.2.1⟩
theorem impl_FirstOver_eq : fnF E6 L6_1 [.v (.pair (.int .i64) (.pair (.sl (.int .i64)) (.pair (.sl (.int .i64)) (.sl (.pair (.int .i64) (.pair .str (.pair (.int .i64) (.int .i64)))))))), .v (.pair (.int .i64) (.pair (.sl (.int .i64)) (.pair (.sl (.int .i64)) (.sl (.pair (.int .i64) (.pair .str (.pair (.int .i64) (.int .i64)))))))), .v (.int .i64)] true [.str, .bool] f6.ntmps f6.results.toList (codeOf f6) = fun x => impl_FirstOver x.1 x.2.1 x.2.2.1 := by kernel_rfl
theorem A6_ok : FnOk prog 6 A6 := fo impl_FirstOver_eq func6 E6_ok (allCons (loop6_3 rfl) allNil)
/-! spec.l11Short -/
noncomputable def E21 : Env := ⟨ty0, fun g => ifEq g 36 (some A36) (ifEq g 37 (some A37) (none)), fun _ => none, fun _ => none, fun _ => none⟩
theorem E21_ok : FnsOk prog E21 := (oF A36_ok func36 (oF A37_ok func37 (noFns _ _)))
noncomputable def L21_0 : Nat → Option LoopD := fun _ => none
noncomputable def spec_l11Short : (Int × ((List Int) × ((List Int) × (List (Int × (ByteArray × (Int × Int))))))) → Int → Option (Bool) := fun (a0_0, a0_1, a0_2, a0_3) a1 =>
 Option.bind (spec_AutomatonValid (a0_0, a0_1, a0_2, a0_3)) fun r0 =>
  bif r0 then
   Option.bind (spec_l1In a1 (0 : Int) (7 : Int)) fun r1 =>
    some r1
  else
   some false
noncomputable def A21 : FnA := ⟨[.v (.pair (.int .i64) (.pair (.sl (.int .i64)) (.pair (.sl (.int .i64)) (.sl (.pair (.int .i64) (.pair .str (.pair (.int .i64) (.int .i64)))))))), .v (.int .i64)], true, [.bool], fun x => spec_l11Short x.1 x.2.1⟩
theorem spec_l11Short_eq : fnF E21 L21_0 [.v (.pair (.int .i64) (.pair (.sl (.int .i64)) (.pair (.sl (.int .i64)) (.sl (.pair (.int .i64) (.pair .str (.pair (.int .i64) (.int .i64)))))))), .v (.int .i64)] true [.bool] f21.ntmps f21.results.toList (codeOf f21) = fun x => spec_l11Short x.1 x.2.1 := by kernel_rfl
theorem A21_ok : FnOk prog 21 A21 := fo spec_l11Short_eq func21 E21_ok allNil
/-! spec.l4Words -/
noncomputable def E22 : Env := ⟨ty0, fun _ => none, fun _ => none, fun _ => none, fun _ => none⟩
theorem E22_ok : FnsOk prog E22 := (noFns _ _)
noncomputable def L22_0 : Nat → Option LoopD := fun _ => none
def sh22_7 : List Fm := d :: d :: d :: .cell (.own .str 100300 true) :: d :: .cell (.val (.int .i64)) :: d :: d :: d :: .cell (.val (.int .i64)) :: .cell (.val (.int .i64)) :: D 6 (.cell (.val (.sl .str)) :: .cell (.val (.int .i64)) :: .cell (.val (.int .i64)) :: D 14 [])
def xs22_7 : List (Ex × List Fm) := [(.exit 2, (d :: d :: d :: .cell (.own .str 100300 true) :: d :: .cell (.val (.int .i64)) :: d :: d :: d :: .cell (.val (.int .i64)) :: .cell (.val (.int .i64)) :: D 23 []))]
noncomputable def spec_l4Words_l7 : ((List ByteArray) × Int × Int × Int × (List ByteArray) × Int × Int × Unit) → Option (((List ByteArray) × Int × Int × Int × (List ByteArray) × Int × Int × Unit) ⊕ (((List ByteArray) × Int × Int × Int × Unit))) := fun (v3, v5, v9, v10, v17, v18, v19, _) =>
 bif (decide (v19 < v18)) then
  if (((0 : Int) ≤ v19) ∧ (v19 < (((List.length v17) : Nat) : Int))) then
   if (((ByteArray.size (List.getD v17 (Int.toNat v19) (⟨Array.empty⟩ : ByteArray))) + (ByteArray.size (⟨#[(97 : UInt8)]⟩ : ByteArray))) ≤ 9223372036854775807) then
    if (((ByteArray.size (List.getD v17 (Int.toNat v19) (⟨Array.empty⟩ : ByteArray))) + (ByteArray.size (⟨#[(98 : UInt8)]⟩ : ByteArray))) ≤ 9223372036854775807) then
     if (((0 + (List.length v3)) = (List.length v3)) ∧ ((((List.length v3) + (List.length (List.take 2 (List.drop 0 [((List.getD v17 (Int.toNat v19) (⟨Array.empty⟩ : ByteArray)) ++ (⟨#[(97 : UInt8)]⟩ : ByteArray)), ((List.getD v17 (Int.toNat v19) (⟨Array.empty⟩ : ByteArray)) ++ (⟨#[(98 : UInt8)]⟩ : ByteArray))])))) * 16) ≤ 140737488355328)) then
      if ((0 + ((List.length v3) + (List.length (List.take 2 (List.drop 0 [((List.getD v17 (Int.toNat v19) (⟨Array.empty⟩ : ByteArray)) ++ (⟨#[(97 : UInt8)]⟩ : ByteArray)), ((List.getD v17 (Int.toNat v19) (⟨Array.empty⟩ : ByteArray)) ++ (⟨#[(98 : UInt8)]⟩ : ByteArray))]))))) = (List.length ((List.drop 0 v3) ++ (List.take 2 (List.drop 0 [((List.getD v17 (Int.toNat v19) (⟨Array.empty⟩ : ByteArray)) ++ (⟨#[(97 : UInt8)]⟩ : ByteArray)), ((List.getD v17 (Int.toNat v19) (⟨Array.empty⟩ : ByteArray)) ++ (⟨#[(98 : UInt8)]⟩ : ByteArray))]))))) then
       some (Sum.inl ((List.drop 0 ((List.drop 0 v3) ++ (List.take 2 (List.drop 0 [((List.getD v17 (Int.toNat v19) (⟨Array.empty⟩ : ByteArray)) ++ (⟨#[(97 : UInt8)]⟩ : ByteArray)), ((List.getD v17 (Int.toNat v19) (⟨Array.empty⟩ : ByteArray)) ++ (⟨#[(98 : UInt8)]⟩ : ByteArray))])))), v5, v9, v10, v17, v18, (IntKind.wrap .i64 (v19 + (1 : Int))), ()))
      else
       none
     else
      none
    else
     none
   else
    none
  else
   none
 else
  if ((0 + (List.length v3)) = (List.length v3)) then
   some (Sum.inr ((List.drop 0 v3), v5, v9, v10, ()))
  else
   none
theorem spec_l4Words_l7_eq : loopStep 34 E22 L22_0 (loopOf f22 7) sh22_7 xs22_7 = spec_l4Words_l7 := by kernel_rfl
theorem loop22_7 {L} (h : L 7 = some ⟨34, sh22_7, xs22_7, spec_l4Words_l7⟩) : LoopOk prog L (loopOf f22 7) := lo spec_l4Words_l7_eq E22_ok allNil h
noncomputable def L22_1 : Nat → Option LoopD := fun n => ifEq n 7 (some ⟨34, sh22_7, xs22_7, spec_l4Words_l7⟩) (L22_0 n)
def sh22_4 : List Fm := d :: d :: d :: .cell (.own .str 100300 true) :: .cell (.val (.int .i64)) :: D 4 (.cell (.val (.int .i64)) :: .cell (.val (.int .i64)) :: D 23 [])
def xs22_4 : List (Ex × List Fm) := [(.exit 0, (d :: d :: d :: .cell (.val (.sl .str)) :: D 30 []))]
noncomputable def spec_l4Words_l4 : ((List ByteArray) × Int × Int × Int × Unit) → Option (((List ByteArray) × Int × Int × Int × Unit) ⊕ (((List ByteArray) × Unit))) := fun (v3, v4, v9, v10, _) =>
 bif (decide (v10 < v9)) then
  if (((0 : Int) ≤ v4) ∧ ((v4 ≤ (((List.length v3) : Nat) : Int)) ∧ ((((List.length v3) : Nat) : Int) ≤ (((List.length v3) : Nat) : Int)))) then
   if ((0 + (List.length v3)) = (List.length v3)) then
    Option.bind (loopF spec_l4Words_l7 ((List.drop 0 v3), (((List.length v3) : Nat) : Int), v9, v10, (List.take ((Int.toNat (((List.length v3) : Nat) : Int)) - (Int.toNat v4)) (List.drop (0 + (Int.toNat v4)) v3)), ((((Int.toNat (((List.length v3) : Nat) : Int)) - (Int.toNat v4)) : Nat) : Int), (0 : Int), ())) fun (r0, r1, r2, r3, _) =>
     if ((0 + (List.length r0)) = (List.length r0)) then
      some (Sum.inl ((List.drop 0 r0), r1, r2, (IntKind.wrap .i64 (r3 + (1 : Int))), ()))
     else
      none
   else
    none
  else
   none
 else
  some (Sum.inr ((List.take (List.length v3) (List.drop 0 v3)), ()))
theorem spec_l4Words_l4_eq : loopStep 34 E22 L22_1 (loopOf f22 4) sh22_4 xs22_4 = spec_l4Words_l4 := by kernel_rfl
theorem loop22_4 {L} (h : L 4 = some ⟨34, sh22_4, xs22_4, spec_l4Words_l4⟩) : LoopOk prog L (loopOf f22 4) := lo spec_l4Words_l4_eq E22_ok (allCons (loop22_7 rfl) allNil) h
noncomputable def L22_2 : Nat → Option LoopD := fun n => ifEq n 4 (some ⟨34, sh22_4, xs22_4, spec_l4Words_l4⟩) (L22_1 n)
noncomputable def spec_l4Words : Int → Option ((List ByteArray)) := fun a0 =>
 if ((0 + 1) = (List.length [(⟨#[]⟩ : ByteArray)])) then
  Option.bind (loopF spec_l4Words_l4 ((List.drop 0 [(⟨#[]⟩ : ByteArray)]), (0 : Int), a0, (0 : Int), ())) fun (r0, _) =>
   some r0
 else
  none
noncomputable def A22 : FnA := ⟨[.v (.int .i64)], false, [.sl .str], fun x => spec_l4Words x.1⟩
theorem spec_l4Words_eq : fnF E22 L22_2 [.v (.int .i64)] false [.sl .str] f22.ntmps f22.results.toList (codeOf f22) = fun x => spec_l4Words x.1 := by kernel_rfl
theorem A22_ok : FnOk prog 22 A22 := fo spec_l4Words_eq func22 E22_ok (allCons (loop22_4 rfl) allNil)
/-! spec.l2Unit -/
noncomputable def E57 : Env := ⟨ty0, fun _ => none, fun _ => none, fun _ => none, fun _ => none⟩
theorem E57_ok : FnsOk prog E57 := (noFns _ _)
noncomputable def L57_0 : Nat → Option LoopD := fun _ => none
def sh57_3 : List Fm := .cell (.val (.int .i64)) :: d :: .box 100200 [.val (.int .i64), .own (.int .i64) 100202 false] :: .box 100300 [.val (.int .i64), .own (.int .i64) 100302 false] :: D 5 (.cell (.val (.int .i64)) :: .cell (.val (.int .i64)) :: D 21 [])
def xs57_3 : List (Ex × List Fm) := [(.exit 0, [d, d, .box 100200 [.val (.int .i64), .own (.int .i64) 100202 false], .box 100300 [.val (.int .i64), .own (.int .i64) 100302 false], d, d, d, d, d, d, d, d, d, d, d, d, d, d, d, d, d, d, d, d, d, d, d, d, d, d, d, d])]
noncomputable def spec_l2Unit_l3 : (Int × (Int × (List Int) × Unit) × (Int × (List Int) × Unit) × Int × Int × Unit) → Option ((Int × (Int × (List Int) × Unit) × (Int × (List Int) × Unit) × Int × Int × Unit) ⊕ (((Int × (List Int) × Unit) × (Int × (List Int) × Unit) × Unit))) := fun (v0, (v2_0, v2_1, _), (v3_0, v3_1, _), v9, v10, _) =>
 bif (decide (v10 < v9)) then
  if (v0 = (0 : Int)) then
   none
  else
   if (v0 = (0 : Int)) then
    none
   else
    bif ((IntKind.wrap .i64 (Int.tdiv v10 v0)) == (Int.tmod v10 v0)) then
     if (((0 + (List.length v3_1)) = (List.length v3_1)) ∧ ((((List.length v3_1) + (List.length (List.take 1 (List.drop 0 [(0 : Int)])))) * 8) ≤ 140737488355328)) then
      some (Sum.inl (v0, (v2_0, (List.take (List.length v2_1) (List.drop 0 v2_1)), ()), (v3_0, (List.take ((List.length v3_1) + (List.length (List.take 1 (List.drop 0 [(0 : Int)])))) (List.drop 0 ((List.drop 0 v3_1) ++ (List.take 1 (List.drop 0 [(0 : Int)]))))), ()), v9, (IntKind.wrap .i64 (v10 + (1 : Int))), ()))
     else
      none
    else
     if (((0 + (List.length v3_1)) = (List.length v3_1)) ∧ ((((List.length v3_1) + (List.length (List.take 1 (List.drop 0 [(1000000 : Int)])))) * 8) ≤ 140737488355328)) then
      some (Sum.inl (v0, (v2_0, (List.take (List.length v2_1) (List.drop 0 v2_1)), ()), (v3_0, (List.take ((List.length v3_1) + (List.length (List.take 1 (List.drop 0 [(1000000 : Int)])))) (List.drop 0 ((List.drop 0 v3_1) ++ (List.take 1 (List.drop 0 [(1000000 : Int)]))))), ()), v9, (IntKind.wrap .i64 (v10 + (1 : Int))), ()))
     else
      none
 else
  some (Sum.inr ((v2_0, (List.take (List.length v2_1) (List.drop 0 v2_1)), ()), (v3_0, (List.take (List.length v3_1) (List.drop 0 v3_1)), ()), ()))
theorem spec_l2Unit_l3_eq : loopStep 32 E57 L57_0 (loopOf f57 3) sh57_3 xs57_3 = spec_l2Unit_l3 := by kernel_rfl
theorem loop57_3 {L} (h : L 3 = some ⟨32, sh57_3, xs57_3, spec_l2Unit_l3⟩) : LoopOk prog L (loopOf f57 3) := lo spec_l2Unit_l3_eq E57_ok allNil h
noncomputable def L57_1 : Nat → Option LoopD := fun n => ifEq n 3 (some ⟨32, sh57_3, xs57_3, spec_l2Unit_l3⟩) (L57_0 n)
noncomputable def spec_l2Unit : Int → Option ((Int × (List Int))) := fun a0 =>
 Option.bind (loopF spec_l2Unit_l3 (a0, ((0 : Int), [], ()), (a0, [], ()), (IntKind.wrap .i64 (a0 * a0)), (0 : Int), ())) fun ((r0, r1, _), (r2, r3, _), _) =>
  some (r2, (List.take (List.length r3) (List.drop 0 r3)))
noncomputable def A57 : FnA := ⟨[.v (.int .i64)], true, [.pair (.int .i64) (.sl (.int .i64))], fun x => spec_l2Unit x.1⟩
theorem spec_l2Unit_eq : fnF E57 L57_1 [.v (.int .i64)] true [.pair (.int .i64) (.sl (.int .i64))] f57.ntmps f57.results.toList (codeOf f57) = fun x => spec_l2Unit x.1 := by kernel_rfl
theorem A57_ok : FnOk prog 57 A57 := fo spec_l2Unit_eq func57 E57_ok (allCons (loop57_3 rfl) allNil)
/-! spec.l3Matrix -/
noncomputable def E58 : Env := ⟨ty0, fun _ => none, fun _ => none, fun _ => none, fun _ => none⟩
theorem E58_ok : FnsOk prog E58 := (noFns _ _)
noncomputable def L58_0 : Nat → Option LoopD := fun _ => none
def sh58_3 : List Fm := d :: .cell (.val .str) :: .box 100200 [.val (.int .i64), .val (.sl (.int .i64)), .val (.sl (.int .i64)), .val (.sl (.pair (.int .i64) (.pair .str (.pair (.int .i64) (.int .i64)))))] :: d :: .box 100400 [.val (.int .i64), .own (.int .i64) 100402 false] :: .box 100500 [.val (.int .i64), .own (.int .i64) 100502 false] :: D 9 (.cell (.val (.int .i64)) :: .cell (.val (.int .i64)) :: D 33 [])
def xs58_3 : List (Ex × List Fm) := [(.exit 0, [d, .cell (.val .str), .box 100200 [.val (.int .i64), .val (.sl (.int .i64)), .val (.sl (.int .i64)), .val (.sl (.pair (.int .i64) (.pair .str (.pair (.int .i64) (.int .i64)))))], d, .box 100400 [.val (.int .i64), .own (.int .i64) 100402 false], .box 100500 [.val (.int .i64), .own (.int .i64) 100502 false], d, d, d, d, d, d, d, d, d, d, d, d, d, d, d, d, d, d, d, d, d, d, d, d, d, d, d, d, d, d, d, d, d, d, d, d, d, d, d, d, d, d, d, d])]
noncomputable def spec_l3Matrix_l3 : (ByteArray × (Int × (List Int) × (List Int) × (List (Int × (ByteArray × (Int × Int)))) × Unit) × (Int × (List Int) × Unit) × (Int × (List Int) × Unit) × Int × Int × Unit) → Option ((ByteArray × (Int × (List Int) × (List Int) × (List (Int × (ByteArray × (Int × Int)))) × Unit) × (Int × (List Int) × Unit) × (Int × (List Int) × Unit) × Int × Int × Unit) ⊕ ((ByteArray × (Int × (List Int) × (List Int) × (List (Int × (ByteArray × (Int × Int)))) × Unit) × (Int × (List Int) × Unit) × (Int × (List Int) × Unit) × Unit))) := fun (v1, (v2_0, v2_1, v2_2, v2_3, _), (v4_0, v4_1, _), (v5_0, v5_1, _), v15, v16, _) =>
 bif (decide (v16 < v15)) then
  if (((0 + (List.length v5_1)) = (List.length v5_1)) ∧ ((((List.length v5_1) + (List.length (List.take 1 (List.drop 0 [(1000000 : Int)])))) * 8) ≤ 140737488355328)) then
   some (Sum.inl (v1, (v2_0, v2_1, v2_2, v2_3, ()), (v4_0, (List.take (List.length v4_1) (List.drop 0 v4_1)), ()), (v5_0, (List.take ((List.length v5_1) + (List.length (List.take 1 (List.drop 0 [(1000000 : Int)])))) (List.drop 0 ((List.drop 0 v5_1) ++ (List.take 1 (List.drop 0 [(1000000 : Int)]))))), ()), v15, (IntKind.wrap .i64 (v16 + (1 : Int))), ()))
  else
   none
 else
  some (Sum.inr (v1, (v2_0, v2_1, v2_2, v2_3, ()), (v4_0, (List.take (List.length v4_1) (List.drop 0 v4_1)), ()), (v5_0, (List.take (List.length v5_1) (List.drop 0 v5_1)), ()), ()))
theorem spec_l3Matrix_l3_eq : loopStep 50 E58 L58_0 (loopOf f58 3) sh58_3 xs58_3 = spec_l3Matrix_l3 := by kernel_rfl
theorem loop58_3 {L} (h : L 3 = some ⟨50, sh58_3, xs58_3, spec_l3Matrix_l3⟩) : LoopOk prog L (loopOf f58 3) := lo spec_l3Matrix_l3_eq E58_ok allNil h
noncomputable def L58_1 : Nat → Option LoopD := fun n => ifEq n 3 (some ⟨50, sh58_3, xs58_3, spec_l3Matrix_l3⟩) (L58_0 n)
def sh58_7 : List Fm := d :: .cell (.val .str) :: .box 100200 [.val (.int .i64), .val (.sl (.int .i64)), .val (.sl (.int .i64)), .val (.sl (.pair (.int .i64) (.pair .str (.pair (.int .i64) (.int .i64)))))] :: d :: .box 100400 [.val (.int .i64), .own (.int .i64) 100402 false] :: .box 100500 [.val (.int .i64), .own (.int .i64) 100502 false] :: D 19 (.cell (.val (.sl (.pair (.int .i64) (.pair .str (.pair (.int .i64) (.int .i64)))))) :: .cell (.val (.int .i64)) :: .cell (.val (.int .i64)) :: D 22 [])
def xs58_7 : List (Ex × List Fm) := [(.exit 2, [d, d, d, d, .box 100400 [.val (.int .i64), .own (.int .i64) 100402 false], .box 100500 [.val (.int .i64), .own (.int .i64) 100502 false], d, d, d, d, d, d, d, d, d, d, d, d, d, d, d, d, d, d, d, d, d, d, d, d, d, d, d, d, d, d, d, d, d, d, d, d, d, d, d, d, d, d, d, d])]
noncomputable def spec_l3Matrix_l7 : (ByteArray × (Int × (List Int) × (List Int) × (List (Int × (ByteArray × (Int × Int)))) × Unit) × (Int × (List Int) × Unit) × (Int × (List Int) × Unit) × (List (Int × (ByteArray × (Int × Int)))) × Int × Int × Unit) → Option ((ByteArray × (Int × (List Int) × (List Int) × (List (Int × (ByteArray × (Int × Int)))) × Unit) × (Int × (List Int) × Unit) × (Int × (List Int) × Unit) × (List (Int × (ByteArray × (Int × Int)))) × Int × Int × Unit) ⊕ (((Int × (List Int) × Unit) × (Int × (List Int) × Unit) × Unit))) := fun (v1, (v2_0, v2_1, v2_2, v2_3, _), (v4_0, v4_1, _), (v5_0, v5_1, _), v25, v26, v27, _) =>
 bif (decide (v27 < v26)) then
  if (((0 : Int) ≤ v27) ∧ (v27 < (((List.length v25) : Nat) : Int))) then
   bif ((ByteArray.toList (List.getD v25 (Int.toNat v27) ((0 : Int), (⟨Array.empty⟩ : ByteArray), (0 : Int), (0 : Int))).2.1) == (ByteArray.toList v1)) then
    if (((0 : Int) ≤ (IntKind.wrap .i64 ((IntKind.wrap .i64 ((List.getD v25 (Int.toNat v27) ((0 : Int), (⟨Array.empty⟩ : ByteArray), (0 : Int), (0 : Int))).1 * v2_0)) + (List.getD v25 (Int.toNat v27) ((0 : Int), (⟨Array.empty⟩ : ByteArray), (0 : Int), (0 : Int))).2.2.1))) ∧ ((IntKind.wrap .i64 ((IntKind.wrap .i64 ((List.getD v25 (Int.toNat v27) ((0 : Int), (⟨Array.empty⟩ : ByteArray), (0 : Int), (0 : Int))).1 * v2_0)) + (List.getD v25 (Int.toNat v27) ((0 : Int), (⟨Array.empty⟩ : ByteArray), (0 : Int), (0 : Int))).2.2.1)) < (((List.length v5_1) : Nat) : Int))) then
     some (Sum.inl (v1, (v2_0, v2_1, v2_2, v2_3, ()), (v4_0, (List.take (List.length v4_1) (List.drop 0 v4_1)), ()), (v5_0, (List.take (List.length v5_1) (List.drop 0 (List.set v5_1 (0 + (Int.toNat (IntKind.wrap .i64 ((IntKind.wrap .i64 ((List.getD v25 (Int.toNat v27) ((0 : Int), (⟨Array.empty⟩ : ByteArray), (0 : Int), (0 : Int))).1 * v2_0)) + (List.getD v25 (Int.toNat v27) ((0 : Int), (⟨Array.empty⟩ : ByteArray), (0 : Int), (0 : Int))).2.2.1)))) (List.getD v25 (Int.toNat v27) ((0 : Int), (⟨Array.empty⟩ : ByteArray), (0 : Int), (0 : Int))).2.2.2))), ()), v25, v26, (IntKind.wrap .i64 (v27 + (1 : Int))), ()))
    else
     none
   else
    some (Sum.inl (v1, (v2_0, v2_1, v2_2, v2_3, ()), (v4_0, (List.take (List.length v4_1) (List.drop 0 v4_1)), ()), (v5_0, (List.take (List.length v5_1) (List.drop 0 v5_1)), ()), v25, v26, (IntKind.wrap .i64 (v27 + (1 : Int))), ()))
  else
   none
 else
  some (Sum.inr ((v4_0, (List.take (List.length v4_1) (List.drop 0 v4_1)), ()), (v5_0, (List.take (List.length v5_1) (List.drop 0 v5_1)), ()), ()))
theorem spec_l3Matrix_l7_eq : loopStep 50 E58 L58_1 (loopOf f58 7) sh58_7 xs58_7 = spec_l3Matrix_l7 := by kernel_rfl
theorem loop58_7 {L} (h : L 7 = some ⟨50, sh58_7, xs58_7, spec_l3Matrix_l7⟩) : LoopOk prog L (loopOf f58 7) := lo spec_l3Matrix_l7_eq E58_ok allNil h
noncomputable def L58_2 : Nat → Option LoopD := fun n => ifEq n 7 (some ⟨50, sh58_7, xs58_7, spec_l3Matrix_l7⟩) (L58_1 n)
noncomputable def spec_l3Matrix : (Int × ((List Int) × ((List Int) × (List (Int × (ByteArray × (Int × Int))))))) → ByteArray → Option ((Int × (List Int))) := fun (a0_0, a0_1, a0_2, a0_3) a1 =>
 Option.bind (loopF spec_l3Matrix_l3 (a1, (a0_0, a0_1, a0_2, a0_3, ()), ((0 : Int), [], ()), (a0_0, [], ()), (IntKind.wrap .i64 (a0_0 * a0_0)), (0 : Int), ())) fun (r0, (r1, r2, r3, r4, _), (r5, r6, _), (r7, r8, _), _) =>
  Option.bind (loopF spec_l3Matrix_l7 (r0, (r1, r2, r3, r4, ()), (r5, (List.take (List.length r6) (List.drop 0 r6)), ()), (r7, (List.take (List.length r8) (List.drop 0 r8)), ()), r4, (((List.length r4) : Nat) : Int), (0 : Int), ())) fun ((r9, r10, _), (r11, r12, _), _) =>
   some (r11, (List.take (List.length r12) (List.drop 0 r12)))
noncomputable def A58 : FnA := ⟨[.v (.pair (.int .i64) (.pair (.sl (.int .i64)) (.pair (.sl (.int .i64)) (.sl (.pair (.int .i64) (.pair .str (.pair (.int .i64) (.int .i64)))))))), .v .str], true, [.pair (.int .i64) (.sl (.int .i64))], fun x => spec_l3Matrix x.1 x.2.1⟩
theorem spec_l3Matrix_eq : fnF E58 L58_2 [.v (.pair (.int .i64) (.pair (.sl (.int .i64)) (.pair (.sl (.int .i64)) (.sl (.pair (.int .i64) (.pair .str (.pair (.int .i64) (.int .i64)))))))), .v .str] true [.pair (.int .i64) (.sl (.int .i64))] f58.ntmps f58.results.toList (codeOf f58) = fun x => spec_l3Matrix x.1 x.2.1 := by kernel_rfl
theorem A58_ok : FnOk prog 58 A58 := fo spec_l3Matrix_eq func58 E58_ok (allCons (loop58_3 rfl) (allCons (loop58_7 rfl) allNil))
/-! spec.l1Add -/
noncomputable def E71 : Env := ⟨ty0, fun _ => none, fun _ => none, fun _ => none, fun _ => none⟩
theorem E71_ok : FnsOk prog E71 := (noFns _ _)
noncomputable def L71_0 : Nat → Option LoopD := fun _ => none
noncomputable def spec_l1Add : Int → Int → Option (Int) := fun a0 a1 =>
 some (if ((1000000 : Int) < (IntKind.wrap .i64 (a0 + a1))) then (1000000 : Int) else (IntKind.wrap .i64 (a0 + a1)))
noncomputable def A71 : FnA := ⟨[.v (.int .i64), .v (.int .i64)], true, [.int .i64], fun x => spec_l1Add x.1 x.2.1⟩
theorem spec_l1Add_eq : fnF E71 L71_0 [.v (.int .i64), .v (.int .i64)] true [.int .i64] f71.ntmps f71.results.toList (codeOf f71) = fun x => spec_l1Add x.1 x.2.1 := by kernel_rfl
theorem A71_ok : FnOk prog 71 A71 := fo spec_l1Add_eq func71 E71_ok allNil
/-! spec.l2Mul -/
noncomputable def E59 : Env := ⟨ty0, fun g => ifEq g 71 (some A71) (none), fun _ => none, fun _ => none, fun _ => none⟩
theorem E59_ok : FnsOk prog E59 := (oF A71_ok func71 (noFns _ _))
noncomputable def L59_0 : Nat → Option LoopD := fun _ => none
def sh59_8 : List Fm := d :: d :: .box 100200 [.val (.int .i64), .val (.sl (.int .i64))] :: .box 100300 [.val (.int .i64), .val (.sl (.int .i64))] :: .box 100400 [.val (.int .i64), .own (.int .i64) 100402 false] :: .box 100500 [.val (.int .i64), .own (.int .i64) 100502 false] :: d :: .cell (.val (.int .i64)) :: .cell (.val (.int .i64)) :: .cell (.val (.int .i64)) :: D 8 (.cell (.val (.int .i64)) :: .cell (.val (.int .i64)) :: D 11 (.cell (.val (.int .i64)) :: .cell (.val (.int .i64)) :: D 34 []))
def xs59_8 : List (Ex × List Fm) := [(.exit 2, [d, d, .box 100200 [.val (.int .i64), .val (.sl (.int .i64))], .box 100300 [.val (.int .i64), .val (.sl (.int .i64))], .box 100400 [.val (.int .i64), .own (.int .i64) 100402 false], .box 100500 [.val (.int .i64), .own (.int .i64) 100502 false], d, d, d, .cell (.val (.int .i64)), d, d, d, d, d, d, d, d, .cell (.val (.int .i64)), .cell (.val (.int .i64)), d, d, d, d, d, d, d, d, d, d, d, d, d, d, d, d, d, d, d, d, d, d, d, d, d, d, d, d, d, d, d, d, d, d, d, d, d, d, d, d, d, d, d, d, d, d, d])]
noncomputable def spec_l2Mul_l8 : ((Int × (List Int) × Unit) × (Int × (List Int) × Unit) × (Int × (List Int) × Unit) × (Int × (List Int) × Unit) × Int × Int × Int × Int × Int × Int × Int × Unit) → Option (((Int × (List Int) × Unit) × (Int × (List Int) × Unit) × (Int × (List Int) × Unit) × (Int × (List Int) × Unit) × Int × Int × Int × Int × Int × Int × Int × Unit) ⊕ (((Int × (List Int) × Unit) × (Int × (List Int) × Unit) × (Int × (List Int) × Unit) × (Int × (List Int) × Unit) × Int × Int × Int × Unit))) := fun ((v2_0, v2_1, _), (v3_0, v3_1, _), (v4_0, v4_1, _), (v5_0, v5_1, _), v7, v8, v9, v18, v19, v31, v32, _) =>
 bif (decide (v32 < v31)) then
  if (((0 : Int) ≤ (IntKind.wrap .i64 ((IntKind.wrap .i64 (v7 * v2_0)) + v32))) ∧ ((IntKind.wrap .i64 ((IntKind.wrap .i64 (v7 * v2_0)) + v32)) < (((List.length v2_1) : Nat) : Int))) then
   if (((0 : Int) ≤ (IntKind.wrap .i64 ((IntKind.wrap .i64 (v32 * v2_0)) + v8))) ∧ ((IntKind.wrap .i64 ((IntKind.wrap .i64 (v32 * v2_0)) + v8)) < (((List.length v3_1) : Nat) : Int))) then
    Option.bind (spec_l1Add (List.getD v2_1 (Int.toNat (IntKind.wrap .i64 ((IntKind.wrap .i64 (v7 * v2_0)) + v32))) (0 : Int)) (List.getD v3_1 (Int.toNat (IntKind.wrap .i64 ((IntKind.wrap .i64 (v32 * v2_0)) + v8))) (0 : Int))) fun r0 =>
     some (Sum.inl ((v2_0, v2_1, ()), (v3_0, v3_1, ()), (v4_0, (List.take (List.length v4_1) (List.drop 0 v4_1)), ()), (v5_0, (List.take (List.length v5_1) (List.drop 0 v5_1)), ()), v7, v8, (if (r0 < v9) then r0 else v9), v18, v19, v31, (IntKind.wrap .i64 (v32 + (1 : Int))), ()))
   else
    none
  else
   none
 else
  some (Sum.inr ((v2_0, v2_1, ()), (v3_0, v3_1, ()), (v4_0, (List.take (List.length v4_1) (List.drop 0 v4_1)), ()), (v5_0, (List.take (List.length v5_1) (List.drop 0 v5_1)), ()), v9, v18, v19, ()))
theorem spec_l2Mul_l8_eq : loopStep 67 E59 L59_0 (loopOf f59 8) sh59_8 xs59_8 = spec_l2Mul_l8 := by kernel_rfl
theorem loop59_8 {L} (h : L 8 = some ⟨67, sh59_8, xs59_8, spec_l2Mul_l8⟩) : LoopOk prog L (loopOf f59 8) := lo spec_l2Mul_l8_eq E59_ok allNil h
noncomputable def L59_1 : Nat → Option LoopD := fun n => ifEq n 8 (some ⟨67, sh59_8, xs59_8, spec_l2Mul_l8⟩) (L59_0 n)
def sh59_3 : List Fm := d :: d :: .box 100200 [.val (.int .i64), .val (.sl (.int .i64))] :: .box 100300 [.val (.int .i64), .val (.sl (.int .i64))] :: .box 100400 [.val (.int .i64), .own (.int .i64) 100402 false] :: .box 100500 [.val (.int .i64), .own (.int .i64) 100502 false] :: D 12 (.cell (.val (.int .i64)) :: .cell (.val (.int .i64)) :: D 47 [])
def xs59_3 : List (Ex × List Fm) := [(.exit 0, [d, d, d, d, .box 100400 [.val (.int .i64), .own (.int .i64) 100402 false], .box 100500 [.val (.int .i64), .own (.int .i64) 100502 false], d, d, d, d, d, d, d, d, d, d, d, d, d, d, d, d, d, d, d, d, d, d, d, d, d, d, d, d, d, d, d, d, d, d, d, d, d, d, d, d, d, d, d, d, d, d, d, d, d, d, d, d, d, d, d, d, d, d, d, d, d])]
noncomputable def spec_l2Mul_l3 : ((Int × (List Int) × Unit) × (Int × (List Int) × Unit) × (Int × (List Int) × Unit) × (Int × (List Int) × Unit) × Int × Int × Unit) → Option (((Int × (List Int) × Unit) × (Int × (List Int) × Unit) × (Int × (List Int) × Unit) × (Int × (List Int) × Unit) × Int × Int × Unit) ⊕ (((Int × (List Int) × Unit) × (Int × (List Int) × Unit) × Unit))) := fun ((v2_0, v2_1, _), (v3_0, v3_1, _), (v4_0, v4_1, _), (v5_0, v5_1, _), v18, v19, _) =>
 bif (decide (v19 < v18)) then
  if (v2_0 = (0 : Int)) then
   none
  else
   if (v2_0 = (0 : Int)) then
    none
   else
    Option.bind (loopF spec_l2Mul_l8 ((v2_0, v2_1, ()), (v3_0, v3_1, ()), (v4_0, (List.take (List.length v4_1) (List.drop 0 v4_1)), ()), (v5_0, (List.take (List.length v5_1) (List.drop 0 v5_1)), ()), (IntKind.wrap .i64 (Int.tdiv v19 v2_0)), (Int.tmod v19 v2_0), (1000000 : Int), v18, v19, v2_0, (0 : Int), ())) fun ((r0, r1, _), (r2, r3, _), (r4, r5, _), (r6, r7, _), r8, r9, r10, _) =>
     if (((0 + (List.length r7)) = (List.length r7)) ∧ ((((List.length r7) + (List.length (List.take 1 (List.drop 0 [r8])))) * 8) ≤ 140737488355328)) then
      some (Sum.inl ((r0, r1, ()), (r2, r3, ()), (r4, (List.take (List.length r5) (List.drop 0 r5)), ()), (r6, (List.take ((List.length r7) + (List.length (List.take 1 (List.drop 0 [r8])))) (List.drop 0 ((List.drop 0 r7) ++ (List.take 1 (List.drop 0 [r8]))))), ()), r9, (IntKind.wrap .i64 (r10 + (1 : Int))), ()))
     else
      none
 else
  some (Sum.inr ((v4_0, (List.take (List.length v4_1) (List.drop 0 v4_1)), ()), (v5_0, (List.take (List.length v5_1) (List.drop 0 v5_1)), ()), ()))
theorem spec_l2Mul_l3_eq : loopStep 67 E59 L59_1 (loopOf f59 3) sh59_3 xs59_3 = spec_l2Mul_l3 := by kernel_rfl
theorem loop59_3 {L} (h : L 3 = some ⟨67, sh59_3, xs59_3, spec_l2Mul_l3⟩) : LoopOk prog L (loopOf f59 3) := lo spec_l2Mul_l3_eq E59_ok (allCons (loop59_8 rfl) allNil) h
noncomputable def L59_2 : Nat → Option LoopD := fun n => ifEq n 3 (some ⟨67, sh59_3, xs59_3, spec_l2Mul_l3⟩) (L59_1 n)
noncomputable def spec_l2Mul : (Int × (List Int)) → (Int × (List Int)) → Option ((Int × (List Int))) := fun (a0_0, a0_1) (a1_0, a1_1) =>
 Option.bind (loopF spec_l2Mul_l3 ((a0_0, a0_1, ()), (a1_0, a1_1, ()), ((0 : Int), [], ()), (a0_0, [], ()), (IntKind.wrap .i64 (a0_0 * a0_0)), (0 : Int), ())) fun ((r0, r1, _), (r2, r3, _), _) =>
  some (r2, (List.take (List.length r3) (List.drop 0 r3)))
noncomputable def A59 : FnA := ⟨[.v (.pair (.int .i64) (.sl (.int .i64))), .v (.pair (.int .i64) (.sl (.int .i64)))], true, [.pair (.int .i64) (.sl (.int .i64))], fun x => spec_l2Mul x.1 x.2.1⟩
theorem spec_l2Mul_eq : fnF E59 L59_2 [.v (.pair (.int .i64) (.sl (.int .i64))), .v (.pair (.int .i64) (.sl (.int .i64)))] true [.pair (.int .i64) (.sl (.int .i64))] f59.ntmps f59.results.toList (codeOf f59) = fun x => spec_l2Mul x.1 x.2.1 := by kernel_rfl
theorem A59_ok : FnOk prog 59 A59 := fo spec_l2Mul_eq func59 E59_ok (allCons (loop59_3 rfl) allNil)
/-! spec.l4Matrix -/
noncomputable def E39 : Env := ⟨ty0, fun g => ifEq g 57 (some A57) (ifEq g 58 (some A58) (ifEq g 59 (some A59) (none))), fun _ => none, fun _ => none, fun _ => none⟩
theorem E39_ok : FnsOk prog E39 := (oF A57_ok func57 (oF A58_ok func58 (oF A59_ok func59 (noFns _ _))))
noncomputable def L39_0 : Nat → Option LoopD := fun _ => none
def sh39_4 : List Fm := d :: .cell (.val .str) :: d :: d :: .box 100400 [.val (.int .i64), .own (.int .i64) 100402 false] :: .box 100500 [.val (.int .i64), .own (.int .i64) 100502 false] :: .box 100600 [.val (.int .i64), .own (.int .i64) 100602 false] :: .box 100700 [.val (.int .i64), .own (.int .i64) 100702 false] :: D 9 (.cell (.val (.int .i64)) :: .cell (.val (.int .i64)) :: D 14 [])
def xs39_4 : List (Ex × List Fm) := [(.exit 0, [d, d, d, d, .box 100400 [.val (.int .i64), .own (.int .i64) 100402 false], .box 100500 [.val (.int .i64), .own (.int .i64) 100502 false], d, d, d, d, d, d, d, d, d, d, d, d, d, d, d, d, d, d, d, d, d, d, d, d, d, d, d])]
noncomputable def spec_l4Matrix_l4 : (ByteArray × (Int × (List Int) × Unit) × (Int × (List Int) × Unit) × (Int × (List Int) × Unit) × (Int × (List Int) × Unit) × Int × Int × Unit) → Option ((ByteArray × (Int × (List Int) × Unit) × (Int × (List Int) × Unit) × (Int × (List Int) × Unit) × (Int × (List Int) × Unit) × Int × Int × Unit) ⊕ (((Int × (List Int) × Unit) × (Int × (List Int) × Unit) × Unit))) := fun (v1, (v4_0, v4_1, _), (v5_0, v5_1, _), (v6_0, v6_1, _), (v7_0, v7_1, _), v17, v18, _) =>
 bif (decide (v18 < v17)) then
  if (((0 : Int) ≤ v18) ∧ (v18 < (((ByteArray.size v1) : Nat) : Int))) then
   bif ((((UInt8.toNat (Array.getD (ByteArray.data v1) (Int.toNat v18) (0 : UInt8))) : Nat) : Int) == (97 : Int)) then
    Option.bind (spec_l2Mul (v5_0, (List.take (List.length v5_1) (List.drop 0 v5_1))) (v6_0, (List.take (List.length v6_1) (List.drop 0 v6_1)))) fun (r0, r1) =>
     some (Sum.inl (v1, (v4_0, (List.take (List.length v4_1) (List.drop 0 v4_1)), ()), (r0, (List.take (List.length r1) (List.drop 0 r1)), ()), (v6_0, (List.take (List.length v6_1) (List.drop 0 v6_1)), ()), (v7_0, (List.take (List.length v7_1) (List.drop 0 v7_1)), ()), v17, (IntKind.wrap .i64 (v18 + (1 : Int))), ()))
   else
    Option.bind (spec_l2Mul (v5_0, (List.take (List.length v5_1) (List.drop 0 v5_1))) (v7_0, (List.take (List.length v7_1) (List.drop 0 v7_1)))) fun (r2, r3) =>
     some (Sum.inl (v1, (v4_0, (List.take (List.length v4_1) (List.drop 0 v4_1)), ()), (r2, (List.take (List.length r3) (List.drop 0 r3)), ()), (v6_0, (List.take (List.length v6_1) (List.drop 0 v6_1)), ()), (v7_0, (List.take (List.length v7_1) (List.drop 0 v7_1)), ()), v17, (IntKind.wrap .i64 (v18 + (1 : Int))), ()))
  else
   none
 else
  some (Sum.inr ((v4_0, (List.take (List.length v4_1) (List.drop 0 v4_1)), ()), (v5_0, (List.take (List.length v5_1) (List.drop 0 v5_1)), ()), ()))
theorem spec_l4Matrix_l4_eq : loopStep 33 E39 L39_0 (loopOf f39 4) sh39_4 xs39_4 = spec_l4Matrix_l4 := by kernel_rfl
theorem loop39_4 {L} (h : L 4 = some ⟨33, sh39_4, xs39_4, spec_l4Matrix_l4⟩) : LoopOk prog L (loopOf f39 4) := lo spec_l4Matrix_l4_eq E39_ok allNil h
noncomputable def L39_1 : Nat → Option LoopD := fun n => ifEq n 4 (some ⟨33, sh39_4, xs39_4, spec_l4Matrix_l4⟩) (L39_0 n)
noncomputable def spec_l4Matrix : (Int × ((List Int) × ((List Int) × (List (Int × (ByteArray × (Int × Int))))))) → ByteArray → Option ((Int × (List Int))) := fun (a0_0, a0_1, a0_2, a0_3) a1 =>
 Option.bind (spec_l2Unit a0_0) fun (r0, r1) =>
  Option.bind (spec_l3Matrix (a0_0, a0_1, a0_2, a0_3) (⟨#[(97 : UInt8)]⟩ : ByteArray)) fun (r2, r3) =>
   Option.bind (spec_l3Matrix (a0_0, a0_1, a0_2, a0_3) (⟨#[(98 : UInt8)]⟩ : ByteArray)) fun (r4, r5) =>
    Option.bind (loopF spec_l4Matrix_l4 (a1, ((0 : Int), [], ()), (r0, (List.take (List.length r1) (List.drop 0 r1)), ()), (r2, (List.take (List.length r3) (List.drop 0 r3)), ()), (r4, (List.take (List.length r5) (List.drop 0 r5)), ()), (((ByteArray.size a1) : Nat) : Int), (0 : Int), ())) fun ((r6, r7, _), (r8, r9, _), _) =>
     some (r8, (List.take (List.length r9) (List.drop 0 r9)))
noncomputable def A39 : FnA := ⟨[.v (.pair (.int .i64) (.pair (.sl (.int .i64)) (.pair (.sl (.int .i64)) (.sl (.pair (.int .i64) (.pair .str (.pair (.int .i64) (.int .i64)))))))), .v .str], true, [.pair (.int .i64) (.sl (.int .i64))], fun x => spec_l4Matrix x.1 x.2.1⟩
theorem spec_l4Matrix_eq : fnF E39 L39_1 [.v (.pair (.int .i64) (.pair (.sl (.int .i64)) (.pair (.sl (.int .i64)) (.sl (.pair (.int .i64) (.pair .str (.pair (.int .i64) (.int .i64)))))))), .v .str] true [.pair (.int .i64) (.sl (.int .i64))] f39.ntmps f39.results.toList (codeOf f39) = fun x => spec_l4Matrix x.1 x.2.1 := by kernel_rfl
theorem A39_ok : FnOk prog 39 A39 := fo spec_l4Matrix_eq func39 E39_ok (allCons (loop39_4 rfl) allNil)
/-! spec.l4Least -/
noncomputable def E38 : Env := ⟨ty0, fun _ => none, fun _ => none, fun _ => none, fun _ => none⟩
theorem E38_ok : FnsOk prog E38 := (noFns _ _)
noncomputable def L38_0 : Nat → Option LoopD := fun _ => none
def sh38_6 : List Fm := d :: d :: .box 100200 [.val (.int .i64), .val (.sl (.int .i64)), .val (.sl (.int .i64)), .val (.sl (.pair (.int .i64) (.pair .str (.pair (.int .i64) (.int .i64)))))] :: .box 100300 [.val (.int .i64), .val (.sl (.int .i64))] :: d :: .cell (.val (.int .i64)) :: d :: .cell (.val (.int .i64)) :: d :: d :: d :: .cell (.val (.sl (.int .i64))) :: .cell (.val (.int .i64)) :: .cell (.val (.int .i64)) :: D 4 (.cell (.val (.sl (.int .i64))) :: .cell (.val (.int .i64)) :: .cell (.val (.int .i64)) :: D 18 [])
def xs38_6 : List (Ex × List Fm) := [(.exit 2, [d, d, .box 100200 [.val (.int .i64), .val (.sl (.int .i64)), .val (.sl (.int .i64)), .val (.sl (.pair (.int .i64) (.pair .str (.pair (.int .i64) (.int .i64)))))], .box 100300 [.val (.int .i64), .val (.sl (.int .i64))], d, .cell (.val (.int .i64)), d, d, d, d, d, .cell (.val (.sl (.int .i64))), .cell (.val (.int .i64)), .cell (.val (.int .i64)), d, d, d, d, d, d, d, d, d, d, d, d, d, d, d, d, d, d, d, d, d, d, d, d, d])]
noncomputable def spec_l4Least_l6 : ((Int × (List Int) × (List Int) × (List (Int × (ByteArray × (Int × Int)))) × Unit) × (Int × (List Int) × Unit) × Int × Int × (List Int) × Int × Int × (List Int) × Int × Int × Unit) → Option (((Int × (List Int) × (List Int) × (List (Int × (ByteArray × (Int × Int)))) × Unit) × (Int × (List Int) × Unit) × Int × Int × (List Int) × Int × Int × (List Int) × Int × Int × Unit) ⊕ (((Int × (List Int) × (List Int) × (List (Int × (ByteArray × (Int × Int)))) × Unit) × (Int × (List Int) × Unit) × Int × (List Int) × Int × Int × Unit))) := fun ((v2_0, v2_1, v2_2, v2_3, _), (v3_0, v3_1, _), v5, v7, v11, v12, v13, v18, v19, v20, _) =>
 bif (decide (v20 < v19)) then
  if (((0 : Int) ≤ v20) ∧ (v20 < (((List.length v18) : Nat) : Int))) then
   if (((0 : Int) ≤ (IntKind.wrap .i64 ((IntKind.wrap .i64 (v7 * v2_0)) + (List.getD v18 (Int.toNat v20) (0 : Int))))) ∧ ((IntKind.wrap .i64 ((IntKind.wrap .i64 (v7 * v2_0)) + (List.getD v18 (Int.toNat v20) (0 : Int)))) < (((List.length v3_1) : Nat) : Int))) then
    some (Sum.inl ((v2_0, v2_1, v2_2, v2_3, ()), (v3_0, v3_1, ()), (if ((List.getD v3_1 (Int.toNat (IntKind.wrap .i64 ((IntKind.wrap .i64 (v7 * v2_0)) + (List.getD v18 (Int.toNat v20) (0 : Int))))) (0 : Int)) < v5) then (List.getD v3_1 (Int.toNat (IntKind.wrap .i64 ((IntKind.wrap .i64 (v7 * v2_0)) + (List.getD v18 (Int.toNat v20) (0 : Int))))) (0 : Int)) else v5), v7, v11, v12, v13, v18, v19, (IntKind.wrap .i64 (v20 + (1 : Int))), ()))
   else
    none
  else
   none
 else
  some (Sum.inr ((v2_0, v2_1, v2_2, v2_3, ()), (v3_0, v3_1, ()), v5, v11, v12, v13, ()))
theorem spec_l4Least_l6_eq : loopStep 39 E38 L38_0 (loopOf f38 6) sh38_6 xs38_6 = spec_l4Least_l6 := by kernel_rfl
theorem loop38_6 {L} (h : L 6 = some ⟨39, sh38_6, xs38_6, spec_l4Least_l6⟩) : LoopOk prog L (loopOf f38 6) := lo spec_l4Least_l6_eq E38_ok allNil h
noncomputable def L38_1 : Nat → Option LoopD := fun n => ifEq n 6 (some ⟨39, sh38_6, xs38_6, spec_l4Least_l6⟩) (L38_0 n)
def sh38_3 : List Fm := d :: d :: .box 100200 [.val (.int .i64), .val (.sl (.int .i64)), .val (.sl (.int .i64)), .val (.sl (.pair (.int .i64) (.pair .str (.pair (.int .i64) (.int .i64)))))] :: .box 100300 [.val (.int .i64), .val (.sl (.int .i64))] :: d :: .cell (.val (.int .i64)) :: D 5 (.cell (.val (.sl (.int .i64))) :: .cell (.val (.int .i64)) :: .cell (.val (.int .i64)) :: D 25 [])
def xs38_3 : List (Ex × List Fm) := [(.exit 0, (D 5 (.cell (.val (.int .i64)) :: D 33 [])))]
noncomputable def spec_l4Least_l3 : ((Int × (List Int) × (List Int) × (List (Int × (ByteArray × (Int × Int)))) × Unit) × (Int × (List Int) × Unit) × Int × (List Int) × Int × Int × Unit) → Option (((Int × (List Int) × (List Int) × (List (Int × (ByteArray × (Int × Int)))) × Unit) × (Int × (List Int) × Unit) × Int × (List Int) × Int × Int × Unit) ⊕ ((Int × Unit))) := fun ((v2_0, v2_1, v2_2, v2_3, _), (v3_0, v3_1, _), v5, v11, v12, v13, _) =>
 bif (decide (v13 < v12)) then
  if (((0 : Int) ≤ v13) ∧ (v13 < (((List.length v11) : Nat) : Int))) then
   Option.bind (loopF spec_l4Least_l6 ((v2_0, v2_1, v2_2, v2_3, ()), (v3_0, v3_1, ()), v5, (List.getD v11 (Int.toNat v13) (0 : Int)), v11, v12, v13, v2_2, (((List.length v2_2) : Nat) : Int), (0 : Int), ())) fun ((r0, r1, r2, r3, _), (r4, r5, _), r6, r7, r8, r9, _) =>
    some (Sum.inl ((r0, r1, r2, r3, ()), (r4, r5, ()), r6, r7, r8, (IntKind.wrap .i64 (r9 + (1 : Int))), ()))
  else
   none
 else
  some (Sum.inr (v5, ()))
theorem spec_l4Least_l3_eq : loopStep 39 E38 L38_1 (loopOf f38 3) sh38_3 xs38_3 = spec_l4Least_l3 := by kernel_rfl
theorem loop38_3 {L} (h : L 3 = some ⟨39, sh38_3, xs38_3, spec_l4Least_l3⟩) : LoopOk prog L (loopOf f38 3) := lo spec_l4Least_l3_eq E38_ok (allCons (loop38_6 rfl) allNil) h
noncomputable def L38_2 : Nat → Option LoopD := fun n => ifEq n 3 (some ⟨39, sh38_3, xs38_3, spec_l4Least_l3⟩) (L38_1 n)
noncomputable def spec_l4Least : (Int × ((List Int) × ((List Int) × (List (Int × (ByteArray × (Int × Int))))))) → (Int × (List Int)) → Option (Int) := fun (a0_0, a0_1, a0_2, a0_3) (a1_0, a1_1) =>
 Option.bind (loopF spec_l4Least_l3 ((a0_0, a0_1, a0_2, a0_3, ()), (a1_0, a1_1, ()), (1000000 : Int), a0_1, (((List.length a0_1) : Nat) : Int), (0 : Int), ())) fun (r0, _) =>
  some r0
noncomputable def A38 : FnA := ⟨[.v (.pair (.int .i64) (.pair (.sl (.int .i64)) (.pair (.sl (.int .i64)) (.sl (.pair (.int .i64) (.pair .str (.pair (.int .i64) (.int .i64)))))))), .v (.pair (.int .i64) (.sl (.int .i64)))], true, [.int .i64], fun x => spec_l4Least x.1 x.2.1⟩
theorem spec_l4Least_eq : fnF E38 L38_2 [.v (.pair (.int .i64) (.pair (.sl (.int .i64)) (.pair (.sl (.int .i64)) (.sl (.pair (.int .i64) (.pair .str (.pair (.int .i64) (.int .i64)))))))), .v (.pair (.int .i64) (.sl (.int .i64)))] true [.int .i64] f38.ntmps f38.results.toList (codeOf f38) = fun x => spec_l4Least x.1 x.2.1 := by kernel_rfl
theorem A38_ok : FnOk prog 38 A38 := fo spec_l4Least_eq func38 E38_ok (allCons (loop38_3 rfl) allNil)
/-! spec.l4Cost -/
noncomputable def E23 : Env := ⟨ty0, fun g => ifEq g 39 (some A39) (ifEq g 38 (some A38) (none)), fun _ => none, fun _ => none, fun _ => none⟩
theorem E23_ok : FnsOk prog E23 := (oF A39_ok func39 (oF A38_ok func38 (noFns _ _)))
noncomputable def L23_0 : Nat → Option LoopD := fun _ => none
noncomputable def spec_l4Cost : (Int × ((List Int) × ((List Int) × (List (Int × (ByteArray × (Int × Int))))))) → ByteArray → Option (Int) := fun (a0_0, a0_1, a0_2, a0_3) a1 =>
 Option.bind (spec_l4Matrix (a0_0, a0_1, a0_2, a0_3) a1) fun (r0, r1) =>
  Option.bind (spec_l4Least (a0_0, a0_1, a0_2, a0_3) (r0, (List.take (List.length r1) (List.drop 0 r1)))) fun r2 =>
   some r2
noncomputable def A23 : FnA := ⟨[.v (.pair (.int .i64) (.pair (.sl (.int .i64)) (.pair (.sl (.int .i64)) (.sl (.pair (.int .i64) (.pair .str (.pair (.int .i64) (.int .i64)))))))), .v .str], true, [.int .i64], fun x => spec_l4Cost x.1 x.2.1⟩
theorem spec_l4Cost_eq : fnF E23 L23_0 [.v (.pair (.int .i64) (.pair (.sl (.int .i64)) (.pair (.sl (.int .i64)) (.sl (.pair (.int .i64) (.pair .str (.pair (.int .i64) (.int .i64)))))))), .v .str] true [.int .i64] f23.ntmps f23.results.toList (codeOf f23) = fun x => spec_l4Cost x.1 x.2.1 := by kernel_rfl
theorem A23_ok : FnOk prog 23 A23 := fo spec_l4Cost_eq func23 E23_ok allNil
/-! spec.FirstOver -/
noncomputable def E7 : Env := ⟨ty0, fun g => ifEq g 21 (some A21) (ifEq g 22 (some A22) (ifEq g 23 (some A23) (none))), fun _ => none, fun _ => none, fun _ => none⟩
theorem E7_ok : FnsOk prog E7 := (oF A21_ok func21 (oF A22_ok func22 (oF A23_ok func23 (noFns _ _))))
noncomputable def L7_0 : Nat → Option LoopD := fun _ => none
def sh7_4 : List Fm := d :: d :: d :: .box 100300 [.val (.int .i64), .val (.sl (.int .i64)), .val (.sl (.int .i64)), .val (.sl (.pair (.int .i64) (.pair .str (.pair (.int .i64) (.int .i64)))))] :: .box 100400 [.val (.int .i64), .val (.sl (.int .i64)), .val (.sl (.int .i64)), .val (.sl (.pair (.int .i64) (.pair .str (.pair (.int .i64) (.int .i64)))))] :: D 16 (.cell (.val (.sl .str)) :: .cell (.val (.int .i64)) :: .cell (.val (.int .i64)) :: D 12 [])
def xs7_4 : List (Ex × List Fm) := [(.ret, (D 6 (.cell (.val .str) :: .cell (.val .bool) :: D 28 []))), (.exit 0, (D 36 []))]
noncomputable def spec_FirstOver_l4 : ((Int × (List Int) × (List Int) × (List (Int × (ByteArray × (Int × Int)))) × Unit) × (Int × (List Int) × (List Int) × (List (Int × (ByteArray × (Int × Int)))) × Unit) × (List ByteArray) × Int × Int × Unit) → Option (((Int × (List Int) × (List Int) × (List (Int × (ByteArray × (Int × Int)))) × Unit) × (Int × (List Int) × (List Int) × (List (Int × (ByteArray × (Int × Int)))) × Unit) × (List ByteArray) × Int × Int × Unit) ⊕ ((ByteArray × Bool × Unit) ⊕ (Unit))) := fun ((v3_0, v3_1, v3_2, v3_3, _), (v4_0, v4_1, v4_2, v4_3, _), v21, v22, v23, _) =>
 bif (decide (v23 < v22)) then
  if (((0 : Int) ≤ v23) ∧ (v23 < (((List.length v21) : Nat) : Int))) then
   Option.bind (spec_l4Cost (v3_0, v3_1, v3_2, v3_3) (List.getD v21 (Int.toNat v23) (⟨Array.empty⟩ : ByteArray))) fun r0 =>
    Option.bind (spec_l4Cost (v4_0, v4_1, v4_2, v4_3) (List.getD v21 (Int.toNat v23) (⟨Array.empty⟩ : ByteArray))) fun r1 =>
     bif (decide (r0 > r1)) then
      some (Sum.inr (Sum.inl ((List.getD v21 (Int.toNat v23) (⟨Array.empty⟩ : ByteArray)), true, ())))
     else
      some (Sum.inl ((v3_0, v3_1, v3_2, v3_3, ()), (v4_0, v4_1, v4_2, v4_3, ()), v21, v22, (IntKind.wrap .i64 (v23 + (1 : Int))), ()))
  else
   none
 else
  some (Sum.inr (Sum.inr ()))
theorem spec_FirstOver_l4_eq : loopStep 36 E7 L7_0 (loopOf f7 4) sh7_4 xs7_4 = spec_FirstOver_l4 := by kernel_rfl
theorem loop7_4 {L} (h : L 4 = some ⟨36, sh7_4, xs7_4, spec_FirstOver_l4⟩) : LoopOk prog L (loopOf f7 4) := lo spec_FirstOver_l4_eq E7_ok allNil h
noncomputable def L7_1 : Nat → Option LoopD := fun n => ifEq n 4 (some ⟨36, sh7_4, xs7_4, spec_FirstOver_l4⟩) (L7_0 n)
noncomputable def spec_FirstOver : (Int × ((List Int) × ((List Int) × (List (Int × (ByteArray × (Int × Int))))))) → (Int × ((List Int) × ((List Int) × (List (Int × (ByteArray × (Int × Int))))))) → Int → Option (ByteArray × Bool) := fun (a0_0, a0_1, a0_2, a0_3) (a1_0, a1_1, a1_2, a1_3) a2 =>
 Option.bind (spec_l11Short (a0_0, a0_1, a0_2, a0_3) a2) fun r0 =>
  bif (!r0) then
   some ((⟨#[]⟩ : ByteArray), false)
  else
   Option.bind (spec_l11Short (a1_0, a1_1, a1_2, a1_3) a2) fun r1 =>
    bif (!r1) then
     some ((⟨#[]⟩ : ByteArray), false)
    else
     Option.bind (spec_l4Words a2) fun r2 =>
      Option.bind (loopF spec_FirstOver_l4 ((a0_0, a0_1, a0_2, a0_3, ()), (a1_0, a1_1, a1_2, a1_3, ()), r2, (((List.length r2) : Nat) : Int), (0 : Int), ())) fun r3 =>
       (match r3 with
       | .inl (d4, d5, _) =>
         some (d4, d5)
       | .inr _ =>
         some ((⟨#[]⟩ : ByteArray), false))
noncomputable def A7 : FnA := ⟨[.v (.pair (.int .i64) (.pair (.sl (.int .i64)) (.pair (.sl (.int .i64)) (.sl (.pair (.int .i64) (.pair .str (.pair (.int .i64) (.int .i64)))))))), .v (.pair (.int .i64) (.pair (.sl (.int .i64)) (.pair (.sl (.int .i64)) (.sl (.pair (.int .i64) (.pair .str (.pair (.int .i64) (.int .i64)))))))), .v (.int .i64)], true, [.str, .bool], fun x => spec_FirstOver x.1 x.2.1 x.2.2.1⟩
theorem spec_FirstOver_eq : fnF E7 L7_1 [.v (.pair (.int .i64) (.pair (.sl (.int .i64)) (.pair (.sl (.int .i64)) (.sl (.pair (.int .i64) (.pair .str (.pair (.int .i64) (.int .i64)))))))), .v (.pair (.int .i64) (.pair (.sl (.int .i64)) (.pair (.sl (.int .i64)) (.sl (.pair (.int .i64) (.pair .str (.pair (.int .i64) (.int .i64)))))))), .v (.int .i64)] true [.str, .bool] f7.ntmps f7.results.toList (codeOf f7) = fun x => spec_FirstOver x.1 x.2.1 x.2.2.1 := by kernel_rfl
theorem A7_ok : FnOk prog 7 A7 := fo spec_FirstOver_eq func7 E7_ok (allCons (loop7_4 rfl) allNil)
/-! impl.SameCosts -/
noncomputable def E8 : Env := ⟨ty0, fun g => ifEq g 20 (some A20) (ifEq g 12 (some A12) (none)), fun _ => none, fun _ => none, fun _ => none⟩
theorem E8_ok : FnsOk prog E8 := (oF A20_ok func20 (oF A12_ok func12 (noFns _ _)))
noncomputable def L8_0 : Nat → Option LoopD := fun _ => none
def sh8_3 : List Fm := d :: d :: d :: .box 100300 [.val (.int .i64), .val (.sl (.int .i64)), .val (.sl (.int .i64)), .val (.sl (.pair (.int .i64) (.pair .str (.pair (.int .i64) (.int .i64)))))] :: .box 100400 [.val (.int .i64), .val (.sl (.int .i64)), .val (.sl (.int .i64)), .val (.sl (.pair (.int .i64) (.pair .str (.pair (.int .i64) (.int .i64)))))] :: d :: d :: d :: .cell (.val .bool) :: D 10 (.cell (.val (.sl .str)) :: .cell (.val (.int .i64)) :: .cell (.val (.int .i64)) :: D 15 [])
def xs8_3 : List (Ex × List Fm) := [(.ret, (D 6 (.cell (.val .bool) :: D 30 []))), (.exit 0, (D 8 (.cell (.val .bool) :: D 28 [])))]
noncomputable def impl_SameCosts_l3 : ((Int × (List Int) × (List Int) × (List (Int × (ByteArray × (Int × Int)))) × Unit) × (Int × (List Int) × (List Int) × (List (Int × (ByteArray × (Int × Int)))) × Unit) × Bool × (List ByteArray) × Int × Int × Unit) → Option (((Int × (List Int) × (List Int) × (List (Int × (ByteArray × (Int × Int)))) × Unit) × (Int × (List Int) × (List Int) × (List (Int × (ByteArray × (Int × Int)))) × Unit) × Bool × (List ByteArray) × Int × Int × Unit) ⊕ ((Bool × Unit) ⊕ (Bool × Unit))) := fun ((v3_0, v3_1, v3_2, v3_3, _), (v4_0, v4_1, v4_2, v4_3, _), v8, v19, v20, v21, _) =>
 bif (decide (v21 < v20)) then
  if (((0 : Int) ≤ v21) ∧ (v21 < (((List.length v19) : Nat) : Int))) then
   bif v8 then
    Option.bind (impl_CostOf (v3_0, v3_1, v3_2, v3_3) (List.getD v19 (Int.toNat v21) (⟨Array.empty⟩ : ByteArray))) fun r0 =>
     Option.bind (impl_CostOf (v4_0, v4_1, v4_2, v4_3) (List.getD v19 (Int.toNat v21) (⟨Array.empty⟩ : ByteArray))) fun r1 =>
      bif (r0 != r1) then
       some (Sum.inr (Sum.inl (false, ())))
      else
       some (Sum.inl ((v3_0, v3_1, v3_2, v3_3, ()), (v4_0, v4_1, v4_2, v4_3, ()), v8, v19, v20, (IntKind.wrap .i64 (v21 + (1 : Int))), ()))
   else
    some (Sum.inl ((v3_0, v3_1, v3_2, v3_3, ()), (v4_0, v4_1, v4_2, v4_3, ()), v8, v19, v20, (IntKind.wrap .i64 (v21 + (1 : Int))), ()))
  else
   none
 else
  some (Sum.inr (Sum.inr (v8, ())))
theorem impl_SameCosts_l3_eq : loopStep 37 E8 L8_0 (loopOf f8 3) sh8_3 xs8_3 = impl_SameCosts_l3 := by kernel_rfl
theorem loop8_3 {L} (h : L 3 = some ⟨37, sh8_3, xs8_3, impl_SameCosts_l3⟩) : LoopOk prog L (loopOf f8 3) := lo impl_SameCosts_l3_eq E8_ok allNil h
noncomputable def L8_1 : Nat → Option LoopD := fun n => ifEq n 3 (some ⟨37, sh8_3, xs8_3, impl_SameCosts_l3⟩) (L8_0 n)
noncomputable def impl_SameCosts : (Int × ((List Int) × ((List Int) × (List (Int × (ByteArray × (Int × Int))))))) → (Int × ((List Int) × ((List Int) × (List (Int × (ByteArray × (Int × Int))))))) → Int → Option (Bool) := fun (a0_0, a0_1, a0_2, a0_3) (a1_0, a1_1, a1_2, a1_3) a2 =>
 Option.bind (impl_short a2 (List.take 2 (List.drop 0 [(a0_0, a0_1, a0_2, a0_3), (a1_0, a1_1, a1_2, a1_3)]))) fun (r0, r1) =>
  Option.bind (loopF impl_SameCosts_l3 ((a0_0, a0_1, a0_2, a0_3, ()), (a1_0, a1_1, a1_2, a1_3, ()), r1, r0, (((List.length r0) : Nat) : Int), (0 : Int), ())) fun r2 =>
   (match r2 with
   | .inl (d3, _) =>
     some d3
   | .inr (d4, _) =>
     some d4)
noncomputable def A8 : FnA := ⟨[.v (.pair (.int .i64) (.pair (.sl (.int .i64)) (.pair (.sl (.int .i64)) (.sl (.pair (.int .i64) (.pair .str (.pair (.int .i64) (.int .i64)))))))), .v (.pair (.int .i64) (.pair (.sl (.int .i64)) (.pair (.sl (.int .i64)) (.sl (.pair (.int .i64) (.pair .str (.pair (.int .i64) (.int .i64)))))))), .v (.int .i64)], true, [.bool], fun x => impl_SameCosts x.1 x.2.1 x.2.2.1⟩
theorem impl_SameCosts_eq : fnF E8 L8_1 [.v (.pair (.int .i64) (.pair (.sl (.int .i64)) (.pair (.sl (.int .i64)) (.sl (.pair (.int .i64) (.pair .str (.pair (.int .i64) (.int .i64)))))))), .v (.pair (.int .i64) (.pair (.sl (.int .i64)) (.pair (.sl (.int .i64)) (.sl (.pair (.int .i64) (.pair .str (.pair (.int .i64) (.int .i64)))))))), .v (.int .i64)] true [.bool] f8.ntmps f8.results.toList (codeOf f8) = fun x => impl_SameCosts x.1 x.2.1 x.2.2.1 := by kernel_rfl
theorem A8_ok : FnOk prog 8 A8 := fo impl_SameCosts_eq func8 E8_ok (allCons (loop8_3 rfl) allNil)
/-! spec.SameCosts -/
noncomputable def E9 : Env := ⟨ty0, fun g => ifEq g 7 (some A7) (ifEq g 21 (some A21) (none)), fun _ => none, fun _ => none, fun _ => none⟩
theorem E9_ok : FnsOk prog E9 := (oF A7_ok func7 (oF A21_ok func21 (noFns _ _)))
noncomputable def L9_0 : Nat → Option LoopD := fun _ => none
noncomputable def spec_SameCosts : (Int × ((List Int) × ((List Int) × (List (Int × (ByteArray × (Int × Int))))))) → (Int × ((List Int) × ((List Int) × (List (Int × (ByteArray × (Int × Int))))))) → Int → Option (Bool) := fun (a0_0, a0_1, a0_2, a0_3) (a1_0, a1_1, a1_2, a1_3) a2 =>
 Option.bind (spec_FirstOver (a0_0, a0_1, a0_2, a0_3) (a1_0, a1_1, a1_2, a1_3) a2) fun (r0, r1) =>
  Option.bind (spec_FirstOver (a1_0, a1_1, a1_2, a1_3) (a0_0, a0_1, a0_2, a0_3) a2) fun (r2, r3) =>
   Option.bind (spec_l11Short (a0_0, a0_1, a0_2, a0_3) a2) fun r4 =>
    bif r4 then
     Option.bind (spec_l11Short (a1_0, a1_1, a1_2, a1_3) a2) fun r5 =>
      bif r5 then
       bif (!r1) then
        some (!r3)
       else
        some false
      else
       some false
    else
     some false
noncomputable def A9 : FnA := ⟨[.v (.pair (.int .i64) (.pair (.sl (.int .i64)) (.pair (.sl (.int .i64)) (.sl (.pair (.int .i64) (.pair .str (.pair (.int .i64) (.int .i64)))))))), .v (.pair (.int .i64) (.pair (.sl (.int .i64)) (.pair (.sl (.int .i64)) (.sl (.pair (.int .i64) (.pair .str (.pair (.int .i64) (.int .i64)))))))), .v (.int .i64)], true, [.bool], fun x => spec_SameCosts x.1 x.2.1 x.2.2.1⟩
theorem spec_SameCosts_eq : fnF E9 L9_0 [.v (.pair (.int .i64) (.pair (.sl (.int .i64)) (.pair (.sl (.int .i64)) (.sl (.pair (.int .i64) (.pair .str (.pair (.int .i64) (.int .i64)))))))), .v (.pair (.int .i64) (.pair (.sl (.int .i64)) (.pair (.sl (.int .i64)) (.sl (.pair (.int .i64) (.pair .str (.pair (.int .i64) (.int .i64)))))))), .v (.int .i64)] true [.bool] f9.ntmps f9.results.toList (codeOf f9) = fun x => spec_SameCosts x.1 x.2.1 x.2.2.1 := by kernel_rfl
theorem A9_ok : FnOk prog 9 A9 := fo spec_SameCosts_eq func9 E9_ok allNil
/-! laws.FnFirstOver -/
noncomputable def E3 : Env := ⟨ty0, fun g => ifEq g 5 (some A5) (ifEq g 6 (some A6) (ifEq g 7 (some A7) (ifEq g 8 (some A8) (ifEq g 9 (some A9) (ifEq g 10 (some A10) (ifEq g 11 (some A11) (ifEq g 12 (some A12) (none)))))))), fun _ => none, fun _ => none, fun _ => none⟩
theorem E3_ok : FnsOk prog E3 := (oF A5_ok func5 (oF A6_ok func6 (oF A7_ok func7 (oF A8_ok func8 (oF A9_ok func9 (oF A10_ok func10 (oF A11_ok func11 (oF A12_ok func12 (noFns _ _)))))))))
noncomputable def L3_0 : Nat → Option LoopD := fun _ => none
def sh3_15 : List Fm := d :: d :: d :: .box 100300 [.val (.int .i64), .val (.sl (.int .i64)), .val (.sl (.int .i64)), .val (.sl (.pair (.int .i64) (.pair .str (.pair (.int .i64) (.int .i64)))))] :: .box 100400 [.val (.int .i64), .val (.sl (.int .i64)), .val (.sl (.int .i64)), .val (.sl (.pair (.int .i64) (.pair .str (.pair (.int .i64) (.int .i64)))))] :: d :: .cell (.val .str) :: .cell (.val .bool) :: d :: d :: .cell (.val .bool) :: d :: d :: .cell (.val .str) :: .cell (.val .bool) :: .cell (.val .bool) :: D 70 (.cell (.val (.sl .str)) :: .cell (.val (.int .i64)) :: .cell (.val (.int .i64)) :: D 42 [])
def xs3_15 : List (Ex × List Fm) := [(.exit 0, (D 6 (.cell (.val .str) :: .cell (.val .bool) :: d :: d :: .cell (.val .bool) :: d :: d :: .cell (.val .str) :: .cell (.val .bool) :: .cell (.val .bool) :: D 115 [])))]
noncomputable def laws_FnFirstOver_l15 : ((Int × (List Int) × (List Int) × (List (Int × (ByteArray × (Int × Int)))) × Unit) × (Int × (List Int) × (List Int) × (List (Int × (ByteArray × (Int × Int)))) × Unit) × ByteArray × Bool × Bool × ByteArray × Bool × Bool × (List ByteArray) × Int × Int × Unit) → Option (((Int × (List Int) × (List Int) × (List (Int × (ByteArray × (Int × Int)))) × Unit) × (Int × (List Int) × (List Int) × (List (Int × (ByteArray × (Int × Int)))) × Unit) × ByteArray × Bool × Bool × ByteArray × Bool × Bool × (List ByteArray) × Int × Int × Unit) ⊕ ((ByteArray × Bool × Bool × ByteArray × Bool × Bool × Unit))) := fun ((v3_0, v3_1, v3_2, v3_3, _), (v4_0, v4_1, v4_2, v4_3, _), v6, v7, v10, v13, v14, v15, v86, v87, v88, _) =>
 bif (decide (v88 < v87)) then
  if (((0 : Int) ≤ v88) ∧ (v88 < (((List.length v86) : Nat) : Int))) then
   Option.bind (impl_CostOf (v3_0, v3_1, v3_2, v3_3) (List.getD v86 (Int.toNat v88) (⟨Array.empty⟩ : ByteArray))) fun r0 =>
    Option.bind (impl_CostOf (v4_0, v4_1, v4_2, v4_3) (List.getD v86 (Int.toNat v88) (⟨Array.empty⟩ : ByteArray))) fun r1 =>
     bif (decide (r0 > r1)) then
      bif (!v15) then
       bif v14 then
        some (Sum.inl ((v3_0, v3_1, v3_2, v3_3, ()), (v4_0, v4_1, v4_2, v4_3, ()), v6, v7, v10, (List.getD v86 (Int.toNat v88) (⟨Array.empty⟩ : ByteArray)), true, true, v86, v87, (IntKind.wrap .i64 (v88 + (1 : Int))), ()))
       else
        some (Sum.inl ((v3_0, v3_1, v3_2, v3_3, ()), (v4_0, v4_1, v4_2, v4_3, ()), v6, v7, v10, (List.getD v86 (Int.toNat v88) (⟨Array.empty⟩ : ByteArray)), (decide (r0 < r1)), true, v86, v87, (IntKind.wrap .i64 (v88 + (1 : Int))), ()))
      else
       bif v14 then
        some (Sum.inl ((v3_0, v3_1, v3_2, v3_3, ()), (v4_0, v4_1, v4_2, v4_3, ()), v6, v7, v10, v13, true, v15, v86, v87, (IntKind.wrap .i64 (v88 + (1 : Int))), ()))
       else
        some (Sum.inl ((v3_0, v3_1, v3_2, v3_3, ()), (v4_0, v4_1, v4_2, v4_3, ()), v6, v7, v10, v13, (decide (r0 < r1)), v15, v86, v87, (IntKind.wrap .i64 (v88 + (1 : Int))), ()))
     else
      bif v14 then
       some (Sum.inl ((v3_0, v3_1, v3_2, v3_3, ()), (v4_0, v4_1, v4_2, v4_3, ()), v6, v7, v10, v13, true, v15, v86, v87, (IntKind.wrap .i64 (v88 + (1 : Int))), ()))
      else
       some (Sum.inl ((v3_0, v3_1, v3_2, v3_3, ()), (v4_0, v4_1, v4_2, v4_3, ()), v6, v7, v10, v13, (decide (r0 < r1)), v15, v86, v87, (IntKind.wrap .i64 (v88 + (1 : Int))), ()))
  else
   none
 else
  some (Sum.inr (v6, v7, v10, v13, v14, v15, ()))
theorem laws_FnFirstOver_l15_eq : loopStep 131 E3 L3_0 (loopOf f3 15) sh3_15 xs3_15 = laws_FnFirstOver_l15 := by kernel_rfl
theorem loop3_15 {L} (h : L 15 = some ⟨131, sh3_15, xs3_15, laws_FnFirstOver_l15⟩) : LoopOk prog L (loopOf f3 15) := lo laws_FnFirstOver_l15_eq E3_ok allNil h
noncomputable def L3_1 : Nat → Option LoopD := fun n => ifEq n 15 (some ⟨131, sh3_15, xs3_15, laws_FnFirstOver_l15⟩) (L3_0 n)
noncomputable def laws_FnFirstOver : (List Int) → Option (Bool) := fun a0 =>
 bif (decide ((((List.length a0) : Nat) : Int) > (1048576 : Int))) then
  some true
 else
  Option.bind (spec_DrawFirstOver a0) fun ((r0, r1, r2, r3), (r4, r5, r6, r7), r8) =>
   Option.bind (impl_FirstOver (r0, r1, r2, r3) (r4, r5, r6, r7) r8) fun (r9, r10) =>
    Option.bind (spec_FirstOver (r0, r1, r2, r3) (r4, r5, r6, r7) r8) fun (r11, r12) =>
     Option.bind (impl_SameCosts (r0, r1, r2, r3) (r4, r5, r6, r7) r8) fun r13 =>
      bif (!((ByteArray.toList r9) == (ByteArray.toList r11))) then
       some false
      else
       bif (!(r10 == r12)) then
        some false
       else
        Option.bind (spec_SameCosts (r0, r1, r2, r3) (r4, r5, r6, r7) r8) fun r14 =>
         bif (!(r13 == r14)) then
          some false
         else
          Option.bind (impl_ShortWords r8) fun (r15, r16) =>
           bif (!r16) then
            bif (!r10) then
             some (!r13)
            else
             some false
           else
            Option.bind (impl_AutomatonValid (r0, r1, r2, r3)) fun r17 =>
             bif (!r17) then
              bif (!r10) then
               some (!r13)
              else
               some false
             else
              Option.bind (impl_AutomatonValid (r4, r5, r6, r7)) fun r18 =>
               bif (!r18) then
                bif (!r10) then
                 some (!r13)
                else
                 some false
               else
                Option.bind (loopF laws_FnFirstOver_l15 ((r0, r1, r2, r3, ()), (r4, r5, r6, r7, ()), r9, r10, r13, (⟨#[]⟩ : ByteArray), false, false, r15, (((List.length r15) : Nat) : Int), (0 : Int), ())) fun (r19, r20, r21, r22, r23, r24, _) =>
                 bif (r24 == r20) then
                  bif ((ByteArray.toList r22) == (ByteArray.toList r19)) then
                   bif (!r24) then
                    some (r21 == (!r23))
                   else
                    some (r21 == false)
                  else
                   some false
                 else
                  some false
noncomputable def A3 : FnA := ⟨[.v (.sl (.int .u8))], true, [.bool], fun x => laws_FnFirstOver x.1⟩
theorem laws_FnFirstOver_eq : fnF E3 L3_1 [.v (.sl (.int .u8))] true [.bool] f3.ntmps f3.results.toList (codeOf f3) = fun x => laws_FnFirstOver x.1 := by kernel_rfl
theorem A3_ok : FnOk prog 3 A3 := fo laws_FnFirstOver_eq func3 E3_ok (allCons (loop3_15 rfl) allNil)
end Go.Proofs.Ytcmcjhdccnbmoaa
