/- What Go functions that the laws reach compute, and that they do: written by a program of this session. -/
import Derived.Test.YtcmcjhdccnbmoaaGreatG0
import Derived.KernelRfl
set_option linter.unusedVariables false
namespace Go.Proofs.YtcmcjhdccnbmoaaGreat
open Go Go.Proofs.YtcmcjhdccnbmoaaGreat.Am Go.Proofs.Tryz
set_option maxRecDepth 100000
/-! impl.parts -/
noncomputable def E52 : Env := ⟨ty0, fun g => ifEq g 88 (some A88) (none), fun _ => none, fun _ => none, fun _ => none⟩
theorem E52_ok : FnsOk prog E52 := (oF A88_ok func88 (noFns _ _))
noncomputable def L52_0 : Nat → Option LoopD := fun _ => none
noncomputable def impl_parts : ByteArray → Option ((List (ByteArray × PT)) × Bool) := fun a0 =>
 bif (decide ((((ByteArray.size a0) : Nat) : Int) > (120 : Int))) then
  some ([], false)
 else
  Option.bind (impl_readParts a0) fun (r0, r1) =>
   bif (decide ((((List.length r0) : Nat) : Int) > (0 : Int))) then
    some ((List.take (List.length r0) (List.drop 0 r0)), ((ByteArray.toList r1) == (ByteArray.toList (⟨#[]⟩ : ByteArray))))
   else
    some ((List.take (List.length r0) (List.drop 0 r0)), false)
noncomputable def A52 : FnA := ⟨[.v .str], true, [.sl (.pair .str .pt), .bool], fun x => impl_parts x.1⟩
theorem impl_parts_eq : fnF E52 L52_0 [.v .str] true [.sl (.pair .str .pt), .bool] f52.ntmps f52.results.toList (codeOf f52) = fun x => impl_parts x.1 := by kernel_rfl
theorem A52_ok : FnOk prog 52 A52 := fo impl_parts_eq func52 E52_ok allNil
/-! impl.filled -/
noncomputable def E55 : Env := ⟨ty0, fun _ => none, fun _ => none, fun _ => none, fun _ => none⟩
theorem E55_ok : FnsOk prog E55 := (noFns _ _)
noncomputable def L55_0 : Nat → Option LoopD := fun _ => none
def sh55_6 : List Fm := .cell (.val (.int .i64)) :: .clo [.int .i64, .int .i64] (.int .i64) :: d :: d :: .box 100400 [.val (.int .i64), .own (.int .i64) 100402 false] :: .box 100500 [.val (.int .i64), .own (.int .i64) 100502 false] :: .cell (.val (.int .i64)) :: d :: d :: d :: .cell (.val (.int .i64)) :: .cell (.val (.int .i64)) :: d :: d :: .cell (.val (.int .i64)) :: .cell (.val (.int .i64)) :: D 14 []
def xs55_6 : List (Ex × List Fm) := [(.exit 2, [.cell (.val (.int .i64)), .clo [.int .i64, .int .i64] (.int .i64), d, d, .box 100400 [.val (.int .i64), .own (.int .i64) 100402 false], .box 100500 [.val (.int .i64), .own (.int .i64) 100502 false], d, d, d, d, .cell (.val (.int .i64)), .cell (.val (.int .i64)), d, d, d, d, d, d, d, d, d, d, d, d, d, d, d, d, d, d])]
noncomputable def impl_filled_l6 : (Int × ((Int × Int × Unit) → Option (Int)) × (Int × (List Int) × Unit) × (Int × (List Int) × Unit) × Int × Int × Int × Int × Int × Unit) → Option ((Int × ((Int × Int × Unit) → Option (Int)) × (Int × (List Int) × Unit) × (Int × (List Int) × Unit) × Int × Int × Int × Int × Int × Unit) ⊕ ((Int × ((Int × Int × Unit) → Option (Int)) × (Int × (List Int) × Unit) × (Int × (List Int) × Unit) × Int × Int × Unit))) := fun (v0, v1, (v4_0, v4_1, _), (v5_0, v5_1, _), v6, v10, v11, v14, v15, _) =>
 bif (decide (v15 < v14)) then
  Option.bind (v1 (v6, v15, ())) fun r0 =>
   if (((0 + (List.length v5_1)) = (List.length v5_1)) ∧ ((((List.length v5_1) + (List.length (List.take 1 (List.drop 0 [r0])))) * 8) ≤ 140737488355328)) then
    some (Sum.inl (v0, v1, (v4_0, (List.take (List.length v4_1) (List.drop 0 v4_1)), ()), (v5_0, (List.take ((List.length v5_1) + (List.length (List.take 1 (List.drop 0 [r0])))) (List.drop 0 ((List.drop 0 v5_1) ++ (List.take 1 (List.drop 0 [r0]))))), ()), v6, v10, v11, v14, (IntKind.wrap .i64 (v15 + (1 : Int))), ()))
   else
    none
 else
  some (Sum.inr (v0, v1, (v4_0, (List.take (List.length v4_1) (List.drop 0 v4_1)), ()), (v5_0, (List.take (List.length v5_1) (List.drop 0 v5_1)), ()), v10, v11, ()))
theorem impl_filled_l6_eq : loopStep 30 E55 L55_0 (loopOf f55 6) sh55_6 xs55_6 = impl_filled_l6 := by kernel_rfl
theorem loop55_6 {L} (h : L 6 = some ⟨30, sh55_6, xs55_6, impl_filled_l6⟩) : LoopOk prog L (loopOf f55 6) := lo impl_filled_l6_eq E55_ok allNil h
noncomputable def L55_1 : Nat → Option LoopD := fun n => ifEq n 6 (some ⟨30, sh55_6, xs55_6, impl_filled_l6⟩) (L55_0 n)
def sh55_3 : List Fm := .cell (.val (.int .i64)) :: .clo [.int .i64, .int .i64] (.int .i64) :: d :: d :: .box 100400 [.val (.int .i64), .own (.int .i64) 100402 false] :: .box 100500 [.val (.int .i64), .own (.int .i64) 100502 false] :: D 4 (.cell (.val (.int .i64)) :: .cell (.val (.int .i64)) :: D 18 [])
def xs55_3 : List (Ex × List Fm) := [(.exit 0, [d, d, d, d, .box 100400 [.val (.int .i64), .own (.int .i64) 100402 false], .box 100500 [.val (.int .i64), .own (.int .i64) 100502 false], d, d, d, d, d, d, d, d, d, d, d, d, d, d, d, d, d, d, d, d, d, d, d, d])]
noncomputable def impl_filled_l3 : (Int × ((Int × Int × Unit) → Option (Int)) × (Int × (List Int) × Unit) × (Int × (List Int) × Unit) × Int × Int × Unit) → Option ((Int × ((Int × Int × Unit) → Option (Int)) × (Int × (List Int) × Unit) × (Int × (List Int) × Unit) × Int × Int × Unit) ⊕ (((Int × (List Int) × Unit) × (Int × (List Int) × Unit) × Unit))) := fun (v0, v1, (v4_0, v4_1, _), (v5_0, v5_1, _), v10, v11, _) =>
 bif (decide (v11 < v10)) then
  Option.bind (loopF impl_filled_l6 (v0, v1, (v4_0, (List.take (List.length v4_1) (List.drop 0 v4_1)), ()), (v5_0, (List.take (List.length v5_1) (List.drop 0 v5_1)), ()), v11, v10, v11, v0, (0 : Int), ())) fun (r0, r1, (r2, r3, _), (r4, r5, _), r6, r7, _) =>
   some (Sum.inl (r0, r1, (r2, (List.take (List.length r3) (List.drop 0 r3)), ()), (r4, (List.take (List.length r5) (List.drop 0 r5)), ()), r6, (IntKind.wrap .i64 (r7 + (1 : Int))), ()))
 else
  some (Sum.inr ((v4_0, (List.take (List.length v4_1) (List.drop 0 v4_1)), ()), (v5_0, (List.take (List.length v5_1) (List.drop 0 v5_1)), ()), ()))
theorem impl_filled_l3_eq : loopStep 30 E55 L55_1 (loopOf f55 3) sh55_3 xs55_3 = impl_filled_l3 := by kernel_rfl
theorem loop55_3 {L} (h : L 3 = some ⟨30, sh55_3, xs55_3, impl_filled_l3⟩) : LoopOk prog L (loopOf f55 3) := lo impl_filled_l3_eq E55_ok (allCons (loop55_6 rfl) allNil) h
noncomputable def L55_2 : Nat → Option LoopD := fun n => ifEq n 3 (some ⟨30, sh55_3, xs55_3, impl_filled_l3⟩) (L55_1 n)
noncomputable def impl_filled : Int → ((Int × Int × Unit) → Option (Int)) → Option ((Int × (List Int))) := fun a0 a1 =>
 Option.bind (loopF impl_filled_l3 (a0, a1, ((0 : Int), [], ()), (a0, [], ()), a0, (0 : Int), ())) fun ((r0, r1, _), (r2, r3, _), _) =>
  some (r2, (List.take (List.length r3) (List.drop 0 r3)))
noncomputable def A55 : FnA := ⟨[.v (.int .i64), .clo [.int .i64, .int .i64] (.int .i64)], true, [.pair (.int .i64) (.sl (.int .i64))], fun x => impl_filled x.1 x.2.1⟩
theorem impl_filled_eq : fnF E55 L55_2 [.v (.int .i64), .clo [.int .i64, .int .i64] (.int .i64)] true [.pair (.int .i64) (.sl (.int .i64))] f55.ntmps f55.results.toList (codeOf f55) = fun x => impl_filled x.1 x.2.1 := by kernel_rfl
theorem A55_ok : FnOk prog 55 A55 := fo impl_filled_eq func55 E55_ok (allCons (loop55_3 rfl) allNil)
/-! impl.StepMatrix$1 -/
noncomputable def E125 : Env := ⟨ty0, fun _ => none, fun _ => none, fun _ => none, fun _ => none⟩
theorem E125_ok : FnsOk prog E125 := (noFns _ _)
noncomputable def L125_0 : Nat → Option LoopD := fun _ => none
noncomputable def impl_StepMatrix_1 : Int → Int → Option (Int) := fun a0 a1 =>
 some (1000000 : Int)
noncomputable def A125 : FnA := ⟨[.v (.int .i64), .v (.int .i64)], true, [.int .i64], fun x => impl_StepMatrix_1 x.1 x.2.1⟩
theorem impl_StepMatrix_1_eq : fnF E125 L125_0 [.v (.int .i64), .v (.int .i64)] true [.int .i64] f125.ntmps f125.results.toList (codeOf f125) = fun x => impl_StepMatrix_1 x.1 x.2.1 := by kernel_rfl
theorem A125_ok : FnOk prog 125 A125 := fo impl_StepMatrix_1_eq func125 E125_ok allNil
/-! impl.StepMatrix -/
noncomputable def E89 : Env := ⟨ty0, fun g => ifEq g 28 (some A28) (ifEq g 55 (some A55) (ifEq g 125 (some A125) (none))), fun _ => none, fun _ => none, fun _ => none⟩
theorem E89_ok : FnsOk prog E89 := (oF A28_ok func28 (oF A55_ok func55 (oF A125_ok func125 (noFns _ _))))
noncomputable def L89_0 : Nat → Option LoopD := fun _ => none
def sh89_5 : List Fm := d :: .cell (.val .str) :: d :: d :: .box 100400 [.val (.int .i64), .own (.int .i64) 100402 false] :: d :: .box 100600 [.val (.int .i64), .own (.int .i64) 100602 false] :: D 18 (.cell (.val (.sl (.pair (.int .i64) (.pair .str (.pair (.int .i64) (.int .i64)))))) :: .cell (.val (.int .i64)) :: .cell (.val (.int .i64)) :: D 22 [])
def xs89_5 : List (Ex × List Fm) := [(.exit 0, [d, d, d, d, .box 100400 [.val (.int .i64), .own (.int .i64) 100402 false], d, .box 100600 [.val (.int .i64), .own (.int .i64) 100602 false], d, d, d, d, d, d, d, d, d, d, d, d, d, d, d, d, d, d, d, d, d, d, d, d, d, d, d, d, d, d, d, d, d, d, d, d, d, d, d, d, d, d, d])]
noncomputable def impl_StepMatrix_l5 : (ByteArray × (Int × (List Int) × Unit) × (Int × (List Int) × Unit) × (List (Int × (ByteArray × (Int × Int)))) × Int × Int × Unit) → Option ((ByteArray × (Int × (List Int) × Unit) × (Int × (List Int) × Unit) × (List (Int × (ByteArray × (Int × Int)))) × Int × Int × Unit) ⊕ (((Int × (List Int) × Unit) × (Int × (List Int) × Unit) × Unit))) := fun (v1, (v4_0, v4_1, _), (v6_0, v6_1, _), v25, v26, v27, _) =>
 bif (decide (v27 < v26)) then
  if (((0 : Int) ≤ v27) ∧ (v27 < (((List.length v25) : Nat) : Int))) then
   bif ((ByteArray.toList (List.getD v25 (Int.toNat v27) ((0 : Int), (⟨Array.empty⟩ : ByteArray), (0 : Int), (0 : Int))).2.1) == (ByteArray.toList v1)) then
    if (((0 : Int) ≤ (IntKind.wrap .i64 ((IntKind.wrap .i64 ((List.getD v25 (Int.toNat v27) ((0 : Int), (⟨Array.empty⟩ : ByteArray), (0 : Int), (0 : Int))).1 * v6_0)) + (List.getD v25 (Int.toNat v27) ((0 : Int), (⟨Array.empty⟩ : ByteArray), (0 : Int), (0 : Int))).2.2.1))) ∧ ((IntKind.wrap .i64 ((IntKind.wrap .i64 ((List.getD v25 (Int.toNat v27) ((0 : Int), (⟨Array.empty⟩ : ByteArray), (0 : Int), (0 : Int))).1 * v6_0)) + (List.getD v25 (Int.toNat v27) ((0 : Int), (⟨Array.empty⟩ : ByteArray), (0 : Int), (0 : Int))).2.2.1)) < (((List.length v6_1) : Nat) : Int))) then
     some (Sum.inl (v1, (v4_0, (List.take (List.length v4_1) (List.drop 0 v4_1)), ()), (v6_0, (List.take (List.length v6_1) (List.drop 0 (List.set v6_1 (0 + (Int.toNat (IntKind.wrap .i64 ((IntKind.wrap .i64 ((List.getD v25 (Int.toNat v27) ((0 : Int), (⟨Array.empty⟩ : ByteArray), (0 : Int), (0 : Int))).1 * v6_0)) + (List.getD v25 (Int.toNat v27) ((0 : Int), (⟨Array.empty⟩ : ByteArray), (0 : Int), (0 : Int))).2.2.1)))) (List.getD v25 (Int.toNat v27) ((0 : Int), (⟨Array.empty⟩ : ByteArray), (0 : Int), (0 : Int))).2.2.2))), ()), v25, v26, (IntKind.wrap .i64 (v27 + (1 : Int))), ()))
    else
     none
   else
    some (Sum.inl (v1, (v4_0, (List.take (List.length v4_1) (List.drop 0 v4_1)), ()), (v6_0, (List.take (List.length v6_1) (List.drop 0 v6_1)), ()), v25, v26, (IntKind.wrap .i64 (v27 + (1 : Int))), ()))
  else
   none
 else
  some (Sum.inr ((v4_0, (List.take (List.length v4_1) (List.drop 0 v4_1)), ()), (v6_0, (List.take (List.length v6_1) (List.drop 0 v6_1)), ()), ()))
theorem impl_StepMatrix_l5_eq : loopStep 50 E89 L89_0 (loopOf f89 5) sh89_5 xs89_5 = impl_StepMatrix_l5 := by kernel_rfl
theorem loop89_5 {L} (h : L 5 = some ⟨50, sh89_5, xs89_5, impl_StepMatrix_l5⟩) : LoopOk prog L (loopOf f89 5) := lo impl_StepMatrix_l5_eq E89_ok allNil h
noncomputable def L89_1 : Nat → Option LoopD := fun n => ifEq n 5 (some ⟨50, sh89_5, xs89_5, impl_StepMatrix_l5⟩) (L89_0 n)
noncomputable def impl_StepMatrix : (Int × ((List Int) × ((List Int) × (List (Int × (ByteArray × (Int × Int))))))) → ByteArray → Option ((Int × (List Int)) × Bool) := fun (a0_0, a0_1, a0_2, a0_3) a1 =>
 Option.bind (impl_AutomatonValid (a0_0, a0_1, a0_2, a0_3)) fun r0 =>
  bif (!r0) then
   some (((0 : Int), []), false)
  else
   bif (!((ByteArray.toList a1) == (ByteArray.toList (⟨#[(97 : UInt8)]⟩ : ByteArray)))) then
    bif (!((ByteArray.toList a1) == (ByteArray.toList (⟨#[(98 : UInt8)]⟩ : ByteArray)))) then
     some (((0 : Int), []), false)
    else
     Option.bind (impl_filled a0_0 (fun y1 => (impl_StepMatrix_1 y1.1 y1.2.1))) fun (r2, r3) =>
      Option.bind (loopF impl_StepMatrix_l5 (a1, ((0 : Int), [], ()), (r2, (List.take (List.length r3) (List.drop 0 r3)), ()), a0_3, (((List.length a0_3) : Nat) : Int), (0 : Int), ())) fun ((r4, r5, _), (r6, r7, _), _) =>
       some ((r6, (List.take (List.length r7) (List.drop 0 r7))), true)
   else
    Option.bind (impl_filled a0_0 (fun y8 => (impl_StepMatrix_1 y8.1 y8.2.1))) fun (r9, r10) =>
     Option.bind (loopF impl_StepMatrix_l5 (a1, ((0 : Int), [], ()), (r9, (List.take (List.length r10) (List.drop 0 r10)), ()), a0_3, (((List.length a0_3) : Nat) : Int), (0 : Int), ())) fun ((r11, r12, _), (r13, r14, _), _) =>
      some ((r13, (List.take (List.length r14) (List.drop 0 r14))), true)
noncomputable def A89 : FnA := ⟨[.v (.pair (.int .i64) (.pair (.sl (.int .i64)) (.pair (.sl (.int .i64)) (.sl (.pair (.int .i64) (.pair .str (.pair (.int .i64) (.int .i64)))))))), .v .str], true, [.pair (.int .i64) (.sl (.int .i64)), .bool], fun x => impl_StepMatrix x.1 x.2.1⟩
theorem impl_StepMatrix_eq : fnF E89 L89_1 [.v (.pair (.int .i64) (.pair (.sl (.int .i64)) (.pair (.sl (.int .i64)) (.sl (.pair (.int .i64) (.pair .str (.pair (.int .i64) (.int .i64)))))))), .v .str] true [.pair (.int .i64) (.sl (.int .i64)), .bool] f89.ntmps f89.results.toList (codeOf f89) = fun x => impl_StepMatrix x.1 x.2.1 := by kernel_rfl
theorem A89_ok : FnOk prog 89 A89 := fo impl_StepMatrix_eq func89 E89_ok (allCons (loop89_5 rfl) allNil)
/-! slices.IndexFunc[[]int,int] -/
noncomputable def E137 : Env := ⟨ty0, fun _ => none, fun _ => none, fun _ => none, fun _ => none⟩
theorem E137_ok : FnsOk prog E137 := (noFns _ _)
noncomputable def L137_0 : Nat → Option LoopD := fun _ => none
def sh137_2 : List Fm := .cell (.val (.sl (.int .i64))) :: .clo [.int .i64] .bool :: D 5 (.cell (.val (.int .i64)) :: .cell (.val (.int .i64)) :: D 10 [])
def xs137_2 : List (Ex × List Fm) := [(.ret, (D 4 (.cell (.val (.int .i64)) :: D 14 []))), (.exit 0, (D 19 []))]
noncomputable def slices_IndexFunc_l2 : ((List Int) × ((Int × Unit) → Option (Bool)) × Int × Int × Unit) → Option (((List Int) × ((Int × Unit) → Option (Bool)) × Int × Int × Unit) ⊕ ((Int × Unit) ⊕ (Unit))) := fun (v0, v1, v7, v8, _) =>
 bif (decide (v8 < v7)) then
  if (((0 : Int) ≤ v8) ∧ (v8 < (((List.length v0) : Nat) : Int))) then
   Option.bind (v1 ((List.getD v0 (Int.toNat v8) (0 : Int)), ())) fun r0 =>
    bif r0 then
     some (Sum.inr (Sum.inl (v8, ())))
    else
     some (Sum.inl (v0, v1, v7, (IntKind.wrap .i64 (v8 + (1 : Int))), ()))
  else
   none
 else
  some (Sum.inr (Sum.inr ()))
theorem slices_IndexFunc_l2_eq : loopStep 19 E137 L137_0 (loopOf f137 2) sh137_2 xs137_2 = slices_IndexFunc_l2 := by kernel_rfl
theorem loop137_2 {L} (h : L 2 = some ⟨19, sh137_2, xs137_2, slices_IndexFunc_l2⟩) : LoopOk prog L (loopOf f137 2) := lo slices_IndexFunc_l2_eq E137_ok allNil h
noncomputable def L137_1 : Nat → Option LoopD := fun n => ifEq n 2 (some ⟨19, sh137_2, xs137_2, slices_IndexFunc_l2⟩) (L137_0 n)
noncomputable def slices_IndexFunc : (List Int) → ((Int × Unit) → Option (Bool)) → Option (Int) := fun a0 a1 =>
 Option.bind (loopF slices_IndexFunc_l2 (a0, a1, (((List.length a0) : Nat) : Int), (0 : Int), ())) fun r0 =>
  (match r0 with
  | .inl (d1, _) =>
    some d1
  | .inr _ =>
    some (-1 : Int))
noncomputable def A137 : FnA := ⟨[.v (.sl (.int .i64)), .clo [.int .i64] .bool], true, [.int .i64], fun x => slices_IndexFunc x.1 x.2.1⟩
theorem slices_IndexFunc_eq : fnF E137 L137_1 [.v (.sl (.int .i64)), .clo [.int .i64] .bool] true [.int .i64] f137.ntmps f137.results.toList (codeOf f137) = fun x => slices_IndexFunc x.1 x.2.1 := by kernel_rfl
theorem A137_ok : FnOk prog 137 A137 := fo slices_IndexFunc_eq func137 E137_ok (allCons (loop137_2 rfl) allNil)
/-! slices.ContainsFunc[[]int,int] -/
noncomputable def E106 : Env := ⟨ty0, fun g => ifEq g 137 (some A137) (none), fun _ => none, fun _ => none, fun _ => none⟩
theorem E106_ok : FnsOk prog E106 := (oF A137_ok func137 (noFns _ _))
noncomputable def L106_0 : Nat → Option LoopD := fun _ => none
noncomputable def slices_ContainsFunc : (List Int) → ((Int × Unit) → Option (Bool)) → Option (Bool) := fun a0 a1 =>
 Option.bind (slices_IndexFunc a0 a1) fun r0 =>
  some (decide (r0 ≥ (0 : Int)))
noncomputable def A106 : FnA := ⟨[.v (.sl (.int .i64)), .clo [.int .i64] .bool], true, [.bool], fun x => slices_ContainsFunc x.1 x.2.1⟩
theorem slices_ContainsFunc_eq : fnF E106 L106_0 [.v (.sl (.int .i64)), .clo [.int .i64] .bool] true [.bool] f106.ntmps f106.results.toList (codeOf f106) = fun x => slices_ContainsFunc x.1 x.2.1 := by kernel_rfl
theorem A106_ok : FnOk prog 106 A106 := fo slices_ContainsFunc_eq func106 E106_ok allNil
/-! impl.CostValid -/
noncomputable def E136 : Env := ⟨ty0, fun _ => none, fun _ => none, fun _ => none, fun _ => none⟩
theorem E136_ok : FnsOk prog E136 := (noFns _ _)
noncomputable def L136_0 : Nat → Option LoopD := fun _ => none
noncomputable def impl_CostValid : Int → Option (Bool) := fun a0 =>
 bif (decide (a0 ≥ (0 : Int))) then
  some (decide (a0 ≤ (1000000 : Int)))
 else
  some false
noncomputable def A136 : FnA := ⟨[.v (.int .i64)], true, [.bool], fun x => impl_CostValid x.1⟩
theorem impl_CostValid_eq : fnF E136 L136_0 [.v (.int .i64)] true [.bool] f136.ntmps f136.results.toList (codeOf f136) = fun x => impl_CostValid x.1 := by kernel_rfl
theorem A136_ok : FnOk prog 136 A136 := fo impl_CostValid_eq func136 E136_ok allNil
/-! impl.MatrixValid$1 -/
noncomputable def E135 : Env := ⟨ty0, fun g => ifEq g 136 (some A136) (none), fun _ => none, fun _ => none, fun _ => none⟩
theorem E135_ok : FnsOk prog E135 := (oF A136_ok func136 (noFns _ _))
noncomputable def L135_0 : Nat → Option LoopD := fun _ => none
noncomputable def impl_MatrixValid_1 : Int → Option (Bool) := fun a0 =>
 Option.bind (impl_CostValid a0) fun r0 =>
  some (!r0)
noncomputable def A135 : FnA := ⟨[.v (.int .i64)], true, [.bool], fun x => impl_MatrixValid_1 x.1⟩
theorem impl_MatrixValid_1_eq : fnF E135 L135_0 [.v (.int .i64)] true [.bool] f135.ntmps f135.results.toList (codeOf f135) = fun x => impl_MatrixValid_1 x.1 := by kernel_rfl
theorem A135_ok : FnOk prog 135 A135 := fo impl_MatrixValid_1_eq func135 E135_ok allNil
/-! impl.MatrixValid -/
noncomputable def E105 : Env := ⟨ty0, fun g => ifEq g 106 (some A106) (ifEq g 135 (some A135) (none)), fun _ => none, fun _ => none, fun _ => none⟩
theorem E105_ok : FnsOk prog E105 := (oF A106_ok func106 (oF A135_ok func135 (noFns _ _)))
noncomputable def L105_0 : Nat → Option LoopD := fun _ => none
noncomputable def impl_MatrixValid : (Int × (List Int)) → Option (Bool) := fun (a0_0, a0_1) =>
 bif (decide (a0_0 < (1 : Int))) then
  some false
 else
  bif (decide (a0_0 > (4 : Int))) then
   some false
  else
   bif ((((List.length a0_1) : Nat) : Int) != (IntKind.wrap .i64 (a0_0 * a0_0))) then
    some false
   else
    Option.bind (slices_ContainsFunc a0_1 (fun y0 => (impl_MatrixValid_1 y0.1))) fun r1 =>
     some (!r1)
noncomputable def A105 : FnA := ⟨[.v (.pair (.int .i64) (.sl (.int .i64)))], true, [.bool], fun x => impl_MatrixValid x.1⟩
theorem impl_MatrixValid_eq : fnF E105 L105_0 [.v (.pair (.int .i64) (.sl (.int .i64)))] true [.bool] f105.ntmps f105.results.toList (codeOf f105) = fun x => impl_MatrixValid x.1 := by kernel_rfl
theorem A105_ok : FnOk prog 105 A105 := fo impl_MatrixValid_eq func105 E105_ok allNil
/-! (impl.Matrix).at -/
noncomputable def E57 : Env := ⟨ty0, fun _ => none, fun _ => none, fun _ => none, fun _ => none⟩
theorem E57_ok : FnsOk prog E57 := (noFns _ _)
noncomputable def L57_0 : Nat → Option LoopD := fun _ => none
noncomputable def impl_Matrix_at : (Int × (List Int)) → Int → Int → Option (Int) := fun (a0_0, a0_1) a1 a2 =>
 if (((0 : Int) ≤ (IntKind.wrap .i64 ((IntKind.wrap .i64 (a1 * a0_0)) + a2))) ∧ ((IntKind.wrap .i64 ((IntKind.wrap .i64 (a1 * a0_0)) + a2)) < (((List.length a0_1) : Nat) : Int))) then
  some (List.getD a0_1 (Int.toNat (IntKind.wrap .i64 ((IntKind.wrap .i64 (a1 * a0_0)) + a2))) (0 : Int))
 else
  none
noncomputable def A57 : FnA := ⟨[.v (.pair (.int .i64) (.sl (.int .i64))), .v (.int .i64), .v (.int .i64)], true, [.int .i64], fun x => impl_Matrix_at x.1 x.2.1 x.2.2.1⟩
theorem impl_Matrix_at_eq : fnF E57 L57_0 [.v (.pair (.int .i64) (.sl (.int .i64))), .v (.int .i64), .v (.int .i64)] true [.int .i64] f57.ntmps f57.results.toList (codeOf f57) = fun x => impl_Matrix_at x.1 x.2.1 x.2.2.1 := by kernel_rfl
theorem A57_ok : FnOk prog 57 A57 := fo impl_Matrix_at_eq func57 E57_ok allNil
/-! impl.GradesOf$1 -/
noncomputable def E126 : Env := ⟨ty0, fun g => ifEq g 57 (some A57) (none), fun _ => none, fun _ => none, fun _ => none⟩
theorem E126_ok : FnsOk prog E126 := (oF A57_ok func57 (noFns _ _))
noncomputable def L126_0 : Nat → Option LoopD := fun _ => none
noncomputable def impl_GradesOf_1 : Int → Int → (Int × (List Int)) → Option (Int) := fun a0 a1 (a2_0, a2_1) =>
 Option.bind (impl_Matrix_at (a2_0, a2_1) a0 a1) fun r0 =>
  bif (r0 == (0 : Int)) then
   some (0 : Int)
  else
   bif (r0 == (1000000 : Int)) then
    some (3 : Int)
   else
    some (1 : Int)
noncomputable def A126 : FnA := ⟨[.v (.int .i64), .v (.int .i64), .cap (.pair (.int .i64) (.sl (.int .i64)))], true, [.int .i64], fun x => impl_GradesOf_1 x.1 x.2.1 x.2.2.1⟩
theorem impl_GradesOf_1_eq : fnF E126 L126_0 [.v (.int .i64), .v (.int .i64), .cap (.pair (.int .i64) (.sl (.int .i64)))] true [.int .i64] f126.ntmps f126.results.toList (codeOf f126) = fun x => impl_GradesOf_1 x.1 x.2.1 x.2.2.1 := by kernel_rfl
theorem A126_ok : FnOk prog 126 A126 := fo impl_GradesOf_1_eq func126 E126_ok allNil
/-! impl.GradesOf -/
noncomputable def E90 : Env := ⟨ty0, fun g => ifEq g 105 (some A105) (ifEq g 55 (some A55) (ifEq g 126 (some A126) (none))), fun _ => none, fun _ => none, fun _ => none⟩
theorem E90_ok : FnsOk prog E90 := (oF A105_ok func105 (oF A55_ok func55 (oF A126_ok func126 (noFns _ _))))
noncomputable def L90_0 : Nat → Option LoopD := fun _ => none
noncomputable def impl_GradesOf : (Int × (List Int)) → Option ((Int × (List Int)) × Bool) := fun (a0_0, a0_1) =>
 Option.bind (impl_MatrixValid (a0_0, a0_1)) fun r0 =>
  bif (!r0) then
   some (((0 : Int), []), false)
  else
   Option.bind (impl_filled a0_0 (fun y1 => (impl_GradesOf_1 y1.1 y1.2.1 (a0_0, a0_1)))) fun (r2, r3) =>
    some ((r2, (List.take (List.length r3) (List.drop 0 r3))), true)
noncomputable def A90 : FnA := ⟨[.v (.pair (.int .i64) (.sl (.int .i64)))], true, [.pair (.int .i64) (.sl (.int .i64)), .bool], fun x => impl_GradesOf x.1⟩
theorem impl_GradesOf_eq : fnF E90 L90_0 [.v (.pair (.int .i64) (.sl (.int .i64)))] true [.pair (.int .i64) (.sl (.int .i64)), .bool] f90.ntmps f90.results.toList (codeOf f90) = fun x => impl_GradesOf x.1 := by kernel_rfl
theorem A90_ok : FnOk prog 90 A90 := fo impl_GradesOf_eq func90 E90_ok allNil
/-! impl.GradesValid$1 -/
noncomputable def E107 : Env := ⟨ty0, fun _ => none, fun _ => none, fun _ => none, fun _ => none⟩
theorem E107_ok : FnsOk prog E107 := (noFns _ _)
noncomputable def L107_0 : Nat → Option LoopD := fun _ => none
noncomputable def impl_GradesValid_1 : Int → Option (Bool) := fun a0 =>
 some (decide (a0 > (3 : Int)))
noncomputable def A107 : FnA := ⟨[.v (.int .i64)], true, [.bool], fun x => impl_GradesValid_1 x.1⟩
theorem impl_GradesValid_1_eq : fnF E107 L107_0 [.v (.int .i64)] true [.bool] f107.ntmps f107.results.toList (codeOf f107) = fun x => impl_GradesValid_1 x.1 := by kernel_rfl
theorem A107_ok : FnOk prog 107 A107 := fo impl_GradesValid_1_eq func107 E107_ok allNil
/-! impl.GradesValid -/
noncomputable def E78 : Env := ⟨ty0, fun g => ifEq g 105 (some A105) (ifEq g 106 (some A106) (ifEq g 107 (some A107) (none))), fun _ => none, fun _ => none, fun _ => none⟩
theorem E78_ok : FnsOk prog E78 := (oF A105_ok func105 (oF A106_ok func106 (oF A107_ok func107 (noFns _ _))))
noncomputable def L78_0 : Nat → Option LoopD := fun _ => none
noncomputable def impl_GradesValid : (Int × (List Int)) → Option (Bool) := fun (a0_0, a0_1) =>
 Option.bind (impl_MatrixValid (a0_0, a0_1)) fun r0 =>
  bif r0 then
   Option.bind (slices_ContainsFunc a0_1 (fun y1 => (impl_GradesValid_1 y1.1))) fun r2 =>
    some (!r2)
  else
   some false
noncomputable def A78 : FnA := ⟨[.v (.pair (.int .i64) (.sl (.int .i64)))], true, [.bool], fun x => impl_GradesValid x.1⟩
theorem impl_GradesValid_eq : fnF E78 L78_0 [.v (.pair (.int .i64) (.sl (.int .i64)))] true [.bool] f78.ntmps f78.results.toList (codeOf f78) = fun x => impl_GradesValid x.1 := by kernel_rfl
theorem A78_ok : FnOk prog 78 A78 := fo impl_GradesValid_eq func78 E78_ok allNil
/-! impl.MulGrades$1 -/
noncomputable def E93 : Env := ⟨ty0, fun g => ifEq g 57 (some A57) (none), fun _ => none, fun _ => none, fun _ => none⟩
theorem E93_ok : FnsOk prog E93 := (oF A57_ok func57 (noFns _ _))
noncomputable def L93_0 : Nat → Option LoopD := fun _ => none
def sh93_3 : List Fm := .cell (.val (.int .i64)) :: .cell (.val (.int .i64)) :: .fp (.pair (.int .i64) (.sl (.int .i64))) :: .fp (.pair (.int .i64) (.sl (.int .i64))) :: d :: d :: d :: .cell (.val (.int .i64)) :: d :: d :: .cell (.val (.int .i64)) :: .cell (.val (.int .i64)) :: D 15 []
def xs93_3 : List (Ex × List Fm) := [(.exit 0, (D 7 (.cell (.val (.int .i64)) :: D 19 [])))]
noncomputable def impl_MulGrades_1_l3 : (Int × Int × (Int × (List Int)) × (Int × (List Int)) × Int × Int × Int × Unit) → Option ((Int × Int × (Int × (List Int)) × (Int × (List Int)) × Int × Int × Int × Unit) ⊕ ((Int × Unit))) := fun (v0, v1, (v2_0, v2_1), (v3_0, v3_1), v7, v10, v11, _) =>
 bif (decide (v11 < v10)) then
  Option.bind (impl_Matrix_at (v2_0, v2_1) v0 v11) fun r0 =>
   Option.bind (impl_Matrix_at (v3_0, v3_1) v11 v1) fun r1 =>
    some (Sum.inl (v0, v1, (v2_0, v2_1), (v3_0, v3_1), (if ((if (r1 > r0) then r1 else r0) < v7) then (if (r1 > r0) then r1 else r0) else v7), v10, (IntKind.wrap .i64 (v11 + (1 : Int))), ()))
 else
  some (Sum.inr (v7, ()))
theorem impl_MulGrades_1_l3_eq : loopStep 27 E93 L93_0 (loopOf f93 3) sh93_3 xs93_3 = impl_MulGrades_1_l3 := by kernel_rfl
theorem loop93_3 {L} (h : L 3 = some ⟨27, sh93_3, xs93_3, impl_MulGrades_1_l3⟩) : LoopOk prog L (loopOf f93 3) := lo impl_MulGrades_1_l3_eq E93_ok allNil h
noncomputable def L93_1 : Nat → Option LoopD := fun n => ifEq n 3 (some ⟨27, sh93_3, xs93_3, impl_MulGrades_1_l3⟩) (L93_0 n)
noncomputable def impl_MulGrades_1 : Int → Int → (Int × (List Int)) → (Int × (List Int)) → Option (Int) := fun a0 a1 (a2_0, a2_1) (a3_0, a3_1) =>
 Option.bind (loopF impl_MulGrades_1_l3 (a0, a1, (a2_0, a2_1), (a3_0, a3_1), (3 : Int), a2_0, (0 : Int), ())) fun (r0, _) =>
  some r0
noncomputable def A93 : FnA := ⟨[.v (.int .i64), .v (.int .i64), .cap (.pair (.int .i64) (.sl (.int .i64))), .cap (.pair (.int .i64) (.sl (.int .i64)))], true, [.int .i64], fun x => impl_MulGrades_1 x.1 x.2.1 x.2.2.1 x.2.2.2.1⟩
theorem impl_MulGrades_1_eq : fnF E93 L93_1 [.v (.int .i64), .v (.int .i64), .cap (.pair (.int .i64) (.sl (.int .i64))), .cap (.pair (.int .i64) (.sl (.int .i64)))] true [.int .i64] f93.ntmps f93.results.toList (codeOf f93) = fun x => impl_MulGrades_1 x.1 x.2.1 x.2.2.1 x.2.2.2.1 := by kernel_rfl
theorem A93_ok : FnOk prog 93 A93 := fo impl_MulGrades_1_eq func93 E93_ok (allCons (loop93_3 rfl) allNil)
/-! impl.MulGrades -/
noncomputable def E61 : Env := ⟨ty0, fun g => ifEq g 78 (some A78) (ifEq g 55 (some A55) (ifEq g 93 (some A93) (none))), fun _ => none, fun _ => none, fun _ => none⟩
theorem E61_ok : FnsOk prog E61 := (oF A78_ok func78 (oF A55_ok func55 (oF A93_ok func93 (noFns _ _))))
noncomputable def L61_0 : Nat → Option LoopD := fun _ => none
noncomputable def impl_MulGrades : (Int × (List Int)) → (Int × (List Int)) → Option ((Int × (List Int)) × Bool) := fun (a0_0, a0_1) (a1_0, a1_1) =>
 Option.bind (impl_GradesValid (a0_0, a0_1)) fun r0 =>
  bif (!r0) then
   some (((0 : Int), []), false)
  else
   Option.bind (impl_GradesValid (a1_0, a1_1)) fun r1 =>
    bif (!r1) then
     some (((0 : Int), []), false)
    else
     bif (a0_0 != a1_0) then
      some (((0 : Int), []), false)
     else
      Option.bind (impl_filled a0_0 (fun y2 => (impl_MulGrades_1 y2.1 y2.2.1 (a0_0, a0_1) (a1_0, a1_1)))) fun (r3, r4) =>
       some ((r3, (List.take (List.length r4) (List.drop 0 r4))), true)
noncomputable def A61 : FnA := ⟨[.v (.pair (.int .i64) (.sl (.int .i64))), .v (.pair (.int .i64) (.sl (.int .i64)))], true, [.pair (.int .i64) (.sl (.int .i64)), .bool], fun x => impl_MulGrades x.1 x.2.1⟩
theorem impl_MulGrades_eq : fnF E61 L61_0 [.v (.pair (.int .i64) (.sl (.int .i64))), .v (.pair (.int .i64) (.sl (.int .i64)))] true [.pair (.int .i64) (.sl (.int .i64)), .bool] f61.ntmps f61.results.toList (codeOf f61) = fun x => impl_MulGrades x.1 x.2.1 := by kernel_rfl
theorem A61_ok : FnOk prog 61 A61 := fo impl_MulGrades_eq func61 E61_ok allNil
/-! slices.Equal[[]int,int] -/
noncomputable def E85 : Env := ⟨ty0, fun _ => none, fun _ => none, fun _ => none, fun _ => none⟩
theorem E85_ok : FnsOk prog E85 := (noFns _ _)
noncomputable def L85_0 : Nat → Option LoopD := fun _ => none
def sh85_4 : List Fm := .cell (.val (.sl (.int .i64))) :: .cell (.val (.sl (.int .i64))) :: D 10 (.cell (.val (.int .i64)) :: .cell (.val (.int .i64)) :: D 12 [])
def xs85_4 : List (Ex × List Fm) := [(.ret, (D 4 (.cell (.val .bool) :: D 21 []))), (.exit 0, (D 26 []))]
noncomputable def slices_Equal_l4 : ((List Int) × (List Int) × Int × Int × Unit) → Option (((List Int) × (List Int) × Int × Int × Unit) ⊕ ((Bool × Unit) ⊕ (Unit))) := fun (v0, v1, v12, v13, _) =>
 bif (decide (v13 < v12)) then
  if (((0 : Int) ≤ v13) ∧ (v13 < (((List.length v0) : Nat) : Int))) then
   if (((0 : Int) ≤ v13) ∧ (v13 < (((List.length v1) : Nat) : Int))) then
    bif ((List.getD v0 (Int.toNat v13) (0 : Int)) != (List.getD v1 (Int.toNat v13) (0 : Int))) then
     some (Sum.inr (Sum.inl (false, ())))
    else
     some (Sum.inl (v0, v1, v12, (IntKind.wrap .i64 (v13 + (1 : Int))), ()))
   else
    none
  else
   none
 else
  some (Sum.inr (Sum.inr ()))
theorem slices_Equal_l4_eq : loopStep 26 E85 L85_0 (loopOf f85 4) sh85_4 xs85_4 = slices_Equal_l4 := by kernel_rfl
theorem loop85_4 {L} (h : L 4 = some ⟨26, sh85_4, xs85_4, slices_Equal_l4⟩) : LoopOk prog L (loopOf f85 4) := lo slices_Equal_l4_eq E85_ok allNil h
noncomputable def L85_1 : Nat → Option LoopD := fun n => ifEq n 4 (some ⟨26, sh85_4, xs85_4, slices_Equal_l4⟩) (L85_0 n)
noncomputable def slices_Equal : (List Int) → (List Int) → Option (Bool) := fun a0 a1 =>
 bif ((((List.length a0) : Nat) : Int) != (((List.length a1) : Nat) : Int)) then
  some false
 else
  Option.bind (loopF slices_Equal_l4 (a0, a1, (((List.length a0) : Nat) : Int), (0 : Int), ())) fun r0 =>
   (match r0 with
   | .inl (d1, _) =>
     some d1
   | .inr _ =>
     some true)
noncomputable def A85 : FnA := ⟨[.v (.sl (.int .i64)), .v (.sl (.int .i64))], true, [.bool], fun x => slices_Equal x.1 x.2.1⟩
theorem slices_Equal_eq : fnF E85 L85_1 [.v (.sl (.int .i64)), .v (.sl (.int .i64))] true [.bool] f85.ntmps f85.results.toList (codeOf f85) = fun x => slices_Equal x.1 x.2.1 := by kernel_rfl
theorem A85_ok : FnOk prog 85 A85 := fo slices_Equal_eq func85 E85_ok (allCons (loop85_4 rfl) allNil)
/-! impl.SameMatrix -/
noncomputable def E48 : Env := ⟨ty0, fun g => ifEq g 85 (some A85) (none), fun _ => none, fun _ => none, fun _ => none⟩
theorem E48_ok : FnsOk prog E48 := (oF A85_ok func85 (noFns _ _))
noncomputable def L48_0 : Nat → Option LoopD := fun _ => none
noncomputable def impl_SameMatrix : (Int × (List Int)) → (Int × (List Int)) → Option (Bool) := fun (a0_0, a0_1) (a1_0, a1_1) =>
 bif (a0_0 == a1_0) then
  Option.bind (slices_Equal a0_1 a1_1) fun r0 =>
   some r0
 else
  some false
noncomputable def A48 : FnA := ⟨[.v (.pair (.int .i64) (.sl (.int .i64))), .v (.pair (.int .i64) (.sl (.int .i64)))], true, [.bool], fun x => impl_SameMatrix x.1 x.2.1⟩
theorem impl_SameMatrix_eq : fnF E48 L48_0 [.v (.pair (.int .i64) (.sl (.int .i64))), .v (.pair (.int .i64) (.sl (.int .i64)))] true [.bool] f48.ntmps f48.results.toList (codeOf f48) = fun x => impl_SameMatrix x.1 x.2.1 := by kernel_rfl
theorem A48_ok : FnOk prog 48 A48 := fo impl_SameMatrix_eq func48 E48_ok allNil
/-! impl.IsIdempotent -/
noncomputable def E54 : Env := ⟨ty0, fun g => ifEq g 61 (some A61) (ifEq g 48 (some A48) (none)), fun _ => none, fun _ => none, fun _ => none⟩
theorem E54_ok : FnsOk prog E54 := (oF A61_ok func61 (oF A48_ok func48 (noFns _ _)))
noncomputable def L54_0 : Nat → Option LoopD := fun _ => none
noncomputable def impl_IsIdempotent : (Int × (List Int)) → Option (Bool) := fun (a0_0, a0_1) =>
 Option.bind (impl_MulGrades (a0_0, a0_1) (a0_0, a0_1)) fun ((r0, r1), r2) =>
  bif r2 then
   Option.bind (impl_SameMatrix (r0, (List.take (List.length r1) (List.drop 0 r1))) (a0_0, a0_1)) fun r3 =>
    some r3
  else
   some false
noncomputable def A54 : FnA := ⟨[.v (.pair (.int .i64) (.sl (.int .i64)))], true, [.bool], fun x => impl_IsIdempotent x.1⟩
theorem impl_IsIdempotent_eq : fnF E54 L54_0 [.v (.pair (.int .i64) (.sl (.int .i64)))] true [.bool] f54.ntmps f54.results.toList (codeOf f54) = fun x => impl_IsIdempotent x.1 := by kernel_rfl
theorem A54_ok : FnOk prog 54 A54 := fo impl_IsIdempotent_eq func54 E54_ok allNil
/-! impl.Stabilise$1 -/
noncomputable def E56 : Env := ⟨ty0, fun g => ifEq g 57 (some A57) (none), fun _ => none, fun _ => none, fun _ => none⟩
theorem E56_ok : FnsOk prog E56 := (oF A57_ok func57 (noFns _ _))
noncomputable def L56_0 : Nat → Option LoopD := fun _ => none
def sh56_3 : List Fm := .cell (.val (.int .i64)) :: .cell (.val (.int .i64)) :: .fp (.pair (.int .i64) (.sl (.int .i64))) :: d :: d :: d :: .cell (.val (.int .i64)) :: d :: d :: d :: .cell (.val (.int .i64)) :: .cell (.val (.int .i64)) :: D 22 []
def xs56_3 : List (Ex × List Fm) := [(.exit 0, (D 6 (.cell (.val (.int .i64)) :: D 27 [])))]
noncomputable def impl_Stabilise_1_l3 : (Int × Int × (Int × (List Int)) × Int × Int × Int × Unit) → Option ((Int × Int × (Int × (List Int)) × Int × Int × Int × Unit) ⊕ ((Int × Unit))) := fun (v0, v1, (v2_0, v2_1), v6, v10, v11, _) =>
 bif (decide (v11 < v10)) then
  Option.bind (impl_Matrix_at (v2_0, v2_1) v11 v11) fun r0 =>
   bif (r0 == (1 : Int)) then
    Option.bind (impl_Matrix_at (v2_0, v2_1) v0 v11) fun r1 =>
     Option.bind (impl_Matrix_at (v2_0, v2_1) v11 v1) fun r2 =>
      some (Sum.inl (v0, v1, (v2_0, v2_1), (if ((if (r2 > (if ((2 : Int) > r1) then (2 : Int) else r1)) then r2 else (if ((2 : Int) > r1) then (2 : Int) else r1)) < v6) then (if (r2 > (if ((2 : Int) > r1) then (2 : Int) else r1)) then r2 else (if ((2 : Int) > r1) then (2 : Int) else r1)) else v6), v10, (IntKind.wrap .i64 (v11 + (1 : Int))), ()))
   else
    Option.bind (impl_Matrix_at (v2_0, v2_1) v0 v11) fun r3 =>
     Option.bind (impl_Matrix_at (v2_0, v2_1) v11 v1) fun r4 =>
      some (Sum.inl (v0, v1, (v2_0, v2_1), (if ((if (r4 > (if (r0 > r3) then r0 else r3)) then r4 else (if (r0 > r3) then r0 else r3)) < v6) then (if (r4 > (if (r0 > r3) then r0 else r3)) then r4 else (if (r0 > r3) then r0 else r3)) else v6), v10, (IntKind.wrap .i64 (v11 + (1 : Int))), ()))
 else
  some (Sum.inr (v6, ()))
theorem impl_Stabilise_1_l3_eq : loopStep 34 E56 L56_0 (loopOf f56 3) sh56_3 xs56_3 = impl_Stabilise_1_l3 := by kernel_rfl
theorem loop56_3 {L} (h : L 3 = some ⟨34, sh56_3, xs56_3, impl_Stabilise_1_l3⟩) : LoopOk prog L (loopOf f56 3) := lo impl_Stabilise_1_l3_eq E56_ok allNil h
noncomputable def L56_1 : Nat → Option LoopD := fun n => ifEq n 3 (some ⟨34, sh56_3, xs56_3, impl_Stabilise_1_l3⟩) (L56_0 n)
noncomputable def impl_Stabilise_1 : Int → Int → (Int × (List Int)) → Option (Int) := fun a0 a1 (a2_0, a2_1) =>
 Option.bind (loopF impl_Stabilise_1_l3 (a0, a1, (a2_0, a2_1), (3 : Int), a2_0, (0 : Int), ())) fun (r0, _) =>
  some r0
noncomputable def A56 : FnA := ⟨[.v (.int .i64), .v (.int .i64), .cap (.pair (.int .i64) (.sl (.int .i64)))], true, [.int .i64], fun x => impl_Stabilise_1 x.1 x.2.1 x.2.2.1⟩
theorem impl_Stabilise_1_eq : fnF E56 L56_1 [.v (.int .i64), .v (.int .i64), .cap (.pair (.int .i64) (.sl (.int .i64)))] true [.int .i64] f56.ntmps f56.results.toList (codeOf f56) = fun x => impl_Stabilise_1 x.1 x.2.1 x.2.2.1 := by kernel_rfl
theorem A56_ok : FnOk prog 56 A56 := fo impl_Stabilise_1_eq func56 E56_ok (allCons (loop56_3 rfl) allNil)
/-! impl.Stabilise -/
noncomputable def E21 : Env := ⟨ty0, fun g => ifEq g 54 (some A54) (ifEq g 55 (some A55) (ifEq g 56 (some A56) (none))), fun _ => none, fun _ => none, fun _ => none⟩
theorem E21_ok : FnsOk prog E21 := (oF A54_ok func54 (oF A55_ok func55 (oF A56_ok func56 (noFns _ _))))
noncomputable def L21_0 : Nat → Option LoopD := fun _ => none
noncomputable def impl_Stabilise : (Int × (List Int)) → Option ((Int × (List Int)) × Bool) := fun (a0_0, a0_1) =>
 Option.bind (impl_IsIdempotent (a0_0, a0_1)) fun r0 =>
  bif (!r0) then
   some (((0 : Int), []), false)
  else
   Option.bind (impl_filled a0_0 (fun y1 => (impl_Stabilise_1 y1.1 y1.2.1 (a0_0, a0_1)))) fun (r2, r3) =>
    some ((r2, (List.take (List.length r3) (List.drop 0 r3))), true)
noncomputable def A21 : FnA := ⟨[.v (.pair (.int .i64) (.sl (.int .i64)))], true, [.pair (.int .i64) (.sl (.int .i64)), .bool], fun x => impl_Stabilise x.1⟩
theorem impl_Stabilise_eq : fnF E21 L21_0 [.v (.pair (.int .i64) (.sl (.int .i64)))] true [.pair (.int .i64) (.sl (.int .i64)), .bool] f21.ntmps f21.results.toList (codeOf f21) = fun x => impl_Stabilise x.1 := by kernel_rfl
theorem A21_ok : FnOk prog 21 A21 := fo impl_Stabilise_eq func21 E21_ok allNil
/-! impl.value -/
noncomputable def R53 (impl_value_rec : (Int × ((List Int) × ((List Int) × (List (Int × (ByteArray × (Int × Int))))))) → (List (ByteArray × PT)) → Option ((Int × (List Int)) × Bool)) : FnA := ⟨[.v (.pair (.int .i64) (.pair (.sl (.int .i64)) (.pair (.sl (.int .i64)) (.sl (.pair (.int .i64) (.pair .str (.pair (.int .i64) (.int .i64)))))))), .v (.sl (.pair .str .pt))], true, [.pair (.int .i64) (.sl (.int .i64)), .bool], fun x => impl_value_rec x.1 x.2.1⟩
noncomputable def E53 (impl_value_rec : (Int × ((List Int) × ((List Int) × (List (Int × (ByteArray × (Int × Int))))))) → (List (ByteArray × PT)) → Option ((Int × (List Int)) × Bool)) : Env := ⟨ty0, fun g => ifEq g 89 (some A89) (ifEq g 90 (some A90) (ifEq g 53 (some (R53 impl_value_rec)) (ifEq g 21 (some A21) (ifEq g 61 (some A61) (none))))), fun _ => none, fun _ => none, fun _ => none⟩
theorem E53_ok (impl_value_rec : (Int × ((List Int) × ((List Int) × (List (Int × (ByteArray × (Int × Int))))))) → (List (ByteArray × PT)) → Option ((Int × (List Int)) × Bool)) (hrec : FnOk prog 53 (R53 impl_value_rec)) : FnsOk prog (E53 impl_value_rec) := (oF A89_ok func89 (oF A90_ok func90 (oF hrec func53 (oF A21_ok func21 (oF A61_ok func61 (noFns _ _))))))
noncomputable def L53_0 (impl_value_rec : (Int × ((List Int) × ((List Int) × (List (Int × (ByteArray × (Int × Int))))))) → (List (ByteArray × PT)) → Option ((Int × (List Int)) × Bool)) : Nat → Option LoopD := fun _ => none
def sh53_3 : List Fm := d :: d :: .box 100200 [.val (.int .i64), .val (.sl (.int .i64)), .val (.sl (.int .i64)), .val (.sl (.pair (.int .i64) (.pair .str (.pair (.int .i64) (.int .i64)))))] :: d :: .box 100400 [.val (.int .i64), .own (.int .i64) 100402 false] :: d :: .box 100600 [.val (.int .i64), .own (.int .i64) 100602 false] :: D 6 (.cell (.val (.sl (.pair .str .pt))) :: .cell (.val (.int .i64)) :: .cell (.val (.int .i64)) :: D 46 [])
def xs53_3 : List (Ex × List Fm) := [(.ret, [d, d, d, d, .box 100400 [.val (.int .i64), .own (.int .i64) 100402 false], .cell (.val .bool), d, d, d, d, d, d, d, d, d, d, d, d, d, d, d, d, d, d, d, d, d, d, d, d, d, d, d, d, d, d, d, d, d, d, d, d, d, d, d, d, d, d, d, d, d, d, d, d, d, d, d, d, d, d, d, d]), (.exit 0, [d, d, d, d, .box 100400 [.val (.int .i64), .own (.int .i64) 100402 false], d, .box 100600 [.val (.int .i64), .own (.int .i64) 100602 false], d, d, d, d, d, d, d, d, d, d, d, d, d, d, d, d, d, d, d, d, d, d, d, d, d, d, d, d, d, d, d, d, d, d, d, d, d, d, d, d, d, d, d, d, d, d, d, d, d, d, d, d, d, d, d])]
noncomputable def impl_value_l3 (impl_value_rec : (Int × ((List Int) × ((List Int) × (List (Int × (ByteArray × (Int × Int))))))) → (List (ByteArray × PT)) → Option ((Int × (List Int)) × Bool)) : ((Int × (List Int) × (List Int) × (List (Int × (ByteArray × (Int × Int)))) × Unit) × (Int × (List Int) × Unit) × (Int × (List Int) × Unit) × (List (ByteArray × PT)) × Int × Int × Unit) → Option (((Int × (List Int) × (List Int) × (List (Int × (ByteArray × (Int × Int)))) × Unit) × (Int × (List Int) × Unit) × (Int × (List Int) × Unit) × (List (ByteArray × PT)) × Int × Int × Unit) ⊕ (((Int × (List Int) × Unit) × Bool × Unit) ⊕ ((Int × (List Int) × Unit) × (Int × (List Int) × Unit) × Unit))) := fun ((v2_0, v2_1, v2_2, v2_3, _), (v4_0, v4_1, _), (v6_0, v6_1, _), v13, v14, v15, _) =>
 bif (decide (v15 < v14)) then
  if (((0 : Int) ≤ v15) ∧ (v15 < (((List.length v13) : Nat) : Int))) then
   bif (!((ByteArray.toList (List.getD v13 (Int.toNat v15) ((⟨Array.empty⟩ : ByteArray), (PT.mk []))).1) == (ByteArray.toList (⟨#[]⟩ : ByteArray)))) then
    Option.bind (impl_StepMatrix (v2_0, v2_1, v2_2, v2_3) (List.getD v13 (Int.toNat v15) ((⟨Array.empty⟩ : ByteArray), (PT.mk []))).1) fun ((r0, r1), r2) =>
     Option.bind (impl_GradesOf (r0, (List.take (List.length r1) (List.drop 0 r1)))) fun ((r3, r4), r5) =>
      bif (decide (v15 > (0 : Int))) then
       Option.bind (impl_MulGrades (v6_0, (List.take (List.length v6_1) (List.drop 0 v6_1))) (r3, (List.take (List.length r4) (List.drop 0 r4)))) fun ((r6, r7), r8) =>
        some (Sum.inl ((v2_0, v2_1, v2_2, v2_3, ()), (v4_0, (List.take (List.length v4_1) (List.drop 0 v4_1)), ()), (r6, (List.take (List.length r7) (List.drop 0 r7)), ()), v13, v14, (IntKind.wrap .i64 (v15 + (1 : Int))), ()))
      else
       some (Sum.inl ((v2_0, v2_1, v2_2, v2_3, ()), (v4_0, (List.take (List.length v4_1) (List.drop 0 v4_1)), ()), (r3, (List.take (List.length r4) (List.drop 0 r4)), ()), v13, v14, (IntKind.wrap .i64 (v15 + (1 : Int))), ()))
   else
    Option.bind (impl_value_rec (v2_0, v2_1, v2_2, v2_3) (PT.l (List.getD v13 (Int.toNat v15) ((⟨Array.empty⟩ : ByteArray), (PT.mk []))).2)) fun ((r9, r10), r11) =>
     bif r11 then
      Option.bind (impl_Stabilise (r9, (List.take (List.length r10) (List.drop 0 r10)))) fun ((r12, r13), r14) =>
       bif (!r14) then
        some (Sum.inr (Sum.inl (((0 : Int), [], ()), false, ())))
       else
        bif (decide (v15 > (0 : Int))) then
         Option.bind (impl_MulGrades (v6_0, (List.take (List.length v6_1) (List.drop 0 v6_1))) (r12, (List.take (List.length r13) (List.drop 0 r13)))) fun ((r15, r16), r17) =>
          some (Sum.inl ((v2_0, v2_1, v2_2, v2_3, ()), (v4_0, (List.take (List.length v4_1) (List.drop 0 v4_1)), ()), (r15, (List.take (List.length r16) (List.drop 0 r16)), ()), v13, v14, (IntKind.wrap .i64 (v15 + (1 : Int))), ()))
        else
         some (Sum.inl ((v2_0, v2_1, v2_2, v2_3, ()), (v4_0, (List.take (List.length v4_1) (List.drop 0 v4_1)), ()), (r12, (List.take (List.length r13) (List.drop 0 r13)), ()), v13, v14, (IntKind.wrap .i64 (v15 + (1 : Int))), ()))
     else
      bif (!r11) then
       some (Sum.inr (Sum.inl (((0 : Int), [], ()), false, ())))
      else
       bif (decide (v15 > (0 : Int))) then
        Option.bind (impl_MulGrades (v6_0, (List.take (List.length v6_1) (List.drop 0 v6_1))) (r9, (List.take (List.length r10) (List.drop 0 r10)))) fun ((r18, r19), r20) =>
         some (Sum.inl ((v2_0, v2_1, v2_2, v2_3, ()), (v4_0, (List.take (List.length v4_1) (List.drop 0 v4_1)), ()), (r18, (List.take (List.length r19) (List.drop 0 r19)), ()), v13, v14, (IntKind.wrap .i64 (v15 + (1 : Int))), ()))
       else
        some (Sum.inl ((v2_0, v2_1, v2_2, v2_3, ()), (v4_0, (List.take (List.length v4_1) (List.drop 0 v4_1)), ()), (r9, (List.take (List.length r10) (List.drop 0 r10)), ()), v13, v14, (IntKind.wrap .i64 (v15 + (1 : Int))), ()))
  else
   none
 else
  some (Sum.inr (Sum.inr ((v4_0, (List.take (List.length v4_1) (List.drop 0 v4_1)), ()), (v6_0, (List.take (List.length v6_1) (List.drop 0 v6_1)), ()), ())))
theorem impl_value_l3_eq (impl_value_rec : (Int × ((List Int) × ((List Int) × (List (Int × (ByteArray × (Int × Int))))))) → (List (ByteArray × PT)) → Option ((Int × (List Int)) × Bool)) : loopStep 62 (E53 impl_value_rec) (L53_0 impl_value_rec) (loopOf f53 3) sh53_3 xs53_3 = (impl_value_l3 impl_value_rec) := by kernel_rfl
theorem loop53_3 (impl_value_rec : (Int × ((List Int) × ((List Int) × (List (Int × (ByteArray × (Int × Int))))))) → (List (ByteArray × PT)) → Option ((Int × (List Int)) × Bool)) (hrec : FnOk prog 53 (R53 impl_value_rec)) {L : Nat → Option LoopD} (h : L 3 = some ⟨62, sh53_3, xs53_3, (impl_value_l3 impl_value_rec)⟩) : LoopOk prog L (loopOf f53 3) :=
 loopOk (tysOk_of tyl_ok) (E53_ok impl_value_rec hrec) (codeOk_in (L := (L53_0 impl_value_rec)) (tysOk_of tyl_ok) (E53_ok impl_value_rec hrec) mixed (c := loopOf f53 3) (bs := []) (by kernel_rfl) allNil (by kernel_rfl)) (by kernel_rfl) (by kernel_rfl) (impl_value_l3_eq impl_value_rec) (by rw [show firstId (loopOf f53 3) = 3 from by kernel_rfl]; exact h)
noncomputable def L53_1 (impl_value_rec : (Int × ((List Int) × ((List Int) × (List (Int × (ByteArray × (Int × Int))))))) → (List (ByteArray × PT)) → Option ((Int × (List Int)) × Bool)) : Nat → Option LoopD := fun n => ifEq n 3 (some ⟨62, sh53_3, xs53_3, (impl_value_l3 impl_value_rec)⟩) ((L53_0 impl_value_rec) n)
noncomputable def impl_value_step (impl_value_rec : (Int × ((List Int) × ((List Int) × (List (Int × (ByteArray × (Int × Int))))))) → (List (ByteArray × PT)) → Option ((Int × (List Int)) × Bool)) : (Int × ((List Int) × ((List Int) × (List (Int × (ByteArray × (Int × Int))))))) → (List (ByteArray × PT)) → Option ((Int × (List Int)) × Bool) := fun (a0_0, a0_1, a0_2, a0_3) a1 =>
 Option.bind (loopF (impl_value_l3 impl_value_rec) ((a0_0, a0_1, a0_2, a0_3, ()), ((0 : Int), [], ()), ((0 : Int), [], ()), a1, (((List.length a1) : Nat) : Int), (0 : Int), ())) fun r0 =>
  (match r0 with
  | .inl ((d1, d2, _), d3, _) =>
    some ((d1, (List.take (List.length d2) (List.drop 0 d2))), d3)
  | .inr ((d4, d5, _), (d6, d7, _), _) =>
    some ((d6, (List.take (List.length d7) (List.drop 0 d7))), true))
theorem impl_value_step_eq (impl_value_rec : (Int × ((List Int) × ((List Int) × (List (Int × (ByteArray × (Int × Int))))))) → (List (ByteArray × PT)) → Option ((Int × (List Int)) × Bool)) : fnF (E53 impl_value_rec) (L53_1 impl_value_rec) [.v (.pair (.int .i64) (.pair (.sl (.int .i64)) (.pair (.sl (.int .i64)) (.sl (.pair (.int .i64) (.pair .str (.pair (.int .i64) (.int .i64)))))))), .v (.sl (.pair .str .pt))] true [.pair (.int .i64) (.sl (.int .i64)), .bool] f53.ntmps f53.results.toList (codeOf f53) = fun x => (impl_value_step impl_value_rec) x.1 x.2.1 := by kernel_rfl
theorem impl_value_step_ok (impl_value_rec : (Int × ((List Int) × ((List Int) × (List (Int × (ByteArray × (Int × Int))))))) → (List (ByteArray × PT)) → Option ((Int × (List Int)) × Bool)) (hrec : FnOk prog 53 (R53 impl_value_rec)) : FnOk prog 53 ⟨[.v (.pair (.int .i64) (.pair (.sl (.int .i64)) (.pair (.sl (.int .i64)) (.sl (.pair (.int .i64) (.pair .str (.pair (.int .i64) (.int .i64)))))))), .v (.sl (.pair .str .pt))], true, [.pair (.int .i64) (.sl (.int .i64)), .bool], fun x => (impl_value_step impl_value_rec) x.1 x.2.1⟩ := by
 have h := fnOk_of_run (P := prog) (E := (E53 impl_value_rec)) (tysOk_of tyl_ok) (E53_ok impl_value_rec hrec) (L := (L53_1 impl_value_rec)) (ps := [.v (.pair (.int .i64) (.pair (.sl (.int .i64)) (.pair (.sl (.int .i64)) (.sl (.pair (.int .i64) (.pair .str (.pair (.int .i64) (.int .i64)))))))), .v (.sl (.pair .str .pt))]) (own := true) (outs := [.pair (.int .i64) (.sl (.int .i64)), .bool]) func53 (c := codeOf f53) (by kernel_rfl) (codeOk_in (L := (L53_1 impl_value_rec)) (tysOk_of tyl_ok) (E53_ok impl_value_rec hrec) mixed (c := codeOf f53) (bs := [loopOf f53 3]) (by kernel_rfl) (allCons (loop53_3 impl_value_rec hrec rfl) allNil) (by kernel_rfl))
 rw [(impl_value_step_eq impl_value_rec)] at h
 exact h
/-- so many calls within each other -/
noncomputable def impl_value_fuel : Nat → (Int × ((List Int) × ((List Int) × (List (Int × (ByteArray × (Int × Int))))))) → (List (ByteArray × PT)) → Option ((Int × (List Int)) × Bool)
 | 0 => fun _ _ => none
 | n + 1 => impl_value_step (impl_value_fuel n)
theorem impl_value_fuel_ok : ∀ n, FnOk prog 53 (R53 (impl_value_fuel n))
 | 0 => fun xs r h => by cases h
 | n + 1 => impl_value_step_ok (impl_value_fuel n) (impl_value_fuel_ok n)
noncomputable def impl_value : (Int × ((List Int) × ((List Int) × (List (Int × (ByteArray × (Int × Int))))))) → (List (ByteArray × PT)) → Option ((Int × (List Int)) × Bool) := impl_value_fuel 200
noncomputable def A53 : FnA := R53 impl_value
theorem A53_ok : FnOk prog 53 A53 := impl_value_fuel_ok 200
/-! impl.ValueOf -/
noncomputable def E20 : Env := ⟨ty0, fun g => ifEq g 52 (some A52) (ifEq g 28 (some A28) (ifEq g 53 (some A53) (none))), fun _ => none, fun _ => none, fun _ => none⟩
theorem E20_ok : FnsOk prog E20 := (oF A52_ok func52 (oF A28_ok func28 (oF A53_ok func53 (noFns _ _))))
noncomputable def L20_0 : Nat → Option LoopD := fun _ => none
noncomputable def impl_ValueOf : (Int × ((List Int) × ((List Int) × (List (Int × (ByteArray × (Int × Int))))))) → ByteArray → Option ((Int × (List Int)) × Bool) := fun (a0_0, a0_1, a0_2, a0_3) a1 =>
 Option.bind (impl_parts a1) fun (r0, r1) =>
  bif (!r1) then
   some (((0 : Int), []), false)
  else
   Option.bind (impl_AutomatonValid (a0_0, a0_1, a0_2, a0_3)) fun r2 =>
    bif (!r2) then
     some (((0 : Int), []), false)
    else
     Option.bind (impl_value (a0_0, a0_1, a0_2, a0_3) (List.take (List.length r0) (List.drop 0 r0))) fun ((r3, r4), r5) =>
      some ((r3, (List.take (List.length r4) (List.drop 0 r4))), r5)
noncomputable def A20 : FnA := ⟨[.v (.pair (.int .i64) (.pair (.sl (.int .i64)) (.pair (.sl (.int .i64)) (.sl (.pair (.int .i64) (.pair .str (.pair (.int .i64) (.int .i64)))))))), .v .str], true, [.pair (.int .i64) (.sl (.int .i64)), .bool], fun x => impl_ValueOf x.1 x.2.1⟩
theorem impl_ValueOf_eq : fnF E20 L20_0 [.v (.pair (.int .i64) (.pair (.sl (.int .i64)) (.pair (.sl (.int .i64)) (.sl (.pair (.int .i64) (.pair .str (.pair (.int .i64) (.int .i64)))))))), .v .str] true [.pair (.int .i64) (.sl (.int .i64)), .bool] f20.ntmps f20.results.toList (codeOf f20) = fun x => impl_ValueOf x.1 x.2.1 := by kernel_rfl
theorem A20_ok : FnOk prog 20 A20 := fo impl_ValueOf_eq func20 E20_ok allNil
/-! slices.IndexFunc[[]impl.Element,impl.Element] -/
noncomputable def E127 : Env := ⟨ty0, fun _ => none, fun _ => none, fun _ => none, fun _ => none⟩
theorem E127_ok : FnsOk prog E127 := (noFns _ _)
noncomputable def L127_0 : Nat → Option LoopD := fun _ => none
def sh127_2 : List Fm := .cell (.val (.sl (.pair (.pair (.int .i64) (.sl (.int .i64))) .str))) :: .clo [.pair (.pair (.int .i64) (.sl (.int .i64))) .str] .bool :: D 5 (.cell (.val (.int .i64)) :: .cell (.val (.int .i64)) :: D 10 [])
def xs127_2 : List (Ex × List Fm) := [(.ret, (D 4 (.cell (.val (.int .i64)) :: D 14 []))), (.exit 0, (D 19 []))]
noncomputable def slices_IndexFunc_Element_l2 : ((List ((Int × (List Int)) × ByteArray)) × ((((Int × (List Int)) × ByteArray) × Unit) → Option (Bool)) × Int × Int × Unit) → Option (((List ((Int × (List Int)) × ByteArray)) × ((((Int × (List Int)) × ByteArray) × Unit) → Option (Bool)) × Int × Int × Unit) ⊕ ((Int × Unit) ⊕ (Unit))) := fun (v0, v1, v7, v8, _) =>
 bif (decide (v8 < v7)) then
  if (((0 : Int) ≤ v8) ∧ (v8 < (((List.length v0) : Nat) : Int))) then
   Option.bind (v1 ((List.getD v0 (Int.toNat v8) (((0 : Int), []), (⟨Array.empty⟩ : ByteArray))), ())) fun r0 =>
    bif r0 then
     some (Sum.inr (Sum.inl (v8, ())))
    else
     some (Sum.inl (v0, v1, v7, (IntKind.wrap .i64 (v8 + (1 : Int))), ()))
  else
   none
 else
  some (Sum.inr (Sum.inr ()))
theorem slices_IndexFunc_Element_l2_eq : loopStep 19 E127 L127_0 (loopOf f127 2) sh127_2 xs127_2 = slices_IndexFunc_Element_l2 := by kernel_rfl
theorem loop127_2 {L} (h : L 2 = some ⟨19, sh127_2, xs127_2, slices_IndexFunc_Element_l2⟩) : LoopOk prog L (loopOf f127 2) := lo slices_IndexFunc_Element_l2_eq E127_ok allNil h
noncomputable def L127_1 : Nat → Option LoopD := fun n => ifEq n 2 (some ⟨19, sh127_2, xs127_2, slices_IndexFunc_Element_l2⟩) (L127_0 n)
noncomputable def slices_IndexFunc_Element : (List ((Int × (List Int)) × ByteArray)) → ((((Int × (List Int)) × ByteArray) × Unit) → Option (Bool)) → Option (Int) := fun a0 a1 =>
 Option.bind (loopF slices_IndexFunc_Element_l2 (a0, a1, (((List.length a0) : Nat) : Int), (0 : Int), ())) fun r0 =>
  (match r0 with
  | .inl (d1, _) =>
    some d1
  | .inr _ =>
    some (-1 : Int))
noncomputable def A127 : FnA := ⟨[.v (.sl (.pair (.pair (.int .i64) (.sl (.int .i64))) .str)), .clo [.pair (.pair (.int .i64) (.sl (.int .i64))) .str] .bool], true, [.int .i64], fun x => slices_IndexFunc_Element x.1 x.2.1⟩
theorem slices_IndexFunc_Element_eq : fnF E127 L127_1 [.v (.sl (.pair (.pair (.int .i64) (.sl (.int .i64))) .str)), .clo [.pair (.pair (.int .i64) (.sl (.int .i64))) .str] .bool] true [.int .i64] f127.ntmps f127.results.toList (codeOf f127) = fun x => slices_IndexFunc_Element x.1 x.2.1 := by kernel_rfl
theorem A127_ok : FnOk prog 127 A127 := fo slices_IndexFunc_Element_eq func127 E127_ok (allCons (loop127_2 rfl) allNil)
/-! slices.ContainsFunc[[]impl.Element,impl.Element] -/
noncomputable def E91 : Env := ⟨ty0, fun g => ifEq g 127 (some A127) (none), fun _ => none, fun _ => none, fun _ => none⟩
theorem E91_ok : FnsOk prog E91 := (oF A127_ok func127 (noFns _ _))
noncomputable def L91_0 : Nat → Option LoopD := fun _ => none
noncomputable def slices_ContainsFunc_Element : (List ((Int × (List Int)) × ByteArray)) → ((((Int × (List Int)) × ByteArray) × Unit) → Option (Bool)) → Option (Bool) := fun a0 a1 =>
 Option.bind (slices_IndexFunc_Element a0 a1) fun r0 =>
  some (decide (r0 ≥ (0 : Int)))
noncomputable def A91 : FnA := ⟨[.v (.sl (.pair (.pair (.int .i64) (.sl (.int .i64))) .str)), .clo [.pair (.pair (.int .i64) (.sl (.int .i64))) .str] .bool], true, [.bool], fun x => slices_ContainsFunc_Element x.1 x.2.1⟩
theorem slices_ContainsFunc_Element_eq : fnF E91 L91_0 [.v (.sl (.pair (.pair (.int .i64) (.sl (.int .i64))) .str)), .clo [.pair (.pair (.int .i64) (.sl (.int .i64))) .str] .bool] true [.bool] f91.ntmps f91.results.toList (codeOf f91) = fun x => slices_ContainsFunc_Element x.1 x.2.1 := by kernel_rfl
theorem A91_ok : FnOk prog 91 A91 := fo slices_ContainsFunc_Element_eq func91 E91_ok allNil
/-! (*impl.found).put$1 -/
noncomputable def E92 : Env := ⟨ty0, fun g => ifEq g 48 (some A48) (none), fun _ => none, fun _ => none, fun _ => none⟩
theorem E92_ok : FnsOk prog E92 := (oF A48_ok func48 (noFns _ _))
noncomputable def L92_0 : Nat → Option LoopD := fun _ => none
noncomputable def impl_found_put_1 : ((Int × (List Int)) × ByteArray) → (Int × (List Int)) → Option (Bool) := fun ((a0_0, a0_1), a0_2) (a1_0, a1_1) =>
 Option.bind (impl_SameMatrix (a0_0, a0_1) (a1_0, a1_1)) fun r0 =>
  some r0
noncomputable def A92 : FnA := ⟨[.v (.pair (.pair (.int .i64) (.sl (.int .i64))) .str), .cap (.pair (.int .i64) (.sl (.int .i64)))], true, [.bool], fun x => impl_found_put_1 x.1 x.2.1⟩
theorem impl_found_put_1_eq : fnF E92 L92_0 [.v (.pair (.pair (.int .i64) (.sl (.int .i64))) .str), .cap (.pair (.int .i64) (.sl (.int .i64)))] true [.bool] f92.ntmps f92.results.toList (codeOf f92) = fun x => impl_found_put_1 x.1 x.2.1 := by kernel_rfl
theorem A92_ok : FnOk prog 92 A92 := fo impl_found_put_1_eq func92 E92_ok allNil
/-! impl.ElementsOf -/
noncomputable def E23_at5_at32 : Env := ⟨ty0, fun g => ifEq g 28 (some A28) (ifEq g 20 (some A20) (ifEq g 91 (some A91) (ifEq g 92 (some A92) (ifEq g 21 (some A21) (ifEq g 61 (some A61) (none)))))), fun _ => none, fun _ => none, fun _ => none⟩
theorem E23_at5_at32_ok : FnsOk prog E23_at5_at32 := (oF A28_ok func28 (oF A20_ok func20 (oF A91_ok func91 (oF A92_ok func92 (oF A21_ok func21 (oF A61_ok func61 (noFns _ _)))))))
noncomputable def L23_at5_at32_0 : Nat → Option LoopD := fun _ => none
def shi23_at5_at32 : List Fm := .box 100000 [.own (.pair (.pair (.int .i64) (.sl (.int .i64))) .str) 100001 false, .val .bool] :: .agg [.val (.int .i64), .own (.int .i64) 100102 false] :: .cell (.val .str) :: D 36 (.fnv 59 :: .box 104000 [.val (.int .i64), .val (.sl (.int .i64)), .val (.sl (.int .i64)), .val (.sl (.pair (.int .i64) (.pair .str (.pair (.int .i64) (.int .i64)))))] :: d :: d :: d :: .ali 100000 0 :: D 10 (.cell (.own .str 105500 false) :: .cell (.val (.int .i64)) :: .cell (.val (.int .i64)) :: D 50 []))
def sho23_at5_at32 : List Fm := d :: .fnv 59 :: .box 100200 [.val (.int .i64), .val (.sl (.int .i64)), .val (.sl (.int .i64)), .val (.sl (.pair (.int .i64) (.pair .str (.pair (.int .i64) (.int .i64)))))] :: d :: d :: d :: .box 100600 [.own (.pair (.pair (.int .i64) (.sl (.int .i64))) .str) 100601 false, .val .bool] :: D 10 (.cell (.own .str 101700 false) :: .cell (.val (.int .i64)) :: .cell (.val (.int .i64)) :: D 50 [])
noncomputable def impl_ElementsOf_at5_at32 : (((List ((Int × (List Int)) × ByteArray)) × Bool × Unit) × (Int × (List Int) × Unit) × ByteArray × (Int × (List Int) × (List Int) × (List (Int × (ByteArray × (Int × Int)))) × Unit) × (List ByteArray) × Int × Int × Unit) → Option ((Int × (List Int) × (List Int) × (List (Int × (ByteArray × (Int × Int)))) × Unit) × ((List ((Int × (List Int)) × ByteArray)) × Bool × Unit) × (List ByteArray) × Int × Int × Unit) := fun ((v0_0, v0_1, _), (v1_0, v1_1, _), v2, (v40_0, v40_1, v40_2, v40_3, _), v55, v56, v57, _) =>
 Option.bind (slices_ContainsFunc_Element (List.take (List.length v0_0) (List.drop 0 v0_0)) (fun y0 => (impl_found_put_1 y0.1 (v1_0, (List.take (List.length v1_1) (List.drop 0 v1_1)))))) fun r1 =>
  bif r1 then
   some ((v40_0, v40_1, v40_2, v40_3, ()), ((List.take (List.length v0_0) (List.drop 0 v0_0)), v0_1, ()), (List.take (List.length v55) (List.drop 0 v55)), v56, v57, ())
  else
   bif (decide ((((List.length v0_0) : Nat) : Int) ≥ (120 : Int))) then
    some ((v40_0, v40_1, v40_2, v40_3, ()), ((List.take (List.length v0_0) (List.drop 0 v0_0)), false, ()), (List.take (List.length v55) (List.drop 0 v55)), v56, v57, ())
   else
    bif (decide ((((ByteArray.size v2) : Nat) : Int) > (120 : Int))) then
     some ((v40_0, v40_1, v40_2, v40_3, ()), ((List.take (List.length v0_0) (List.drop 0 v0_0)), false, ()), (List.take (List.length v55) (List.drop 0 v55)), v56, v57, ())
    else
     if (((0 + (List.length v0_0)) = (List.length v0_0)) ∧ ((((List.length v0_0) + (List.length (List.take 1 (List.drop 0 [((v1_0, (List.take (List.length v1_1) (List.drop 0 v1_1))), v2)])))) * 48) ≤ 140737488355328)) then
      some ((v40_0, v40_1, v40_2, v40_3, ()), ((List.take ((List.length v0_0) + (List.length (List.take 1 (List.drop 0 [((v1_0, (List.take (List.length v1_1) (List.drop 0 v1_1))), v2)])))) (List.drop 0 ((List.drop 0 v0_0) ++ (List.take 1 (List.drop 0 [((v1_0, (List.take (List.length v1_1) (List.drop 0 v1_1))), v2)]))))), v0_1, ()), (List.take (List.length v55) (List.drop 0 v55)), v56, v57, ())
     else
      none
theorem impl_ElementsOf_at5_at32_eq : inlStep f60.ntmps 62 32 E23_at5_at32 L23_at5_at32_0 f60.results.toList (codeOf f60) shi23_at5_at32 sho23_at5_at32 = impl_ElementsOf_at5_at32 := by kernel_rfl
noncomputable def I23_at5_at32 : CallD := ⟨f60.ntmps, shi23_at5_at32, 62, sho23_at5_at32, impl_ElementsOf_at5_at32, 0⟩
theorem I23_at5_at32_ok : InlOk prog 32 60 I23_at5_at32 := inlOk_of (tysOk_of tyl_ok) E23_at5_at32_ok (L := L23_at5_at32_0) func60 (by kernel_rfl) (c := codeOf f60) (by kernel_rfl) (codeOk_in (L := L23_at5_at32_0) (tysOk_of tyl_ok) E23_at5_at32_ok mixed (c := codeOf f60) (bs := []) (by kernel_rfl) allNil (by kernel_rfl)) (by kernel_rfl) (by kernel_rfl) impl_ElementsOf_at5_at32_eq
noncomputable def E23_at5_at52_at31 : Env := ⟨ty0, fun g => ifEq g 28 (some A28) (ifEq g 20 (some A20) (ifEq g 91 (some A91) (ifEq g 92 (some A92) (ifEq g 21 (some A21) (ifEq g 61 (some A61) (none)))))), fun _ => none, fun _ => none, fun _ => none⟩
theorem E23_at5_at52_at31_ok : FnsOk prog E23_at5_at52_at31 := (oF A28_ok func28 (oF A20_ok func20 (oF A91_ok func91 (oF A92_ok func92 (oF A21_ok func21 (oF A61_ok func61 (noFns _ _)))))))
noncomputable def L23_at5_at52_at31_0 : Nat → Option LoopD := fun _ => none
def shi23_at5_at52_at31 : List Fm := .box 100000 [.own (.pair (.pair (.int .i64) (.sl (.int .i64))) .str) 100001 false, .val .bool] :: .agg [.val (.int .i64), .own (.int .i64) 100102 false] :: .cell (.val .str) :: D 35 (.ali 100000 0 :: .cell (.val (.int .i64)) :: d :: d :: .box 104200 [.val (.int .i64), .val (.sl (.int .i64)), .val .str] :: D 78 (.fnv 59 :: D 4 (.ali 100000 0 :: D 4 (.cell (.val (.int .i64)) :: D 58 []))))
def sho23_at5_at52_at31 : List Fm := .box 100000 [.own (.pair (.pair (.int .i64) (.sl (.int .i64))) .str) 100001 false, .val .bool] :: .cell (.val (.int .i64)) :: d :: d :: .box 100400 [.val (.int .i64), .val (.sl (.int .i64)), .val .str] :: D 78 (.fnv 59 :: D 4 (.ali 100000 0 :: D 4 (.cell (.val (.int .i64)) :: D 58 [])))
noncomputable def impl_ElementsOf_at5_at52_at31 : (((List ((Int × (List Int)) × ByteArray)) × Bool × Unit) × (Int × (List Int) × Unit) × ByteArray × Int × (Int × (List Int) × ByteArray × Unit) × Int × Unit) → Option (((List ((Int × (List Int)) × ByteArray)) × Bool × Unit) × Int × (Int × (List Int) × ByteArray × Unit) × Int × Unit) := fun ((v0_0, v0_1, _), (v1_0, v1_1, _), v2, v39, (v42_0, v42_1, v42_2, _), v131, _) =>
 Option.bind (slices_ContainsFunc_Element (List.take (List.length v0_0) (List.drop 0 v0_0)) (fun y0 => (impl_found_put_1 y0.1 (v1_0, (List.take (List.length v1_1) (List.drop 0 v1_1)))))) fun r1 =>
  bif r1 then
   some (((List.take (List.length v0_0) (List.drop 0 v0_0)), v0_1, ()), v39, (v42_0, v42_1, v42_2, ()), v131, ())
  else
   bif (decide ((((List.length v0_0) : Nat) : Int) ≥ (120 : Int))) then
    some (((List.take (List.length v0_0) (List.drop 0 v0_0)), false, ()), v39, (v42_0, v42_1, v42_2, ()), v131, ())
   else
    bif (decide ((((ByteArray.size v2) : Nat) : Int) > (120 : Int))) then
     some (((List.take (List.length v0_0) (List.drop 0 v0_0)), false, ()), v39, (v42_0, v42_1, v42_2, ()), v131, ())
    else
     if (((0 + (List.length v0_0)) = (List.length v0_0)) ∧ ((((List.length v0_0) + (List.length (List.take 1 (List.drop 0 [((v1_0, (List.take (List.length v1_1) (List.drop 0 v1_1))), v2)])))) * 48) ≤ 140737488355328)) then
      some (((List.take ((List.length v0_0) + (List.length (List.take 1 (List.drop 0 [((v1_0, (List.take (List.length v1_1) (List.drop 0 v1_1))), v2)])))) (List.drop 0 ((List.drop 0 v0_0) ++ (List.take 1 (List.drop 0 [((v1_0, (List.take (List.length v1_1) (List.drop 0 v1_1))), v2)]))))), v0_1, ()), v39, (v42_0, v42_1, v42_2, ()), v131, ())
     else
      none
theorem impl_ElementsOf_at5_at52_at31_eq : inlStep f60.ntmps 82 31 E23_at5_at52_at31 L23_at5_at52_at31_0 f60.results.toList (codeOf f60) shi23_at5_at52_at31 sho23_at5_at52_at31 = impl_ElementsOf_at5_at52_at31 := by kernel_rfl
noncomputable def I23_at5_at52_at31 : CallD := ⟨f60.ntmps, shi23_at5_at52_at31, 82, sho23_at5_at52_at31, impl_ElementsOf_at5_at52_at31, 0⟩
theorem I23_at5_at52_at31_ok : InlOk prog 31 60 I23_at5_at52_at31 := inlOk_of (tysOk_of tyl_ok) E23_at5_at52_at31_ok (L := L23_at5_at52_at31_0) func60 (by kernel_rfl) (c := codeOf f60) (by kernel_rfl) (codeOk_in (L := L23_at5_at52_at31_0) (tysOk_of tyl_ok) E23_at5_at52_at31_ok mixed (c := codeOf f60) (bs := []) (by kernel_rfl) allNil (by kernel_rfl)) (by kernel_rfl) (by kernel_rfl) impl_ElementsOf_at5_at52_at31_eq
noncomputable def E23_at5_at52_at65 : Env := ⟨ty0, fun g => ifEq g 28 (some A28) (ifEq g 20 (some A20) (ifEq g 91 (some A91) (ifEq g 92 (some A92) (ifEq g 21 (some A21) (ifEq g 61 (some A61) (none)))))), fun _ => none, fun _ => none, fun _ => none⟩
theorem E23_at5_at52_at65_ok : FnsOk prog E23_at5_at52_at65 := (oF A28_ok func28 (oF A20_ok func20 (oF A91_ok func91 (oF A92_ok func92 (oF A21_ok func21 (oF A61_ok func61 (noFns _ _)))))))
noncomputable def L23_at5_at52_at65_0 : Nat → Option LoopD := fun _ => none
def shi23_at5_at52_at65 : List Fm := .box 100000 [.own (.pair (.pair (.int .i64) (.sl (.int .i64))) .str) 100001 false, .val .bool] :: .cell (.val (.pair (.int .i64) (.sl (.int .i64)))) :: .cell (.val .str) :: D 35 (.ali 100000 0 :: .cell (.val (.int .i64)) :: d :: d :: .box 104200 [.val (.int .i64), .val (.sl (.int .i64)), .val .str] :: d :: d :: .cell (.val (.int .i64)) :: .box 104600 [.val (.int .i64), .val (.sl (.int .i64)), .val .str] :: .box 104700 [.val (.int .i64), .val (.sl (.int .i64))] :: D 73 (.fnv 59 :: D 4 (.ali 100000 0 :: D 4 (.cell (.val (.int .i64)) :: D 58 []))))
def sho23_at5_at52_at65 : List Fm := .box 100000 [.own (.pair (.pair (.int .i64) (.sl (.int .i64))) .str) 100001 false, .val .bool] :: .cell (.val (.int .i64)) :: d :: d :: .box 100400 [.val (.int .i64), .val (.sl (.int .i64)), .val .str] :: d :: d :: .cell (.val (.int .i64)) :: .box 100800 [.val (.int .i64), .val (.sl (.int .i64)), .val .str] :: .box 100900 [.val (.int .i64), .val (.sl (.int .i64))] :: D 73 (.fnv 59 :: D 4 (.ali 100000 0 :: D 4 (.cell (.val (.int .i64)) :: D 58 [])))
noncomputable def impl_ElementsOf_at5_at52_at65 : (((List ((Int × (List Int)) × ByteArray)) × Bool × Unit) × (Int × (List Int)) × ByteArray × Int × (Int × (List Int) × ByteArray × Unit) × Int × (Int × (List Int) × ByteArray × Unit) × (Int × (List Int) × Unit) × Int × Unit) → Option (((List ((Int × (List Int)) × ByteArray)) × Bool × Unit) × Int × (Int × (List Int) × ByteArray × Unit) × Int × (Int × (List Int) × ByteArray × Unit) × (Int × (List Int) × Unit) × Int × Unit) := fun ((v0_0, v0_1, _), (v1_0, v1_1), v2, v39, (v42_0, v42_1, v42_2, _), v45, (v46_0, v46_1, v46_2, _), (v47_0, v47_1, _), v131, _) =>
 Option.bind (slices_ContainsFunc_Element (List.take (List.length v0_0) (List.drop 0 v0_0)) (fun y0 => (impl_found_put_1 y0.1 (v1_0, v1_1)))) fun r1 =>
  bif r1 then
   some (((List.take (List.length v0_0) (List.drop 0 v0_0)), v0_1, ()), v39, (v42_0, v42_1, v42_2, ()), v45, (v46_0, v46_1, v46_2, ()), (v47_0, v47_1, ()), v131, ())
  else
   bif (decide ((((List.length v0_0) : Nat) : Int) ≥ (120 : Int))) then
    some (((List.take (List.length v0_0) (List.drop 0 v0_0)), false, ()), v39, (v42_0, v42_1, v42_2, ()), v45, (v46_0, v46_1, v46_2, ()), (v47_0, v47_1, ()), v131, ())
   else
    bif (decide ((((ByteArray.size v2) : Nat) : Int) > (120 : Int))) then
     some (((List.take (List.length v0_0) (List.drop 0 v0_0)), false, ()), v39, (v42_0, v42_1, v42_2, ()), v45, (v46_0, v46_1, v46_2, ()), (v47_0, v47_1, ()), v131, ())
    else
     if (((0 + (List.length v0_0)) = (List.length v0_0)) ∧ ((((List.length v0_0) + (List.length (List.take 1 (List.drop 0 [((v1_0, v1_1), v2)])))) * 48) ≤ 140737488355328)) then
      some (((List.take ((List.length v0_0) + (List.length (List.take 1 (List.drop 0 [((v1_0, v1_1), v2)])))) (List.drop 0 ((List.drop 0 v0_0) ++ (List.take 1 (List.drop 0 [((v1_0, v1_1), v2)]))))), v0_1, ()), v39, (v42_0, v42_1, v42_2, ()), v45, (v46_0, v46_1, v46_2, ()), (v47_0, v47_1, ()), v131, ())
     else
      none
theorem impl_ElementsOf_at5_at52_at65_eq : inlStep f60.ntmps 82 65 E23_at5_at52_at65 L23_at5_at52_at65_0 f60.results.toList (codeOf f60) shi23_at5_at52_at65 sho23_at5_at52_at65 = impl_ElementsOf_at5_at52_at65 := by kernel_rfl
noncomputable def I23_at5_at52_at65 : CallD := ⟨f60.ntmps, shi23_at5_at52_at65, 82, sho23_at5_at52_at65, impl_ElementsOf_at5_at52_at65, 0⟩
theorem I23_at5_at52_at65_ok : InlOk prog 65 60 I23_at5_at52_at65 := inlOk_of (tysOk_of tyl_ok) E23_at5_at52_at65_ok (L := L23_at5_at52_at65_0) func60 (by kernel_rfl) (c := codeOf f60) (by kernel_rfl) (codeOk_in (L := L23_at5_at52_at65_0) (tysOk_of tyl_ok) E23_at5_at52_at65_ok mixed (c := codeOf f60) (bs := []) (by kernel_rfl) allNil (by kernel_rfl)) (by kernel_rfl) (by kernel_rfl) impl_ElementsOf_at5_at52_at65_eq
noncomputable def E23_at5_at52_at81 : Env := ⟨ty0, fun g => ifEq g 28 (some A28) (ifEq g 20 (some A20) (ifEq g 91 (some A91) (ifEq g 92 (some A92) (ifEq g 21 (some A21) (ifEq g 61 (some A61) (none)))))), fun _ => none, fun _ => none, fun _ => none⟩
theorem E23_at5_at52_at81_ok : FnsOk prog E23_at5_at52_at81 := (oF A28_ok func28 (oF A20_ok func20 (oF A91_ok func91 (oF A92_ok func92 (oF A21_ok func21 (oF A61_ok func61 (noFns _ _)))))))
noncomputable def L23_at5_at52_at81_0 : Nat → Option LoopD := fun _ => none
def shi23_at5_at52_at81 : List Fm := .box 100000 [.own (.pair (.pair (.int .i64) (.sl (.int .i64))) .str) 100001 false, .val .bool] :: .agg [.val (.int .i64), .own (.int .i64) 100102 false] :: .cell (.val .str) :: D 35 (.ali 100000 0 :: .cell (.val (.int .i64)) :: d :: d :: .box 104200 [.val (.int .i64), .val (.sl (.int .i64)), .val .str] :: d :: d :: .cell (.val (.int .i64)) :: D 75 (.fnv 59 :: D 4 (.ali 100000 0 :: D 4 (.cell (.val (.int .i64)) :: D 58 []))))
def sho23_at5_at52_at81 : List Fm := .box 100000 [.own (.pair (.pair (.int .i64) (.sl (.int .i64))) .str) 100001 false, .val .bool] :: .cell (.val (.int .i64)) :: d :: d :: .box 100400 [.val (.int .i64), .val (.sl (.int .i64)), .val .str] :: d :: d :: .cell (.val (.int .i64)) :: D 75 (.fnv 59 :: D 4 (.ali 100000 0 :: D 4 (.cell (.val (.int .i64)) :: D 58 [])))
noncomputable def impl_ElementsOf_at5_at52_at81 : (((List ((Int × (List Int)) × ByteArray)) × Bool × Unit) × (Int × (List Int) × Unit) × ByteArray × Int × (Int × (List Int) × ByteArray × Unit) × Int × Int × Unit) → Option (((List ((Int × (List Int)) × ByteArray)) × Bool × Unit) × Int × (Int × (List Int) × ByteArray × Unit) × Int × Int × Unit) := fun ((v0_0, v0_1, _), (v1_0, v1_1, _), v2, v39, (v42_0, v42_1, v42_2, _), v45, v131, _) =>
 Option.bind (slices_ContainsFunc_Element (List.take (List.length v0_0) (List.drop 0 v0_0)) (fun y0 => (impl_found_put_1 y0.1 (v1_0, (List.take (List.length v1_1) (List.drop 0 v1_1)))))) fun r1 =>
  bif r1 then
   some (((List.take (List.length v0_0) (List.drop 0 v0_0)), v0_1, ()), v39, (v42_0, v42_1, v42_2, ()), v45, v131, ())
  else
   bif (decide ((((List.length v0_0) : Nat) : Int) ≥ (120 : Int))) then
    some (((List.take (List.length v0_0) (List.drop 0 v0_0)), false, ()), v39, (v42_0, v42_1, v42_2, ()), v45, v131, ())
   else
    bif (decide ((((ByteArray.size v2) : Nat) : Int) > (120 : Int))) then
     some (((List.take (List.length v0_0) (List.drop 0 v0_0)), false, ()), v39, (v42_0, v42_1, v42_2, ()), v45, v131, ())
    else
     if (((0 + (List.length v0_0)) = (List.length v0_0)) ∧ ((((List.length v0_0) + (List.length (List.take 1 (List.drop 0 [((v1_0, (List.take (List.length v1_1) (List.drop 0 v1_1))), v2)])))) * 48) ≤ 140737488355328)) then
      some (((List.take ((List.length v0_0) + (List.length (List.take 1 (List.drop 0 [((v1_0, (List.take (List.length v1_1) (List.drop 0 v1_1))), v2)])))) (List.drop 0 ((List.drop 0 v0_0) ++ (List.take 1 (List.drop 0 [((v1_0, (List.take (List.length v1_1) (List.drop 0 v1_1))), v2)]))))), v0_1, ()), v39, (v42_0, v42_1, v42_2, ()), v45, v131, ())
     else
      none
theorem impl_ElementsOf_at5_at52_at81_eq : inlStep f60.ntmps 82 81 E23_at5_at52_at81 L23_at5_at52_at81_0 f60.results.toList (codeOf f60) shi23_at5_at52_at81 sho23_at5_at52_at81 = impl_ElementsOf_at5_at52_at81 := by kernel_rfl
noncomputable def I23_at5_at52_at81 : CallD := ⟨f60.ntmps, shi23_at5_at52_at81, 82, sho23_at5_at52_at81, impl_ElementsOf_at5_at52_at81, 0⟩
theorem I23_at5_at52_at81_ok : InlOk prog 81 60 I23_at5_at52_at81 := inlOk_of (tysOk_of tyl_ok) E23_at5_at52_at81_ok (L := L23_at5_at52_at81_0) func60 (by kernel_rfl) (c := codeOf f60) (by kernel_rfl) (codeOk_in (L := L23_at5_at52_at81_0) (tysOk_of tyl_ok) E23_at5_at52_at81_ok mixed (c := codeOf f60) (bs := []) (by kernel_rfl) allNil (by kernel_rfl)) (by kernel_rfl) (by kernel_rfl) impl_ElementsOf_at5_at52_at81_eq
noncomputable def E23_at5_at52 : Env := ⟨ty0, fun g => ifEq g 28 (some A28) (ifEq g 20 (some A20) (ifEq g 91 (some A91) (ifEq g 92 (some A92) (ifEq g 21 (some A21) (ifEq g 61 (some A61) (none)))))), fun _ => none, fun _ => none, fun d => ifI (Nat.beq d 31) (some (60, I23_at5_at52_at31)) (ifI (Nat.beq d 65) (some (60, I23_at5_at52_at65)) (ifI (Nat.beq d 81) (some (60, I23_at5_at52_at81)) (none)))⟩
theorem E23_at5_at52_ok : FnsOk prog E23_at5_at52 := (oneIl (d0 := 31) (g0 := 60) I23_at5_at52_at31_ok (oneIl (d0 := 65) (g0 := 60) I23_at5_at52_at65_ok (oneIl (d0 := 81) (g0 := 60) I23_at5_at52_at81_ok (oF A28_ok func28 (oF A20_ok func20 (oF A91_ok func91 (oF A92_ok func92 (oF A21_ok func21 (oF A61_ok func61 (noFns _ _))))))))))
noncomputable def L23_at5_at52_0 : Nat → Option LoopD := fun _ => none
def sh23_at5_at52_5 : List Fm := .box 100000 [.own (.pair (.pair (.int .i64) (.sl (.int .i64))) .str) 100001 false, .val .bool] :: .cell (.val (.int .i64)) :: d :: d :: .box 100400 [.val (.int .i64), .val (.sl (.int .i64)), .val .str] :: d :: d :: .cell (.val (.int .i64)) :: D 75 (.fnv 59 :: D 4 (.ali 100000 0 :: D 4 (.cell (.val (.int .i64)) :: D 58 [])))
def xs23_at5_at52_5 : List (Ex × List Fm) := [(.exit 0, [d, d, d, d, d, d, d, d, d, d, d, d, d, d, d, d, d, d, d, d, d, d, d, d, d, d, d, d, d, d, d, d, d, d, d, d, d, d, d, d, d, d, d, d, d, d, d, d, d, d, d, d, d, d, d, d, d, d, d, d, d, d, d, d, d, d, d, d, d, d, d, d, d, d, d, d, d, d, d, d, d, d, d, .fnv 59, d, d, d, d, .box 108800 [.own (.pair (.pair (.int .i64) (.sl (.int .i64))) .str) 108801 false, .val .bool], d, d, d, d, .cell (.val (.int .i64)), d, d, d, d, d, d, d, d, d, d, d, d, d, d, d, d, d, d, d, d, d, d, d, d, d, d, d, d, d, d, d, d, d, d, d, d, d, d, d, d, d, d, d, d, d, d, d, d, d, d, d, d, d, d, d, d, d, d])]
noncomputable def impl_ElementsOf_at5_at52_l5 : (((List ((Int × (List Int)) × ByteArray)) × Bool × Unit) × Int × (Int × (List Int) × ByteArray × Unit) × Int × Int × Unit) → Option ((((List ((Int × (List Int)) × ByteArray)) × Bool × Unit) × Int × (Int × (List Int) × ByteArray × Unit) × Int × Int × Unit) ⊕ ((((List ((Int × (List Int)) × ByteArray)) × Bool × Unit) × Int × Unit))) := fun ((v0_0, v0_1, _), v1, (v4_0, v4_1, v4_2, _), v7, v93, _) =>
 bif (decide (v7 ≤ v1)) then
  bif v0_1 then
   if (((0 : Int) ≤ v7) ∧ (v7 < (((List.length v0_0) : Nat) : Int))) then
    Option.bind (impl_MulGrades (v4_0, v4_1) ((List.getD v0_0 (0 + (Int.toNat v7)) (((0 : Int), []), (⟨Array.empty⟩ : ByteArray))).1.1, (List.getD v0_0 (0 + (Int.toNat v7)) (((0 : Int), []), (⟨Array.empty⟩ : ByteArray))).1.2)) fun ((r0, r1), r2) =>
     if (((ByteArray.size v4_2) + (ByteArray.size (List.getD v0_0 (0 + (Int.toNat v7)) (((0 : Int), []), (⟨Array.empty⟩ : ByteArray))).2)) ≤ 9223372036854775807) then
      Option.bind (impl_ElementsOf_at5_at52_at65 (((List.take (List.length v0_0) (List.drop 0 v0_0)), v0_1, ()), (r0, (List.take (List.length r1) (List.drop 0 r1))), (v4_2 ++ (List.getD v0_0 (0 + (Int.toNat v7)) (((0 : Int), []), (⟨Array.empty⟩ : ByteArray))).2), v1, (v4_0, v4_1, v4_2, ()), v7, ((List.getD v0_0 (0 + (Int.toNat v7)) (((0 : Int), []), (⟨Array.empty⟩ : ByteArray))).1.1, (List.getD v0_0 (0 + (Int.toNat v7)) (((0 : Int), []), (⟨Array.empty⟩ : ByteArray))).1.2, (List.getD v0_0 (0 + (Int.toNat v7)) (((0 : Int), []), (⟨Array.empty⟩ : ByteArray))).2, ()), (r0, (List.take (List.length r1) (List.drop 0 r1)), ()), v93, ())) fun ((r3, r4, _), r5, (r6, r7, r8, _), r9, (r10, r11, r12, _), (r13, r14, _), r15, _) =>
       Option.bind (impl_MulGrades (r10, r11) (r6, r7)) fun ((r16, r17), r18) =>
        if (((ByteArray.size r12) + (ByteArray.size r8)) ≤ 9223372036854775807) then
         Option.bind (impl_ElementsOf_at5_at52_at81 (((List.take (List.length r3) (List.drop 0 r3)), r4, ()), (r16, (List.take (List.length r17) (List.drop 0 r17)), ()), (r12 ++ r8), r5, (r6, r7, r8, ()), r9, r15, ())) fun ((r19, r20, _), r21, (r22, r23, r24, _), r25, r26, _) =>
          some (Sum.inl (((List.take (List.length r19) (List.drop 0 r19)), r20, ()), r21, (r22, r23, r24, ()), (IntKind.wrap .i64 (r25 + (1 : Int))), r26, ()))
        else
         none
     else
      none
   else
    none
  else
   some (Sum.inr (((List.take (List.length v0_0) (List.drop 0 v0_0)), v0_1, ()), v93, ()))
 else
  some (Sum.inr (((List.take (List.length v0_0) (List.drop 0 v0_0)), v0_1, ()), v93, ()))
theorem impl_ElementsOf_at5_at52_l5_eq : loopStep 82 E23_at5_at52 L23_at5_at52_0 (loopOf f59 5) sh23_at5_at52_5 xs23_at5_at52_5 = impl_ElementsOf_at5_at52_l5 := by kernel_rfl
theorem loop23_at5_at52_5 {L} (h : L 5 = some ⟨82, sh23_at5_at52_5, xs23_at5_at52_5, impl_ElementsOf_at5_at52_l5⟩) : LoopOk prog L (loopOf f59 5) := lo impl_ElementsOf_at5_at52_l5_eq E23_at5_at52_ok allNil h
noncomputable def L23_at5_at52_1 : Nat → Option LoopD := fun n => ifEq n 5 (some ⟨82, sh23_at5_at52_5, xs23_at5_at52_5, impl_ElementsOf_at5_at52_l5⟩) (L23_at5_at52_0 n)
def shi23_at5_at52 : List Fm := .box 100000 [.own (.pair (.pair (.int .i64) (.sl (.int .i64))) .str) 100001 false, .val .bool] :: .cell (.val (.int .i64)) :: D 81 (.fnv 59 :: D 4 (.ali 100000 0 :: D 4 (.cell (.val (.int .i64)) :: D 58 [])))
def sho23_at5_at52 : List Fm := d :: .fnv 59 :: D 4 (.box 100600 [.own (.pair (.pair (.int .i64) (.sl (.int .i64))) .str) 100601 false, .val .bool] :: D 4 (.cell (.val (.int .i64)) :: D 58 []))
noncomputable def impl_ElementsOf_at5_at52 : (((List ((Int × (List Int)) × ByteArray)) × Bool × Unit) × Int × Int × Unit) → Option (((List ((Int × (List Int)) × ByteArray)) × Bool × Unit) × Int × Unit) := fun ((v0_0, v0_1, _), v1, v93, _) =>
 if (((0 : Int) ≤ v1) ∧ (v1 < (((List.length v0_0) : Nat) : Int))) then
  Option.bind (impl_Stabilise ((List.getD v0_0 (0 + (Int.toNat v1)) (((0 : Int), []), (⟨Array.empty⟩ : ByteArray))).1.1, (List.getD v0_0 (0 + (Int.toNat v1)) (((0 : Int), []), (⟨Array.empty⟩ : ByteArray))).1.2)) fun ((r0, r1), r2) =>
   bif r2 then
    if (((ByteArray.size (⟨#[(40 : UInt8)]⟩ : ByteArray)) + (ByteArray.size (List.getD v0_0 (0 + (Int.toNat v1)) (((0 : Int), []), (⟨Array.empty⟩ : ByteArray))).2)) ≤ 9223372036854775807) then
     if (((ByteArray.size ((⟨#[(40 : UInt8)]⟩ : ByteArray) ++ (List.getD v0_0 (0 + (Int.toNat v1)) (((0 : Int), []), (⟨Array.empty⟩ : ByteArray))).2)) + (ByteArray.size (⟨#[(41 : UInt8), (35 : UInt8)]⟩ : ByteArray))) ≤ 9223372036854775807) then
      Option.bind (impl_ElementsOf_at5_at52_at31 (((List.take (List.length v0_0) (List.drop 0 v0_0)), v0_1, ()), (r0, (List.take (List.length r1) (List.drop 0 r1)), ()), (((⟨#[(40 : UInt8)]⟩ : ByteArray) ++ (List.getD v0_0 (0 + (Int.toNat v1)) (((0 : Int), []), (⟨Array.empty⟩ : ByteArray))).2) ++ (⟨#[(41 : UInt8), (35 : UInt8)]⟩ : ByteArray)), v1, ((List.getD v0_0 (0 + (Int.toNat v1)) (((0 : Int), []), (⟨Array.empty⟩ : ByteArray))).1.1, (List.getD v0_0 (0 + (Int.toNat v1)) (((0 : Int), []), (⟨Array.empty⟩ : ByteArray))).1.2, (List.getD v0_0 (0 + (Int.toNat v1)) (((0 : Int), []), (⟨Array.empty⟩ : ByteArray))).2, ()), v93, ())) fun ((r3, r4, _), r5, (r6, r7, r8, _), r9, _) =>
       Option.bind (loopF impl_ElementsOf_at5_at52_l5 (((List.take (List.length r3) (List.drop 0 r3)), r4, ()), r5, (r6, r7, r8, ()), (0 : Int), r9, ())) fun ((r10, r11, _), r12, _) =>
        some (((List.take (List.length r10) (List.drop 0 r10)), r11, ()), r12, ())
     else
      none
    else
     none
   else
    Option.bind (loopF impl_ElementsOf_at5_at52_l5 (((List.take (List.length v0_0) (List.drop 0 v0_0)), v0_1, ()), v1, ((List.getD v0_0 (0 + (Int.toNat v1)) (((0 : Int), []), (⟨Array.empty⟩ : ByteArray))).1.1, (List.getD v0_0 (0 + (Int.toNat v1)) (((0 : Int), []), (⟨Array.empty⟩ : ByteArray))).1.2, (List.getD v0_0 (0 + (Int.toNat v1)) (((0 : Int), []), (⟨Array.empty⟩ : ByteArray))).2, ()), (0 : Int), v93, ())) fun ((r13, r14, _), r15, _) =>
     some (((List.take (List.length r13) (List.drop 0 r13)), r14, ()), r15, ())
 else
  none
theorem impl_ElementsOf_at5_at52_eq : inlStep f59.ntmps 62 52 E23_at5_at52 L23_at5_at52_1 f59.results.toList (codeOf f59) shi23_at5_at52 sho23_at5_at52 = impl_ElementsOf_at5_at52 := by kernel_rfl
noncomputable def I23_at5_at52 : CallD := ⟨f59.ntmps, shi23_at5_at52, 62, sho23_at5_at52, impl_ElementsOf_at5_at52, 0⟩
theorem I23_at5_at52_ok : InlOk prog 52 59 I23_at5_at52 := inlOk_of (tysOk_of tyl_ok) E23_at5_at52_ok (L := L23_at5_at52_1) func59 (by kernel_rfl) (c := codeOf f59) (by kernel_rfl) (codeOk_in (L := L23_at5_at52_1) (tysOk_of tyl_ok) E23_at5_at52_ok mixed (c := codeOf f59) (bs := [loopOf f59 5]) (by kernel_rfl) (allCons (loop23_at5_at52_5 rfl) allNil) (by kernel_rfl)) (by kernel_rfl) (by kernel_rfl) impl_ElementsOf_at5_at52_eq
noncomputable def E23_at5 : Env := ⟨ty0, fun g => ifEq g 28 (some A28) (ifEq g 20 (some A20) (ifEq g 91 (some A91) (ifEq g 92 (some A92) (ifEq g 21 (some A21) (ifEq g 61 (some A61) (none)))))), fun _ => none, fun _ => none, fun d => ifI (Nat.beq d 32) (some (60, I23_at5_at32)) (ifI (Nat.beq d 52) (some (59, I23_at5_at52)) (none))⟩
theorem E23_at5_ok : FnsOk prog E23_at5 := (oneIl (d0 := 32) (g0 := 60) I23_at5_at32_ok (oneIl (d0 := 52) (g0 := 59) I23_at5_at52_ok (oF A28_ok func28 (oF A20_ok func20 (oF A91_ok func91 (oF A92_ok func92 (oF A21_ok func21 (oF A61_ok func61 (noFns _ _)))))))))
noncomputable def L23_at5_0 : Nat → Option LoopD := fun _ => none
def sh23_at5_5 : List Fm := d :: .fnv 59 :: .box 100200 [.val (.int .i64), .val (.sl (.int .i64)), .val (.sl (.int .i64)), .val (.sl (.pair (.int .i64) (.pair .str (.pair (.int .i64) (.int .i64)))))] :: d :: d :: d :: .box 100600 [.own (.pair (.pair (.int .i64) (.sl (.int .i64))) .str) 100601 false, .val .bool] :: D 10 (.cell (.own .str 101700 false) :: .cell (.val (.int .i64)) :: .cell (.val (.int .i64)) :: D 50 [])
def xs23_at5_5 : List (Ex × List Fm) := [(.exit 0, [d, .fnv 59, d, d, d, d, .box 100600 [.own (.pair (.pair (.int .i64) (.sl (.int .i64))) .str) 100601 false, .val .bool], d, d, d, d, d, d, d, d, d, d, d, d, d, d, d, d, d, d, d, d, d, d, d, d, d, d, d, d, d, d, d, d, d, d, d, d, d, d, d, d, d, d, d, d, d, d, d, d, d, d, d, d, d, d, d, d, d, d, d, d, d, d, d])]
noncomputable def impl_ElementsOf_at5_l5 : ((Int × (List Int) × (List Int) × (List (Int × (ByteArray × (Int × Int)))) × Unit) × ((List ((Int × (List Int)) × ByteArray)) × Bool × Unit) × (List ByteArray) × Int × Int × Unit) → Option (((Int × (List Int) × (List Int) × (List (Int × (ByteArray × (Int × Int)))) × Unit) × ((List ((Int × (List Int)) × ByteArray)) × Bool × Unit) × (List ByteArray) × Int × Int × Unit) ⊕ ((((List ((Int × (List Int)) × ByteArray)) × Bool × Unit) × Unit))) := fun ((v2_0, v2_1, v2_2, v2_3, _), (v6_0, v6_1, _), v17, v18, v19, _) =>
 bif (decide (v19 < v18)) then
  if (((0 : Int) ≤ v19) ∧ (v19 < (((List.length v17) : Nat) : Int))) then
   Option.bind (impl_ValueOf (v2_0, v2_1, v2_2, v2_3) (List.getD v17 (0 + (Int.toNat v19)) (⟨Array.empty⟩ : ByteArray))) fun ((r0, r1), r2) =>
    Option.bind (impl_ElementsOf_at5_at32 (((List.take (List.length v6_0) (List.drop 0 v6_0)), v6_1, ()), (r0, (List.take (List.length r1) (List.drop 0 r1)), ()), (List.getD v17 (0 + (Int.toNat v19)) (⟨Array.empty⟩ : ByteArray)), (v2_0, v2_1, v2_2, v2_3, ()), (List.take (List.length v17) (List.drop 0 v17)), v18, v19, ())) fun ((r3, r4, r5, r6, _), (r7, r8, _), r9, r10, r11, _) =>
     some (Sum.inl ((r3, r4, r5, r6, ()), ((List.take (List.length r7) (List.drop 0 r7)), r8, ()), (List.take (List.length r9) (List.drop 0 r9)), r10, (IntKind.wrap .i64 (r11 + (1 : Int))), ()))
  else
   none
 else
  some (Sum.inr (((List.take (List.length v6_0) (List.drop 0 v6_0)), v6_1, ()), ()))
theorem impl_ElementsOf_at5_l5_eq : loopStep 62 E23_at5 L23_at5_0 (loopOf f58 5) sh23_at5_5 xs23_at5_5 = impl_ElementsOf_at5_l5 := by kernel_rfl
theorem loop23_at5_5 {L} (h : L 5 = some ⟨62, sh23_at5_5, xs23_at5_5, impl_ElementsOf_at5_l5⟩) : LoopOk prog L (loopOf f58 5) := lo impl_ElementsOf_at5_l5_eq E23_at5_ok allNil h
noncomputable def L23_at5_1 : Nat → Option LoopD := fun n => ifEq n 5 (some ⟨62, sh23_at5_5, xs23_at5_5, impl_ElementsOf_at5_l5⟩) (L23_at5_0 n)
def sh23_at5_11 : List Fm := d :: .fnv 59 :: D 4 (.box 100600 [.own (.pair (.pair (.int .i64) (.sl (.int .i64))) .str) 100601 false, .val .bool] :: D 4 (.cell (.val (.int .i64)) :: D 58 []))
def xs23_at5_11 : List (Ex × List Fm) := [(.exit 2, [d, d, d, d, d, d, .box 100600 [.own (.pair (.pair (.int .i64) (.sl (.int .i64))) .str) 100601 false, .val .bool], d, d, d, d, d, d, d, d, d, d, d, d, d, d, d, d, d, d, d, d, d, d, d, d, d, d, d, d, d, d, d, d, d, d, d, d, d, d, d, d, d, d, d, d, d, d, d, d, d, d, d, d, d, d, d, d, d, d, d, d, d, d, d])]
noncomputable def impl_ElementsOf_at5_l11 : (((List ((Int × (List Int)) × ByteArray)) × Bool × Unit) × Int × Unit) → Option ((((List ((Int × (List Int)) × ByteArray)) × Bool × Unit) × Int × Unit) ⊕ ((((List ((Int × (List Int)) × ByteArray)) × Bool × Unit) × Unit))) := fun ((v6_0, v6_1, _), v11, _) =>
 bif (decide (v11 < (((List.length v6_0) : Nat) : Int))) then
  bif v6_1 then
   Option.bind (impl_ElementsOf_at5_at52 (((List.take (List.length v6_0) (List.drop 0 v6_0)), v6_1, ()), v11, v11, ())) fun ((r0, r1, _), r2, _) =>
    some (Sum.inl (((List.take (List.length r0) (List.drop 0 r0)), r1, ()), (IntKind.wrap .i64 (r2 + (1 : Int))), ()))
  else
   some (Sum.inr (((List.take (List.length v6_0) (List.drop 0 v6_0)), v6_1, ()), ()))
 else
  some (Sum.inr (((List.take (List.length v6_0) (List.drop 0 v6_0)), v6_1, ()), ()))
theorem impl_ElementsOf_at5_l11_eq : loopStep 62 E23_at5 L23_at5_1 (loopOf f58 11) sh23_at5_11 xs23_at5_11 = impl_ElementsOf_at5_l11 := by kernel_rfl
theorem loop23_at5_11 {L} (h : L 11 = some ⟨62, sh23_at5_11, xs23_at5_11, impl_ElementsOf_at5_l11⟩) : LoopOk prog L (loopOf f58 11) := lo impl_ElementsOf_at5_l11_eq E23_at5_ok allNil h
noncomputable def L23_at5_2 : Nat → Option LoopD := fun n => ifEq n 11 (some ⟨62, sh23_at5_11, xs23_at5_11, impl_ElementsOf_at5_l11⟩) (L23_at5_1 n)
def shi23_at5 : List Fm := .cell (.val (.pair (.int .i64) (.pair (.sl (.int .i64)) (.pair (.sl (.int .i64)) (.sl (.pair (.int .i64) (.pair .str (.pair (.int .i64) (.int .i64))))))))) :: .fnv 59 :: D 68 []
def sho23_at5 : List Fm := D 5 (.tup [.own (.pair (.pair (.int .i64) (.sl (.int .i64))) .str) 100501 false, .val .bool] :: d :: d :: [])
noncomputable def impl_ElementsOf_at5 : ((Int × ((List Int) × ((List Int) × (List (Int × (ByteArray × (Int × Int))))))) × Unit) → Option (((List ((Int × (List Int)) × ByteArray)) × Bool × Unit) × Unit) := fun ((v0_0, v0_1, v0_2, v0_3), _) =>
 Option.bind (impl_AutomatonValid (v0_0, v0_1, v0_2, v0_3)) fun r0 =>
  bif (!r0) then
   some (([], false, ()), ())
  else
   Option.bind (loopF impl_ElementsOf_at5_l5 ((v0_0, v0_1, v0_2, v0_3, ()), ([], true, ()), (List.take 2 (List.drop 0 [(⟨#[(97 : UInt8)]⟩ : ByteArray), (⟨#[(98 : UInt8)]⟩ : ByteArray)])), ((2 : Nat) : Int), (0 : Int), ())) fun ((r1, r2, _), _) =>
    Option.bind (loopF impl_ElementsOf_at5_l11 (((List.take (List.length r1) (List.drop 0 r1)), r2, ()), (0 : Int), ())) fun ((r3, r4, _), _) =>
     bif (!r4) then
      some (([], false, ()), ())
     else
      some (((List.take (List.length r3) (List.drop 0 r3)), true, ()), ())
theorem impl_ElementsOf_at5_eq : inlStep f58.ntmps 8 5 E23_at5 L23_at5_2 f58.results.toList (codeOf f58) shi23_at5 sho23_at5 = impl_ElementsOf_at5 := by kernel_rfl
noncomputable def I23_at5 : CallD := ⟨f58.ntmps, shi23_at5, 8, sho23_at5, impl_ElementsOf_at5, 0⟩
theorem I23_at5_ok : InlOk prog 5 58 I23_at5 := inlOk_of (tysOk_of tyl_ok) E23_at5_ok (L := L23_at5_2) func58 (by kernel_rfl) (c := codeOf f58) (by kernel_rfl) (codeOk_in (L := L23_at5_2) (tysOk_of tyl_ok) E23_at5_ok mixed (c := codeOf f58) (bs := [loopOf f58 5, loopOf f58 11]) (by kernel_rfl) (allCons (loop23_at5_5 rfl) (allCons (loop23_at5_11 rfl) allNil)) (by kernel_rfl)) (by kernel_rfl) (by kernel_rfl) impl_ElementsOf_at5_eq
noncomputable def E23 : Env := ⟨ty0, fun g => ifEq g 28 (some A28) (ifEq g 20 (some A20) (ifEq g 91 (some A91) (ifEq g 92 (some A92) (ifEq g 21 (some A21) (ifEq g 61 (some A61) (none)))))), fun _ => none, fun _ => none, fun d => ifI (Nat.beq d 5) (some (58, I23_at5)) (none)⟩
theorem E23_ok : FnsOk prog E23 := (oneIl (d0 := 5) (g0 := 58) I23_at5_ok (oF A28_ok func28 (oF A20_ok func20 (oF A91_ok func91 (oF A92_ok func92 (oF A21_ok func21 (oF A61_ok func61 (noFns _ _))))))))
noncomputable def L23_0 : Nat → Option LoopD := fun _ => none
noncomputable def impl_ElementsOf : (Int × ((List Int) × ((List Int) × (List (Int × (ByteArray × (Int × Int))))))) → Option ((List ((Int × (List Int)) × ByteArray)) × Bool) := fun (a0_0, a0_1, a0_2, a0_3) =>
 Option.bind (impl_ElementsOf_at5 ((a0_0, a0_1, a0_2, a0_3), ())) fun ((r0, r1, _), _) =>
  some ((List.take (List.length r0) (List.drop 0 r0)), r1)
noncomputable def A23 : FnA := ⟨[.v (.pair (.int .i64) (.pair (.sl (.int .i64)) (.pair (.sl (.int .i64)) (.sl (.pair (.int .i64) (.pair .str (.pair (.int .i64) (.int .i64))))))))], true, [.sl (.pair (.pair (.int .i64) (.sl (.int .i64))) .str), .bool], fun x => impl_ElementsOf x.1⟩
theorem impl_ElementsOf_eq : fnF E23 L23_0 [.v (.pair (.int .i64) (.pair (.sl (.int .i64)) (.pair (.sl (.int .i64)) (.sl (.pair (.int .i64) (.pair .str (.pair (.int .i64) (.int .i64))))))))] true [.sl (.pair (.pair (.int .i64) (.sl (.int .i64))) .str), .bool] f23.ntmps f23.results.toList (codeOf f23) = fun x => impl_ElementsOf x.1 := by kernel_rfl
theorem A23_ok : FnOk prog 23 A23 := fo impl_ElementsOf_eq func23 E23_ok allNil
/-! impl.GradeBetween -/
noncomputable def E40 : Env := ⟨ty0, fun g => ifEq g 28 (some A28) (ifEq g 78 (some A78) (ifEq g 57 (some A57) (none))), fun _ => none, fun _ => none, fun _ => none⟩
theorem E40_ok : FnsOk prog E40 := (oF A28_ok func28 (oF A78_ok func78 (oF A57_ok func57 (noFns _ _))))
noncomputable def L40_0 : Nat → Option LoopD := fun _ => none
def sh40_8 : List Fm := d :: d :: .box 100200 [.val (.int .i64), .val (.sl (.int .i64)), .val (.sl (.int .i64)), .val (.sl (.pair (.int .i64) (.pair .str (.pair (.int .i64) (.int .i64)))))] :: .box 100300 [.val (.int .i64), .val (.sl (.int .i64))] :: d :: .cell (.val (.int .i64)) :: d :: .cell (.val (.int .i64)) :: D 18 (.cell (.val (.sl (.int .i64))) :: .cell (.val (.int .i64)) :: .cell (.val (.int .i64)) :: D 4 (.cell (.val (.sl (.int .i64))) :: .cell (.val (.int .i64)) :: .cell (.val (.int .i64)) :: D 12 []))
def xs40_8 : List (Ex × List Fm) := [(.exit 2, [d, d, .box 100200 [.val (.int .i64), .val (.sl (.int .i64)), .val (.sl (.int .i64)), .val (.sl (.pair (.int .i64) (.pair .str (.pair (.int .i64) (.int .i64)))))], .box 100300 [.val (.int .i64), .val (.sl (.int .i64))], d, .cell (.val (.int .i64)), d, d, d, d, d, d, d, d, d, d, d, d, d, d, d, d, d, d, d, d, .cell (.val (.sl (.int .i64))), .cell (.val (.int .i64)), .cell (.val (.int .i64)), d, d, d, d, d, d, d, d, d, d, d, d, d, d, d, d, d, d, d])]
noncomputable def impl_GradeBetween_l8 : ((Int × (List Int) × (List Int) × (List (Int × (ByteArray × (Int × Int)))) × Unit) × (Int × (List Int) × Unit) × Int × Int × (List Int) × Int × Int × (List Int) × Int × Int × Unit) → Option (((Int × (List Int) × (List Int) × (List (Int × (ByteArray × (Int × Int)))) × Unit) × (Int × (List Int) × Unit) × Int × Int × (List Int) × Int × Int × (List Int) × Int × Int × Unit) ⊕ (((Int × (List Int) × (List Int) × (List (Int × (ByteArray × (Int × Int)))) × Unit) × (Int × (List Int) × Unit) × Int × (List Int) × Int × Int × Unit))) := fun ((v2_0, v2_1, v2_2, v2_3, _), (v3_0, v3_1, _), v5, v7, v26, v27, v28, v33, v34, v35, _) =>
 bif (decide (v35 < v34)) then
  if (((0 : Int) ≤ v35) ∧ (v35 < (((List.length v33) : Nat) : Int))) then
   Option.bind (impl_Matrix_at (v3_0, v3_1) v7 (List.getD v33 (Int.toNat v35) (0 : Int))) fun r0 =>
    some (Sum.inl ((v2_0, v2_1, v2_2, v2_3, ()), (v3_0, v3_1, ()), (if (r0 < v5) then r0 else v5), v7, v26, v27, v28, v33, v34, (IntKind.wrap .i64 (v35 + (1 : Int))), ()))
  else
   none
 else
  some (Sum.inr ((v2_0, v2_1, v2_2, v2_3, ()), (v3_0, v3_1, ()), v5, v26, v27, v28, ()))
theorem impl_GradeBetween_l8_eq : loopStep 48 E40 L40_0 (loopOf f40 8) sh40_8 xs40_8 = impl_GradeBetween_l8 := by kernel_rfl
theorem loop40_8 {L} (h : L 8 = some ⟨48, sh40_8, xs40_8, impl_GradeBetween_l8⟩) : LoopOk prog L (loopOf f40 8) := lo impl_GradeBetween_l8_eq E40_ok allNil h
noncomputable def L40_1 : Nat → Option LoopD := fun n => ifEq n 8 (some ⟨48, sh40_8, xs40_8, impl_GradeBetween_l8⟩) (L40_0 n)
def sh40_5 : List Fm := d :: d :: .box 100200 [.val (.int .i64), .val (.sl (.int .i64)), .val (.sl (.int .i64)), .val (.sl (.pair (.int .i64) (.pair .str (.pair (.int .i64) (.int .i64)))))] :: .box 100300 [.val (.int .i64), .val (.sl (.int .i64))] :: d :: .cell (.val (.int .i64)) :: D 20 (.cell (.val (.sl (.int .i64))) :: .cell (.val (.int .i64)) :: .cell (.val (.int .i64)) :: D 19 [])
def xs40_5 : List (Ex × List Fm) := [(.exit 0, (D 5 (.cell (.val (.int .i64)) :: D 42 [])))]
noncomputable def impl_GradeBetween_l5 : ((Int × (List Int) × (List Int) × (List (Int × (ByteArray × (Int × Int)))) × Unit) × (Int × (List Int) × Unit) × Int × (List Int) × Int × Int × Unit) → Option (((Int × (List Int) × (List Int) × (List (Int × (ByteArray × (Int × Int)))) × Unit) × (Int × (List Int) × Unit) × Int × (List Int) × Int × Int × Unit) ⊕ ((Int × Unit))) := fun ((v2_0, v2_1, v2_2, v2_3, _), (v3_0, v3_1, _), v5, v26, v27, v28, _) =>
 bif (decide (v28 < v27)) then
  if (((0 : Int) ≤ v28) ∧ (v28 < (((List.length v26) : Nat) : Int))) then
   Option.bind (loopF impl_GradeBetween_l8 ((v2_0, v2_1, v2_2, v2_3, ()), (v3_0, v3_1, ()), v5, (List.getD v26 (Int.toNat v28) (0 : Int)), v26, v27, v28, v2_2, (((List.length v2_2) : Nat) : Int), (0 : Int), ())) fun ((r0, r1, r2, r3, _), (r4, r5, _), r6, r7, r8, r9, _) =>
    some (Sum.inl ((r0, r1, r2, r3, ()), (r4, r5, ()), r6, r7, r8, (IntKind.wrap .i64 (r9 + (1 : Int))), ()))
  else
   none
 else
  some (Sum.inr (v5, ()))
theorem impl_GradeBetween_l5_eq : loopStep 48 E40 L40_1 (loopOf f40 5) sh40_5 xs40_5 = impl_GradeBetween_l5 := by kernel_rfl
theorem loop40_5 {L} (h : L 5 = some ⟨48, sh40_5, xs40_5, impl_GradeBetween_l5⟩) : LoopOk prog L (loopOf f40 5) := lo impl_GradeBetween_l5_eq E40_ok (allCons (loop40_8 rfl) allNil) h
noncomputable def L40_2 : Nat → Option LoopD := fun n => ifEq n 5 (some ⟨48, sh40_5, xs40_5, impl_GradeBetween_l5⟩) (L40_1 n)
noncomputable def impl_GradeBetween : (Int × ((List Int) × ((List Int) × (List (Int × (ByteArray × (Int × Int))))))) → (Int × (List Int)) → Option (Int) := fun (a0_0, a0_1, a0_2, a0_3) (a1_0, a1_1) =>
 Option.bind (impl_AutomatonValid (a0_0, a0_1, a0_2, a0_3)) fun r0 =>
  bif (!r0) then
   some (-1 : Int)
  else
   Option.bind (impl_GradesValid (a1_0, a1_1)) fun r1 =>
    bif (!r1) then
     some (-1 : Int)
    else
     bif (a1_0 != a0_0) then
      some (-1 : Int)
     else
      Option.bind (loopF impl_GradeBetween_l5 ((a0_0, a0_1, a0_2, a0_3, ()), (a1_0, a1_1, ()), (3 : Int), a0_1, (((List.length a0_1) : Nat) : Int), (0 : Int), ())) fun (r2, _) =>
       some r2
noncomputable def A40 : FnA := ⟨[.v (.pair (.int .i64) (.pair (.sl (.int .i64)) (.pair (.sl (.int .i64)) (.sl (.pair (.int .i64) (.pair .str (.pair (.int .i64) (.int .i64)))))))), .v (.pair (.int .i64) (.sl (.int .i64)))], true, [.int .i64], fun x => impl_GradeBetween x.1 x.2.1⟩
theorem impl_GradeBetween_eq : fnF E40 L40_2 [.v (.pair (.int .i64) (.pair (.sl (.int .i64)) (.pair (.sl (.int .i64)) (.sl (.pair (.int .i64) (.pair .str (.pair (.int .i64) (.int .i64)))))))), .v (.pair (.int .i64) (.sl (.int .i64)))] true [.int .i64] f40.ntmps f40.results.toList (codeOf f40) = fun x => impl_GradeBetween x.1 x.2.1 := by kernel_rfl
theorem A40_ok : FnOk prog 40 A40 := fo impl_GradeBetween_eq func40 E40_ok (allCons (loop40_5 rfl) allNil)
/-! impl.GradesIn -/
def shi10_at34 : List Fm := .cell (.own (.int .i64) 100000 false) :: D 96 []
def sho10_at34 : List Fm := D 34 (.cell (.own (.int .i64) 103400 false) :: d :: [])
def shr10_at34 : List Fm := D 96 []
noncomputable def impl_GradesIn_at34 : ((List Int) × Unit) → Option ((List Int) × Unit) := fun (v0, _) =>
 Option.bind (compI v0) fun (r0, r1) =>
  some ((List.take r1 (List.drop 0 r0)), ())
theorem impl_GradesIn_at34_eq : turnStep 61 36 34 100000 (.int .i64) shr10_at34 sho10_at34 compI = impl_GradesIn_at34 := by kernel_rfl
noncomputable def I10_at34 : CallD := ⟨61, shi10_at34, 36, sho10_at34, impl_GradesIn_at34, 1⟩
theorem I10_at34_ok : InlOk prog 34 43 I10_at34 := compI_turned (rest := shr10_at34) (by kernel_rfl) (by kernel_rfl) impl_GradesIn_at34_eq
noncomputable def E10_at35 : Env := ⟨ty0, fun g => ifEq g 23 (some A23) (ifEq g 40 (some A40) (none)), fun g => ifEq g 41 (some A41) (none), fun _ => none, fun _ => none⟩
theorem E10_at35_ok : FnsOk prog E10_at35 := (oF A23_ok func23 (oF A40_ok func40 (oneMs A41_ok (by kernel_rfl) func41 (by kernel_rfl) (by kernel_rfl) (noFns _ _))))
noncomputable def L10_at35_0 : Nat → Option LoopD := fun _ => none
def shi10_at35 : List Fm := .cell (.own (.int .i64) 100000 false) :: D 44 []
def sho10_at35 : List Fm := D 35 (.cell (.own (.int .i64) 103500 false) :: [])
noncomputable def impl_GradesIn_at35 : ((List Int) × Unit) → Option ((List Int) × Unit) := fun (v0, _) =>
 if (((0 : Int) ≤ (((List.length v0) : Nat) : Int)) ∧ (((((List.length v0) : Nat) : Int) ≤ (((List.length v0) : Nat) : Int)) ∧ ((((List.length v0) : Nat) : Int) = (((List.length v0) : Nat) : Int)))) then
  some ((List.take (Int.toNat (((List.length v0) : Nat) : Int)) (List.drop 0 v0)), ())
 else
  none
theorem impl_GradesIn_at35_eq : inlStep f42.ntmps 36 35 E10_at35 L10_at35_0 f42.results.toList (codeOf f42) shi10_at35 sho10_at35 = impl_GradesIn_at35 := by kernel_rfl
noncomputable def I10_at35 : CallD := ⟨f42.ntmps, shi10_at35, 36, sho10_at35, impl_GradesIn_at35, 0⟩
theorem I10_at35_ok : InlOk prog 35 42 I10_at35 := inlOk_of (tysOk_of tyl_ok) E10_at35_ok (L := L10_at35_0) func42 (by kernel_rfl) (c := codeOf f42) (by kernel_rfl) (codeOk_in (L := L10_at35_0) (tysOk_of tyl_ok) E10_at35_ok mixed (c := codeOf f42) (bs := []) (by kernel_rfl) allNil (by kernel_rfl)) (by kernel_rfl) (by kernel_rfl) impl_GradesIn_at35_eq
noncomputable def E10 : Env := ⟨ty0, fun g => ifEq g 23 (some A23) (ifEq g 40 (some A40) (none)), fun g => ifEq g 41 (some A41) (none), fun _ => none, fun d => ifI (Nat.beq d 34) (some (43, I10_at34)) (ifI (Nat.beq d 35) (some (42, I10_at35)) (none))⟩
theorem E10_ok : FnsOk prog E10 := (oneIl (d0 := 34) (g0 := 43) I10_at34_ok (oneIl (d0 := 35) (g0 := 42) I10_at35_ok (oF A23_ok func23 (oF A40_ok func40 (oneMs A41_ok (by kernel_rfl) func41 (by kernel_rfl) (by kernel_rfl) (noFns _ _))))))
noncomputable def L10_0 : Nat → Option LoopD := fun _ => none
def sh10_6 : List Fm := d :: .box 100100 [.val (.int .i64), .val (.sl (.int .i64)), .val (.sl (.int .i64)), .val (.sl (.pair (.int .i64) (.pair .str (.pair (.int .i64) (.int .i64)))))] :: D 4 (.cell (.own (.int .i64) 100600 false) :: D 10 (.cell (.own (.pair (.pair (.int .i64) (.sl (.int .i64))) .str) 101700 false) :: .cell (.val (.int .i64)) :: .cell (.val (.int .i64)) :: D 16 []))
def xs10_6 : List (Ex × List Fm) := [(.exit 0, (D 6 (.cell (.own (.int .i64) 100600 false) :: D 29 [])))]
noncomputable def impl_GradesIn_l6 : ((Int × (List Int) × (List Int) × (List (Int × (ByteArray × (Int × Int)))) × Unit) × (List Int) × (List ((Int × (List Int)) × ByteArray)) × Int × Int × Unit) → Option (((Int × (List Int) × (List Int) × (List (Int × (ByteArray × (Int × Int)))) × Unit) × (List Int) × (List ((Int × (List Int)) × ByteArray)) × Int × Int × Unit) ⊕ (((List Int) × Unit))) := fun ((v1_0, v1_1, v1_2, v1_3, _), v6, v17, v18, v19, _) =>
 bif (decide (v19 < v18)) then
  if (((0 : Int) ≤ v19) ∧ (v19 < (((List.length v17) : Nat) : Int))) then
   Option.bind (impl_GradeBetween (v1_0, v1_1, v1_2, v1_3) ((List.getD v17 (0 + (Int.toNat v19)) (((0 : Int), []), (⟨Array.empty⟩ : ByteArray))).1.1, (List.getD v17 (0 + (Int.toNat v19)) (((0 : Int), []), (⟨Array.empty⟩ : ByteArray))).1.2)) fun r0 =>
    if (((0 + (List.length v6)) = (List.length v6)) ∧ ((((List.length v6) + (List.length (List.take 1 (List.drop 0 [r0])))) * 8) ≤ 140737488355328)) then
     some (Sum.inl ((v1_0, v1_1, v1_2, v1_3, ()), (List.take ((List.length v6) + (List.length (List.take 1 (List.drop 0 [r0])))) (List.drop 0 ((List.drop 0 v6) ++ (List.take 1 (List.drop 0 [r0]))))), (List.take (List.length v17) (List.drop 0 v17)), v18, (IntKind.wrap .i64 (v19 + (1 : Int))), ()))
    else
     none
  else
   none
 else
  some (Sum.inr ((List.take (List.length v6) (List.drop 0 v6)), ()))
theorem impl_GradesIn_l6_eq : loopStep 36 E10 L10_0 (loopOf f10 6) sh10_6 xs10_6 = impl_GradesIn_l6 := by kernel_rfl
theorem loop10_6 {L} (h : L 6 = some ⟨36, sh10_6, xs10_6, impl_GradesIn_l6⟩) : LoopOk prog L (loopOf f10 6) := lo impl_GradesIn_l6_eq E10_ok allNil h
noncomputable def L10_1 : Nat → Option LoopD := fun n => ifEq n 6 (some ⟨36, sh10_6, xs10_6, impl_GradesIn_l6⟩) (L10_0 n)
noncomputable def impl_GradesIn : (Int × ((List Int) × ((List Int) × (List (Int × (ByteArray × (Int × Int))))))) → Option ((List Int) × Bool) := fun (a0_0, a0_1, a0_2, a0_3) =>
 Option.bind (impl_ElementsOf (a0_0, a0_1, a0_2, a0_3)) fun (r0, r1) =>
  bif (!r1) then
   some ([], false)
  else
   Option.bind (loopF impl_GradesIn_l6 ((a0_0, a0_1, a0_2, a0_3, ()), (List.take 0 (List.drop 0 [])), (List.take (List.length r0) (List.drop 0 r0)), (((List.length r0) : Nat) : Int), (0 : Int), ())) fun (r2, _) =>
    if ((List.length r2) = (List.length r2)) then
     Option.bind (slices_Sort r2) fun (_, r3, _) =>
      Option.bind (impl_GradesIn_at34 ((List.take (List.length r2) (List.drop 0 r3)), ())) fun (r4, _) =>
       Option.bind (impl_GradesIn_at35 ((List.take (List.length r4) (List.drop 0 r4)), ())) fun (r5, _) =>
        some ((List.take (List.length r5) (List.drop 0 r5)), true)
    else
     none
noncomputable def A10 : FnA := ⟨[.v (.pair (.int .i64) (.pair (.sl (.int .i64)) (.pair (.sl (.int .i64)) (.sl (.pair (.int .i64) (.pair .str (.pair (.int .i64) (.int .i64))))))))], true, [.sl (.int .i64), .bool], fun x => impl_GradesIn x.1⟩
theorem impl_GradesIn_eq : fnF E10 L10_1 [.v (.pair (.int .i64) (.pair (.sl (.int .i64)) (.pair (.sl (.int .i64)) (.sl (.pair (.int .i64) (.pair .str (.pair (.int .i64) (.int .i64))))))))] true [.sl (.int .i64), .bool] f10.ntmps f10.results.toList (codeOf f10) = fun x => impl_GradesIn x.1 := by kernel_rfl
theorem A10_ok : FnOk prog 10 A10 := fo impl_GradesIn_eq func10 E10_ok (allCons (loop10_6 rfl) allNil)
/-! slices.Index[[]int,int] -/
noncomputable def E98 : Env := ⟨ty0, fun _ => none, fun _ => none, fun _ => none, fun _ => none⟩
theorem E98_ok : FnsOk prog E98 := (noFns _ _)
noncomputable def L98_0 : Nat → Option LoopD := fun _ => none
def sh98_2 : List Fm := .cell (.val (.sl (.int .i64))) :: .cell (.val (.int .i64)) :: D 5 (.cell (.val (.int .i64)) :: .cell (.val (.int .i64)) :: D 10 [])
def xs98_2 : List (Ex × List Fm) := [(.ret, (D 4 (.cell (.val (.int .i64)) :: D 14 []))), (.exit 0, (D 19 []))]
noncomputable def slices_Index_l2 : ((List Int) × Int × Int × Int × Unit) → Option (((List Int) × Int × Int × Int × Unit) ⊕ ((Int × Unit) ⊕ (Unit))) := fun (v0, v1, v7, v8, _) =>
 bif (decide (v8 < v7)) then
  if (((0 : Int) ≤ v8) ∧ (v8 < (((List.length v0) : Nat) : Int))) then
   bif (v1 == (List.getD v0 (Int.toNat v8) (0 : Int))) then
    some (Sum.inr (Sum.inl (v8, ())))
   else
    some (Sum.inl (v0, v1, v7, (IntKind.wrap .i64 (v8 + (1 : Int))), ()))
  else
   none
 else
  some (Sum.inr (Sum.inr ()))
theorem slices_Index_l2_eq : loopStep 19 E98 L98_0 (loopOf f98 2) sh98_2 xs98_2 = slices_Index_l2 := by kernel_rfl
theorem loop98_2 {L} (h : L 2 = some ⟨19, sh98_2, xs98_2, slices_Index_l2⟩) : LoopOk prog L (loopOf f98 2) := lo slices_Index_l2_eq E98_ok allNil h
noncomputable def L98_1 : Nat → Option LoopD := fun n => ifEq n 2 (some ⟨19, sh98_2, xs98_2, slices_Index_l2⟩) (L98_0 n)
noncomputable def slices_Index : (List Int) → Int → Option (Int) := fun a0 a1 =>
 Option.bind (loopF slices_Index_l2 (a0, a1, (((List.length a0) : Nat) : Int), (0 : Int), ())) fun r0 =>
  (match r0 with
  | .inl (d1, _) =>
    some d1
  | .inr _ =>
    some (-1 : Int))
noncomputable def A98 : FnA := ⟨[.v (.sl (.int .i64)), .v (.int .i64)], true, [.int .i64], fun x => slices_Index x.1 x.2.1⟩
theorem slices_Index_eq : fnF E98 L98_1 [.v (.sl (.int .i64)), .v (.int .i64)] true [.int .i64] f98.ntmps f98.results.toList (codeOf f98) = fun x => slices_Index x.1 x.2.1 := by kernel_rfl
theorem A98_ok : FnOk prog 98 A98 := fo slices_Index_eq func98 E98_ok (allCons (loop98_2 rfl) allNil)
/-! slices.Contains[[]int,int] -/
noncomputable def E65 : Env := ⟨ty0, fun g => ifEq g 98 (some A98) (none), fun _ => none, fun _ => none, fun _ => none⟩
theorem E65_ok : FnsOk prog E65 := (oF A98_ok func98 (noFns _ _))
noncomputable def L65_0 : Nat → Option LoopD := fun _ => none
noncomputable def slices_Contains : (List Int) → Int → Option (Bool) := fun a0 a1 =>
 Option.bind (slices_Index a0 a1) fun r0 =>
  some (decide (r0 ≥ (0 : Int)))
noncomputable def A65 : FnA := ⟨[.v (.sl (.int .i64)), .v (.int .i64)], true, [.bool], fun x => slices_Contains x.1 x.2.1⟩
theorem slices_Contains_eq : fnF E65 L65_0 [.v (.sl (.int .i64)), .v (.int .i64)] true [.bool] f65.ntmps f65.results.toList (codeOf f65) = fun x => slices_Contains x.1 x.2.1 := by kernel_rfl
theorem A65_ok : FnOk prog 65 A65 := fo slices_Contains_eq func65 E65_ok allNil
/-! impl.WordValid -/
noncomputable def E70 : Env := ⟨ty0, fun _ => none, fun _ => none, fun _ => none, fun _ => none⟩
theorem E70_ok : FnsOk prog E70 := (noFns _ _)
noncomputable def L70_0 : Nat → Option LoopD := fun _ => none
def sh70_2 : List Fm := .cell (.val .str) :: D 4 (.cell (.val (.int .i64)) :: .cell (.val (.int .i64)) :: D 16 [])
def xs70_2 : List (Ex × List Fm) := [(.ret, (d :: d :: .cell (.val .bool) :: D 20 [])), (.exit 0, (.cell (.val .str) :: D 22 []))]
noncomputable def impl_WordValid_l2 : (ByteArray × Int × Int × Unit) → Option ((ByteArray × Int × Int × Unit) ⊕ ((Bool × Unit) ⊕ (ByteArray × Unit))) := fun (v0, v5, v6, _) =>
 bif (decide (v6 < v5)) then
  if (((0 : Int) ≤ v6) ∧ (v6 < (((ByteArray.size v0) : Nat) : Int))) then
   bif ((((UInt8.toNat (Array.getD (ByteArray.data v0) (Int.toNat v6) (0 : UInt8))) : Nat) : Int) != (97 : Int)) then
    if (((0 : Int) ≤ v6) ∧ (v6 < (((ByteArray.size v0) : Nat) : Int))) then
     bif ((((UInt8.toNat (Array.getD (ByteArray.data v0) (Int.toNat v6) (0 : UInt8))) : Nat) : Int) != (98 : Int)) then
      some (Sum.inr (Sum.inl (false, ())))
     else
      some (Sum.inl (v0, v5, (IntKind.wrap .i64 (v6 + (1 : Int))), ()))
    else
     none
   else
    some (Sum.inl (v0, v5, (IntKind.wrap .i64 (v6 + (1 : Int))), ()))
  else
   none
 else
  some (Sum.inr (Sum.inr (v0, ())))
theorem impl_WordValid_l2_eq : loopStep 23 E70 L70_0 (loopOf f70 2) sh70_2 xs70_2 = impl_WordValid_l2 := by kernel_rfl
theorem loop70_2 {L} (h : L 2 = some ⟨23, sh70_2, xs70_2, impl_WordValid_l2⟩) : LoopOk prog L (loopOf f70 2) := lo impl_WordValid_l2_eq E70_ok allNil h
noncomputable def L70_1 : Nat → Option LoopD := fun n => ifEq n 2 (some ⟨23, sh70_2, xs70_2, impl_WordValid_l2⟩) (L70_0 n)
noncomputable def impl_WordValid : ByteArray → Option (Bool) := fun a0 =>
 Option.bind (loopF impl_WordValid_l2 (a0, (((ByteArray.size a0) : Nat) : Int), (0 : Int), ())) fun r0 =>
  (match r0 with
  | .inl (d1, _) =>
    some d1
  | .inr (d2, _) =>
    some (decide ((((ByteArray.size d2) : Nat) : Int) ≤ (1000 : Int))))
noncomputable def A70 : FnA := ⟨[.v .str], true, [.bool], fun x => impl_WordValid x.1⟩
theorem impl_WordValid_eq : fnF E70 L70_1 [.v .str] true [.bool] f70.ntmps f70.results.toList (codeOf f70) = fun x => impl_WordValid x.1 := by kernel_rfl
theorem A70_ok : FnOk prog 70 A70 := fo impl_WordValid_eq func70 E70_ok (allCons (loop70_2 rfl) allNil)
/-! math/bits.Mul64 -/
noncomputable def E147 : Env := ⟨ty0, fun _ => none, fun _ => none, fun _ => none, fun _ => none⟩
theorem E147_ok : FnsOk prog E147 := (noFns _ _)
noncomputable def L147_0 : Nat → Option LoopD := fun _ => none
noncomputable def bits_Mul64 : Int → Int → Option (Int × Int) := fun a0 a1 =>
 if ((32 : Int) < (0 : Int)) then
  none
 else
  if ((32 : Int) < (0 : Int)) then
   none
  else
   if ((32 : Int) < (0 : Int)) then
    none
   else
    if ((32 : Int) < (0 : Int)) then
     none
    else
     if ((32 : Int) < (0 : Int)) then
      none
     else
      some ((IntKind.wrap .u64 ((IntKind.wrap .u64 ((IntKind.wrap .u64 ((Int.fdiv a0 ((2 : Int) ^ (Min.min (Int.toNat (32 : Int)) (IntKind.bits .u64)))) * (Int.fdiv a1 ((2 : Int) ^ (Min.min (Int.toNat (32 : Int)) (IntKind.bits .u64)))))) + (Int.fdiv (IntKind.wrap .u64 ((IntKind.wrap .u64 ((Int.fdiv a0 ((2 : Int) ^ (Min.min (Int.toNat (32 : Int)) (IntKind.bits .u64)))) * ((((BitVec.toNat ((BitVec.ofInt (IntKind.bits .u64) a1) &&& (BitVec.ofInt (IntKind.bits .u64) (4294967295 : Int)))) % (Int.natAbs ((2 : Int) ^ (IntKind.bits .u64)))) : Nat) : Int))) + (Int.fdiv (IntKind.wrap .u64 (((((BitVec.toNat ((BitVec.ofInt (IntKind.bits .u64) a0) &&& (BitVec.ofInt (IntKind.bits .u64) (4294967295 : Int)))) % (Int.natAbs ((2 : Int) ^ (IntKind.bits .u64)))) : Nat) : Int) * ((((BitVec.toNat ((BitVec.ofInt (IntKind.bits .u64) a1) &&& (BitVec.ofInt (IntKind.bits .u64) (4294967295 : Int)))) % (Int.natAbs ((2 : Int) ^ (IntKind.bits .u64)))) : Nat) : Int))) ((2 : Int) ^ (Min.min (Int.toNat (32 : Int)) (IntKind.bits .u64)))))) ((2 : Int) ^ (Min.min (Int.toNat (32 : Int)) (IntKind.bits .u64)))))) + (Int.fdiv (IntKind.wrap .u64 (((((BitVec.toNat ((BitVec.ofInt (IntKind.bits .u64) (IntKind.wrap .u64 ((IntKind.wrap .u64 ((Int.fdiv a0 ((2 : Int) ^ (Min.min (Int.toNat (32 : Int)) (IntKind.bits .u64)))) * ((((BitVec.toNat ((BitVec.ofInt (IntKind.bits .u64) a1) &&& (BitVec.ofInt (IntKind.bits .u64) (4294967295 : Int)))) % (Int.natAbs ((2 : Int) ^ (IntKind.bits .u64)))) : Nat) : Int))) + (Int.fdiv (IntKind.wrap .u64 (((((BitVec.toNat ((BitVec.ofInt (IntKind.bits .u64) a0) &&& (BitVec.ofInt (IntKind.bits .u64) (4294967295 : Int)))) % (Int.natAbs ((2 : Int) ^ (IntKind.bits .u64)))) : Nat) : Int) * ((((BitVec.toNat ((BitVec.ofInt (IntKind.bits .u64) a1) &&& (BitVec.ofInt (IntKind.bits .u64) (4294967295 : Int)))) % (Int.natAbs ((2 : Int) ^ (IntKind.bits .u64)))) : Nat) : Int))) ((2 : Int) ^ (Min.min (Int.toNat (32 : Int)) (IntKind.bits .u64))))))) &&& (BitVec.ofInt (IntKind.bits .u64) (4294967295 : Int)))) % (Int.natAbs ((2 : Int) ^ (IntKind.bits .u64)))) : Nat) : Int) + (IntKind.wrap .u64 (((((BitVec.toNat ((BitVec.ofInt (IntKind.bits .u64) a0) &&& (BitVec.ofInt (IntKind.bits .u64) (4294967295 : Int)))) % (Int.natAbs ((2 : Int) ^ (IntKind.bits .u64)))) : Nat) : Int) * (Int.fdiv a1 ((2 : Int) ^ (Min.min (Int.toNat (32 : Int)) (IntKind.bits .u64)))))))) ((2 : Int) ^ (Min.min (Int.toNat (32 : Int)) (IntKind.bits .u64)))))), (IntKind.wrap .u64 (a0 * a1)))
noncomputable def A147 : FnA := ⟨[.v (.int .u64), .v (.int .u64)], true, [.int .u64, .int .u64], fun x => bits_Mul64 x.1 x.2.1⟩
theorem bits_Mul64_eq : fnF E147 L147_0 [.v (.int .u64), .v (.int .u64)] true [.int .u64, .int .u64] f147.ntmps f147.results.toList (codeOf f147) = fun x => bits_Mul64 x.1 x.2.1 := by kernel_rfl
theorem A147_ok : FnOk prog 147 A147 := fo bits_Mul64_eq func147 E147_ok allNil
/-! math/bits.Mul -/
noncomputable def E130 : Env := ⟨ty0, fun g => ifEq g 147 (some A147) (none), fun _ => none, fun _ => none, fun _ => none⟩
theorem E130_ok : FnsOk prog E130 := (oF A147_ok func147 (noFns _ _))
noncomputable def L130_0 : Nat → Option LoopD := fun _ => none
noncomputable def bits_Mul : Int → Int → Option (Int × Int) := fun a0 a1 =>
 Option.bind (bits_Mul64 a0 a1) fun (r0, r1) =>
  some (r0, r1)
noncomputable def A130 : FnA := ⟨[.v (.int .u64), .v (.int .u64)], true, [.int .u64, .int .u64], fun x => bits_Mul x.1 x.2.1⟩
theorem bits_Mul_eq : fnF E130 L130_0 [.v (.int .u64), .v (.int .u64)] true [.int .u64, .int .u64] f130.ntmps f130.results.toList (codeOf f130) = fun x => bits_Mul x.1 x.2.1 := by kernel_rfl
theorem A130_ok : FnOk prog 130 A130 := fo bits_Mul_eq func130 E130_ok allNil
/-! slices.Repeat[[]int,int] -/
noncomputable def E102 : Env := ⟨ty0, fun g => ifEq g 130 (some A130) (none), fun _ => none, fun _ => none, fun _ => none⟩
theorem E102_ok : FnsOk prog E102 := (oF A130_ok func130 (noFns _ _))
noncomputable def L102_0 : Nat → Option LoopD := fun _ => none
def sh102_8 : List Fm := D 7 (.cell (.own (.int .i64) 100700 false) :: .cell (.val (.int .i64)) :: D 39 [])
def xs102_8 : List (Ex × List Fm) := [(.exit 0, (D 7 (.cell (.own (.int .i64) 100700 false) :: D 40 [])))]
noncomputable def slices_Repeat_l8 : ((List Int) × Int × Unit) → Option (((List Int) × Int × Unit) ⊕ (((List Int) × Unit))) := fun (v7, v8, _) =>
 bif (decide (v8 < (((List.length v7) : Nat) : Int))) then
  if (((0 : Int) ≤ v8) ∧ (v8 ≤ (((List.length v7) : Nat) : Int))) then
   if (((0 : Int) ≤ v8) ∧ (v8 ≤ (((List.length v7) : Nat) : Int))) then
    some (Sum.inl ((List.take (List.length v7) (List.drop 0 ((List.take (0 + (Int.toNat v8)) v7) ++ ((List.take ((List.length v7) - (Int.toNat v8)) (List.take ((Int.toNat v8) - 0) (List.drop (0 + 0) v7))) ++ (List.drop ((0 + (Int.toNat v8)) + (List.length (List.take ((List.length v7) - (Int.toNat v8)) (List.take ((Int.toNat v8) - 0) (List.drop (0 + 0) v7))))) v7))))), (IntKind.wrap .i64 (v8 + (((List.length (List.take ((List.length v7) - (Int.toNat v8)) (List.take ((Int.toNat v8) - 0) (List.drop (0 + 0) v7)))) : Nat) : Int))), ()))
   else
    none
  else
   none
 else
  some (Sum.inr ((List.take (List.length v7) (List.drop 0 v7)), ()))
theorem slices_Repeat_l8_eq : loopStep 48 E102 L102_0 (loopOf f102 8) sh102_8 xs102_8 = slices_Repeat_l8 := by kernel_rfl
theorem loop102_8 {L} (h : L 8 = some ⟨48, sh102_8, xs102_8, slices_Repeat_l8⟩) : LoopOk prog L (loopOf f102 8) := lo slices_Repeat_l8_eq E102_ok allNil h
noncomputable def L102_1 : Nat → Option LoopD := fun n => ifEq n 8 (some ⟨48, sh102_8, xs102_8, slices_Repeat_l8⟩) (L102_0 n)
noncomputable def slices_Repeat : (List Int) → Int → Option ((List Int)) := fun a0 a1 =>
 bif (decide (a1 < (0 : Int))) then
  none
 else
  Option.bind (bits_Mul (IntKind.wrap .u64 (((List.length a0) : Nat) : Int)) (IntKind.wrap .u64 a1)) fun (r0, r1) =>
   bif (decide (r0 > (0 : Int))) then
    none
   else
    bif (decide (r1 > (9223372036854775807 : Int))) then
     none
    else
     if (((0 : Int) ≤ (IntKind.wrap .i64 r1)) ∧ (((IntKind.wrap .i64 r1) = (IntKind.wrap .i64 r1)) ∧ (((IntKind.wrap .i64 r1) * ((8 : Nat) : Int)) ≤ (140737488355328 : Int)))) then
      Option.bind (loopF slices_Repeat_l8 ((List.take (Int.toNat (IntKind.wrap .i64 r1)) (List.drop 0 ((List.take 0 (List.replicate (Int.toNat (IntKind.wrap .i64 r1)) (0 : Int))) ++ ((List.take (Int.toNat (IntKind.wrap .i64 r1)) a0) ++ (List.drop (0 + (List.length (List.take (Int.toNat (IntKind.wrap .i64 r1)) a0))) (List.replicate (Int.toNat (IntKind.wrap .i64 r1)) (0 : Int))))))), (((List.length (List.take (Int.toNat (IntKind.wrap .i64 r1)) a0)) : Nat) : Int), ())) fun (r2, _) =>
       some (List.take (List.length r2) (List.drop 0 r2))
     else
      none
noncomputable def A102 : FnA := ⟨[.v (.sl (.int .i64)), .v (.int .i64)], true, [.sl (.int .i64)], fun x => slices_Repeat x.1 x.2.1⟩
theorem slices_Repeat_eq : fnF E102 L102_1 [.v (.sl (.int .i64)), .v (.int .i64)] true [.sl (.int .i64)] f102.ntmps f102.results.toList (codeOf f102) = fun x => slices_Repeat x.1 x.2.1 := by kernel_rfl
theorem A102_ok : FnOk prog 102 A102 := fo slices_Repeat_eq func102 E102_ok (allCons (loop102_8 rfl) allNil)
/-! impl.toEnd -/
noncomputable def E71 : Env := ⟨ty0, fun g => ifEq g 102 (some A102) (none), fun _ => none, fun _ => none, fun _ => none⟩
theorem E71_ok : FnsOk prog E71 := (oF A102_ok func102 (noFns _ _))
noncomputable def L71_0 : Nat → Option LoopD := fun _ => none
def sh71_3 : List Fm := d :: .cell (.val .str) :: .box 100200 [.val (.int .i64), .val (.sl (.int .i64)), .val (.sl (.int .i64)), .val (.sl (.pair (.int .i64) (.pair .str (.pair (.int .i64) (.int .i64)))))] :: d :: d :: .cell (.own (.int .i64) 100500 false) :: D 12 (.cell (.val (.sl (.int .i64))) :: .cell (.val (.int .i64)) :: .cell (.val (.int .i64)) :: D 60 [])
def xs71_3 : List (Ex × List Fm) := [(.exit 0, [d, .cell (.val .str), .box 100200 [.val (.int .i64), .val (.sl (.int .i64)), .val (.sl (.int .i64)), .val (.sl (.pair (.int .i64) (.pair .str (.pair (.int .i64) (.int .i64)))))], d, d, .cell (.own (.int .i64) 100500 false), d, d, d, d, d, d, d, d, d, d, d, d, d, d, d, d, d, d, d, d, d, d, d, d, d, d, d, d, d, d, d, d, d, d, d, d, d, d, d, d, d, d, d, d, d, d, d, d, d, d, d, d, d, d, d, d, d, d, d, d, d, d, d, d, d, d, d, d, d, d, d, d, d, d, d])]
noncomputable def impl_toEnd_l3 : (ByteArray × (Int × (List Int) × (List Int) × (List (Int × (ByteArray × (Int × Int)))) × Unit) × (List Int) × (List Int) × Int × Int × Unit) → Option ((ByteArray × (Int × (List Int) × (List Int) × (List (Int × (ByteArray × (Int × Int)))) × Unit) × (List Int) × (List Int) × Int × Int × Unit) ⊕ ((ByteArray × (Int × (List Int) × (List Int) × (List (Int × (ByteArray × (Int × Int)))) × Unit) × (List Int) × Unit))) := fun (v1, (v2_0, v2_1, v2_2, v2_3, _), v5, v18, v19, v20, _) =>
 bif (decide (v20 < v19)) then
  if (((0 : Int) ≤ v20) ∧ (v20 < (((List.length v18) : Nat) : Int))) then
   if (((0 : Int) ≤ (List.getD v18 (Int.toNat v20) (0 : Int))) ∧ ((List.getD v18 (Int.toNat v20) (0 : Int)) < (((List.length v5) : Nat) : Int))) then
    some (Sum.inl (v1, (v2_0, v2_1, v2_2, v2_3, ()), (List.take (List.length v5) (List.drop 0 (List.set v5 (0 + (Int.toNat (List.getD v18 (Int.toNat v20) (0 : Int)))) (0 : Int)))), v18, v19, (IntKind.wrap .i64 (v20 + (1 : Int))), ()))
   else
    none
  else
   none
 else
  some (Sum.inr (v1, (v2_0, v2_1, v2_2, v2_3, ()), (List.take (List.length v5) (List.drop 0 v5)), ()))
theorem impl_toEnd_l3_eq : loopStep 81 E71 L71_0 (loopOf f71 3) sh71_3 xs71_3 = impl_toEnd_l3 := by kernel_rfl
theorem loop71_3 {L} (h : L 3 = some ⟨81, sh71_3, xs71_3, impl_toEnd_l3⟩) : LoopOk prog L (loopOf f71 3) := lo impl_toEnd_l3_eq E71_ok allNil h
noncomputable def L71_1 : Nat → Option LoopD := fun n => ifEq n 3 (some ⟨81, sh71_3, xs71_3, impl_toEnd_l3⟩) (L71_0 n)
def sh71_13 : List Fm := d :: .cell (.val .str) :: .box 100200 [.val (.int .i64), .val (.sl (.int .i64)), .val (.sl (.int .i64)), .val (.sl (.pair (.int .i64) (.pair .str (.pair (.int .i64) (.int .i64)))))] :: d :: d :: .cell (.val (.sl (.int .i64))) :: d :: d :: .cell (.own (.sl (.int .i64)) 100800 false) :: .cell (.val (.int .i64)) :: .cell (.own (.int .i64) 101000 false) :: D 31 (.cell (.val (.sl (.pair (.int .i64) (.pair .str (.pair (.int .i64) (.int .i64)))))) :: .cell (.val (.int .i64)) :: .cell (.val (.int .i64)) :: D 36 [])
def xs71_13 : List (Ex × List Fm) := [(.exit 4, [d, .cell (.val .str), .box 100200 [.val (.int .i64), .val (.sl (.int .i64)), .val (.sl (.int .i64)), .val (.sl (.pair (.int .i64) (.pair .str (.pair (.int .i64) (.int .i64)))))], d, d, d, d, d, .cell (.own (.sl (.int .i64)) 100800 false), .cell (.val (.int .i64)), .cell (.own (.int .i64) 101000 false), d, d, d, d, d, d, d, d, d, d, d, d, d, d, d, d, d, d, d, d, d, d, d, d, d, d, d, d, d, d, d, d, d, d, d, d, d, d, d, d, d, d, d, d, d, d, d, d, d, d, d, d, d, d, d, d, d, d, d, d, d, d, d, d, d, d, d, d, d, d])]
noncomputable def impl_toEnd_l13 : (ByteArray × (Int × (List Int) × (List Int) × (List (Int × (ByteArray × (Int × Int)))) × Unit) × (List Int) × (List (List Int)) × Int × (List Int) × (List (Int × (ByteArray × (Int × Int)))) × Int × Int × Unit) → Option ((ByteArray × (Int × (List Int) × (List Int) × (List (Int × (ByteArray × (Int × Int)))) × Unit) × (List Int) × (List (List Int)) × Int × (List Int) × (List (Int × (ByteArray × (Int × Int)))) × Int × Int × Unit) ⊕ ((ByteArray × (Int × (List Int) × (List Int) × (List (Int × (ByteArray × (Int × Int)))) × Unit) × (List (List Int)) × Int × (List Int) × Unit))) := fun (v1, (v2_0, v2_1, v2_2, v2_3, _), v5, v8, v9, v10, v42, v43, v44, _) =>
 bif (decide (v44 < v43)) then
  if (((0 : Int) ≤ v44) ∧ (v44 < (((List.length v42) : Nat) : Int))) then
   if (((0 : Int) ≤ v9) ∧ ((v9 ≤ (IntKind.wrap .i64 (v9 + (1 : Int)))) ∧ ((IntKind.wrap .i64 (v9 + (1 : Int))) ≤ (((ByteArray.size v1) : Nat) : Int)))) then
    bif ((ByteArray.toList (List.getD v42 (Int.toNat v44) ((0 : Int), (⟨Array.empty⟩ : ByteArray), (0 : Int), (0 : Int))).2.1) == (ByteArray.toList (ByteArray.extract v1 (Int.toNat v9) (Int.toNat (IntKind.wrap .i64 (v9 + (1 : Int))))))) then
     if (((0 : Int) ≤ (List.getD v42 (Int.toNat v44) ((0 : Int), (⟨Array.empty⟩ : ByteArray), (0 : Int), (0 : Int))).1) ∧ ((List.getD v42 (Int.toNat v44) ((0 : Int), (⟨Array.empty⟩ : ByteArray), (0 : Int), (0 : Int))).1 < (((List.length v10) : Nat) : Int))) then
      if (((0 : Int) ≤ (List.getD v42 (Int.toNat v44) ((0 : Int), (⟨Array.empty⟩ : ByteArray), (0 : Int), (0 : Int))).2.2.1) ∧ ((List.getD v42 (Int.toNat v44) ((0 : Int), (⟨Array.empty⟩ : ByteArray), (0 : Int), (0 : Int))).2.2.1 < (((List.length v5) : Nat) : Int))) then
       if (((0 : Int) ≤ (List.getD v42 (Int.toNat v44) ((0 : Int), (⟨Array.empty⟩ : ByteArray), (0 : Int), (0 : Int))).1) ∧ ((List.getD v42 (Int.toNat v44) ((0 : Int), (⟨Array.empty⟩ : ByteArray), (0 : Int), (0 : Int))).1 < (((List.length v10) : Nat) : Int))) then
        some (Sum.inl (v1, (v2_0, v2_1, v2_2, v2_3, ()), v5, (List.take (List.length v8) (List.drop 0 v8)), v9, (List.take (List.length v10) (List.drop 0 (List.set v10 (0 + (Int.toNat (List.getD v42 (Int.toNat v44) ((0 : Int), (⟨Array.empty⟩ : ByteArray), (0 : Int), (0 : Int))).1)) (if ((IntKind.wrap .i64 ((List.getD v42 (Int.toNat v44) ((0 : Int), (⟨Array.empty⟩ : ByteArray), (0 : Int), (0 : Int))).2.2.2 + (List.getD v5 (Int.toNat (List.getD v42 (Int.toNat v44) ((0 : Int), (⟨Array.empty⟩ : ByteArray), (0 : Int), (0 : Int))).2.2.1) (0 : Int)))) < (List.getD v10 (0 + (Int.toNat (List.getD v42 (Int.toNat v44) ((0 : Int), (⟨Array.empty⟩ : ByteArray), (0 : Int), (0 : Int))).1)) (0 : Int))) then (IntKind.wrap .i64 ((List.getD v42 (Int.toNat v44) ((0 : Int), (⟨Array.empty⟩ : ByteArray), (0 : Int), (0 : Int))).2.2.2 + (List.getD v5 (Int.toNat (List.getD v42 (Int.toNat v44) ((0 : Int), (⟨Array.empty⟩ : ByteArray), (0 : Int), (0 : Int))).2.2.1) (0 : Int)))) else (List.getD v10 (0 + (Int.toNat (List.getD v42 (Int.toNat v44) ((0 : Int), (⟨Array.empty⟩ : ByteArray), (0 : Int), (0 : Int))).1)) (0 : Int)))))), v42, v43, (IntKind.wrap .i64 (v44 + (1 : Int))), ()))
       else
        none
      else
       none
     else
      none
    else
     some (Sum.inl (v1, (v2_0, v2_1, v2_2, v2_3, ()), v5, (List.take (List.length v8) (List.drop 0 v8)), v9, (List.take (List.length v10) (List.drop 0 v10)), v42, v43, (IntKind.wrap .i64 (v44 + (1 : Int))), ()))
   else
    none
  else
   none
 else
  some (Sum.inr (v1, (v2_0, v2_1, v2_2, v2_3, ()), (List.take (List.length v8) (List.drop 0 v8)), v9, (List.take (List.length v10) (List.drop 0 v10)), ()))
theorem impl_toEnd_l13_eq : loopStep 81 E71 L71_1 (loopOf f71 13) sh71_13 xs71_13 = impl_toEnd_l13 := by kernel_rfl
theorem loop71_13 {L} (h : L 13 = some ⟨81, sh71_13, xs71_13, impl_toEnd_l13⟩) : LoopOk prog L (loopOf f71 13) := lo impl_toEnd_l13_eq E71_ok allNil h
noncomputable def L71_2 : Nat → Option LoopD := fun n => ifEq n 13 (some ⟨81, sh71_13, xs71_13, impl_toEnd_l13⟩) (L71_1 n)
def sh71_9 : List Fm := d :: .cell (.val .str) :: .box 100200 [.val (.int .i64), .val (.sl (.int .i64)), .val (.sl (.int .i64)), .val (.sl (.pair (.int .i64) (.pair .str (.pair (.int .i64) (.int .i64)))))] :: d :: d :: .cell (.val (.sl (.int .i64))) :: d :: d :: .cell (.own (.sl (.int .i64)) 100800 false) :: .cell (.val (.int .i64)) :: D 71 []
def xs71_9 : List (Ex × List Fm) := [(.exit 2, (D 8 (.cell (.own (.sl (.int .i64)) 100800 false) :: D 72 [])))]
noncomputable def impl_toEnd_l9 : (ByteArray × (Int × (List Int) × (List Int) × (List (Int × (ByteArray × (Int × Int)))) × Unit) × (List Int) × (List (List Int)) × Int × Unit) → Option ((ByteArray × (Int × (List Int) × (List Int) × (List (Int × (ByteArray × (Int × Int)))) × Unit) × (List Int) × (List (List Int)) × Int × Unit) ⊕ (((List (List Int)) × Unit))) := fun (v1, (v2_0, v2_1, v2_2, v2_3, _), v5, v8, v9, _) =>
 bif (decide (v9 ≥ (0 : Int))) then
  Option.bind (slices_Repeat (List.take 1 (List.drop 0 [(1000000 : Int)])) v2_0) fun r0 =>
   Option.bind (loopF impl_toEnd_l13 (v1, (v2_0, v2_1, v2_2, v2_3, ()), v5, (List.take (List.length v8) (List.drop 0 v8)), v9, (List.take (List.length r0) (List.drop 0 r0)), v2_3, (((List.length v2_3) : Nat) : Int), (0 : Int), ())) fun (r1, (r2, r3, r4, r5, _), r6, r7, r8, _) =>
    if (((0 + (List.length r6)) = (List.length r6)) ∧ ((((List.length r6) + (List.length (List.take 1 (List.drop 0 [(List.take (List.length r8) (List.drop 0 r8))])))) * 24) ≤ 140737488355328)) then
     some (Sum.inl (r1, (r2, r3, r4, r5, ()), (List.take (List.length r8) (List.drop 0 r8)), (List.take ((List.length r6) + (List.length (List.take 1 (List.drop 0 [(List.take (List.length r8) (List.drop 0 r8))])))) (List.drop 0 ((List.drop 0 r6) ++ (List.take 1 (List.drop 0 [(List.take (List.length r8) (List.drop 0 r8))]))))), (IntKind.wrap .i64 (r7 - (1 : Int))), ()))
    else
     none
 else
  some (Sum.inr ((List.take (List.length v8) (List.drop 0 v8)), ()))
theorem impl_toEnd_l9_eq : loopStep 81 E71 L71_2 (loopOf f71 9) sh71_9 xs71_9 = impl_toEnd_l9 := by kernel_rfl
theorem loop71_9 {L} (h : L 9 = some ⟨81, sh71_9, xs71_9, impl_toEnd_l9⟩) : LoopOk prog L (loopOf f71 9) := lo impl_toEnd_l9_eq E71_ok (allCons (loop71_13 rfl) allNil) h
noncomputable def L71_3 : Nat → Option LoopD := fun n => ifEq n 9 (some ⟨81, sh71_9, xs71_9, impl_toEnd_l9⟩) (L71_2 n)
noncomputable def impl_toEnd : (Int × ((List Int) × ((List Int) × (List (Int × (ByteArray × (Int × Int))))))) → ByteArray → Option ((List (List Int))) := fun (a0_0, a0_1, a0_2, a0_3) a1 =>
 Option.bind (slices_Repeat (List.take 1 (List.drop 0 [(1000000 : Int)])) a0_0) fun r0 =>
  Option.bind (loopF impl_toEnd_l3 (a1, (a0_0, a0_1, a0_2, a0_3, ()), (List.take (List.length r0) (List.drop 0 r0)), a0_2, (((List.length a0_2) : Nat) : Int), (0 : Int), ())) fun (r1, (r2, r3, r4, r5, _), r6, _) =>
   Option.bind (loopF impl_toEnd_l9 (r1, (r2, r3, r4, r5, ()), (List.take (List.length r6) (List.drop 0 r6)), (List.take 1 (List.drop 0 [(List.take (List.length r6) (List.drop 0 r6))])), (IntKind.wrap .i64 ((((ByteArray.size r1) : Nat) : Int) - (1 : Int))), ())) fun (r7, _) =>
    some (List.take (List.length r7) (List.drop 0 r7))
noncomputable def A71 : FnA := ⟨[.v (.pair (.int .i64) (.pair (.sl (.int .i64)) (.pair (.sl (.int .i64)) (.sl (.pair (.int .i64) (.pair .str (.pair (.int .i64) (.int .i64)))))))), .v .str], true, [.sl (.sl (.int .i64))], fun x => impl_toEnd x.1 x.2.1⟩
theorem impl_toEnd_eq : fnF E71 L71_3 [.v (.pair (.int .i64) (.pair (.sl (.int .i64)) (.pair (.sl (.int .i64)) (.sl (.pair (.int .i64) (.pair .str (.pair (.int .i64) (.int .i64)))))))), .v .str] true [.sl (.sl (.int .i64))] f71.ntmps f71.results.toList (codeOf f71) = fun x => impl_toEnd x.1 x.2.1 := by kernel_rfl
theorem A71_ok : FnOk prog 71 A71 := fo impl_toEnd_eq func71 E71_ok (allCons (loop71_3 rfl) (allCons (loop71_9 rfl) allNil))
/-! impl.CostOf -/
noncomputable def E31 : Env := ⟨ty0, fun g => ifEq g 28 (some A28) (ifEq g 70 (some A70) (ifEq g 71 (some A71) (none))), fun _ => none, fun _ => none, fun _ => none⟩
theorem E31_ok : FnsOk prog E31 := (oF A28_ok func28 (oF A70_ok func70 (oF A71_ok func71 (noFns _ _))))
noncomputable def L31_0 : Nat → Option LoopD := fun _ => none
def sh31_6 : List Fm := d :: .cell (.val .str) :: d :: d :: d :: .cell (.own (.sl (.int .i64)) 100500 false) :: .cell (.val (.int .i64)) :: D 14 (.cell (.val (.sl (.int .i64))) :: .cell (.val (.int .i64)) :: .cell (.val (.int .i64)) :: D 15 [])
def xs31_6 : List (Ex × List Fm) := [(.exit 0, (D 6 (.cell (.val (.int .i64)) :: D 32 [])))]
noncomputable def impl_CostOf_l6 : (ByteArray × (List (List Int)) × Int × (List Int) × Int × Int × Unit) → Option ((ByteArray × (List (List Int)) × Int × (List Int) × Int × Int × Unit) ⊕ ((Int × Unit))) := fun (v1, v5, v6, v21, v22, v23, _) =>
 bif (decide (v23 < v22)) then
  if (((0 : Int) ≤ v23) ∧ (v23 < (((List.length v21) : Nat) : Int))) then
   if (((0 : Int) ≤ (((ByteArray.size v1) : Nat) : Int)) ∧ ((((ByteArray.size v1) : Nat) : Int) < (((List.length v5) : Nat) : Int))) then
    if (((0 : Int) ≤ (List.getD v21 (Int.toNat v23) (0 : Int))) ∧ ((List.getD v21 (Int.toNat v23) (0 : Int)) < (((List.length (List.getD v5 (0 + (Int.toNat (((ByteArray.size v1) : Nat) : Int))) [])) : Nat) : Int))) then
     some (Sum.inl (v1, (List.take (List.length v5) (List.drop 0 v5)), (if ((List.getD (List.getD v5 (0 + (Int.toNat (((ByteArray.size v1) : Nat) : Int))) []) (Int.toNat (List.getD v21 (Int.toNat v23) (0 : Int))) (0 : Int)) < v6) then (List.getD (List.getD v5 (0 + (Int.toNat (((ByteArray.size v1) : Nat) : Int))) []) (Int.toNat (List.getD v21 (Int.toNat v23) (0 : Int))) (0 : Int)) else v6), v21, v22, (IntKind.wrap .i64 (v23 + (1 : Int))), ()))
    else
     none
   else
    none
  else
   none
 else
  some (Sum.inr (v6, ()))
theorem impl_CostOf_l6_eq : loopStep 39 E31 L31_0 (loopOf f31 6) sh31_6 xs31_6 = impl_CostOf_l6 := by kernel_rfl
theorem loop31_6 {L} (h : L 6 = some ⟨39, sh31_6, xs31_6, impl_CostOf_l6⟩) : LoopOk prog L (loopOf f31 6) := lo impl_CostOf_l6_eq E31_ok allNil h
noncomputable def L31_1 : Nat → Option LoopD := fun n => ifEq n 6 (some ⟨39, sh31_6, xs31_6, impl_CostOf_l6⟩) (L31_0 n)
noncomputable def impl_CostOf : (Int × ((List Int) × ((List Int) × (List (Int × (ByteArray × (Int × Int))))))) → ByteArray → Option (Int) := fun (a0_0, a0_1, a0_2, a0_3) a1 =>
 Option.bind (impl_AutomatonValid (a0_0, a0_1, a0_2, a0_3)) fun r0 =>
  bif (!r0) then
   some (-1 : Int)
  else
   Option.bind (impl_WordValid a1) fun r1 =>
    bif (!r1) then
     some (-1 : Int)
    else
     Option.bind (impl_toEnd (a0_0, a0_1, a0_2, a0_3) a1) fun r2 =>
      Option.bind (loopF impl_CostOf_l6 (a1, (List.take (List.length r2) (List.drop 0 r2)), (1000000 : Int), a0_1, (((List.length a0_1) : Nat) : Int), (0 : Int), ())) fun (r3, _) =>
       some r3
noncomputable def A31 : FnA := ⟨[.v (.pair (.int .i64) (.pair (.sl (.int .i64)) (.pair (.sl (.int .i64)) (.sl (.pair (.int .i64) (.pair .str (.pair (.int .i64) (.int .i64)))))))), .v .str], true, [.int .i64], fun x => impl_CostOf x.1 x.2.1⟩
theorem impl_CostOf_eq : fnF E31 L31_1 [.v (.pair (.int .i64) (.pair (.sl (.int .i64)) (.pair (.sl (.int .i64)) (.sl (.pair (.int .i64) (.pair .str (.pair (.int .i64) (.int .i64)))))))), .v .str] true [.int .i64] f31.ntmps f31.results.toList (codeOf f31) = fun x => impl_CostOf x.1 x.2.1 := by kernel_rfl
theorem A31_ok : FnOk prog 31 A31 := fo impl_CostOf_eq func31 E31_ok (allCons (loop31_6 rfl) allNil)
/-! impl.VerdictOf -/
noncomputable def E26 : Env := ⟨ty0, fun g => ifEq g 28 (some A28) (ifEq g 10 (some A10) (ifEq g 65 (some A65) (ifEq g 31 (some A31) (none)))), fun _ => none, fun _ => none, fun _ => none⟩
theorem E26_ok : FnsOk prog E26 := (oF A28_ok func28 (oF A10_ok func10 (oF A65_ok func65 (oF A31_ok func31 (noFns _ _)))))
noncomputable def L26_0 : Nat → Option LoopD := fun _ => none
noncomputable def impl_VerdictOf : (Int × ((List Int) × ((List Int) × (List (Int × (ByteArray × (Int × Int))))))) → Option (ByteArray) := fun (a0_0, a0_1, a0_2, a0_3) =>
 Option.bind (impl_AutomatonValid (a0_0, a0_1, a0_2, a0_3)) fun r0 =>
  bif (!r0) then
   some (⟨#[]⟩ : ByteArray)
  else
   Option.bind (impl_GradesIn (a0_0, a0_1, a0_2, a0_3)) fun (r1, r2) =>
    bif (!r2) then
     some (⟨#[(117 : UInt8), (110 : UInt8), (107 : UInt8), (110 : UInt8), (111 : UInt8), (119 : UInt8), (110 : UInt8)]⟩ : ByteArray)
    else
     Option.bind (slices_Contains (List.take (List.length r1) (List.drop 0 r1)) (2 : Int)) fun r3 =>
      bif r3 then
       some (⟨#[(103 : UInt8), (114 : UInt8), (111 : UInt8), (119 : UInt8), (105 : UInt8), (110 : UInt8), (103 : UInt8)]⟩ : ByteArray)
      else
       Option.bind (slices_Contains (List.take (List.length r1) (List.drop 0 r1)) (1 : Int)) fun r4 =>
        bif r4 then
         some (⟨#[(98 : UInt8), (111 : UInt8), (117 : UInt8), (110 : UInt8), (100 : UInt8), (101 : UInt8), (100 : UInt8)]⟩ : ByteArray)
        else
         Option.bind (slices_Contains (List.take (List.length r1) (List.drop 0 r1)) (0 : Int)) fun r5 =>
          bif r5 then
           some (⟨#[(102 : UInt8), (114 : UInt8), (101 : UInt8), (101 : UInt8)]⟩ : ByteArray)
          else
           Option.bind (impl_CostOf (a0_0, a0_1, a0_2, a0_3) (⟨#[]⟩ : ByteArray)) fun r6 =>
            bif (decide (r6 < (1000000 : Int))) then
             some (⟨#[(102 : UInt8), (114 : UInt8), (101 : UInt8), (101 : UInt8)]⟩ : ByteArray)
            else
             some (⟨#[(110 : UInt8), (111 : UInt8), (110 : UInt8), (101 : UInt8)]⟩ : ByteArray)
noncomputable def A26 : FnA := ⟨[.v (.pair (.int .i64) (.pair (.sl (.int .i64)) (.pair (.sl (.int .i64)) (.sl (.pair (.int .i64) (.pair .str (.pair (.int .i64) (.int .i64))))))))], true, [.str], fun x => impl_VerdictOf x.1⟩
theorem impl_VerdictOf_eq : fnF E26 L26_0 [.v (.pair (.int .i64) (.pair (.sl (.int .i64)) (.pair (.sl (.int .i64)) (.sl (.pair (.int .i64) (.pair .str (.pair (.int .i64) (.int .i64))))))))] true [.str] f26.ntmps f26.results.toList (codeOf f26) = fun x => impl_VerdictOf x.1 := by kernel_rfl
theorem A26_ok : FnOk prog 26 A26 := fo impl_VerdictOf_eq func26 E26_ok allNil
/-! laws.eqIntS -/
noncomputable def E11 : Env := ⟨ty0, fun _ => none, fun _ => none, fun _ => none, fun _ => none⟩
theorem E11_ok : FnsOk prog E11 := (noFns _ _)
noncomputable def L11_0 : Nat → Option LoopD := fun _ => none
def sh11_4 : List Fm := .cell (.val (.sl (.int .i64))) :: .cell (.val (.sl (.int .i64))) :: d :: d :: d :: .cell (.val (.int .i64)) :: D 20 []
def xs11_4 : List (Ex × List Fm) := [(.ret, (D 4 (.cell (.val .bool) :: D 21 []))), (.exit 0, (D 26 []))]
noncomputable def laws_eqIntS_l4 : ((List Int) × (List Int) × Int × Unit) → Option (((List Int) × (List Int) × Int × Unit) ⊕ ((Bool × Unit) ⊕ (Unit))) := fun (v0, v1, v5, _) =>
 bif (decide (v5 < (((List.length v0) : Nat) : Int))) then
  if (((0 : Int) ≤ v5) ∧ (v5 < (((List.length v0) : Nat) : Int))) then
   if (((0 : Int) ≤ v5) ∧ (v5 < (((List.length v1) : Nat) : Int))) then
    bif ((List.getD v0 (Int.toNat v5) (0 : Int)) != (List.getD v1 (Int.toNat v5) (0 : Int))) then
     some (Sum.inr (Sum.inl (false, ())))
    else
     some (Sum.inl (v0, v1, (IntKind.wrap .i64 (v5 + (1 : Int))), ()))
   else
    none
  else
   none
 else
  some (Sum.inr (Sum.inr ()))
theorem laws_eqIntS_l4_eq : loopStep 26 E11 L11_0 (loopOf f11 4) sh11_4 xs11_4 = laws_eqIntS_l4 := by kernel_rfl
theorem loop11_4 {L} (h : L 4 = some ⟨26, sh11_4, xs11_4, laws_eqIntS_l4⟩) : LoopOk prog L (loopOf f11 4) := lo laws_eqIntS_l4_eq E11_ok allNil h
noncomputable def L11_1 : Nat → Option LoopD := fun n => ifEq n 4 (some ⟨26, sh11_4, xs11_4, laws_eqIntS_l4⟩) (L11_0 n)
noncomputable def laws_eqIntS : (List Int) → (List Int) → Option (Bool) := fun a0 a1 =>
 bif ((((List.length a0) : Nat) : Int) != (((List.length a1) : Nat) : Int)) then
  some false
 else
  Option.bind (loopF laws_eqIntS_l4 (a0, a1, (0 : Int), ())) fun r0 =>
   (match r0 with
   | .inl (d1, _) =>
     some d1
   | .inr _ =>
     some true)
noncomputable def A11 : FnA := ⟨[.v (.sl (.int .i64)), .v (.sl (.int .i64))], true, [.bool], fun x => laws_eqIntS x.1 x.2.1⟩
theorem laws_eqIntS_eq : fnF E11 L11_1 [.v (.sl (.int .i64)), .v (.sl (.int .i64))] true [.bool] f11.ntmps f11.results.toList (codeOf f11) = fun x => laws_eqIntS x.1 x.2.1 := by kernel_rfl
theorem A11_ok : FnOk prog 11 A11 := fo laws_eqIntS_eq func11 E11_ok (allCons (loop11_4 rfl) allNil)
/-! laws.eqStep -/
noncomputable def E81 : Env := ⟨ty0, fun _ => none, fun _ => none, fun _ => none, fun _ => none⟩
theorem E81_ok : FnsOk prog E81 := (noFns _ _)
noncomputable def L81_0 : Nat → Option LoopD := fun _ => none
noncomputable def laws_eqStep : (Int × (ByteArray × (Int × Int))) → (Int × (ByteArray × (Int × Int))) → Option (Bool) := fun (a0_0, a0_1, a0_2, a0_3) (a1_0, a1_1, a1_2, a1_3) =>
 bif (a0_0 != a1_0) then
  some false
 else
  bif (!((ByteArray.toList a0_1) == (ByteArray.toList a1_1))) then
   some false
  else
   bif (a0_2 != a1_2) then
    some false
   else
    bif (a0_3 != a1_3) then
     some false
    else
     some true
noncomputable def A81 : FnA := ⟨[.v (.pair (.int .i64) (.pair .str (.pair (.int .i64) (.int .i64)))), .v (.pair (.int .i64) (.pair .str (.pair (.int .i64) (.int .i64))))], true, [.bool], fun x => laws_eqStep x.1 x.2.1⟩
theorem laws_eqStep_eq : fnF E81 L81_0 [.v (.pair (.int .i64) (.pair .str (.pair (.int .i64) (.int .i64)))), .v (.pair (.int .i64) (.pair .str (.pair (.int .i64) (.int .i64))))] true [.bool] f81.ntmps f81.results.toList (codeOf f81) = fun x => laws_eqStep x.1 x.2.1 := by kernel_rfl
theorem A81_ok : FnOk prog 81 A81 := fo laws_eqStep_eq func81 E81_ok allNil
/-! laws.eqStepS -/
noncomputable def E44 : Env := ⟨ty0, fun g => ifEq g 81 (some A81) (none), fun _ => none, fun _ => none, fun _ => none⟩
theorem E44_ok : FnsOk prog E44 := (oF A81_ok func81 (noFns _ _))
noncomputable def L44_0 : Nat → Option LoopD := fun _ => none
def sh44_4 : List Fm := .cell (.val (.sl (.pair (.int .i64) (.pair .str (.pair (.int .i64) (.int .i64)))))) :: .cell (.val (.sl (.pair (.int .i64) (.pair .str (.pair (.int .i64) (.int .i64)))))) :: d :: d :: d :: .cell (.val (.int .i64)) :: D 21 []
def xs44_4 : List (Ex × List Fm) := [(.ret, (D 4 (.cell (.val .bool) :: D 22 []))), (.exit 0, (D 27 []))]
noncomputable def laws_eqStepS_l4 : ((List (Int × (ByteArray × (Int × Int)))) × (List (Int × (ByteArray × (Int × Int)))) × Int × Unit) → Option (((List (Int × (ByteArray × (Int × Int)))) × (List (Int × (ByteArray × (Int × Int)))) × Int × Unit) ⊕ ((Bool × Unit) ⊕ (Unit))) := fun (v0, v1, v5, _) =>
 bif (decide (v5 < (((List.length v0) : Nat) : Int))) then
  if (((0 : Int) ≤ v5) ∧ (v5 < (((List.length v0) : Nat) : Int))) then
   if (((0 : Int) ≤ v5) ∧ (v5 < (((List.length v1) : Nat) : Int))) then
    Option.bind (laws_eqStep (List.getD v0 (Int.toNat v5) ((0 : Int), (⟨Array.empty⟩ : ByteArray), (0 : Int), (0 : Int))) (List.getD v1 (Int.toNat v5) ((0 : Int), (⟨Array.empty⟩ : ByteArray), (0 : Int), (0 : Int)))) fun r0 =>
     bif (!r0) then
      some (Sum.inr (Sum.inl (false, ())))
     else
      some (Sum.inl (v0, v1, (IntKind.wrap .i64 (v5 + (1 : Int))), ()))
   else
    none
  else
   none
 else
  some (Sum.inr (Sum.inr ()))
theorem laws_eqStepS_l4_eq : loopStep 27 E44 L44_0 (loopOf f44 4) sh44_4 xs44_4 = laws_eqStepS_l4 := by kernel_rfl
theorem loop44_4 {L} (h : L 4 = some ⟨27, sh44_4, xs44_4, laws_eqStepS_l4⟩) : LoopOk prog L (loopOf f44 4) := lo laws_eqStepS_l4_eq E44_ok allNil h
noncomputable def L44_1 : Nat → Option LoopD := fun n => ifEq n 4 (some ⟨27, sh44_4, xs44_4, laws_eqStepS_l4⟩) (L44_0 n)
noncomputable def laws_eqStepS : (List (Int × (ByteArray × (Int × Int)))) → (List (Int × (ByteArray × (Int × Int)))) → Option (Bool) := fun a0 a1 =>
 bif ((((List.length a0) : Nat) : Int) != (((List.length a1) : Nat) : Int)) then
  some false
 else
  Option.bind (loopF laws_eqStepS_l4 (a0, a1, (0 : Int), ())) fun r0 =>
   (match r0 with
   | .inl (d1, _) =>
     some d1
   | .inr _ =>
     some true)
noncomputable def A44 : FnA := ⟨[.v (.sl (.pair (.int .i64) (.pair .str (.pair (.int .i64) (.int .i64))))), .v (.sl (.pair (.int .i64) (.pair .str (.pair (.int .i64) (.int .i64)))))], true, [.bool], fun x => laws_eqStepS x.1 x.2.1⟩
theorem laws_eqStepS_eq : fnF E44 L44_1 [.v (.sl (.pair (.int .i64) (.pair .str (.pair (.int .i64) (.int .i64))))), .v (.sl (.pair (.int .i64) (.pair .str (.pair (.int .i64) (.int .i64)))))] true [.bool] f44.ntmps f44.results.toList (codeOf f44) = fun x => laws_eqStepS x.1 x.2.1 := by kernel_rfl
theorem A44_ok : FnOk prog 44 A44 := fo laws_eqStepS_eq func44 E44_ok (allCons (loop44_4 rfl) allNil)
/-! laws.eqAutomaton -/
noncomputable def E12 : Env := ⟨ty0, fun g => ifEq g 11 (some A11) (ifEq g 44 (some A44) (none)), fun _ => none, fun _ => none, fun _ => none⟩
theorem E12_ok : FnsOk prog E12 := (oF A11_ok func11 (oF A44_ok func44 (noFns _ _)))
noncomputable def L12_0 : Nat → Option LoopD := fun _ => none
noncomputable def laws_eqAutomaton : (Int × ((List Int) × ((List Int) × (List (Int × (ByteArray × (Int × Int))))))) → (Int × ((List Int) × ((List Int) × (List (Int × (ByteArray × (Int × Int))))))) → Option (Bool) := fun (a0_0, a0_1, a0_2, a0_3) (a1_0, a1_1, a1_2, a1_3) =>
 bif (a0_0 != a1_0) then
  some false
 else
  Option.bind (laws_eqIntS a0_1 a1_1) fun r0 =>
   bif (!r0) then
    some false
   else
    Option.bind (laws_eqIntS a0_2 a1_2) fun r1 =>
     bif (!r1) then
      some false
     else
      Option.bind (laws_eqStepS a0_3 a1_3) fun r2 =>
       bif (!r2) then
        some false
       else
        some true
noncomputable def A12 : FnA := ⟨[.v (.pair (.int .i64) (.pair (.sl (.int .i64)) (.pair (.sl (.int .i64)) (.sl (.pair (.int .i64) (.pair .str (.pair (.int .i64) (.int .i64)))))))), .v (.pair (.int .i64) (.pair (.sl (.int .i64)) (.pair (.sl (.int .i64)) (.sl (.pair (.int .i64) (.pair .str (.pair (.int .i64) (.int .i64))))))))], true, [.bool], fun x => laws_eqAutomaton x.1 x.2.1⟩
theorem laws_eqAutomaton_eq : fnF E12 L12_0 [.v (.pair (.int .i64) (.pair (.sl (.int .i64)) (.pair (.sl (.int .i64)) (.sl (.pair (.int .i64) (.pair .str (.pair (.int .i64) (.int .i64)))))))), .v (.pair (.int .i64) (.pair (.sl (.int .i64)) (.pair (.sl (.int .i64)) (.sl (.pair (.int .i64) (.pair .str (.pair (.int .i64) (.int .i64))))))))] true [.bool] f12.ntmps f12.results.toList (codeOf f12) = fun x => laws_eqAutomaton x.1 x.2.1 := by kernel_rfl
theorem A12_ok : FnOk prog 12 A12 := fo laws_eqAutomaton_eq func12 E12_ok allNil
/-! laws.FnExactVerdictOf -/
noncomputable def E5 : Env := ⟨ty0, fun g => ifEq g 7 (some A7) (ifEq g 9 (some A9) (ifEq g 25 (some A25) (ifEq g 26 (some A26) (ifEq g 12 (some A12) (none))))), fun _ => none, fun _ => none, fun _ => none⟩
theorem E5_ok : FnsOk prog E5 := (oF A7_ok func7 (oF A9_ok func9 (oF A25_ok func25 (oF A26_ok func26 (oF A12_ok func12 (noFns _ _))))))
noncomputable def L5_0 : Nat → Option LoopD := fun _ => none
noncomputable def laws_FnExactVerdictOf : (Int × ((List Int) × ((List Int) × (List (Int × (ByteArray × (Int × Int))))))) → Option (Bool) := fun (a0_0, a0_1, a0_2, a0_3) =>
 Option.bind (laws_szAutomaton (a0_0, a0_1, a0_2, a0_3) (1048576 : Int)) fun r0 =>
  bif (decide (r0 < (0 : Int))) then
   some true
  else
   Option.bind (laws_toAutomaton (a0_0, a0_1, a0_2, a0_3)) fun (r1, r2, r3, r4) =>
    Option.bind (spec_VerdictOf (r1, (List.take (List.length r2) (List.drop 0 r2)), (List.take (List.length r3) (List.drop 0 r3)), (List.take (List.length r4) (List.drop 0 r4)))) fun r5 =>
     Option.bind (laws_toAutomaton (a0_0, a0_1, a0_2, a0_3)) fun (r6, r7, r8, r9) =>
      Option.bind (impl_VerdictOf (r6, (List.take (List.length r7) (List.drop 0 r7)), (List.take (List.length r8) (List.drop 0 r8)), (List.take (List.length r9) (List.drop 0 r9)))) fun r10 =>
       bif (!((ByteArray.toList r10) == (ByteArray.toList r5))) then
        some false
       else
        Option.bind (laws_toAutomaton (a0_0, a0_1, a0_2, a0_3)) fun (r11, r12, r13, r14) =>
         Option.bind (laws_eqAutomaton (r6, (List.take (List.length r7) (List.drop 0 r7)), (List.take (List.length r8) (List.drop 0 r8)), (List.take (List.length r9) (List.drop 0 r9))) (r11, (List.take (List.length r12) (List.drop 0 r12)), (List.take (List.length r13) (List.drop 0 r13)), (List.take (List.length r14) (List.drop 0 r14)))) fun r15 =>
          bif (!r15) then
           some false
          else
           some true
noncomputable def A5 : FnA := ⟨[.v (.pair (.int .i64) (.pair (.sl (.int .i64)) (.pair (.sl (.int .i64)) (.sl (.pair (.int .i64) (.pair .str (.pair (.int .i64) (.int .i64))))))))], true, [.bool], fun x => laws_FnExactVerdictOf x.1⟩
theorem laws_FnExactVerdictOf_eq : fnF E5 L5_0 [.v (.pair (.int .i64) (.pair (.sl (.int .i64)) (.pair (.sl (.int .i64)) (.sl (.pair (.int .i64) (.pair .str (.pair (.int .i64) (.int .i64))))))))] true [.bool] f5.ntmps f5.results.toList (codeOf f5) = fun x => laws_FnExactVerdictOf x.1 := by kernel_rfl
theorem A5_ok : FnOk prog 5 A5 := fo laws_FnExactVerdictOf_eq func5 E5_ok allNil
end Go.Proofs.YtcmcjhdccnbmoaaGreat
