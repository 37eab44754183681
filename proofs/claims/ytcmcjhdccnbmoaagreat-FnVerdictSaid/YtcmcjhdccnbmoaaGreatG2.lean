/- What Go functions that the laws reach compute, and that they do: written by a program of this session. -/
import Derived.Test.YtcmcjhdccnbmoaaGreatG1
import Derived.KernelRfl
set_option linter.unusedVariables false
namespace Go.Proofs.YtcmcjhdccnbmoaaGreat
open Go Go.Proofs.YtcmcjhdccnbmoaaGreat.Am Go.Proofs.Tryz
set_option maxRecDepth 100000
/-! spec.l6Between -/
noncomputable def E37 : Env := ⟨ty0, fun _ => none, fun _ => none, fun _ => none, fun _ => none⟩
theorem E37_ok : FnsOk prog E37 := (noFns _ _)
noncomputable def L37_0 : Nat → Option LoopD := fun _ => none
def sh37_6 : List Fm := d :: d :: .box 100200 [.val (.int .i64), .val (.sl (.int .i64)), .val (.sl (.int .i64)), .val (.sl (.pair (.int .i64) (.pair .str (.pair (.int .i64) (.int .i64)))))] :: .box 100300 [.val (.int .i64), .val (.sl (.int .i64))] :: d :: .cell (.val (.int .i64)) :: d :: .cell (.val (.int .i64)) :: d :: d :: d :: .cell (.val (.sl (.int .i64))) :: .cell (.val (.int .i64)) :: .cell (.val (.int .i64)) :: D 4 (.cell (.val (.sl (.int .i64))) :: .cell (.val (.int .i64)) :: .cell (.val (.int .i64)) :: D 18 [])
def xs37_6 : List (Ex × List Fm) := [(.exit 2, [d, d, .box 100200 [.val (.int .i64), .val (.sl (.int .i64)), .val (.sl (.int .i64)), .val (.sl (.pair (.int .i64) (.pair .str (.pair (.int .i64) (.int .i64)))))], .box 100300 [.val (.int .i64), .val (.sl (.int .i64))], d, .cell (.val (.int .i64)), d, d, d, d, d, .cell (.val (.sl (.int .i64))), .cell (.val (.int .i64)), .cell (.val (.int .i64)), d, d, d, d, d, d, d, d, d, d, d, d, d, d, d, d, d, d, d, d, d, d, d, d, d])]
noncomputable def spec_l6Between_l6 : ((Int × (List Int) × (List Int) × (List (Int × (ByteArray × (Int × Int)))) × Unit) × (Int × (List Int) × Unit) × Int × Int × (List Int) × Int × Int × (List Int) × Int × Int × Unit) → Option (((Int × (List Int) × (List Int) × (List (Int × (ByteArray × (Int × Int)))) × Unit) × (Int × (List Int) × Unit) × Int × Int × (List Int) × Int × Int × (List Int) × Int × Int × Unit) ⊕ (((Int × (List Int) × (List Int) × (List (Int × (ByteArray × (Int × Int)))) × Unit) × (Int × (List Int) × Unit) × Int × (List Int) × Int × Int × Unit))) := fun ((v2_0, v2_1, v2_2, v2_3, _), (v3_0, v3_1, _), v5, v7, v11, v12, v13, v18, v19, v20, _) =>
 bif (decide (v20 < v19)) then
  if (((0 : Int) ≤ v20) ∧ (v20 < (((List.length v18) : Nat) : Int))) then
   if (((0 : Int) ≤ (IntKind.wrap .i64 ((IntKind.wrap .i64 (v7 * v2_0)) + (List.getD v18 (Int.toNat v20) (0 : Int))))) ∧ ((IntKind.wrap .i64 ((IntKind.wrap .i64 (v7 * v2_0)) + (List.getD v18 (Int.toNat v20) (0 : Int)))) < (((List.length v3_1) : Nat) : Int))) then
    some (Sum.inl ((v2_0, v2_1, v2_2, v2_3, ()), (v3_0, v3_1, ()), (if ((List.getD v3_1 (Int.toNat (IntKind.wrap .i64 ((IntKind.wrap .i64 (v7 * v2_0)) + (List.getD v18 (Int.toNat v20) (0 : Int))))) (0 : Int)) < v5) then (List.getD v3_1 (Int.toNat (IntKind.wrap .i64 ((IntKind.wrap .i64 (v7 * v2_0)) + (List.getD v18 (Int.toNat v20) (0 : Int))))) (0 : Int)) else v5), v7, v11, v12, v13, v18, v19, (IntKind.wrap .i64 (v20 + (1 : Int))), ()))
   else
    none
  else
   none
 else
  some (Sum.inr ((v2_0, v2_1, v2_2, v2_3, ()), (v3_0, v3_1, ()), v5, v11, v12, v13, ()))
theorem spec_l6Between_l6_eq : loopStep 39 E37 L37_0 (loopOf f37 6) sh37_6 xs37_6 = spec_l6Between_l6 := by kernel_rfl
theorem loop37_6 {L} (h : L 6 = some ⟨39, sh37_6, xs37_6, spec_l6Between_l6⟩) : LoopOk prog L (loopOf f37 6) := lo spec_l6Between_l6_eq E37_ok allNil h
noncomputable def L37_1 : Nat → Option LoopD := fun n => ifEq n 6 (some ⟨39, sh37_6, xs37_6, spec_l6Between_l6⟩) (L37_0 n)
def sh37_3 : List Fm := d :: d :: .box 100200 [.val (.int .i64), .val (.sl (.int .i64)), .val (.sl (.int .i64)), .val (.sl (.pair (.int .i64) (.pair .str (.pair (.int .i64) (.int .i64)))))] :: .box 100300 [.val (.int .i64), .val (.sl (.int .i64))] :: d :: .cell (.val (.int .i64)) :: D 5 (.cell (.val (.sl (.int .i64))) :: .cell (.val (.int .i64)) :: .cell (.val (.int .i64)) :: D 25 [])
def xs37_3 : List (Ex × List Fm) := [(.exit 0, (D 5 (.cell (.val (.int .i64)) :: D 33 [])))]
noncomputable def spec_l6Between_l3 : ((Int × (List Int) × (List Int) × (List (Int × (ByteArray × (Int × Int)))) × Unit) × (Int × (List Int) × Unit) × Int × (List Int) × Int × Int × Unit) → Option (((Int × (List Int) × (List Int) × (List (Int × (ByteArray × (Int × Int)))) × Unit) × (Int × (List Int) × Unit) × Int × (List Int) × Int × Int × Unit) ⊕ ((Int × Unit))) := fun ((v2_0, v2_1, v2_2, v2_3, _), (v3_0, v3_1, _), v5, v11, v12, v13, _) =>
 bif (decide (v13 < v12)) then
  if (((0 : Int) ≤ v13) ∧ (v13 < (((List.length v11) : Nat) : Int))) then
   Option.bind (loopF spec_l6Between_l6 ((v2_0, v2_1, v2_2, v2_3, ()), (v3_0, v3_1, ()), v5, (List.getD v11 (Int.toNat v13) (0 : Int)), v11, v12, v13, v2_2, (((List.length v2_2) : Nat) : Int), (0 : Int), ())) fun ((r0, r1, r2, r3, _), (r4, r5, _), r6, r7, r8, r9, _) =>
    some (Sum.inl ((r0, r1, r2, r3, ()), (r4, r5, ()), r6, r7, r8, (IntKind.wrap .i64 (r9 + (1 : Int))), ()))
  else
   none
 else
  some (Sum.inr (v5, ()))
theorem spec_l6Between_l3_eq : loopStep 39 E37 L37_1 (loopOf f37 3) sh37_3 xs37_3 = spec_l6Between_l3 := by kernel_rfl
theorem loop37_3 {L} (h : L 3 = some ⟨39, sh37_3, xs37_3, spec_l6Between_l3⟩) : LoopOk prog L (loopOf f37 3) := lo spec_l6Between_l3_eq E37_ok (allCons (loop37_6 rfl) allNil) h
noncomputable def L37_2 : Nat → Option LoopD := fun n => ifEq n 3 (some ⟨39, sh37_3, xs37_3, spec_l6Between_l3⟩) (L37_1 n)
noncomputable def spec_l6Between : (Int × ((List Int) × ((List Int) × (List (Int × (ByteArray × (Int × Int))))))) → (Int × (List Int)) → Option (Int) := fun (a0_0, a0_1, a0_2, a0_3) (a1_0, a1_1) =>
 Option.bind (loopF spec_l6Between_l3 ((a0_0, a0_1, a0_2, a0_3, ()), (a1_0, a1_1, ()), (3 : Int), a0_1, (((List.length a0_1) : Nat) : Int), (0 : Int), ())) fun (r0, _) =>
  some r0
noncomputable def A37 : FnA := ⟨[.v (.pair (.int .i64) (.pair (.sl (.int .i64)) (.pair (.sl (.int .i64)) (.sl (.pair (.int .i64) (.pair .str (.pair (.int .i64) (.int .i64)))))))), .v (.pair (.int .i64) (.sl (.int .i64)))], true, [.int .i64], fun x => spec_l6Between x.1 x.2.1⟩
theorem spec_l6Between_eq : fnF E37 L37_2 [.v (.pair (.int .i64) (.pair (.sl (.int .i64)) (.pair (.sl (.int .i64)) (.sl (.pair (.int .i64) (.pair .str (.pair (.int .i64) (.int .i64)))))))), .v (.pair (.int .i64) (.sl (.int .i64)))] true [.int .i64] f37.ntmps f37.results.toList (codeOf f37) = fun x => spec_l6Between x.1 x.2.1 := by kernel_rfl
theorem A37_ok : FnOk prog 37 A37 := fo spec_l6Between_eq func37 E37_ok (allCons (loop37_3 rfl) allNil)
/-! spec.GradesIn -/
noncomputable def E8 : Env := ⟨ty0, fun g => ifEq g 36 (some A36) (ifEq g 37 (some A37) (none)), fun _ => none, fun _ => none, fun _ => none⟩
theorem E8_ok : FnsOk prog E8 := (oF A36_ok func36 (oF A37_ok func37 (noFns _ _)))
noncomputable def L8_0 : Nat → Option LoopD := fun _ => none
def sh8_7 : List Fm := d :: .box 100100 [.val (.int .i64), .val (.sl (.int .i64)), .val (.sl (.int .i64)), .val (.sl (.pair (.int .i64) (.pair .str (.pair (.int .i64) (.int .i64)))))] :: d :: d :: .cell (.own (.int .i64) 100400 false) :: d :: d :: .box 100700 [.val .bool, .val .bool, .val .bool, .val .bool] :: D 13 (.cell (.own (.pair (.pair (.int .i64) (.sl (.int .i64))) .str) 102100 false) :: .cell (.val (.int .i64)) :: .cell (.val (.int .i64)) :: D 21 [])
def xs8_7 : List (Ex × List Fm) := [(.exit 0, [d, d, d, d, .cell (.own (.int .i64) 100400 false), d, d, .box 100700 [.val .bool, .val .bool, .val .bool, .val .bool], d, d, d, d, d, d, d, d, d, d, d, d, d, d, d, d, d, d, d, d, d, d, d, d, d, d, d, d, d, d, d, d, d, d, d, d, d])]
noncomputable def spec_GradesIn_l7 : ((Int × (List Int) × (List Int) × (List (Int × (ByteArray × (Int × Int)))) × Unit) × (List Int) × (Bool × Bool × Bool × Bool × Unit) × (List ((Int × (List Int)) × ByteArray)) × Int × Int × Unit) → Option (((Int × (List Int) × (List Int) × (List (Int × (ByteArray × (Int × Int)))) × Unit) × (List Int) × (Bool × Bool × Bool × Bool × Unit) × (List ((Int × (List Int)) × ByteArray)) × Int × Int × Unit) ⊕ (((List Int) × (Bool × Bool × Bool × Bool × Unit) × Unit))) := fun ((v1_0, v1_1, v1_2, v1_3, _), v4, (v7_0, v7_1, v7_2, v7_3, _), v21, v22, v23, _) =>
 bif (decide (v23 < v22)) then
  if (((0 : Int) ≤ v23) ∧ (v23 < (((List.length v21) : Nat) : Int))) then
   Option.bind (spec_l6Between (v1_0, v1_1, v1_2, v1_3) ((List.getD v21 (0 + (Int.toNat v23)) (((0 : Int), []), (⟨Array.empty⟩ : ByteArray))).1.1, (List.getD v21 (0 + (Int.toNat v23)) (((0 : Int), []), (⟨Array.empty⟩ : ByteArray))).1.2)) fun r0 =>
    if (((0 : Int) ≤ r0) ∧ (r0 < ((4 : Nat) : Int))) then
     some (Sum.inl ((v1_0, v1_1, v1_2, v1_3, ()), (List.take (List.length v4) (List.drop 0 v4)), ((bif (Nat.beq (Int.toNat r0) 0) then true else v7_0), (bif (Nat.beq (Int.toNat r0) (0 + 1)) then true else v7_1), (bif (Nat.beq (Int.toNat r0) ((0 + 1) + 1)) then true else v7_2), (bif (Nat.beq (Int.toNat r0) (((0 + 1) + 1) + 1)) then true else v7_3), ()), (List.take (List.length v21) (List.drop 0 v21)), v22, (IntKind.wrap .i64 (v23 + (1 : Int))), ()))
    else
     none
  else
   none
 else
  some (Sum.inr ((List.take (List.length v4) (List.drop 0 v4)), (v7_0, v7_1, v7_2, v7_3, ()), ()))
theorem spec_GradesIn_l7_eq : loopStep 45 E8 L8_0 (loopOf f8 7) sh8_7 xs8_7 = spec_GradesIn_l7 := by kernel_rfl
theorem loop8_7 {L} (h : L 7 = some ⟨45, sh8_7, xs8_7, spec_GradesIn_l7⟩) : LoopOk prog L (loopOf f8 7) := lo spec_GradesIn_l7_eq E8_ok allNil h
noncomputable def L8_1 : Nat → Option LoopD := fun n => ifEq n 7 (some ⟨45, sh8_7, xs8_7, spec_GradesIn_l7⟩) (L8_0 n)
def sh8_12 : List Fm := D 4 (.cell (.own (.int .i64) 100400 false) :: D 28 (.cell (.val (.pair .bool (.pair .bool (.pair .bool .bool)))) :: .cell (.val (.int .i64)) :: D 10 []))
def xs8_12 : List (Ex × List Fm) := [(.exit 2, (D 4 (.cell (.own (.int .i64) 100400 false) :: D 40 [])))]
noncomputable def spec_GradesIn_l12 : ((List Int) × (Bool × (Bool × (Bool × Bool))) × Int × Unit) → Option (((List Int) × (Bool × (Bool × (Bool × Bool))) × Int × Unit) ⊕ (((List Int) × Unit))) := fun (v4, (v33_0, v33_1, v33_2, v33_3), v34, _) =>
 bif (decide (v34 < (4 : Int))) then
  if (((0 : Int) ≤ v34) ∧ (v34 < ((4 : Nat) : Int))) then
   bif (List.getD [v33_0, v33_1, v33_2, v33_3] (Int.toNat v34) false) then
    if (((0 + (List.length v4)) = (List.length v4)) ∧ ((((List.length v4) + (List.length (List.take 1 (List.drop 0 [v34])))) * 8) ≤ 140737488355328)) then
     some (Sum.inl ((List.take ((List.length v4) + (List.length (List.take 1 (List.drop 0 [v34])))) (List.drop 0 ((List.drop 0 v4) ++ (List.take 1 (List.drop 0 [v34]))))), (v33_0, v33_1, v33_2, v33_3), (IntKind.wrap .i64 (v34 + (1 : Int))), ()))
    else
     none
   else
    some (Sum.inl ((List.take (List.length v4) (List.drop 0 v4)), (v33_0, v33_1, v33_2, v33_3), (IntKind.wrap .i64 (v34 + (1 : Int))), ()))
  else
   none
 else
  some (Sum.inr ((List.take (List.length v4) (List.drop 0 v4)), ()))
theorem spec_GradesIn_l12_eq : loopStep 45 E8 L8_1 (loopOf f8 12) sh8_12 xs8_12 = spec_GradesIn_l12 := by kernel_rfl
theorem loop8_12 {L} (h : L 12 = some ⟨45, sh8_12, xs8_12, spec_GradesIn_l12⟩) : LoopOk prog L (loopOf f8 12) := lo spec_GradesIn_l12_eq E8_ok allNil h
noncomputable def L8_2 : Nat → Option LoopD := fun n => ifEq n 12 (some ⟨45, sh8_12, xs8_12, spec_GradesIn_l12⟩) (L8_1 n)
noncomputable def spec_GradesIn : (Int × ((List Int) × ((List Int) × (List (Int × (ByteArray × (Int × Int))))))) → Option ((List Int) × Bool) := fun (a0_0, a0_1, a0_2, a0_3) =>
 Option.bind (spec_ElementsOf (a0_0, a0_1, a0_2, a0_3)) fun (r0, r1) =>
  bif (!r1) then
   some ((List.take 0 (List.drop 0 [])), false)
  else
   Option.bind (loopF spec_GradesIn_l7 ((a0_0, a0_1, a0_2, a0_3, ()), (List.take 0 (List.drop 0 [])), (false, false, false, false, ()), (List.take (List.length r0) (List.drop 0 r0)), (((List.length r0) : Nat) : Int), (0 : Int), ())) fun (r2, (r3, r4, r5, r6, _), _) =>
    Option.bind (loopF spec_GradesIn_l12 ((List.take (List.length r2) (List.drop 0 r2)), (r3, r4, r5, r6), (0 : Int), ())) fun (r7, _) =>
     some ((List.take (List.length r7) (List.drop 0 r7)), true)
noncomputable def A8 : FnA := ⟨[.v (.pair (.int .i64) (.pair (.sl (.int .i64)) (.pair (.sl (.int .i64)) (.sl (.pair (.int .i64) (.pair .str (.pair (.int .i64) (.int .i64))))))))], true, [.sl (.int .i64), .bool], fun x => spec_GradesIn x.1⟩
theorem spec_GradesIn_eq : fnF E8 L8_2 [.v (.pair (.int .i64) (.pair (.sl (.int .i64)) (.pair (.sl (.int .i64)) (.sl (.pair (.int .i64) (.pair .str (.pair (.int .i64) (.int .i64))))))))] true [.sl (.int .i64), .bool] f8.ntmps f8.results.toList (codeOf f8) = fun x => spec_GradesIn x.1 := by kernel_rfl
theorem A8_ok : FnOk prog 8 A8 := fo spec_GradesIn_eq func8 E8_ok (allCons (loop8_7 rfl) (allCons (loop8_12 rfl) allNil))
/-! spec.l4In -/
noncomputable def E63 : Env := ⟨ty0, fun _ => none, fun _ => none, fun _ => none, fun _ => none⟩
theorem E63_ok : FnsOk prog E63 := (noFns _ _)
noncomputable def L63_0 : Nat → Option LoopD := fun _ => none
def sh63_2 : List Fm := d :: .cell (.val (.int .i64)) :: D 5 (.cell (.val (.sl (.int .i64))) :: .cell (.val (.int .i64)) :: .cell (.val (.int .i64)) :: D 7 [])
def xs63_2 : List (Ex × List Fm) := [(.ret, (D 4 (.cell (.val .bool) :: D 12 []))), (.exit 0, (D 17 []))]
noncomputable def spec_l4In_l2 : (Int × (List Int) × Int × Int × Unit) → Option ((Int × (List Int) × Int × Int × Unit) ⊕ ((Bool × Unit) ⊕ (Unit))) := fun (v1, v7, v8, v9, _) =>
 bif (decide (v9 < v8)) then
  if (((0 : Int) ≤ v9) ∧ (v9 < (((List.length v7) : Nat) : Int))) then
   bif ((List.getD v7 (Int.toNat v9) (0 : Int)) == v1) then
    some (Sum.inr (Sum.inl (true, ())))
   else
    some (Sum.inl (v1, v7, v8, (IntKind.wrap .i64 (v9 + (1 : Int))), ()))
  else
   none
 else
  some (Sum.inr (Sum.inr ()))
theorem spec_l4In_l2_eq : loopStep 17 E63 L63_0 (loopOf f63 2) sh63_2 xs63_2 = spec_l4In_l2 := by kernel_rfl
theorem loop63_2 {L} (h : L 2 = some ⟨17, sh63_2, xs63_2, spec_l4In_l2⟩) : LoopOk prog L (loopOf f63 2) := lo spec_l4In_l2_eq E63_ok allNil h
noncomputable def L63_1 : Nat → Option LoopD := fun n => ifEq n 2 (some ⟨17, sh63_2, xs63_2, spec_l4In_l2⟩) (L63_0 n)
noncomputable def spec_l4In : (List Int) → Int → Option (Bool) := fun a0 a1 =>
 Option.bind (loopF spec_l4In_l2 (a1, a0, (((List.length a0) : Nat) : Int), (0 : Int), ())) fun r0 =>
  (match r0 with
  | .inl (d1, _) =>
    some d1
  | .inr _ =>
    some false)
noncomputable def A63 : FnA := ⟨[.v (.sl (.int .i64)), .v (.int .i64)], true, [.bool], fun x => spec_l4In x.1 x.2.1⟩
theorem spec_l4In_eq : fnF E63 L63_1 [.v (.sl (.int .i64)), .v (.int .i64)] true [.bool] f63.ntmps f63.results.toList (codeOf f63) = fun x => spec_l4In x.1 x.2.1 := by kernel_rfl
theorem A63_ok : FnOk prog 63 A63 := fo spec_l4In_eq func63 E63_ok (allCons (loop63_2 rfl) allNil)
/-! spec.l5Empty -/
noncomputable def E64 : Env := ⟨ty0, fun g => ifEq g 63 (some A63) (none), fun _ => none, fun _ => none, fun _ => none⟩
theorem E64_ok : FnsOk prog E64 := (oF A63_ok func63 (noFns _ _))
noncomputable def L64_0 : Nat → Option LoopD := fun _ => none
def sh64_2 : List Fm := d :: .box 100100 [.val (.int .i64), .val (.sl (.int .i64)), .val (.sl (.int .i64)), .val (.sl (.pair (.int .i64) (.pair .str (.pair (.int .i64) (.int .i64)))))] :: D 4 (.cell (.val (.sl (.int .i64))) :: .cell (.val (.int .i64)) :: .cell (.val (.int .i64)) :: D 8 [])
def xs64_2 : List (Ex × List Fm) := [(.ret, (d :: d :: .cell (.val .bool) :: D 14 [])), (.exit 0, (D 17 []))]
noncomputable def spec_l5Empty_l2 : ((Int × (List Int) × (List Int) × (List (Int × (ByteArray × (Int × Int)))) × Unit) × (List Int) × Int × Int × Unit) → Option (((Int × (List Int) × (List Int) × (List (Int × (ByteArray × (Int × Int)))) × Unit) × (List Int) × Int × Int × Unit) ⊕ ((Bool × Unit) ⊕ (Unit))) := fun ((v1_0, v1_1, v1_2, v1_3, _), v6, v7, v8, _) =>
 bif (decide (v8 < v7)) then
  if (((0 : Int) ≤ v8) ∧ (v8 < (((List.length v6) : Nat) : Int))) then
   Option.bind (spec_l4In v1_2 (List.getD v6 (Int.toNat v8) (0 : Int))) fun r0 =>
    bif r0 then
     some (Sum.inr (Sum.inl (true, ())))
    else
     some (Sum.inl ((v1_0, v1_1, v1_2, v1_3, ()), v6, v7, (IntKind.wrap .i64 (v8 + (1 : Int))), ()))
  else
   none
 else
  some (Sum.inr (Sum.inr ()))
theorem spec_l5Empty_l2_eq : loopStep 17 E64 L64_0 (loopOf f64 2) sh64_2 xs64_2 = spec_l5Empty_l2 := by kernel_rfl
theorem loop64_2 {L} (h : L 2 = some ⟨17, sh64_2, xs64_2, spec_l5Empty_l2⟩) : LoopOk prog L (loopOf f64 2) := lo spec_l5Empty_l2_eq E64_ok allNil h
noncomputable def L64_1 : Nat → Option LoopD := fun n => ifEq n 2 (some ⟨17, sh64_2, xs64_2, spec_l5Empty_l2⟩) (L64_0 n)
noncomputable def spec_l5Empty : (Int × ((List Int) × ((List Int) × (List (Int × (ByteArray × (Int × Int))))))) → Option (Bool) := fun (a0_0, a0_1, a0_2, a0_3) =>
 Option.bind (loopF spec_l5Empty_l2 ((a0_0, a0_1, a0_2, a0_3, ()), a0_1, (((List.length a0_1) : Nat) : Int), (0 : Int), ())) fun r0 =>
  (match r0 with
  | .inl (d1, _) =>
    some d1
  | .inr _ =>
    some false)
noncomputable def A64 : FnA := ⟨[.v (.pair (.int .i64) (.pair (.sl (.int .i64)) (.pair (.sl (.int .i64)) (.sl (.pair (.int .i64) (.pair .str (.pair (.int .i64) (.int .i64))))))))], true, [.bool], fun x => spec_l5Empty x.1⟩
theorem spec_l5Empty_eq : fnF E64 L64_1 [.v (.pair (.int .i64) (.pair (.sl (.int .i64)) (.pair (.sl (.int .i64)) (.sl (.pair (.int .i64) (.pair .str (.pair (.int .i64) (.int .i64))))))))] true [.bool] f64.ntmps f64.results.toList (codeOf f64) = fun x => spec_l5Empty x.1 := by kernel_rfl
theorem A64_ok : FnOk prog 64 A64 := fo spec_l5Empty_eq func64 E64_ok (allCons (loop64_2 rfl) allNil)
/-! spec.VerdictOf -/
noncomputable def E25 : Env := ⟨ty0, fun g => ifEq g 8 (some A8) (ifEq g 62 (some A62) (ifEq g 63 (some A63) (ifEq g 64 (some A64) (none)))), fun _ => none, fun _ => none, fun _ => none⟩
theorem E25_ok : FnsOk prog E25 := (oF A8_ok func8 (oF A62_ok func62 (oF A63_ok func63 (oF A64_ok func64 (noFns _ _)))))
noncomputable def L25_0 : Nat → Option LoopD := fun _ => none
noncomputable def spec_VerdictOf : (Int × ((List Int) × ((List Int) × (List (Int × (ByteArray × (Int × Int))))))) → Option (ByteArray) := fun (a0_0, a0_1, a0_2, a0_3) =>
 Option.bind (spec_GradesIn (a0_0, a0_1, a0_2, a0_3)) fun (r0, r1) =>
  Option.bind (spec_AutomatonValid (a0_0, a0_1, a0_2, a0_3)) fun r2 =>
   bif (!r2) then
    some (⟨#[]⟩ : ByteArray)
   else
    bif (!r1) then
     some (⟨#[(117 : UInt8), (110 : UInt8), (107 : UInt8), (110 : UInt8), (111 : UInt8), (119 : UInt8), (110 : UInt8)]⟩ : ByteArray)
    else
     Option.bind (spec_l4In (List.take (List.length r0) (List.drop 0 r0)) (2 : Int)) fun r3 =>
      bif r3 then
       some (⟨#[(103 : UInt8), (114 : UInt8), (111 : UInt8), (119 : UInt8), (105 : UInt8), (110 : UInt8), (103 : UInt8)]⟩ : ByteArray)
      else
       Option.bind (spec_l4In (List.take (List.length r0) (List.drop 0 r0)) (1 : Int)) fun r4 =>
        bif r4 then
         some (⟨#[(98 : UInt8), (111 : UInt8), (117 : UInt8), (110 : UInt8), (100 : UInt8), (101 : UInt8), (100 : UInt8)]⟩ : ByteArray)
        else
         Option.bind (spec_l4In (List.take (List.length r0) (List.drop 0 r0)) (0 : Int)) fun r5 =>
          bif r5 then
           some (⟨#[(102 : UInt8), (114 : UInt8), (101 : UInt8), (101 : UInt8)]⟩ : ByteArray)
          else
           Option.bind (spec_l5Empty (a0_0, a0_1, a0_2, a0_3)) fun r6 =>
            bif r6 then
             some (⟨#[(102 : UInt8), (114 : UInt8), (101 : UInt8), (101 : UInt8)]⟩ : ByteArray)
            else
             some (⟨#[(110 : UInt8), (111 : UInt8), (110 : UInt8), (101 : UInt8)]⟩ : ByteArray)
noncomputable def A25 : FnA := ⟨[.v (.pair (.int .i64) (.pair (.sl (.int .i64)) (.pair (.sl (.int .i64)) (.sl (.pair (.int .i64) (.pair .str (.pair (.int .i64) (.int .i64))))))))], true, [.str], fun x => spec_VerdictOf x.1⟩
theorem spec_VerdictOf_eq : fnF E25 L25_0 [.v (.pair (.int .i64) (.pair (.sl (.int .i64)) (.pair (.sl (.int .i64)) (.sl (.pair (.int .i64) (.pair .str (.pair (.int .i64) (.int .i64))))))))] true [.str] f25.ntmps f25.results.toList (codeOf f25) = fun x => spec_VerdictOf x.1 := by kernel_rfl
theorem A25_ok : FnOk prog 25 A25 := fo spec_VerdictOf_eq func25 E25_ok allNil
/-! impl.ShortWords -/
noncomputable def E29 : Env := ⟨ty0, fun _ => none, fun _ => none, fun _ => none, fun _ => none⟩
theorem E29_ok : FnsOk prog E29 := (noFns _ _)
noncomputable def L29_0 : Nat → Option LoopD := fun _ => none
def sh29_8 : List Fm := .cell (.val (.int .i64)) :: d :: d :: d :: .cell (.own .str 100400 true) :: d :: .cell (.val (.int .i64)) :: D 23 (.cell (.val (.sl .str)) :: .cell (.val (.int .i64)) :: .cell (.val (.int .i64)) :: D 13 [])
def xs29_8 : List (Ex × List Fm) := [(.exit 2, (.cell (.val (.int .i64)) :: d :: d :: d :: .cell (.own .str 100400 true) :: d :: .cell (.val (.int .i64)) :: D 39 []))]
noncomputable def impl_ShortWords_l8 : (Int × (List ByteArray) × Int × (List ByteArray) × Int × Int × Unit) → Option ((Int × (List ByteArray) × Int × (List ByteArray) × Int × Int × Unit) ⊕ ((Int × (List ByteArray) × Int × Unit))) := fun (v0, v4, v6, v30, v31, v32, _) =>
 bif (decide (v32 < v31)) then
  if (((0 : Int) ≤ v32) ∧ (v32 < (((List.length v30) : Nat) : Int))) then
   if (((ByteArray.size (List.getD v30 (Int.toNat v32) (⟨Array.empty⟩ : ByteArray))) + (ByteArray.size (⟨#[(97 : UInt8)]⟩ : ByteArray))) ≤ 9223372036854775807) then
    if (((ByteArray.size (List.getD v30 (Int.toNat v32) (⟨Array.empty⟩ : ByteArray))) + (ByteArray.size (⟨#[(98 : UInt8)]⟩ : ByteArray))) ≤ 9223372036854775807) then
     if (((0 + (List.length v4)) = (List.length v4)) ∧ ((((List.length v4) + (List.length (List.take 2 (List.drop 0 [((List.getD v30 (Int.toNat v32) (⟨Array.empty⟩ : ByteArray)) ++ (⟨#[(97 : UInt8)]⟩ : ByteArray)), ((List.getD v30 (Int.toNat v32) (⟨Array.empty⟩ : ByteArray)) ++ (⟨#[(98 : UInt8)]⟩ : ByteArray))])))) * 16) ≤ 140737488355328)) then
      if ((0 + ((List.length v4) + (List.length (List.take 2 (List.drop 0 [((List.getD v30 (Int.toNat v32) (⟨Array.empty⟩ : ByteArray)) ++ (⟨#[(97 : UInt8)]⟩ : ByteArray)), ((List.getD v30 (Int.toNat v32) (⟨Array.empty⟩ : ByteArray)) ++ (⟨#[(98 : UInt8)]⟩ : ByteArray))]))))) = (List.length ((List.drop 0 v4) ++ (List.take 2 (List.drop 0 [((List.getD v30 (Int.toNat v32) (⟨Array.empty⟩ : ByteArray)) ++ (⟨#[(97 : UInt8)]⟩ : ByteArray)), ((List.getD v30 (Int.toNat v32) (⟨Array.empty⟩ : ByteArray)) ++ (⟨#[(98 : UInt8)]⟩ : ByteArray))]))))) then
       some (Sum.inl (v0, (List.drop 0 ((List.drop 0 v4) ++ (List.take 2 (List.drop 0 [((List.getD v30 (Int.toNat v32) (⟨Array.empty⟩ : ByteArray)) ++ (⟨#[(97 : UInt8)]⟩ : ByteArray)), ((List.getD v30 (Int.toNat v32) (⟨Array.empty⟩ : ByteArray)) ++ (⟨#[(98 : UInt8)]⟩ : ByteArray))])))), v6, v30, v31, (IntKind.wrap .i64 (v32 + (1 : Int))), ()))
      else
       none
     else
      none
    else
     none
   else
    none
  else
   none
 else
  if ((0 + (List.length v4)) = (List.length v4)) then
   some (Sum.inr (v0, (List.drop 0 v4), v6, ()))
  else
   none
theorem impl_ShortWords_l8_eq : loopStep 46 E29 L29_0 (loopOf f29 8) sh29_8 xs29_8 = impl_ShortWords_l8 := by kernel_rfl
theorem loop29_8 {L} (h : L 8 = some ⟨46, sh29_8, xs29_8, impl_ShortWords_l8⟩) : LoopOk prog L (loopOf f29 8) := lo impl_ShortWords_l8_eq E29_ok allNil h
noncomputable def L29_1 : Nat → Option LoopD := fun n => ifEq n 8 (some ⟨46, sh29_8, xs29_8, impl_ShortWords_l8⟩) (L29_0 n)
def sh29_5 : List Fm := .cell (.val (.int .i64)) :: d :: d :: d :: .cell (.own .str 100400 true) :: .cell (.val (.int .i64)) :: D 40 []
def xs29_5 : List (Ex × List Fm) := [(.exit 0, (D 4 (.cell (.val (.sl .str)) :: D 41 [])))]
noncomputable def impl_ShortWords_l5 : (Int × (List ByteArray) × Int × Unit) → Option ((Int × (List ByteArray) × Int × Unit) ⊕ (((List ByteArray) × Unit))) := fun (v0, v4, v5, _) =>
 if (((0 : Int) ≤ (IntKind.wrap .i64 ((((List.length v4) : Nat) : Int) - (1 : Int)))) ∧ ((IntKind.wrap .i64 ((((List.length v4) : Nat) : Int) - (1 : Int))) < (((List.length v4) : Nat) : Int))) then
  bif (decide ((((ByteArray.size (List.getD v4 (0 + (Int.toNat (IntKind.wrap .i64 ((((List.length v4) : Nat) : Int) - (1 : Int))))) (⟨Array.empty⟩ : ByteArray))) : Nat) : Int) < v0)) then
   if (((0 : Int) ≤ v5) ∧ ((v5 ≤ (((List.length v4) : Nat) : Int)) ∧ ((((List.length v4) : Nat) : Int) ≤ (((List.length v4) : Nat) : Int)))) then
    if ((0 + (List.length v4)) = (List.length v4)) then
     Option.bind (loopF impl_ShortWords_l8 (v0, (List.drop 0 v4), (((List.length v4) : Nat) : Int), (List.take ((Int.toNat (((List.length v4) : Nat) : Int)) - (Int.toNat v5)) (List.drop (0 + (Int.toNat v5)) v4)), ((((Int.toNat (((List.length v4) : Nat) : Int)) - (Int.toNat v5)) : Nat) : Int), (0 : Int), ())) fun (r0, r1, r2, _) =>
      if ((0 + (List.length r1)) = (List.length r1)) then
       some (Sum.inl (r0, (List.drop 0 r1), r2, ()))
      else
       none
    else
     none
   else
    none
  else
   some (Sum.inr ((List.take (List.length v4) (List.drop 0 v4)), ()))
 else
  none
theorem impl_ShortWords_l5_eq : loopStep 46 E29 L29_1 (loopOf f29 5) sh29_5 xs29_5 = impl_ShortWords_l5 := by kernel_rfl
theorem loop29_5 {L} (h : L 5 = some ⟨46, sh29_5, xs29_5, impl_ShortWords_l5⟩) : LoopOk prog L (loopOf f29 5) := lo impl_ShortWords_l5_eq E29_ok (allCons (loop29_8 rfl) allNil) h
noncomputable def L29_2 : Nat → Option LoopD := fun n => ifEq n 5 (some ⟨46, sh29_5, xs29_5, impl_ShortWords_l5⟩) (L29_1 n)
noncomputable def impl_ShortWords : Int → Option ((List ByteArray) × Bool) := fun a0 =>
 bif (decide (a0 < (0 : Int))) then
  some ([], false)
 else
  bif (decide (a0 > (7 : Int))) then
   some ([], false)
  else
   if ((0 + 1) = (List.length [(⟨#[]⟩ : ByteArray)])) then
    Option.bind (loopF impl_ShortWords_l5 (a0, (List.drop 0 [(⟨#[]⟩ : ByteArray)]), (0 : Int), ())) fun (r0, _) =>
     some (r0, true)
   else
    none
noncomputable def A29 : FnA := ⟨[.v (.int .i64)], false, [.sl .str, .bool], fun x => impl_ShortWords x.1⟩
theorem impl_ShortWords_eq : fnF E29 L29_2 [.v (.int .i64)] false [.sl .str, .bool] f29.ntmps f29.results.toList (codeOf f29) = fun x => impl_ShortWords x.1 := by kernel_rfl
theorem A29_ok : FnOk prog 29 A29 := fo impl_ShortWords_eq func29 E29_ok (allCons (loop29_5 rfl) allNil)
/-! impl.FreeWords -/
noncomputable def E30 : Env := ⟨ty0, fun g => ifEq g 29 (some A29) (ifEq g 28 (some A28) (ifEq g 31 (some A31) (none))), fun _ => none, fun _ => none, fun _ => none⟩
theorem E30_ok : FnsOk prog E30 := (oF A29_ok func29 (oF A28_ok func28 (oF A31_ok func31 (noFns _ _))))
noncomputable def L30_0 : Nat → Option LoopD := fun _ => none
def sh30_6 : List Fm := d :: d :: .box 100200 [.val (.int .i64), .val (.sl (.int .i64)), .val (.sl (.int .i64)), .val (.sl (.pair (.int .i64) (.pair .str (.pair (.int .i64) (.int .i64)))))] :: D 5 (.cell (.own .str 100800 false) :: D 15 (.cell (.val (.sl .str)) :: .cell (.val (.int .i64)) :: .cell (.val (.int .i64)) :: D 13 []))
def xs30_6 : List (Ex × List Fm) := [(.exit 0, (D 8 (.cell (.own .str 100800 false) :: D 31 [])))]
noncomputable def impl_FreeWords_l6 : ((Int × (List Int) × (List Int) × (List (Int × (ByteArray × (Int × Int)))) × Unit) × (List ByteArray) × (List ByteArray) × Int × Int × Unit) → Option (((Int × (List Int) × (List Int) × (List (Int × (ByteArray × (Int × Int)))) × Unit) × (List ByteArray) × (List ByteArray) × Int × Int × Unit) ⊕ (((List ByteArray) × Unit))) := fun ((v2_0, v2_1, v2_2, v2_3, _), v8, v24, v25, v26, _) =>
 bif (decide (v26 < v25)) then
  if (((0 : Int) ≤ v26) ∧ (v26 < (((List.length v24) : Nat) : Int))) then
   Option.bind (impl_CostOf (v2_0, v2_1, v2_2, v2_3) (List.getD v24 (Int.toNat v26) (⟨Array.empty⟩ : ByteArray))) fun r0 =>
    bif (r0 == (0 : Int)) then
     if (((0 + (List.length v8)) = (List.length v8)) ∧ ((((List.length v8) + (List.length (List.take 1 (List.drop 0 [(List.getD v24 (Int.toNat v26) (⟨Array.empty⟩ : ByteArray))])))) * 16) ≤ 140737488355328)) then
      some (Sum.inl ((v2_0, v2_1, v2_2, v2_3, ()), (List.take ((List.length v8) + (List.length (List.take 1 (List.drop 0 [(List.getD v24 (Int.toNat v26) (⟨Array.empty⟩ : ByteArray))])))) (List.drop 0 ((List.drop 0 v8) ++ (List.take 1 (List.drop 0 [(List.getD v24 (Int.toNat v26) (⟨Array.empty⟩ : ByteArray))]))))), v24, v25, (IntKind.wrap .i64 (v26 + (1 : Int))), ()))
     else
      none
    else
     some (Sum.inl ((v2_0, v2_1, v2_2, v2_3, ()), (List.take (List.length v8) (List.drop 0 v8)), v24, v25, (IntKind.wrap .i64 (v26 + (1 : Int))), ()))
  else
   none
 else
  some (Sum.inr ((List.take (List.length v8) (List.drop 0 v8)), ()))
theorem impl_FreeWords_l6_eq : loopStep 40 E30 L30_0 (loopOf f30 6) sh30_6 xs30_6 = impl_FreeWords_l6 := by kernel_rfl
theorem loop30_6 {L} (h : L 6 = some ⟨40, sh30_6, xs30_6, impl_FreeWords_l6⟩) : LoopOk prog L (loopOf f30 6) := lo impl_FreeWords_l6_eq E30_ok allNil h
noncomputable def L30_1 : Nat → Option LoopD := fun n => ifEq n 6 (some ⟨40, sh30_6, xs30_6, impl_FreeWords_l6⟩) (L30_0 n)
noncomputable def impl_FreeWords : (Int × ((List Int) × ((List Int) × (List (Int × (ByteArray × (Int × Int))))))) → Int → Option ((List ByteArray) × Bool) := fun (a0_0, a0_1, a0_2, a0_3) a1 =>
 Option.bind (impl_ShortWords a1) fun (r0, r1) =>
  bif (!r1) then
   some ([], false)
  else
   Option.bind (impl_AutomatonValid (a0_0, a0_1, a0_2, a0_3)) fun r2 =>
    bif (!r2) then
     some ([], false)
    else
     Option.bind (loopF impl_FreeWords_l6 ((a0_0, a0_1, a0_2, a0_3, ()), (List.take 0 (List.drop 0 [])), r0, (((List.length r0) : Nat) : Int), (0 : Int), ())) fun (r3, _) =>
      some ((List.take (List.length r3) (List.drop 0 r3)), true)
noncomputable def A30 : FnA := ⟨[.v (.pair (.int .i64) (.pair (.sl (.int .i64)) (.pair (.sl (.int .i64)) (.sl (.pair (.int .i64) (.pair .str (.pair (.int .i64) (.int .i64)))))))), .v (.int .i64)], true, [.sl .str, .bool], fun x => impl_FreeWords x.1 x.2.1⟩
theorem impl_FreeWords_eq : fnF E30 L30_1 [.v (.pair (.int .i64) (.pair (.sl (.int .i64)) (.pair (.sl (.int .i64)) (.sl (.pair (.int .i64) (.pair .str (.pair (.int .i64) (.int .i64)))))))), .v (.int .i64)] true [.sl .str, .bool] f30.ntmps f30.results.toList (codeOf f30) = fun x => impl_FreeWords x.1 x.2.1 := by kernel_rfl
theorem A30_ok : FnOk prog 30 A30 := fo impl_FreeWords_eq func30 E30_ok (allCons (loop30_6 rfl) allNil)
/-! impl.firstWith -/
noncomputable def E72 : Env := ⟨ty0, fun g => ifEq g 23 (some A23) (none), fun _ => none, fun _ => none, fun _ => none⟩
theorem E72_ok : FnsOk prog E72 := (oF A23_ok func23 (noFns _ _))
noncomputable def L72_0 : Nat → Option LoopD := fun _ => none
def sh72_3 : List Fm := d :: .clo [.pair (.int .i64) (.sl (.int .i64))] .bool :: D 13 (.cell (.own (.pair (.pair (.int .i64) (.sl (.int .i64))) .str) 101500 false) :: .cell (.val (.int .i64)) :: .cell (.val (.int .i64)) :: D 10 [])
def xs72_3 : List (Ex × List Fm) := [(.ret, (D 4 (.cell (.val .str) :: .cell (.val .bool) :: D 22 []))), (.exit 0, (D 28 []))]
noncomputable def impl_firstWith_l3 : ((((Int × (List Int)) × Unit) → Option (Bool)) × (List ((Int × (List Int)) × ByteArray)) × Int × Int × Unit) → Option (((((Int × (List Int)) × Unit) → Option (Bool)) × (List ((Int × (List Int)) × ByteArray)) × Int × Int × Unit) ⊕ ((ByteArray × Bool × Unit) ⊕ (Unit))) := fun (v1, v15, v16, v17, _) =>
 bif (decide (v17 < v16)) then
  if (((0 : Int) ≤ v17) ∧ (v17 < (((List.length v15) : Nat) : Int))) then
   Option.bind (v1 (((List.getD v15 (0 + (Int.toNat v17)) (((0 : Int), []), (⟨Array.empty⟩ : ByteArray))).1.1, (List.getD v15 (0 + (Int.toNat v17)) (((0 : Int), []), (⟨Array.empty⟩ : ByteArray))).1.2), ())) fun r0 =>
    bif r0 then
     some (Sum.inr (Sum.inl ((List.getD v15 (0 + (Int.toNat v17)) (((0 : Int), []), (⟨Array.empty⟩ : ByteArray))).2, true, ())))
    else
     some (Sum.inl (v1, (List.take (List.length v15) (List.drop 0 v15)), v16, (IntKind.wrap .i64 (v17 + (1 : Int))), ()))
  else
   none
 else
  some (Sum.inr (Sum.inr ()))
theorem impl_firstWith_l3_eq : loopStep 28 E72 L72_0 (loopOf f72 3) sh72_3 xs72_3 = impl_firstWith_l3 := by kernel_rfl
theorem loop72_3 {L} (h : L 3 = some ⟨28, sh72_3, xs72_3, impl_firstWith_l3⟩) : LoopOk prog L (loopOf f72 3) := lo impl_firstWith_l3_eq E72_ok allNil h
noncomputable def L72_1 : Nat → Option LoopD := fun n => ifEq n 3 (some ⟨28, sh72_3, xs72_3, impl_firstWith_l3⟩) (L72_0 n)
noncomputable def impl_firstWith : (Int × ((List Int) × ((List Int) × (List (Int × (ByteArray × (Int × Int))))))) → (((Int × (List Int)) × Unit) → Option (Bool)) → Option (ByteArray × Bool) := fun (a0_0, a0_1, a0_2, a0_3) a1 =>
 Option.bind (impl_ElementsOf (a0_0, a0_1, a0_2, a0_3)) fun (r0, r1) =>
  Option.bind (loopF impl_firstWith_l3 (a1, (List.take (List.length r0) (List.drop 0 r0)), (((List.length r0) : Nat) : Int), (0 : Int), ())) fun r2 =>
   (match r2 with
   | .inl (d3, d4, _) =>
     some (d3, d4)
   | .inr _ =>
     some ((⟨#[]⟩ : ByteArray), false))
noncomputable def A72 : FnA := ⟨[.v (.pair (.int .i64) (.pair (.sl (.int .i64)) (.pair (.sl (.int .i64)) (.sl (.pair (.int .i64) (.pair .str (.pair (.int .i64) (.int .i64)))))))), .clo [.pair (.int .i64) (.sl (.int .i64))] .bool], true, [.str, .bool], fun x => impl_firstWith x.1 x.2.1⟩
theorem impl_firstWith_eq : fnF E72 L72_1 [.v (.pair (.int .i64) (.pair (.sl (.int .i64)) (.pair (.sl (.int .i64)) (.sl (.pair (.int .i64) (.pair .str (.pair (.int .i64) (.int .i64)))))))), .clo [.pair (.int .i64) (.sl (.int .i64))] .bool] true [.str, .bool] f72.ntmps f72.results.toList (codeOf f72) = fun x => impl_firstWith x.1 x.2.1 := by kernel_rfl
theorem A72_ok : FnOk prog 72 A72 := fo impl_firstWith_eq func72 E72_ok (allCons (loop72_3 rfl) allNil)
/-! impl.GrowingOf$1 -/
noncomputable def E73 : Env := ⟨ty0, fun g => ifEq g 40 (some A40) (none), fun _ => none, fun _ => none, fun _ => none⟩
theorem E73_ok : FnsOk prog E73 := (oF A40_ok func40 (noFns _ _))
noncomputable def L73_0 : Nat → Option LoopD := fun _ => none
noncomputable def impl_GrowingOf_1 : (Int × (List Int)) → (Int × ((List Int) × ((List Int) × (List (Int × (ByteArray × (Int × Int))))))) → Option (Bool) := fun (a0_0, a0_1) (a1_0, a1_1, a1_2, a1_3) =>
 Option.bind (impl_GradeBetween (a1_0, a1_1, a1_2, a1_3) (a0_0, a0_1)) fun r0 =>
  some (r0 == (2 : Int))
noncomputable def A73 : FnA := ⟨[.v (.pair (.int .i64) (.sl (.int .i64))), .cap (.pair (.int .i64) (.pair (.sl (.int .i64)) (.pair (.sl (.int .i64)) (.sl (.pair (.int .i64) (.pair .str (.pair (.int .i64) (.int .i64))))))))], true, [.bool], fun x => impl_GrowingOf_1 x.1 x.2.1⟩
theorem impl_GrowingOf_1_eq : fnF E73 L73_0 [.v (.pair (.int .i64) (.sl (.int .i64))), .cap (.pair (.int .i64) (.pair (.sl (.int .i64)) (.pair (.sl (.int .i64)) (.sl (.pair (.int .i64) (.pair .str (.pair (.int .i64) (.int .i64))))))))] true [.bool] f73.ntmps f73.results.toList (codeOf f73) = fun x => impl_GrowingOf_1 x.1 x.2.1 := by kernel_rfl
theorem A73_ok : FnOk prog 73 A73 := fo impl_GrowingOf_1_eq func73 E73_ok allNil
/-! impl.GrowingOf -/
noncomputable def E33 : Env := ⟨ty0, fun g => ifEq g 72 (some A72) (ifEq g 73 (some A73) (none)), fun _ => none, fun _ => none, fun _ => none⟩
theorem E33_ok : FnsOk prog E33 := (oF A72_ok func72 (oF A73_ok func73 (noFns _ _)))
noncomputable def L33_0 : Nat → Option LoopD := fun _ => none
noncomputable def impl_GrowingOf : (Int × ((List Int) × ((List Int) × (List (Int × (ByteArray × (Int × Int))))))) → Option (ByteArray × Bool) := fun (a0_0, a0_1, a0_2, a0_3) =>
 Option.bind (impl_firstWith (a0_0, a0_1, a0_2, a0_3) (fun y0 => (impl_GrowingOf_1 y0.1 (a0_0, a0_1, a0_2, a0_3)))) fun (r1, r2) =>
  some (r1, r2)
noncomputable def A33 : FnA := ⟨[.v (.pair (.int .i64) (.pair (.sl (.int .i64)) (.pair (.sl (.int .i64)) (.sl (.pair (.int .i64) (.pair .str (.pair (.int .i64) (.int .i64))))))))], true, [.str, .bool], fun x => impl_GrowingOf x.1⟩
theorem impl_GrowingOf_eq : fnF E33 L33_0 [.v (.pair (.int .i64) (.pair (.sl (.int .i64)) (.pair (.sl (.int .i64)) (.sl (.pair (.int .i64) (.pair .str (.pair (.int .i64) (.int .i64))))))))] true [.str, .bool] f33.ntmps f33.results.toList (codeOf f33) = fun x => impl_GrowingOf x.1 := by kernel_rfl
theorem A33_ok : FnOk prog 33 A33 := fo impl_GrowingOf_eq func33 E33_ok allNil
/-! impl.IsBounded -/
noncomputable def E32 : Env := ⟨ty0, fun g => ifEq g 23 (some A23) (ifEq g 33 (some A33) (none)), fun _ => none, fun _ => none, fun _ => none⟩
theorem E32_ok : FnsOk prog E32 := (oF A23_ok func23 (oF A33_ok func33 (noFns _ _)))
noncomputable def L32_0 : Nat → Option LoopD := fun _ => none
noncomputable def impl_IsBounded : (Int × ((List Int) × ((List Int) × (List (Int × (ByteArray × (Int × Int))))))) → Option (Bool × Bool) := fun (a0_0, a0_1, a0_2, a0_3) =>
 Option.bind (impl_ElementsOf (a0_0, a0_1, a0_2, a0_3)) fun (r0, r1) =>
  Option.bind (impl_GrowingOf (a0_0, a0_1, a0_2, a0_3)) fun (r2, r3) =>
   bif r1 then
    some ((!r3), r1)
   else
    some (false, r1)
noncomputable def A32 : FnA := ⟨[.v (.pair (.int .i64) (.pair (.sl (.int .i64)) (.pair (.sl (.int .i64)) (.sl (.pair (.int .i64) (.pair .str (.pair (.int .i64) (.int .i64))))))))], true, [.bool, .bool], fun x => impl_IsBounded x.1⟩
theorem impl_IsBounded_eq : fnF E32 L32_0 [.v (.pair (.int .i64) (.pair (.sl (.int .i64)) (.pair (.sl (.int .i64)) (.sl (.pair (.int .i64) (.pair .str (.pair (.int .i64) (.int .i64))))))))] true [.bool, .bool] f32.ntmps f32.results.toList (codeOf f32) = fun x => impl_IsBounded x.1 := by kernel_rfl
theorem A32_ok : FnOk prog 32 A32 := fo impl_IsBounded_eq func32 E32_ok allNil
/-! laws.FnVerdict -/
noncomputable def E6 : Env := ⟨ty0, fun g => ifEq g 27 (some A27) (ifEq g 26 (some A26) (ifEq g 25 (some A25) (ifEq g 28 (some A28) (ifEq g 29 (some A29) (ifEq g 30 (some A30) (ifEq g 31 (some A31) (ifEq g 32 (some A32) (ifEq g 33 (some A33) (none))))))))), fun _ => none, fun _ => none, fun _ => none⟩
theorem E6_ok : FnsOk prog E6 := (oF A27_ok func27 (oF A26_ok func26 (oF A25_ok func25 (oF A28_ok func28 (oF A29_ok func29 (oF A30_ok func30 (oF A31_ok func31 (oF A32_ok func32 (oF A33_ok func33 (noFns _ _))))))))))
noncomputable def L6_0 : Nat → Option LoopD := fun _ => none
def sh6_11 : List Fm := d :: d :: d :: .box 100300 [.val (.int .i64), .val (.sl (.int .i64)), .val (.sl (.int .i64)), .val (.sl (.pair (.int .i64) (.pair .str (.pair (.int .i64) (.int .i64)))))] :: .cell (.val .str) :: d :: d :: .cell (.own .str 100700 false) :: d :: .cell (.val (.int .i64)) :: D 46 (.cell (.val (.sl .str)) :: .cell (.val (.int .i64)) :: .cell (.val (.int .i64)) :: D 70 [])
def xs6_11 : List (Ex × List Fm) := [(.ret, (d :: d :: .cell (.val .bool) :: D 126 [])), (.exit 0, [d, d, d, .box 100300 [.val (.int .i64), .val (.sl (.int .i64)), .val (.sl (.int .i64)), .val (.sl (.pair (.int .i64) (.pair .str (.pair (.int .i64) (.int .i64)))))], .cell (.val .str), d, d, .cell (.own .str 100700 false), d, .cell (.val (.int .i64)), d, d, d, d, d, d, d, d, d, d, d, d, d, d, d, d, d, d, d, d, d, d, d, d, d, d, d, d, d, d, d, d, d, d, d, d, d, d, d, d, d, d, d, d, d, d, d, d, d, d, d, d, d, d, d, d, d, d, d, d, d, d, d, d, d, d, d, d, d, d, d, d, d, d, d, d, d, d, d, d, d, d, d, d, d, d, d, d, d, d, d, d, d, d, d, d, d, d, d, d, d, d, d, d, d, d, d, d, d, d, d, d, d, d, d, d, d, d, d])]
noncomputable def laws_FnVerdict_l11 : ((Int × (List Int) × (List Int) × (List (Int × (ByteArray × (Int × Int)))) × Unit) × ByteArray × (List ByteArray) × Int × (List ByteArray) × Int × Int × Unit) → Option (((Int × (List Int) × (List Int) × (List (Int × (ByteArray × (Int × Int)))) × Unit) × ByteArray × (List ByteArray) × Int × (List ByteArray) × Int × Int × Unit) ⊕ ((Bool × Unit) ⊕ ((Int × (List Int) × (List Int) × (List (Int × (ByteArray × (Int × Int)))) × Unit) × ByteArray × (List ByteArray) × Int × Unit))) := fun ((v3_0, v3_1, v3_2, v3_3, _), v4, v7, v9, v56, v57, v58, _) =>
 bif (decide (v58 < v57)) then
  if (((0 : Int) ≤ v58) ∧ (v58 < (((List.length v56) : Nat) : Int))) then
   Option.bind (impl_CostOf (v3_0, v3_1, v3_2, v3_3) (List.getD v56 (Int.toNat v58) (⟨Array.empty⟩ : ByteArray))) fun r0 =>
    bif (r0 == (0 : Int)) then
     bif (decide (v9 ≥ (((List.length v7) : Nat) : Int))) then
      some (Sum.inr (Sum.inl (false, ())))
     else
      if (((0 : Int) ≤ v9) ∧ (v9 < (((List.length v7) : Nat) : Int))) then
       bif (!((ByteArray.toList (List.getD v7 (0 + (Int.toNat v9)) (⟨Array.empty⟩ : ByteArray))) == (ByteArray.toList (List.getD v56 (Int.toNat v58) (⟨Array.empty⟩ : ByteArray))))) then
        some (Sum.inr (Sum.inl (false, ())))
       else
        bif ((ByteArray.toList v4) == (ByteArray.toList (⟨#[(110 : UInt8), (111 : UInt8), (110 : UInt8), (101 : UInt8)]⟩ : ByteArray))) then
         bif (r0 != (1000000 : Int)) then
          some (Sum.inr (Sum.inl (false, ())))
         else
          bif ((ByteArray.toList v4) == (ByteArray.toList (⟨#[(102 : UInt8), (114 : UInt8), (101 : UInt8), (101 : UInt8)]⟩ : ByteArray))) then
           bif (r0 != (0 : Int)) then
            bif (r0 != (1000000 : Int)) then
             some (Sum.inr (Sum.inl (false, ())))
            else
             some (Sum.inl ((v3_0, v3_1, v3_2, v3_3, ()), v4, (List.take (List.length v7) (List.drop 0 v7)), (IntKind.wrap .i64 (v9 + (1 : Int))), v56, v57, (IntKind.wrap .i64 (v58 + (1 : Int))), ()))
           else
            some (Sum.inl ((v3_0, v3_1, v3_2, v3_3, ()), v4, (List.take (List.length v7) (List.drop 0 v7)), (IntKind.wrap .i64 (v9 + (1 : Int))), v56, v57, (IntKind.wrap .i64 (v58 + (1 : Int))), ()))
          else
           some (Sum.inl ((v3_0, v3_1, v3_2, v3_3, ()), v4, (List.take (List.length v7) (List.drop 0 v7)), (IntKind.wrap .i64 (v9 + (1 : Int))), v56, v57, (IntKind.wrap .i64 (v58 + (1 : Int))), ()))
        else
         bif ((ByteArray.toList v4) == (ByteArray.toList (⟨#[(102 : UInt8), (114 : UInt8), (101 : UInt8), (101 : UInt8)]⟩ : ByteArray))) then
          bif (r0 != (0 : Int)) then
           bif (r0 != (1000000 : Int)) then
            some (Sum.inr (Sum.inl (false, ())))
           else
            some (Sum.inl ((v3_0, v3_1, v3_2, v3_3, ()), v4, (List.take (List.length v7) (List.drop 0 v7)), (IntKind.wrap .i64 (v9 + (1 : Int))), v56, v57, (IntKind.wrap .i64 (v58 + (1 : Int))), ()))
          else
           some (Sum.inl ((v3_0, v3_1, v3_2, v3_3, ()), v4, (List.take (List.length v7) (List.drop 0 v7)), (IntKind.wrap .i64 (v9 + (1 : Int))), v56, v57, (IntKind.wrap .i64 (v58 + (1 : Int))), ()))
         else
          some (Sum.inl ((v3_0, v3_1, v3_2, v3_3, ()), v4, (List.take (List.length v7) (List.drop 0 v7)), (IntKind.wrap .i64 (v9 + (1 : Int))), v56, v57, (IntKind.wrap .i64 (v58 + (1 : Int))), ()))
      else
       none
    else
     bif ((ByteArray.toList v4) == (ByteArray.toList (⟨#[(110 : UInt8), (111 : UInt8), (110 : UInt8), (101 : UInt8)]⟩ : ByteArray))) then
      bif (r0 != (1000000 : Int)) then
       some (Sum.inr (Sum.inl (false, ())))
      else
       bif ((ByteArray.toList v4) == (ByteArray.toList (⟨#[(102 : UInt8), (114 : UInt8), (101 : UInt8), (101 : UInt8)]⟩ : ByteArray))) then
        bif (r0 != (0 : Int)) then
         bif (r0 != (1000000 : Int)) then
          some (Sum.inr (Sum.inl (false, ())))
         else
          some (Sum.inl ((v3_0, v3_1, v3_2, v3_3, ()), v4, (List.take (List.length v7) (List.drop 0 v7)), v9, v56, v57, (IntKind.wrap .i64 (v58 + (1 : Int))), ()))
        else
         some (Sum.inl ((v3_0, v3_1, v3_2, v3_3, ()), v4, (List.take (List.length v7) (List.drop 0 v7)), v9, v56, v57, (IntKind.wrap .i64 (v58 + (1 : Int))), ()))
       else
        some (Sum.inl ((v3_0, v3_1, v3_2, v3_3, ()), v4, (List.take (List.length v7) (List.drop 0 v7)), v9, v56, v57, (IntKind.wrap .i64 (v58 + (1 : Int))), ()))
     else
      bif ((ByteArray.toList v4) == (ByteArray.toList (⟨#[(102 : UInt8), (114 : UInt8), (101 : UInt8), (101 : UInt8)]⟩ : ByteArray))) then
       bif (r0 != (0 : Int)) then
        bif (r0 != (1000000 : Int)) then
         some (Sum.inr (Sum.inl (false, ())))
        else
         some (Sum.inl ((v3_0, v3_1, v3_2, v3_3, ()), v4, (List.take (List.length v7) (List.drop 0 v7)), v9, v56, v57, (IntKind.wrap .i64 (v58 + (1 : Int))), ()))
       else
        some (Sum.inl ((v3_0, v3_1, v3_2, v3_3, ()), v4, (List.take (List.length v7) (List.drop 0 v7)), v9, v56, v57, (IntKind.wrap .i64 (v58 + (1 : Int))), ()))
      else
       some (Sum.inl ((v3_0, v3_1, v3_2, v3_3, ()), v4, (List.take (List.length v7) (List.drop 0 v7)), v9, v56, v57, (IntKind.wrap .i64 (v58 + (1 : Int))), ()))
  else
   none
 else
  some (Sum.inr (Sum.inr ((v3_0, v3_1, v3_2, v3_3, ()), v4, (List.take (List.length v7) (List.drop 0 v7)), v9, ())))
theorem laws_FnVerdict_l11_eq : loopStep 129 E6 L6_0 (loopOf f6 11) sh6_11 xs6_11 = laws_FnVerdict_l11 := by kernel_rfl
theorem loop6_11 {L} (h : L 11 = some ⟨129, sh6_11, xs6_11, laws_FnVerdict_l11⟩) : LoopOk prog L (loopOf f6 11) := lo laws_FnVerdict_l11_eq E6_ok allNil h
noncomputable def L6_1 : Nat → Option LoopD := fun n => ifEq n 11 (some ⟨129, sh6_11, xs6_11, laws_FnVerdict_l11⟩) (L6_0 n)
noncomputable def laws_FnVerdict : (List Int) → Option (Bool) := fun a0 =>
 bif (decide ((((List.length a0) : Nat) : Int) > (1048576 : Int))) then
  some true
 else
  Option.bind (spec_DrawVerdictOf a0) fun (r0, r1, r2, r3) =>
   Option.bind (impl_VerdictOf (r0, r1, r2, r3)) fun r4 =>
    Option.bind (spec_VerdictOf (r0, r1, r2, r3)) fun r5 =>
     bif (!((ByteArray.toList r4) == (ByteArray.toList r5))) then
      Option.bind (spec_VerdictOf (r0, r1, r2, r3)) fun r6 =>
       bif ((ByteArray.toList r4) == (ByteArray.toList r6)) then
        Option.bind (impl_AutomatonValid (r0, r1, r2, r3)) fun r7 =>
         some (((ByteArray.toList r4) == (ByteArray.toList (⟨#[(117 : UInt8), (110 : UInt8), (107 : UInt8), (110 : UInt8), (111 : UInt8), (119 : UInt8), (110 : UInt8)]⟩ : ByteArray))) == r7)
       else
        some false
     else
      bif ((ByteArray.toList r4) == (ByteArray.toList (⟨#[]⟩ : ByteArray))) then
       Option.bind (spec_VerdictOf (r0, r1, r2, r3)) fun r8 =>
        bif ((ByteArray.toList r4) == (ByteArray.toList r8)) then
         Option.bind (impl_AutomatonValid (r0, r1, r2, r3)) fun r9 =>
          some (((ByteArray.toList r4) == (ByteArray.toList (⟨#[(117 : UInt8), (110 : UInt8), (107 : UInt8), (110 : UInt8), (111 : UInt8), (119 : UInt8), (110 : UInt8)]⟩ : ByteArray))) == r9)
        else
         some false
      else
       bif ((ByteArray.toList r4) == (ByteArray.toList (⟨#[(117 : UInt8), (110 : UInt8), (107 : UInt8), (110 : UInt8), (111 : UInt8), (119 : UInt8), (110 : UInt8)]⟩ : ByteArray))) then
        Option.bind (spec_VerdictOf (r0, r1, r2, r3)) fun r10 =>
         bif ((ByteArray.toList r4) == (ByteArray.toList r10)) then
          Option.bind (impl_AutomatonValid (r0, r1, r2, r3)) fun r11 =>
           some (((ByteArray.toList r4) == (ByteArray.toList (⟨#[(117 : UInt8), (110 : UInt8), (107 : UInt8), (110 : UInt8), (111 : UInt8), (119 : UInt8), (110 : UInt8)]⟩ : ByteArray))) == r11)
         else
          some false
       else
        Option.bind (impl_ShortWords (5 : Int)) fun (r12, r13) =>
         Option.bind (impl_FreeWords (r0, r1, r2, r3) (5 : Int)) fun (r14, r15) =>
          Option.bind (loopF laws_FnVerdict_l11 ((r0, r1, r2, r3, ()), r4, (List.take (List.length r14) (List.drop 0 r14)), (0 : Int), r12, (((List.length r12) : Nat) : Int), (0 : Int), ())) fun r16 =>
           (match r16 with
           | .inl (d17, _) =>
             some d17
           | .inr ((d18, d19, d20, d21, _), d22, d23, d24, _) =>
             Option.bind (impl_IsBounded (d18, d19, d20, d21)) fun (r25, r26) =>
              Option.bind (impl_GrowingOf (d18, d19, d20, d21)) fun (r27, r28) =>
               bif (d24 == (((List.length d23) : Nat) : Int)) then
                bif r26 then
                 bif (r25 == (!((ByteArray.toList d22) == (ByteArray.toList (⟨#[(103 : UInt8), (114 : UInt8), (111 : UInt8), (119 : UInt8), (105 : UInt8), (110 : UInt8), (103 : UInt8)]⟩ : ByteArray))))) then
                  some (r28 == (!r25))
                 else
                  some false
                else
                 some false
               else
                some false)
noncomputable def A6 : FnA := ⟨[.v (.sl (.int .u8))], true, [.bool], fun x => laws_FnVerdict x.1⟩
theorem laws_FnVerdict_eq : fnF E6 L6_1 [.v (.sl (.int .u8))] true [.bool] f6.ntmps f6.results.toList (codeOf f6) = fun x => laws_FnVerdict x.1 := by kernel_rfl
theorem A6_ok : FnOk prog 6 A6 := fo laws_FnVerdict_eq func6 E6_ok (allCons (loop6_11 rfl) allNil)
end Go.Proofs.YtcmcjhdccnbmoaaGreat
