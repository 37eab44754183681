/- What Go functions that the laws reach compute, and that they do: written by a program of this session. -/
import Derived.Test.YtcmcjhdccnbmoaaGreatG0
import Derived.KernelRfl
set_option linter.unusedVariables false
namespace Go.Proofs.YtcmcjhdccnbmoaaGreat
open Go Go.Proofs.YtcmcjhdccnbmoaaGreat.Am Go.Proofs.Tryz
set_option maxRecDepth 100000
/-! impl.ElementsOf -/
noncomputable def E23_at5_at32 : Env := ⟨ty0, fun g => ifEq g 28 (some A28) (ifEq g 20 (some A20) (ifEq g 91 (some A91) (ifEq g 92 (some A92) (ifEq g 21 (some A21) (ifEq g 61 (some A61) (none)))))), fun _ => none, fun _ => none, fun _ => none⟩
theorem E23_at5_at32_ok : FnsOk prog E23_at5_at32 := (oF A28_ok func28 (oF A20_ok func20 (oF A91_ok func91 (oF A92_ok func92 (oF A21_ok func21 (oF A61_ok func61 (noFns _ _)))))))
noncomputable def L23_at5_at32_0 : Nat → Option LoopD := fun _ => none
def shi23_at5_at32 : List Fm := .box 100000 [.own (.pair (.pair (.int .i64) (.sl (.int .i64))) .str) 100001 false, .val .bool] :: .agg [.val (.int .i64), .own (.int .i64) 100102 false] :: .cell (.val .str) :: D 36 (.fnv 59 :: .box 104000 [.val (.int .i64), .val (.sl (.int .i64)), .val (.sl (.int .i64)), .val (.sl (.pair (.int .i64) (.pair .str (.pair (.int .i64) (.int .i64)))))] :: d :: d :: d :: .ali 100000 0 :: D 10 (.cell (.own .str 105500 false) :: .cell (.val (.int .i64)) :: .cell (.val (.int .i64)) :: D 50 []))
def sho23_at5_at32 : List Fm := d :: .fnv 59 :: .box 100200 [.val (.int .i64), .val (.sl (.int .i64)), .val (.sl (.int .i64)), .val (.sl (.pair (.int .i64) (.pair .str (.pair (.int .i64) (.int .i64)))))] :: d :: d :: d :: .box 100600 [.own (.pair (.pair (.int .i64) (.sl (.int .i64))) .str) 100601 false, .val .bool] :: D 10 (.cell (.own .str 101700 false) :: .cell (.val (.int .i64)) :: .cell (.val (.int .i64)) :: D 50 [])
noncomputable def impl_ElementsOf_at5_at32 : (((List ((Int × (List Int)) × ByteArray)) × Bool × Unit) × (Int × (List Int) × Unit) × ByteArray × (Int × (List Int) × (List Int) × (List (Int × (ByteArray × (Int × Int)))) × Unit) × (List ByteArray) × Int × Int × Unit) → Option ((Int × (List Int) × (List Int) × (List (Int × (ByteArray × (Int × Int)))) × Unit) × ((List ((Int × (List Int)) × ByteArray)) × Bool × Unit) × (List ByteArray) × Int × Int × Unit) := fun ((v0_0, v0_1, _), (v1_0, v1_1, _), v2, (v40_0, v40_1, v40_2, v40_3, _), v55, v56, v57, _) =>
 Option.bind (slices_ContainsFunc_Element (List.take (List.length v0_0) (List.drop 0 v0_0)) (fun y0 => (impl_found_put_1 y0.1 (v1_0, (List.take (List.length v1_1) (List.drop 0 v1_1)))))) fun r1 =>
  bif r1 then
   some ((v40_0, v40_1, v40_2, v40_3, ()), ((List.take (List.length v0_0) (List.drop 0 v0_0)), v0_1, ()), (List.take (List.length v55) (List.drop 0 v55)), v56, v57, ())
  else
   bif (decide ((((List.length v0_0) : Nat) : Int) ≥ (120 : Int))) then
    some ((v40_0, v40_1, v40_2, v40_3, ()), ((List.take (List.length v0_0) (List.drop 0 v0_0)), false, ()), (List.take (List.length v55) (List.drop 0 v55)), v56, v57, ())
   else
    bif (decide ((((ByteArray.size v2) : Nat) : Int) > (120 : Int))) then
     some ((v40_0, v40_1, v40_2, v40_3, ()), ((List.take (List.length v0_0) (List.drop 0 v0_0)), false, ()), (List.take (List.length v55) (List.drop 0 v55)), v56, v57, ())
    else
     if (((0 + (List.length v0_0)) = (List.length v0_0)) ∧ ((((List.length v0_0) + (List.length (List.take 1 (List.drop 0 [((v1_0, (List.take (List.length v1_1) (List.drop 0 v1_1))), v2)])))) * 48) ≤ 140737488355328)) then
      some ((v40_0, v40_1, v40_2, v40_3, ()), ((List.take ((List.length v0_0) + (List.length (List.take 1 (List.drop 0 [((v1_0, (List.take (List.length v1_1) (List.drop 0 v1_1))), v2)])))) (List.drop 0 ((List.drop 0 v0_0) ++ (List.take 1 (List.drop 0 [((v1_0, (List.take (List.length v1_1) (List.drop 0 v1_1))), v2)]))))), v0_1, ()), (List.take (List.length v55) (List.drop 0 v55)), v56, v57, ())
     else
      none
theorem impl_ElementsOf_at5_at32_eq : inlStep f60.ntmps 62 32 E23_at5_at32 L23_at5_at32_0 f60.results.toList (codeOf f60) shi23_at5_at32 sho23_at5_at32 = impl_ElementsOf_at5_at32 := by kernel_rfl
noncomputable def I23_at5_at32 : CallD := ⟨f60.ntmps, shi23_at5_at32, 62, sho23_at5_at32, impl_ElementsOf_at5_at32, 0⟩
theorem I23_at5_at32_ok : InlOk prog 32 60 I23_at5_at32 := inlOk_of (tysOk_of tyl_ok) E23_at5_at32_ok (L := L23_at5_at32_0) func60 (by kernel_rfl) (c := codeOf f60) (by kernel_rfl) (codeOk_in (L := L23_at5_at32_0) (tysOk_of tyl_ok) E23_at5_at32_ok mixed (c := codeOf f60) (bs := []) (by kernel_rfl) allNil (by kernel_rfl)) (by kernel_rfl) (by kernel_rfl) impl_ElementsOf_at5_at32_eq
noncomputable def E23_at5_at52_at31 : Env := ⟨ty0, fun g => ifEq g 28 (some A28) (ifEq g 20 (some A20) (ifEq g 91 (some A91) (ifEq g 92 (some A92) (ifEq g 21 (some A21) (ifEq g 61 (some A61) (none)))))), fun _ => none, fun _ => none, fun _ => none⟩
theorem E23_at5_at52_at31_ok : FnsOk prog E23_at5_at52_at31 := (oF A28_ok func28 (oF A20_ok func20 (oF A91_ok func91 (oF A92_ok func92 (oF A21_ok func21 (oF A61_ok func61 (noFns _ _)))))))
noncomputable def L23_at5_at52_at31_0 : Nat → Option LoopD := fun _ => none
def shi23_at5_at52_at31 : List Fm := .box 100000 [.own (.pair (.pair (.int .i64) (.sl (.int .i64))) .str) 100001 false, .val .bool] :: .agg [.val (.int .i64), .own (.int .i64) 100102 false] :: .cell (.val .str) :: D 35 (.ali 100000 0 :: .cell (.val (.int .i64)) :: d :: d :: .box 104200 [.val (.int .i64), .val (.sl (.int .i64)), .val .str] :: D 78 (.fnv 59 :: D 4 (.ali 100000 0 :: D 4 (.cell (.val (.int .i64)) :: D 58 []))))
def sho23_at5_at52_at31 : List Fm := .box 100000 [.own (.pair (.pair (.int .i64) (.sl (.int .i64))) .str) 100001 false, .val .bool] :: .cell (.val (.int .i64)) :: d :: d :: .box 100400 [.val (.int .i64), .val (.sl (.int .i64)), .val .str] :: D 78 (.fnv 59 :: D 4 (.ali 100000 0 :: D 4 (.cell (.val (.int .i64)) :: D 58 [])))
noncomputable def impl_ElementsOf_at5_at52_at31 : (((List ((Int × (List Int)) × ByteArray)) × Bool × Unit) × (Int × (List Int) × Unit) × ByteArray × Int × (Int × (List Int) × ByteArray × Unit) × Int × Unit) → Option (((List ((Int × (List Int)) × ByteArray)) × Bool × Unit) × Int × (Int × (List Int) × ByteArray × Unit) × Int × Unit) := fun ((v0_0, v0_1, _), (v1_0, v1_1, _), v2, v39, (v42_0, v42_1, v42_2, _), v131, _) =>
 Option.bind (slices_ContainsFunc_Element (List.take (List.length v0_0) (List.drop 0 v0_0)) (fun y0 => (impl_found_put_1 y0.1 (v1_0, (List.take (List.length v1_1) (List.drop 0 v1_1)))))) fun r1 =>
  bif r1 then
   some (((List.take (List.length v0_0) (List.drop 0 v0_0)), v0_1, ()), v39, (v42_0, v42_1, v42_2, ()), v131, ())
  else
   bif (decide ((((List.length v0_0) : Nat) : Int) ≥ (120 : Int))) then
    some (((List.take (List.length v0_0) (List.drop 0 v0_0)), false, ()), v39, (v42_0, v42_1, v42_2, ()), v131, ())
   else
    bif (decide ((((ByteArray.size v2) : Nat) : Int) > (120 : Int))) then
     some (((List.take (List.length v0_0) (List.drop 0 v0_0)), false, ()), v39, (v42_0, v42_1, v42_2, ()), v131, ())
    else
     if (((0 + (List.length v0_0)) = (List.length v0_0)) ∧ ((((List.length v0_0) + (List.length (List.take 1 (List.drop 0 [((v1_0, (List.take (List.length v1_1) (List.drop 0 v1_1))), v2)])))) * 48) ≤ 140737488355328)) then
      some (((List.take ((List.length v0_0) + (List.length (List.take 1 (List.drop 0 [((v1_0, (List.take (List.length v1_1) (List.drop 0 v1_1))), v2)])))) (List.drop 0 ((List.drop 0 v0_0) ++ (List.take 1 (List.drop 0 [((v1_0, (List.take (List.length v1_1) (List.drop 0 v1_1))), v2)]))))), v0_1, ()), v39, (v42_0, v42_1, v42_2, ()), v131, ())
     else
      none
theorem impl_ElementsOf_at5_at52_at31_eq : inlStep f60.ntmps 82 31 E23_at5_at52_at31 L23_at5_at52_at31_0 f60.results.toList (codeOf f60) shi23_at5_at52_at31 sho23_at5_at52_at31 = impl_ElementsOf_at5_at52_at31 := by kernel_rfl
noncomputable def I23_at5_at52_at31 : CallD := ⟨f60.ntmps, shi23_at5_at52_at31, 82, sho23_at5_at52_at31, impl_ElementsOf_at5_at52_at31, 0⟩
theorem I23_at5_at52_at31_ok : InlOk prog 31 60 I23_at5_at52_at31 := inlOk_of (tysOk_of tyl_ok) E23_at5_at52_at31_ok (L := L23_at5_at52_at31_0) func60 (by kernel_rfl) (c := codeOf f60) (by kernel_rfl) (codeOk_in (L := L23_at5_at52_at31_0) (tysOk_of tyl_ok) E23_at5_at52_at31_ok mixed (c := codeOf f60) (bs := []) (by kernel_rfl) allNil (by kernel_rfl)) (by kernel_rfl) (by kernel_rfl) impl_ElementsOf_at5_at52_at31_eq
noncomputable def E23_at5_at52_at65 : Env := ⟨ty0, fun g => ifEq g 28 (some A28) (ifEq g 20 (some A20) (ifEq g 91 (some A91) (ifEq g 92 (some A92) (ifEq g 21 (some A21) (ifEq g 61 (some A61) (none)))))), fun _ => none, fun _ => none, fun _ => none⟩
theorem E23_at5_at52_at65_ok : FnsOk prog E23_at5_at52_at65 := (oF A28_ok func28 (oF A20_ok func20 (oF A91_ok func91 (oF A92_ok func92 (oF A21_ok func21 (oF A61_ok func61 (noFns _ _)))))))
noncomputable def L23_at5_at52_at65_0 : Nat → Option LoopD := fun _ => none
def shi23_at5_at52_at65 : List Fm := .box 100000 [.own (.pair (.pair (.int .i64) (.sl (.int .i64))) .str) 100001 false, .val .bool] :: .cell (.val (.pair (.int .i64) (.sl (.int .i64)))) :: .cell (.val .str) :: D 35 (.ali 100000 0 :: .cell (.val (.int .i64)) :: d :: d :: .box 104200 [.val (.int .i64), .val (.sl (.int .i64)), .val .str] :: d :: d :: .cell (.val (.int .i64)) :: .box 104600 [.val (.int .i64), .val (.sl (.int .i64)), .val .str] :: .box 104700 [.val (.int .i64), .val (.sl (.int .i64))] :: D 73 (.fnv 59 :: D 4 (.ali 100000 0 :: D 4 (.cell (.val (.int .i64)) :: D 58 []))))
def sho23_at5_at52_at65 : List Fm := .box 100000 [.own (.pair (.pair (.int .i64) (.sl (.int .i64))) .str) 100001 false, .val .bool] :: .cell (.val (.int .i64)) :: d :: d :: .box 100400 [.val (.int .i64), .val (.sl (.int .i64)), .val .str] :: d :: d :: .cell (.val (.int .i64)) :: .box 100800 [.val (.int .i64), .val (.sl (.int .i64)), .val .str] :: .box 100900 [.val (.int .i64), .val (.sl (.int .i64))] :: D 73 (.fnv 59 :: D 4 (.ali 100000 0 :: D 4 (.cell (.val (.int .i64)) :: D 58 [])))
noncomputable def impl_ElementsOf_at5_at52_at65 : (((List ((Int × (List Int)) × ByteArray)) × Bool × Unit) × (Int × (List Int)) × ByteArray × Int × (Int × (List Int) × ByteArray × Unit) × Int × (Int × (List Int) × ByteArray × Unit) × (Int × (List Int) × Unit) × Int × Unit) → Option (((List ((Int × (List Int)) × ByteArray)) × Bool × Unit) × Int × (Int × (List Int) × ByteArray × Unit) × Int × (Int × (List Int) × ByteArray × Unit) × (Int × (List Int) × Unit) × Int × Unit) := fun ((v0_0, v0_1, _), (v1_0, v1_1), v2, v39, (v42_0, v42_1, v42_2, _), v45, (v46_0, v46_1, v46_2, _), (v47_0, v47_1, _), v131, _) =>
 Option.bind (slices_ContainsFunc_Element (List.take (List.length v0_0) (List.drop 0 v0_0)) (fun y0 => (impl_found_put_1 y0.1 (v1_0, v1_1)))) fun r1 =>
  bif r1 then
   some (((List.take (List.length v0_0) (List.drop 0 v0_0)), v0_1, ()), v39, (v42_0, v42_1, v42_2, ()), v45, (v46_0, v46_1, v46_2, ()), (v47_0, v47_1, ()), v131, ())
  else
   bif (decide ((((List.length v0_0) : Nat) : Int) ≥ (120 : Int))) then
    some (((List.take (List.length v0_0) (List.drop 0 v0_0)), false, ()), v39, (v42_0, v42_1, v42_2, ()), v45, (v46_0, v46_1, v46_2, ()), (v47_0, v47_1, ()), v131, ())
   else
    bif (decide ((((ByteArray.size v2) : Nat) : Int) > (120 : Int))) then
     some (((List.take (List.length v0_0) (List.drop 0 v0_0)), false, ()), v39, (v42_0, v42_1, v42_2, ()), v45, (v46_0, v46_1, v46_2, ()), (v47_0, v47_1, ()), v131, ())
    else
     if (((0 + (List.length v0_0)) = (List.length v0_0)) ∧ ((((List.length v0_0) + (List.length (List.take 1 (List.drop 0 [((v1_0, v1_1), v2)])))) * 48) ≤ 140737488355328)) then
      some (((List.take ((List.length v0_0) + (List.length (List.take 1 (List.drop 0 [((v1_0, v1_1), v2)])))) (List.drop 0 ((List.drop 0 v0_0) ++ (List.take 1 (List.drop 0 [((v1_0, v1_1), v2)]))))), v0_1, ()), v39, (v42_0, v42_1, v42_2, ()), v45, (v46_0, v46_1, v46_2, ()), (v47_0, v47_1, ()), v131, ())
     else
      none
theorem impl_ElementsOf_at5_at52_at65_eq : inlStep f60.ntmps 82 65 E23_at5_at52_at65 L23_at5_at52_at65_0 f60.results.toList (codeOf f60) shi23_at5_at52_at65 sho23_at5_at52_at65 = impl_ElementsOf_at5_at52_at65 := by kernel_rfl
noncomputable def I23_at5_at52_at65 : CallD := ⟨f60.ntmps, shi23_at5_at52_at65, 82, sho23_at5_at52_at65, impl_ElementsOf_at5_at52_at65, 0⟩
theorem I23_at5_at52_at65_ok : InlOk prog 65 60 I23_at5_at52_at65 := inlOk_of (tysOk_of tyl_ok) E23_at5_at52_at65_ok (L := L23_at5_at52_at65_0) func60 (by kernel_rfl) (c := codeOf f60) (by kernel_rfl) (codeOk_in (L := L23_at5_at52_at65_0) (tysOk_of tyl_ok) E23_at5_at52_at65_ok mixed (c := codeOf f60) (bs := []) (by kernel_rfl) allNil (by kernel_rfl)) (by kernel_rfl) (by kernel_rfl) impl_ElementsOf_at5_at52_at65_eq
noncomputable def E23_at5_at52_at81 : Env := ⟨ty0, fun g => ifEq g 28 (some A28) (ifEq g 20 (some A20) (ifEq g 91 (some A91) (ifEq g 92 (some A92) (ifEq g 21 (some A21) (ifEq g 61 (some A61) (none)))))), fun _ => none, fun _ => none, fun _ => none⟩
theorem E23_at5_at52_at81_ok : FnsOk prog E23_at5_at52_at81 := (oF A28_ok func28 (oF A20_ok func20 (oF A91_ok func91 (oF A92_ok func92 (oF A21_ok func21 (oF A61_ok func61 (noFns _ _)))))))
noncomputable def L23_at5_at52_at81_0 : Nat → Option LoopD := fun _ => none
def shi23_at5_at52_at81 : List Fm := .box 100000 [.own (.pair (.pair (.int .i64) (.sl (.int .i64))) .str) 100001 false, .val .bool] :: .agg [.val (.int .i64), .own (.int .i64) 100102 false] :: .cell (.val .str) :: D 35 (.ali 100000 0 :: .cell (.val (.int .i64)) :: d :: d :: .box 104200 [.val (.int .i64), .val (.sl (.int .i64)), .val .str] :: d :: d :: .cell (.val (.int .i64)) :: D 75 (.fnv 59 :: D 4 (.ali 100000 0 :: D 4 (.cell (.val (.int .i64)) :: D 58 []))))
def sho23_at5_at52_at81 : List Fm := .box 100000 [.own (.pair (.pair (.int .i64) (.sl (.int .i64))) .str) 100001 false, .val .bool] :: .cell (.val (.int .i64)) :: d :: d :: .box 100400 [.val (.int .i64), .val (.sl (.int .i64)), .val .str] :: d :: d :: .cell (.val (.int .i64)) :: D 75 (.fnv 59 :: D 4 (.ali 100000 0 :: D 4 (.cell (.val (.int .i64)) :: D 58 [])))
noncomputable def impl_ElementsOf_at5_at52_at81 : (((List ((Int × (List Int)) × ByteArray)) × Bool × Unit) × (Int × (List Int) × Unit) × ByteArray × Int × (Int × (List Int) × ByteArray × Unit) × Int × Int × Unit) → Option (((List ((Int × (List Int)) × ByteArray)) × Bool × Unit) × Int × (Int × (List Int) × ByteArray × Unit) × Int × Int × Unit) := fun ((v0_0, v0_1, _), (v1_0, v1_1, _), v2, v39, (v42_0, v42_1, v42_2, _), v45, v131, _) =>
 Option.bind (slices_ContainsFunc_Element (List.take (List.length v0_0) (List.drop 0 v0_0)) (fun y0 => (impl_found_put_1 y0.1 (v1_0, (List.take (List.length v1_1) (List.drop 0 v1_1)))))) fun r1 =>
  bif r1 then
   some (((List.take (List.length v0_0) (List.drop 0 v0_0)), v0_1, ()), v39, (v42_0, v42_1, v42_2, ()), v45, v131, ())
  else
   bif (decide ((((List.length v0_0) : Nat) : Int) ≥ (120 : Int))) then
    some (((List.take (List.length v0_0) (List.drop 0 v0_0)), false, ()), v39, (v42_0, v42_1, v42_2, ()), v45, v131, ())
   else
    bif (decide ((((ByteArray.size v2) : Nat) : Int) > (120 : Int))) then
     some (((List.take (List.length v0_0) (List.drop 0 v0_0)), false, ()), v39, (v42_0, v42_1, v42_2, ()), v45, v131, ())
    else
     if (((0 + (List.length v0_0)) = (List.length v0_0)) ∧ ((((List.length v0_0) + (List.length (List.take 1 (List.drop 0 [((v1_0, (List.take (List.length v1_1) (List.drop 0 v1_1))), v2)])))) * 48) ≤ 140737488355328)) then
      some (((List.take ((List.length v0_0) + (List.length (List.take 1 (List.drop 0 [((v1_0, (List.take (List.length v1_1) (List.drop 0 v1_1))), v2)])))) (List.drop 0 ((List.drop 0 v0_0) ++ (List.take 1 (List.drop 0 [((v1_0, (List.take (List.length v1_1) (List.drop 0 v1_1))), v2)]))))), v0_1, ()), v39, (v42_0, v42_1, v42_2, ()), v45, v131, ())
     else
      none
theorem impl_ElementsOf_at5_at52_at81_eq : inlStep f60.ntmps 82 81 E23_at5_at52_at81 L23_at5_at52_at81_0 f60.results.toList (codeOf f60) shi23_at5_at52_at81 sho23_at5_at52_at81 = impl_ElementsOf_at5_at52_at81 := by kernel_rfl
noncomputable def I23_at5_at52_at81 : CallD := ⟨f60.ntmps, shi23_at5_at52_at81, 82, sho23_at5_at52_at81, impl_ElementsOf_at5_at52_at81, 0⟩
theorem I23_at5_at52_at81_ok : InlOk prog 81 60 I23_at5_at52_at81 := inlOk_of (tysOk_of tyl_ok) E23_at5_at52_at81_ok (L := L23_at5_at52_at81_0) func60 (by kernel_rfl) (c := codeOf f60) (by kernel_rfl) (codeOk_in (L := L23_at5_at52_at81_0) (tysOk_of tyl_ok) E23_at5_at52_at81_ok mixed (c := codeOf f60) (bs := []) (by kernel_rfl) allNil (by kernel_rfl)) (by kernel_rfl) (by kernel_rfl) impl_ElementsOf_at5_at52_at81_eq
noncomputable def E23_at5_at52 : Env := ⟨ty0, fun g => ifEq g 28 (some A28) (ifEq g 20 (some A20) (ifEq g 91 (some A91) (ifEq g 92 (some A92) (ifEq g 21 (some A21) (ifEq g 61 (some A61) (none)))))), fun _ => none, fun _ => none, fun d => ifI (Nat.beq d 31) (some (60, I23_at5_at52_at31)) (ifI (Nat.beq d 65) (some (60, I23_at5_at52_at65)) (ifI (Nat.beq d 81) (some (60, I23_at5_at52_at81)) (none)))⟩
theorem E23_at5_at52_ok : FnsOk prog E23_at5_at52 := (oneIl (d0 := 31) (g0 := 60) I23_at5_at52_at31_ok (oneIl (d0 := 65) (g0 := 60) I23_at5_at52_at65_ok (oneIl (d0 := 81) (g0 := 60) I23_at5_at52_at81_ok (oF A28_ok func28 (oF A20_ok func20 (oF A91_ok func91 (oF A92_ok func92 (oF A21_ok func21 (oF A61_ok func61 (noFns _ _))))))))))
noncomputable def L23_at5_at52_0 : Nat → Option LoopD := fun _ => none
def sh23_at5_at52_5 : List Fm := .box 100000 [.own (.pair (.pair (.int .i64) (.sl (.int .i64))) .str) 100001 false, .val .bool] :: .cell (.val (.int .i64)) :: d :: d :: .box 100400 [.val (.int .i64), .val (.sl (.int .i64)), .val .str] :: d :: d :: .cell (.val (.int .i64)) :: D 75 (.fnv 59 :: D 4 (.ali 100000 0 :: D 4 (.cell (.val (.int .i64)) :: D 58 [])))
def xs23_at5_at52_5 : List (Ex × List Fm) := [(.exit 0, [d, d, d, d, d, d, d, d, d, d, d, d, d, d, d, d, d, d, d, d, d, d, d, d, d, d, d, d, d, d, d, d, d, d, d, d, d, d, d, d, d, d, d, d, d, d, d, d, d, d, d, d, d, d, d, d, d, d, d, d, d, d, d, d, d, d, d, d, d, d, d, d, d, d, d, d, d, d, d, d, d, d, d, .fnv 59, d, d, d, d, .box 108800 [.own (.pair (.pair (.int .i64) (.sl (.int .i64))) .str) 108801 false, .val .bool], d, d, d, d, .cell (.val (.int .i64)), d, d, d, d, d, d, d, d, d, d, d, d, d, d, d, d, d, d, d, d, d, d, d, d, d, d, d, d, d, d, d, d, d, d, d, d, d, d, d, d, d, d, d, d, d, d, d, d, d, d, d, d, d, d, d, d, d, d])]
noncomputable def impl_ElementsOf_at5_at52_l5 : (((List ((Int × (List Int)) × ByteArray)) × Bool × Unit) × Int × (Int × (List Int) × ByteArray × Unit) × Int × Int × Unit) → Option ((((List ((Int × (List Int)) × ByteArray)) × Bool × Unit) × Int × (Int × (List Int) × ByteArray × Unit) × Int × Int × Unit) ⊕ ((((List ((Int × (List Int)) × ByteArray)) × Bool × Unit) × Int × Unit))) := fun ((v0_0, v0_1, _), v1, (v4_0, v4_1, v4_2, _), v7, v93, _) =>
 bif (decide (v7 ≤ v1)) then
  bif v0_1 then
   if (((0 : Int) ≤ v7) ∧ (v7 < (((List.length v0_0) : Nat) : Int))) then
    Option.bind (impl_MulGrades (v4_0, v4_1) ((List.getD v0_0 (0 + (Int.toNat v7)) (((0 : Int), []), (⟨Array.empty⟩ : ByteArray))).1.1, (List.getD v0_0 (0 + (Int.toNat v7)) (((0 : Int), []), (⟨Array.empty⟩ : ByteArray))).1.2)) fun ((r0, r1), r2) =>
     if (((ByteArray.size v4_2) + (ByteArray.size (List.getD v0_0 (0 + (Int.toNat v7)) (((0 : Int), []), (⟨Array.empty⟩ : ByteArray))).2)) ≤ 9223372036854775807) then
      Option.bind (impl_ElementsOf_at5_at52_at65 (((List.take (List.length v0_0) (List.drop 0 v0_0)), v0_1, ()), (r0, (List.take (List.length r1) (List.drop 0 r1))), (v4_2 ++ (List.getD v0_0 (0 + (Int.toNat v7)) (((0 : Int), []), (⟨Array.empty⟩ : ByteArray))).2), v1, (v4_0, v4_1, v4_2, ()), v7, ((List.getD v0_0 (0 + (Int.toNat v7)) (((0 : Int), []), (⟨Array.empty⟩ : ByteArray))).1.1, (List.getD v0_0 (0 + (Int.toNat v7)) (((0 : Int), []), (⟨Array.empty⟩ : ByteArray))).1.2, (List.getD v0_0 (0 + (Int.toNat v7)) (((0 : Int), []), (⟨Array.empty⟩ : ByteArray))).2, ()), (r0, (List.take (List.length r1) (List.drop 0 r1)), ()), v93, ())) fun ((r3, r4, _), r5, (r6, r7, r8, _), r9, (r10, r11, r12, _), (r13, r14, _), r15, _) =>
       Option.bind (impl_MulGrades (r10, r11) (r6, r7)) fun ((r16, r17), r18) =>
        if (((ByteArray.size r12) + (ByteArray.size r8)) ≤ 9223372036854775807) then
         Option.bind (impl_ElementsOf_at5_at52_at81 (((List.take (List.length r3) (List.drop 0 r3)), r4, ()), (r16, (List.take (List.length r17) (List.drop 0 r17)), ()), (r12 ++ r8), r5, (r6, r7, r8, ()), r9, r15, ())) fun ((r19, r20, _), r21, (r22, r23, r24, _), r25, r26, _) =>
          some (Sum.inl (((List.take (List.length r19) (List.drop 0 r19)), r20, ()), r21, (r22, r23, r24, ()), (IntKind.wrap .i64 (r25 + (1 : Int))), r26, ()))
        else
         none
     else
      none
   else
    none
  else
   some (Sum.inr (((List.take (List.length v0_0) (List.drop 0 v0_0)), v0_1, ()), v93, ()))
 else
  some (Sum.inr (((List.take (List.length v0_0) (List.drop 0 v0_0)), v0_1, ()), v93, ()))
theorem impl_ElementsOf_at5_at52_l5_eq : loopStep 82 E23_at5_at52 L23_at5_at52_0 (loopOf f59 5) sh23_at5_at52_5 xs23_at5_at52_5 = impl_ElementsOf_at5_at52_l5 := by kernel_rfl
theorem loop23_at5_at52_5 {L} (h : L 5 = some ⟨82, sh23_at5_at52_5, xs23_at5_at52_5, impl_ElementsOf_at5_at52_l5⟩) : LoopOk prog L (loopOf f59 5) := lo impl_ElementsOf_at5_at52_l5_eq E23_at5_at52_ok allNil h
noncomputable def L23_at5_at52_1 : Nat → Option LoopD := fun n => ifEq n 5 (some ⟨82, sh23_at5_at52_5, xs23_at5_at52_5, impl_ElementsOf_at5_at52_l5⟩) (L23_at5_at52_0 n)
def shi23_at5_at52 : List Fm := .box 100000 [.own (.pair (.pair (.int .i64) (.sl (.int .i64))) .str) 100001 false, .val .bool] :: .cell (.val (.int .i64)) :: D 81 (.fnv 59 :: D 4 (.ali 100000 0 :: D 4 (.cell (.val (.int .i64)) :: D 58 [])))
def sho23_at5_at52 : List Fm := d :: .fnv 59 :: D 4 (.box 100600 [.own (.pair (.pair (.int .i64) (.sl (.int .i64))) .str) 100601 false, .val .bool] :: D 4 (.cell (.val (.int .i64)) :: D 58 []))
noncomputable def impl_ElementsOf_at5_at52 : (((List ((Int × (List Int)) × ByteArray)) × Bool × Unit) × Int × Int × Unit) → Option (((List ((Int × (List Int)) × ByteArray)) × Bool × Unit) × Int × Unit) := fun ((v0_0, v0_1, _), v1, v93, _) =>
 if (((0 : Int) ≤ v1) ∧ (v1 < (((List.length v0_0) : Nat) : Int))) then
  Option.bind (impl_Stabilise ((List.getD v0_0 (0 + (Int.toNat v1)) (((0 : Int), []), (⟨Array.empty⟩ : ByteArray))).1.1, (List.getD v0_0 (0 + (Int.toNat v1)) (((0 : Int), []), (⟨Array.empty⟩ : ByteArray))).1.2)) fun ((r0, r1), r2) =>
   bif r2 then
    if (((ByteArray.size (⟨#[(40 : UInt8)]⟩ : ByteArray)) + (ByteArray.size (List.getD v0_0 (0 + (Int.toNat v1)) (((0 : Int), []), (⟨Array.empty⟩ : ByteArray))).2)) ≤ 9223372036854775807) then
     if (((ByteArray.size ((⟨#[(40 : UInt8)]⟩ : ByteArray) ++ (List.getD v0_0 (0 + (Int.toNat v1)) (((0 : Int), []), (⟨Array.empty⟩ : ByteArray))).2)) + (ByteArray.size (⟨#[(41 : UInt8), (35 : UInt8)]⟩ : ByteArray))) ≤ 9223372036854775807) then
      Option.bind (impl_ElementsOf_at5_at52_at31 (((List.take (List.length v0_0) (List.drop 0 v0_0)), v0_1, ()), (r0, (List.take (List.length r1) (List.drop 0 r1)), ()), (((⟨#[(40 : UInt8)]⟩ : ByteArray) ++ (List.getD v0_0 (0 + (Int.toNat v1)) (((0 : Int), []), (⟨Array.empty⟩ : ByteArray))).2) ++ (⟨#[(41 : UInt8), (35 : UInt8)]⟩ : ByteArray)), v1, ((List.getD v0_0 (0 + (Int.toNat v1)) (((0 : Int), []), (⟨Array.empty⟩ : ByteArray))).1.1, (List.getD v0_0 (0 + (Int.toNat v1)) (((0 : Int), []), (⟨Array.empty⟩ : ByteArray))).1.2, (List.getD v0_0 (0 + (Int.toNat v1)) (((0 : Int), []), (⟨Array.empty⟩ : ByteArray))).2, ()), v93, ())) fun ((r3, r4, _), r5, (r6, r7, r8, _), r9, _) =>
       Option.bind (loopF impl_ElementsOf_at5_at52_l5 (((List.take (List.length r3) (List.drop 0 r3)), r4, ()), r5, (r6, r7, r8, ()), (0 : Int), r9, ())) fun ((r10, r11, _), r12, _) =>
        some (((List.take (List.length r10) (List.drop 0 r10)), r11, ()), r12, ())
     else
      none
    else
     none
   else
    Option.bind (loopF impl_ElementsOf_at5_at52_l5 (((List.take (List.length v0_0) (List.drop 0 v0_0)), v0_1, ()), v1, ((List.getD v0_0 (0 + (Int.toNat v1)) (((0 : Int), []), (⟨Array.empty⟩ : ByteArray))).1.1, (List.getD v0_0 (0 + (Int.toNat v1)) (((0 : Int), []), (⟨Array.empty⟩ : ByteArray))).1.2, (List.getD v0_0 (0 + (Int.toNat v1)) (((0 : Int), []), (⟨Array.empty⟩ : ByteArray))).2, ()), (0 : Int), v93, ())) fun ((r13, r14, _), r15, _) =>
     some (((List.take (List.length r13) (List.drop 0 r13)), r14, ()), r15, ())
 else
  none
theorem impl_ElementsOf_at5_at52_eq : inlStep f59.ntmps 62 52 E23_at5_at52 L23_at5_at52_1 f59.results.toList (codeOf f59) shi23_at5_at52 sho23_at5_at52 = impl_ElementsOf_at5_at52 := by kernel_rfl
noncomputable def I23_at5_at52 : CallD := ⟨f59.ntmps, shi23_at5_at52, 62, sho23_at5_at52, impl_ElementsOf_at5_at52, 0⟩
theorem I23_at5_at52_ok : InlOk prog 52 59 I23_at5_at52 := inlOk_of (tysOk_of tyl_ok) E23_at5_at52_ok (L := L23_at5_at52_1) func59 (by kernel_rfl) (c := codeOf f59) (by kernel_rfl) (codeOk_in (L := L23_at5_at52_1) (tysOk_of tyl_ok) E23_at5_at52_ok mixed (c := codeOf f59) (bs := [loopOf f59 5]) (by kernel_rfl) (allCons (loop23_at5_at52_5 rfl) allNil) (by kernel_rfl)) (by kernel_rfl) (by kernel_rfl) impl_ElementsOf_at5_at52_eq
noncomputable def E23_at5 : Env := ⟨ty0, fun g => ifEq g 28 (some A28) (ifEq g 20 (some A20) (ifEq g 91 (some A91) (ifEq g 92 (some A92) (ifEq g 21 (some A21) (ifEq g 61 (some A61) (none)))))), fun _ => none, fun _ => none, fun d => ifI (Nat.beq d 32) (some (60, I23_at5_at32)) (ifI (Nat.beq d 52) (some (59, I23_at5_at52)) (none))⟩
theorem E23_at5_ok : FnsOk prog E23_at5 := (oneIl (d0 := 32) (g0 := 60) I23_at5_at32_ok (oneIl (d0 := 52) (g0 := 59) I23_at5_at52_ok (oF A28_ok func28 (oF A20_ok func20 (oF A91_ok func91 (oF A92_ok func92 (oF A21_ok func21 (oF A61_ok func61 (noFns _ _)))))))))
noncomputable def L23_at5_0 : Nat → Option LoopD := fun _ => none
def sh23_at5_5 : List Fm := d :: .fnv 59 :: .box 100200 [.val (.int .i64), .val (.sl (.int .i64)), .val (.sl (.int .i64)), .val (.sl (.pair (.int .i64) (.pair .str (.pair (.int .i64) (.int .i64)))))] :: d :: d :: d :: .box 100600 [.own (.pair (.pair (.int .i64) (.sl (.int .i64))) .str) 100601 false, .val .bool] :: D 10 (.cell (.own .str 101700 false) :: .cell (.val (.int .i64)) :: .cell (.val (.int .i64)) :: D 50 [])
def xs23_at5_5 : List (Ex × List Fm) := [(.exit 0, [d, .fnv 59, d, d, d, d, .box 100600 [.own (.pair (.pair (.int .i64) (.sl (.int .i64))) .str) 100601 false, .val .bool], d, d, d, d, d, d, d, d, d, d, d, d, d, d, d, d, d, d, d, d, d, d, d, d, d, d, d, d, d, d, d, d, d, d, d, d, d, d, d, d, d, d, d, d, d, d, d, d, d, d, d, d, d, d, d, d, d, d, d, d, d, d, d])]
noncomputable def impl_ElementsOf_at5_l5 : ((Int × (List Int) × (List Int) × (List (Int × (ByteArray × (Int × Int)))) × Unit) × ((List ((Int × (List Int)) × ByteArray)) × Bool × Unit) × (List ByteArray) × Int × Int × Unit) → Option (((Int × (List Int) × (List Int) × (List (Int × (ByteArray × (Int × Int)))) × Unit) × ((List ((Int × (List Int)) × ByteArray)) × Bool × Unit) × (List ByteArray) × Int × Int × Unit) ⊕ ((((List ((Int × (List Int)) × ByteArray)) × Bool × Unit) × Unit))) := fun ((v2_0, v2_1, v2_2, v2_3, _), (v6_0, v6_1, _), v17, v18, v19, _) =>
 bif (decide (v19 < v18)) then
  if (((0 : Int) ≤ v19) ∧ (v19 < (((List.length v17) : Nat) : Int))) then
   Option.bind (impl_ValueOf (v2_0, v2_1, v2_2, v2_3) (List.getD v17 (0 + (Int.toNat v19)) (⟨Array.empty⟩ : ByteArray))) fun ((r0, r1), r2) =>
    Option.bind (impl_ElementsOf_at5_at32 (((List.take (List.length v6_0) (List.drop 0 v6_0)), v6_1, ()), (r0, (List.take (List.length r1) (List.drop 0 r1)), ()), (List.getD v17 (0 + (Int.toNat v19)) (⟨Array.empty⟩ : ByteArray)), (v2_0, v2_1, v2_2, v2_3, ()), (List.take (List.length v17) (List.drop 0 v17)), v18, v19, ())) fun ((r3, r4, r5, r6, _), (r7, r8, _), r9, r10, r11, _) =>
     some (Sum.inl ((r3, r4, r5, r6, ()), ((List.take (List.length r7) (List.drop 0 r7)), r8, ()), (List.take (List.length r9) (List.drop 0 r9)), r10, (IntKind.wrap .i64 (r11 + (1 : Int))), ()))
  else
   none
 else
  some (Sum.inr (((List.take (List.length v6_0) (List.drop 0 v6_0)), v6_1, ()), ()))
theorem impl_ElementsOf_at5_l5_eq : loopStep 62 E23_at5 L23_at5_0 (loopOf f58 5) sh23_at5_5 xs23_at5_5 = impl_ElementsOf_at5_l5 := by kernel_rfl
theorem loop23_at5_5 {L} (h : L 5 = some ⟨62, sh23_at5_5, xs23_at5_5, impl_ElementsOf_at5_l5⟩) : LoopOk prog L (loopOf f58 5) := lo impl_ElementsOf_at5_l5_eq E23_at5_ok allNil h
noncomputable def L23_at5_1 : Nat → Option LoopD := fun n => ifEq n 5 (some ⟨62, sh23_at5_5, xs23_at5_5, impl_ElementsOf_at5_l5⟩) (L23_at5_0 n)
def sh23_at5_11 : List Fm := d :: .fnv 59 :: D 4 (.box 100600 [.own (.pair (.pair (.int .i64) (.sl (.int .i64))) .str) 100601 false, .val .bool] :: D 4 (.cell (.val (.int .i64)) :: D 58 []))
def xs23_at5_11 : List (Ex × List Fm) := [(.exit 2, [d, d, d, d, d, d, .box 100600 [.own (.pair (.pair (.int .i64) (.sl (.int .i64))) .str) 100601 false, .val .bool], d, d, d, d, d, d, d, d, d, d, d, d, d, d, d, d, d, d, d, d, d, d, d, d, d, d, d, d, d, d, d, d, d, d, d, d, d, d, d, d, d, d, d, d, d, d, d, d, d, d, d, d, d, d, d, d, d, d, d, d, d, d, d])]
noncomputable def impl_ElementsOf_at5_l11 : (((List ((Int × (List Int)) × ByteArray)) × Bool × Unit) × Int × Unit) → Option ((((List ((Int × (List Int)) × ByteArray)) × Bool × Unit) × Int × Unit) ⊕ ((((List ((Int × (List Int)) × ByteArray)) × Bool × Unit) × Unit))) := fun ((v6_0, v6_1, _), v11, _) =>
 bif (decide (v11 < (((List.length v6_0) : Nat) : Int))) then
  bif v6_1 then
   Option.bind (impl_ElementsOf_at5_at52 (((List.take (List.length v6_0) (List.drop 0 v6_0)), v6_1, ()), v11, v11, ())) fun ((r0, r1, _), r2, _) =>
    some (Sum.inl (((List.take (List.length r0) (List.drop 0 r0)), r1, ()), (IntKind.wrap .i64 (r2 + (1 : Int))), ()))
  else
   some (Sum.inr (((List.take (List.length v6_0) (List.drop 0 v6_0)), v6_1, ()), ()))
 else
  some (Sum.inr (((List.take (List.length v6_0) (List.drop 0 v6_0)), v6_1, ()), ()))
theorem impl_ElementsOf_at5_l11_eq : loopStep 62 E23_at5 L23_at5_1 (loopOf f58 11) sh23_at5_11 xs23_at5_11 = impl_ElementsOf_at5_l11 := by kernel_rfl
theorem loop23_at5_11 {L} (h : L 11 = some ⟨62, sh23_at5_11, xs23_at5_11, impl_ElementsOf_at5_l11⟩) : LoopOk prog L (loopOf f58 11) := lo impl_ElementsOf_at5_l11_eq E23_at5_ok allNil h
noncomputable def L23_at5_2 : Nat → Option LoopD := fun n => ifEq n 11 (some ⟨62, sh23_at5_11, xs23_at5_11, impl_ElementsOf_at5_l11⟩) (L23_at5_1 n)
def shi23_at5 : List Fm := .cell (.val (.pair (.int .i64) (.pair (.sl (.int .i64)) (.pair (.sl (.int .i64)) (.sl (.pair (.int .i64) (.pair .str (.pair (.int .i64) (.int .i64))))))))) :: .fnv 59 :: D 68 []
def sho23_at5 : List Fm := D 5 (.tup [.own (.pair (.pair (.int .i64) (.sl (.int .i64))) .str) 100501 false, .val .bool] :: d :: d :: [])
noncomputable def impl_ElementsOf_at5 : ((Int × ((List Int) × ((List Int) × (List (Int × (ByteArray × (Int × Int))))))) × Unit) → Option (((List ((Int × (List Int)) × ByteArray)) × Bool × Unit) × Unit) := fun ((v0_0, v0_1, v0_2, v0_3), _) =>
 Option.bind (impl_AutomatonValid (v0_0, v0_1, v0_2, v0_3)) fun r0 =>
  bif (!r0) then
   some (([], false, ()), ())
  else
   Option.bind (loopF impl_ElementsOf_at5_l5 ((v0_0, v0_1, v0_2, v0_3, ()), ([], true, ()), (List.take 2 (List.drop 0 [(⟨#[(97 : UInt8)]⟩ : ByteArray), (⟨#[(98 : UInt8)]⟩ : ByteArray)])), ((2 : Nat) : Int), (0 : Int), ())) fun ((r1, r2, _), _) =>
    Option.bind (loopF impl_ElementsOf_at5_l11 (((List.take (List.length r1) (List.drop 0 r1)), r2, ()), (0 : Int), ())) fun ((r3, r4, _), _) =>
     bif (!r4) then
      some (([], false, ()), ())
     else
      some (((List.take (List.length r3) (List.drop 0 r3)), true, ()), ())
theorem impl_ElementsOf_at5_eq : inlStep f58.ntmps 8 5 E23_at5 L23_at5_2 f58.results.toList (codeOf f58) shi23_at5 sho23_at5 = impl_ElementsOf_at5 := by kernel_rfl
noncomputable def I23_at5 : CallD := ⟨f58.ntmps, shi23_at5, 8, sho23_at5, impl_ElementsOf_at5, 0⟩
theorem I23_at5_ok : InlOk prog 5 58 I23_at5 := inlOk_of (tysOk_of tyl_ok) E23_at5_ok (L := L23_at5_2) func58 (by kernel_rfl) (c := codeOf f58) (by kernel_rfl) (codeOk_in (L := L23_at5_2) (tysOk_of tyl_ok) E23_at5_ok mixed (c := codeOf f58) (bs := [loopOf f58 5, loopOf f58 11]) (by kernel_rfl) (allCons (loop23_at5_5 rfl) (allCons (loop23_at5_11 rfl) allNil)) (by kernel_rfl)) (by kernel_rfl) (by kernel_rfl) impl_ElementsOf_at5_eq
noncomputable def E23 : Env := ⟨ty0, fun g => ifEq g 28 (some A28) (ifEq g 20 (some A20) (ifEq g 91 (some A91) (ifEq g 92 (some A92) (ifEq g 21 (some A21) (ifEq g 61 (some A61) (none)))))), fun _ => none, fun _ => none, fun d => ifI (Nat.beq d 5) (some (58, I23_at5)) (none)⟩
theorem E23_ok : FnsOk prog E23 := (oneIl (d0 := 5) (g0 := 58) I23_at5_ok (oF A28_ok func28 (oF A20_ok func20 (oF A91_ok func91 (oF A92_ok func92 (oF A21_ok func21 (oF A61_ok func61 (noFns _ _))))))))
noncomputable def L23_0 : Nat → Option LoopD := fun _ => none
noncomputable def impl_ElementsOf : (Int × ((List Int) × ((List Int) × (List (Int × (ByteArray × (Int × Int))))))) → Option ((List ((Int × (List Int)) × ByteArray)) × Bool) := fun (a0_0, a0_1, a0_2, a0_3) =>
 Option.bind (impl_ElementsOf_at5 ((a0_0, a0_1, a0_2, a0_3), ())) fun ((r0, r1, _), _) =>
  some ((List.take (List.length r0) (List.drop 0 r0)), r1)
noncomputable def A23 : FnA := ⟨[.v (.pair (.int .i64) (.pair (.sl (.int .i64)) (.pair (.sl (.int .i64)) (.sl (.pair (.int .i64) (.pair .str (.pair (.int .i64) (.int .i64))))))))], true, [.sl (.pair (.pair (.int .i64) (.sl (.int .i64))) .str), .bool], fun x => impl_ElementsOf x.1⟩
theorem impl_ElementsOf_eq : fnF E23 L23_0 [.v (.pair (.int .i64) (.pair (.sl (.int .i64)) (.pair (.sl (.int .i64)) (.sl (.pair (.int .i64) (.pair .str (.pair (.int .i64) (.int .i64))))))))] true [.sl (.pair (.pair (.int .i64) (.sl (.int .i64))) .str), .bool] f23.ntmps f23.results.toList (codeOf f23) = fun x => impl_ElementsOf x.1 := by kernel_rfl
theorem A23_ok : FnOk prog 23 A23 := fo impl_ElementsOf_eq func23 E23_ok allNil
/-! impl.GradeBetween -/
noncomputable def E40 : Env := ⟨ty0, fun g => ifEq g 28 (some A28) (ifEq g 78 (some A78) (ifEq g 57 (some A57) (none))), fun _ => none, fun _ => none, fun _ => none⟩
theorem E40_ok : FnsOk prog E40 := (oF A28_ok func28 (oF A78_ok func78 (oF A57_ok func57 (noFns _ _))))
noncomputable def L40_0 : Nat → Option LoopD := fun _ => none
def sh40_8 : List Fm := d :: d :: .box 100200 [.val (.int .i64), .val (.sl (.int .i64)), .val (.sl (.int .i64)), .val (.sl (.pair (.int .i64) (.pair .str (.pair (.int .i64) (.int .i64)))))] :: .box 100300 [.val (.int .i64), .val (.sl (.int .i64))] :: d :: .cell (.val (.int .i64)) :: d :: .cell (.val (.int .i64)) :: D 18 (.cell (.val (.sl (.int .i64))) :: .cell (.val (.int .i64)) :: .cell (.val (.int .i64)) :: D 4 (.cell (.val (.sl (.int .i64))) :: .cell (.val (.int .i64)) :: .cell (.val (.int .i64)) :: D 12 []))
def xs40_8 : List (Ex × List Fm) := [(.exit 2, [d, d, .box 100200 [.val (.int .i64), .val (.sl (.int .i64)), .val (.sl (.int .i64)), .val (.sl (.pair (.int .i64) (.pair .str (.pair (.int .i64) (.int .i64)))))], .box 100300 [.val (.int .i64), .val (.sl (.int .i64))], d, .cell (.val (.int .i64)), d, d, d, d, d, d, d, d, d, d, d, d, d, d, d, d, d, d, d, d, .cell (.val (.sl (.int .i64))), .cell (.val (.int .i64)), .cell (.val (.int .i64)), d, d, d, d, d, d, d, d, d, d, d, d, d, d, d, d, d, d, d])]
noncomputable def impl_GradeBetween_l8 : ((Int × (List Int) × (List Int) × (List (Int × (ByteArray × (Int × Int)))) × Unit) × (Int × (List Int) × Unit) × Int × Int × (List Int) × Int × Int × (List Int) × Int × Int × Unit) → Option (((Int × (List Int) × (List Int) × (List (Int × (ByteArray × (Int × Int)))) × Unit) × (Int × (List Int) × Unit) × Int × Int × (List Int) × Int × Int × (List Int) × Int × Int × Unit) ⊕ (((Int × (List Int) × (List Int) × (List (Int × (ByteArray × (Int × Int)))) × Unit) × (Int × (List Int) × Unit) × Int × (List Int) × Int × Int × Unit))) := fun ((v2_0, v2_1, v2_2, v2_3, _), (v3_0, v3_1, _), v5, v7, v26, v27, v28, v33, v34, v35, _) =>
 bif (decide (v35 < v34)) then
  if (((0 : Int) ≤ v35) ∧ (v35 < (((List.length v33) : Nat) : Int))) then
   Option.bind (impl_Matrix_at (v3_0, v3_1) v7 (List.getD v33 (Int.toNat v35) (0 : Int))) fun r0 =>
    some (Sum.inl ((v2_0, v2_1, v2_2, v2_3, ()), (v3_0, v3_1, ()), (if (r0 < v5) then r0 else v5), v7, v26, v27, v28, v33, v34, (IntKind.wrap .i64 (v35 + (1 : Int))), ()))
  else
   none
 else
  some (Sum.inr ((v2_0, v2_1, v2_2, v2_3, ()), (v3_0, v3_1, ()), v5, v26, v27, v28, ()))
theorem impl_GradeBetween_l8_eq : loopStep 48 E40 L40_0 (loopOf f40 8) sh40_8 xs40_8 = impl_GradeBetween_l8 := by kernel_rfl
theorem loop40_8 {L} (h : L 8 = some ⟨48, sh40_8, xs40_8, impl_GradeBetween_l8⟩) : LoopOk prog L (loopOf f40 8) := lo impl_GradeBetween_l8_eq E40_ok allNil h
noncomputable def L40_1 : Nat → Option LoopD := fun n => ifEq n 8 (some ⟨48, sh40_8, xs40_8, impl_GradeBetween_l8⟩) (L40_0 n)
def sh40_5 : List Fm := d :: d :: .box 100200 [.val (.int .i64), .val (.sl (.int .i64)), .val (.sl (.int .i64)), .val (.sl (.pair (.int .i64) (.pair .str (.pair (.int .i64) (.int .i64)))))] :: .box 100300 [.val (.int .i64), .val (.sl (.int .i64))] :: d :: .cell (.val (.int .i64)) :: D 20 (.cell (.val (.sl (.int .i64))) :: .cell (.val (.int .i64)) :: .cell (.val (.int .i64)) :: D 19 [])
def xs40_5 : List (Ex × List Fm) := [(.exit 0, (D 5 (.cell (.val (.int .i64)) :: D 42 [])))]
noncomputable def impl_GradeBetween_l5 : ((Int × (List Int) × (List Int) × (List (Int × (ByteArray × (Int × Int)))) × Unit) × (Int × (List Int) × Unit) × Int × (List Int) × Int × Int × Unit) → Option (((Int × (List Int) × (List Int) × (List (Int × (ByteArray × (Int × Int)))) × Unit) × (Int × (List Int) × Unit) × Int × (List Int) × Int × Int × Unit) ⊕ ((Int × Unit))) := fun ((v2_0, v2_1, v2_2, v2_3, _), (v3_0, v3_1, _), v5, v26, v27, v28, _) =>
 bif (decide (v28 < v27)) then
  if (((0 : Int) ≤ v28) ∧ (v28 < (((List.length v26) : Nat) : Int))) then
   Option.bind (loopF impl_GradeBetween_l8 ((v2_0, v2_1, v2_2, v2_3, ()), (v3_0, v3_1, ()), v5, (List.getD v26 (Int.toNat v28) (0 : Int)), v26, v27, v28, v2_2, (((List.length v2_2) : Nat) : Int), (0 : Int), ())) fun ((r0, r1, r2, r3, _), (r4, r5, _), r6, r7, r8, r9, _) =>
    some (Sum.inl ((r0, r1, r2, r3, ()), (r4, r5, ()), r6, r7, r8, (IntKind.wrap .i64 (r9 + (1 : Int))), ()))
  else
   none
 else
  some (Sum.inr (v5, ()))
theorem impl_GradeBetween_l5_eq : loopStep 48 E40 L40_1 (loopOf f40 5) sh40_5 xs40_5 = impl_GradeBetween_l5 := by kernel_rfl
theorem loop40_5 {L} (h : L 5 = some ⟨48, sh40_5, xs40_5, impl_GradeBetween_l5⟩) : LoopOk prog L (loopOf f40 5) := lo impl_GradeBetween_l5_eq E40_ok (allCons (loop40_8 rfl) allNil) h
noncomputable def L40_2 : Nat → Option LoopD := fun n => ifEq n 5 (some ⟨48, sh40_5, xs40_5, impl_GradeBetween_l5⟩) (L40_1 n)
noncomputable def impl_GradeBetween : (Int × ((List Int) × ((List Int) × (List (Int × (ByteArray × (Int × Int))))))) → (Int × (List Int)) → Option (Int) := fun (a0_0, a0_1, a0_2, a0_3) (a1_0, a1_1) =>
 Option.bind (impl_AutomatonValid (a0_0, a0_1, a0_2, a0_3)) fun r0 =>
  bif (!r0) then
   some (-1 : Int)
  else
   Option.bind (impl_GradesValid (a1_0, a1_1)) fun r1 =>
    bif (!r1) then
     some (-1 : Int)
    else
     bif (a1_0 != a0_0) then
      some (-1 : Int)
     else
      Option.bind (loopF impl_GradeBetween_l5 ((a0_0, a0_1, a0_2, a0_3, ()), (a1_0, a1_1, ()), (3 : Int), a0_1, (((List.length a0_1) : Nat) : Int), (0 : Int), ())) fun (r2, _) =>
       some r2
noncomputable def A40 : FnA := ⟨[.v (.pair (.int .i64) (.pair (.sl (.int .i64)) (.pair (.sl (.int .i64)) (.sl (.pair (.int .i64) (.pair .str (.pair (.int .i64) (.int .i64)))))))), .v (.pair (.int .i64) (.sl (.int .i64)))], true, [.int .i64], fun x => impl_GradeBetween x.1 x.2.1⟩
theorem impl_GradeBetween_eq : fnF E40 L40_2 [.v (.pair (.int .i64) (.pair (.sl (.int .i64)) (.pair (.sl (.int .i64)) (.sl (.pair (.int .i64) (.pair .str (.pair (.int .i64) (.int .i64)))))))), .v (.pair (.int .i64) (.sl (.int .i64)))] true [.int .i64] f40.ntmps f40.results.toList (codeOf f40) = fun x => impl_GradeBetween x.1 x.2.1 := by kernel_rfl
theorem A40_ok : FnOk prog 40 A40 := fo impl_GradeBetween_eq func40 E40_ok (allCons (loop40_5 rfl) allNil)
/-! impl.GradesIn -/
def shi10_at34 : List Fm := .cell (.own (.int .i64) 100000 false) :: D 96 []
def sho10_at34 : List Fm := D 34 (.cell (.own (.int .i64) 103400 false) :: d :: [])
def shr10_at34 : List Fm := D 96 []
noncomputable def impl_GradesIn_at34 : ((List Int) × Unit) → Option ((List Int) × Unit) := fun (v0, _) =>
 Option.bind (compI v0) fun (r0, r1) =>
  some ((List.take r1 (List.drop 0 r0)), ())
theorem impl_GradesIn_at34_eq : turnStep 61 36 34 100000 (.int .i64) shr10_at34 sho10_at34 compI = impl_GradesIn_at34 := by kernel_rfl
noncomputable def I10_at34 : CallD := ⟨61, shi10_at34, 36, sho10_at34, impl_GradesIn_at34, 1⟩
theorem I10_at34_ok : InlOk prog 34 43 I10_at34 := compI_turned (rest := shr10_at34) (by kernel_rfl) (by kernel_rfl) impl_GradesIn_at34_eq
noncomputable def E10_at35 : Env := ⟨ty0, fun g => ifEq g 23 (some A23) (ifEq g 40 (some A40) (none)), fun g => ifEq g 41 (some A41) (none), fun _ => none, fun _ => none⟩
theorem E10_at35_ok : FnsOk prog E10_at35 := (oF A23_ok func23 (oF A40_ok func40 (oneMs A41_ok (by kernel_rfl) func41 (by kernel_rfl) (by kernel_rfl) (noFns _ _))))
noncomputable def L10_at35_0 : Nat → Option LoopD := fun _ => none
def shi10_at35 : List Fm := .cell (.own (.int .i64) 100000 false) :: D 44 []
def sho10_at35 : List Fm := D 35 (.cell (.own (.int .i64) 103500 false) :: [])
noncomputable def impl_GradesIn_at35 : ((List Int) × Unit) → Option ((List Int) × Unit) := fun (v0, _) =>
 if (((0 : Int) ≤ (((List.length v0) : Nat) : Int)) ∧ (((((List.length v0) : Nat) : Int) ≤ (((List.length v0) : Nat) : Int)) ∧ ((((List.length v0) : Nat) : Int) = (((List.length v0) : Nat) : Int)))) then
  some ((List.take (Int.toNat (((List.length v0) : Nat) : Int)) (List.drop 0 v0)), ())
 else
  none
theorem impl_GradesIn_at35_eq : inlStep f42.ntmps 36 35 E10_at35 L10_at35_0 f42.results.toList (codeOf f42) shi10_at35 sho10_at35 = impl_GradesIn_at35 := by kernel_rfl
noncomputable def I10_at35 : CallD := ⟨f42.ntmps, shi10_at35, 36, sho10_at35, impl_GradesIn_at35, 0⟩
theorem I10_at35_ok : InlOk prog 35 42 I10_at35 := inlOk_of (tysOk_of tyl_ok) E10_at35_ok (L := L10_at35_0) func42 (by kernel_rfl) (c := codeOf f42) (by kernel_rfl) (codeOk_in (L := L10_at35_0) (tysOk_of tyl_ok) E10_at35_ok mixed (c := codeOf f42) (bs := []) (by kernel_rfl) allNil (by kernel_rfl)) (by kernel_rfl) (by kernel_rfl) impl_GradesIn_at35_eq
noncomputable def E10 : Env := ⟨ty0, fun g => ifEq g 23 (some A23) (ifEq g 40 (some A40) (none)), fun g => ifEq g 41 (some A41) (none), fun _ => none, fun d => ifI (Nat.beq d 34) (some (43, I10_at34)) (ifI (Nat.beq d 35) (some (42, I10_at35)) (none))⟩
theorem E10_ok : FnsOk prog E10 := (oneIl (d0 := 34) (g0 := 43) I10_at34_ok (oneIl (d0 := 35) (g0 := 42) I10_at35_ok (oF A23_ok func23 (oF A40_ok func40 (oneMs A41_ok (by kernel_rfl) func41 (by kernel_rfl) (by kernel_rfl) (noFns _ _))))))
noncomputable def L10_0 : Nat → Option LoopD := fun _ => none
def sh10_6 : List Fm := d :: .box 100100 [.val (.int .i64), .val (.sl (.int .i64)), .val (.sl (.int .i64)), .val (.sl (.pair (.int .i64) (.pair .str (.pair (.int .i64) (.int .i64)))))] :: D 4 (.cell (.own (.int .i64) 100600 false) :: D 10 (.cell (.own (.pair (.pair (.int .i64) (.sl (.int .i64))) .str) 101700 false) :: .cell (.val (.int .i64)) :: .cell (.val (.int .i64)) :: D 16 []))
def xs10_6 : List (Ex × List Fm) := [(.exit 0, (D 6 (.cell (.own (.int .i64) 100600 false) :: D 29 [])))]
noncomputable def impl_GradesIn_l6 : ((Int × (List Int) × (List Int) × (List (Int × (ByteArray × (Int × Int)))) × Unit) × (List Int) × (List ((Int × (List Int)) × ByteArray)) × Int × Int × Unit) → Option (((Int × (List Int) × (List Int) × (List (Int × (ByteArray × (Int × Int)))) × Unit) × (List Int) × (List ((Int × (List Int)) × ByteArray)) × Int × Int × Unit) ⊕ (((List Int) × Unit))) := fun ((v1_0, v1_1, v1_2, v1_3, _), v6, v17, v18, v19, _) =>
 bif (decide (v19 < v18)) then
  if (((0 : Int) ≤ v19) ∧ (v19 < (((List.length v17) : Nat) : Int))) then
   Option.bind (impl_GradeBetween (v1_0, v1_1, v1_2, v1_3) ((List.getD v17 (0 + (Int.toNat v19)) (((0 : Int), []), (⟨Array.empty⟩ : ByteArray))).1.1, (List.getD v17 (0 + (Int.toNat v19)) (((0 : Int), []), (⟨Array.empty⟩ : ByteArray))).1.2)) fun r0 =>
    if (((0 + (List.length v6)) = (List.length v6)) ∧ ((((List.length v6) + (List.length (List.take 1 (List.drop 0 [r0])))) * 8) ≤ 140737488355328)) then
     some (Sum.inl ((v1_0, v1_1, v1_2, v1_3, ()), (List.take ((List.length v6) + (List.length (List.take 1 (List.drop 0 [r0])))) (List.drop 0 ((List.drop 0 v6) ++ (List.take 1 (List.drop 0 [r0]))))), (List.take (List.length v17) (List.drop 0 v17)), v18, (IntKind.wrap .i64 (v19 + (1 : Int))), ()))
    else
     none
  else
   none
 else
  some (Sum.inr ((List.take (List.length v6) (List.drop 0 v6)), ()))
theorem impl_GradesIn_l6_eq : loopStep 36 E10 L10_0 (loopOf f10 6) sh10_6 xs10_6 = impl_GradesIn_l6 := by kernel_rfl
theorem loop10_6 {L} (h : L 6 = some ⟨36, sh10_6, xs10_6, impl_GradesIn_l6⟩) : LoopOk prog L (loopOf f10 6) := lo impl_GradesIn_l6_eq E10_ok allNil h
noncomputable def L10_1 : Nat → Option LoopD := fun n => ifEq n 6 (some ⟨36, sh10_6, xs10_6, impl_GradesIn_l6⟩) (L10_0 n)
noncomputable def impl_GradesIn : (Int × ((List Int) × ((List Int) × (List (Int × (ByteArray × (Int × Int))))))) → Option ((List Int) × Bool) := fun (a0_0, a0_1, a0_2, a0_3) =>
 Option.bind (impl_ElementsOf (a0_0, a0_1, a0_2, a0_3)) fun (r0, r1) =>
  bif (!r1) then
   some ([], false)
  else
   Option.bind (loopF impl_GradesIn_l6 ((a0_0, a0_1, a0_2, a0_3, ()), (List.take 0 (List.drop 0 [])), (List.take (List.length r0) (List.drop 0 r0)), (((List.length r0) : Nat) : Int), (0 : Int), ())) fun (r2, _) =>
    if ((List.length r2) = (List.length r2)) then
     Option.bind (slices_Sort r2) fun (_, r3, _) =>
      Option.bind (impl_GradesIn_at34 ((List.take (List.length r2) (List.drop 0 r3)), ())) fun (r4, _) =>
       Option.bind (impl_GradesIn_at35 ((List.take (List.length r4) (List.drop 0 r4)), ())) fun (r5, _) =>
        some ((List.take (List.length r5) (List.drop 0 r5)), true)
    else
     none
noncomputable def A10 : FnA := ⟨[.v (.pair (.int .i64) (.pair (.sl (.int .i64)) (.pair (.sl (.int .i64)) (.sl (.pair (.int .i64) (.pair .str (.pair (.int .i64) (.int .i64))))))))], true, [.sl (.int .i64), .bool], fun x => impl_GradesIn x.1⟩
theorem impl_GradesIn_eq : fnF E10 L10_1 [.v (.pair (.int .i64) (.pair (.sl (.int .i64)) (.pair (.sl (.int .i64)) (.sl (.pair (.int .i64) (.pair .str (.pair (.int .i64) (.int .i64))))))))] true [.sl (.int .i64), .bool] f10.ntmps f10.results.toList (codeOf f10) = fun x => impl_GradesIn x.1 := by kernel_rfl
theorem A10_ok : FnOk prog 10 A10 := fo impl_GradesIn_eq func10 E10_ok (allCons (loop10_6 rfl) allNil)
/-! spec.l3Matrix -/
noncomputable def E132 : Env := ⟨ty0, fun _ => none, fun _ => none, fun _ => none, fun _ => none⟩
theorem E132_ok : FnsOk prog E132 := (noFns _ _)
noncomputable def L132_0 : Nat → Option LoopD := fun _ => none
def sh132_3 : List Fm := d :: .cell (.val .str) :: .box 100200 [.val (.int .i64), .val (.sl (.int .i64)), .val (.sl (.int .i64)), .val (.sl (.pair (.int .i64) (.pair .str (.pair (.int .i64) (.int .i64)))))] :: d :: .box 100400 [.val (.int .i64), .own (.int .i64) 100402 false] :: .box 100500 [.val (.int .i64), .own (.int .i64) 100502 false] :: D 9 (.cell (.val (.int .i64)) :: .cell (.val (.int .i64)) :: D 33 [])
def xs132_3 : List (Ex × List Fm) := [(.exit 0, [d, .cell (.val .str), .box 100200 [.val (.int .i64), .val (.sl (.int .i64)), .val (.sl (.int .i64)), .val (.sl (.pair (.int .i64) (.pair .str (.pair (.int .i64) (.int .i64)))))], d, .box 100400 [.val (.int .i64), .own (.int .i64) 100402 false], .box 100500 [.val (.int .i64), .own (.int .i64) 100502 false], d, d, d, d, d, d, d, d, d, d, d, d, d, d, d, d, d, d, d, d, d, d, d, d, d, d, d, d, d, d, d, d, d, d, d, d, d, d, d, d, d, d, d, d])]
noncomputable def spec_l3Matrix_l3 : (ByteArray × (Int × (List Int) × (List Int) × (List (Int × (ByteArray × (Int × Int)))) × Unit) × (Int × (List Int) × Unit) × (Int × (List Int) × Unit) × Int × Int × Unit) → Option ((ByteArray × (Int × (List Int) × (List Int) × (List (Int × (ByteArray × (Int × Int)))) × Unit) × (Int × (List Int) × Unit) × (Int × (List Int) × Unit) × Int × Int × Unit) ⊕ ((ByteArray × (Int × (List Int) × (List Int) × (List (Int × (ByteArray × (Int × Int)))) × Unit) × (Int × (List Int) × Unit) × (Int × (List Int) × Unit) × Unit))) := fun (v1, (v2_0, v2_1, v2_2, v2_3, _), (v4_0, v4_1, _), (v5_0, v5_1, _), v15, v16, _) =>
 bif (decide (v16 < v15)) then
  if (((0 + (List.length v5_1)) = (List.length v5_1)) ∧ ((((List.length v5_1) + (List.length (List.take 1 (List.drop 0 [(1000000 : Int)])))) * 8) ≤ 140737488355328)) then
   some (Sum.inl (v1, (v2_0, v2_1, v2_2, v2_3, ()), (v4_0, (List.take (List.length v4_1) (List.drop 0 v4_1)), ()), (v5_0, (List.take ((List.length v5_1) + (List.length (List.take 1 (List.drop 0 [(1000000 : Int)])))) (List.drop 0 ((List.drop 0 v5_1) ++ (List.take 1 (List.drop 0 [(1000000 : Int)]))))), ()), v15, (IntKind.wrap .i64 (v16 + (1 : Int))), ()))
  else
   none
 else
  some (Sum.inr (v1, (v2_0, v2_1, v2_2, v2_3, ()), (v4_0, (List.take (List.length v4_1) (List.drop 0 v4_1)), ()), (v5_0, (List.take (List.length v5_1) (List.drop 0 v5_1)), ()), ()))
theorem spec_l3Matrix_l3_eq : loopStep 50 E132 L132_0 (loopOf f132 3) sh132_3 xs132_3 = spec_l3Matrix_l3 := by kernel_rfl
theorem loop132_3 {L} (h : L 3 = some ⟨50, sh132_3, xs132_3, spec_l3Matrix_l3⟩) : LoopOk prog L (loopOf f132 3) := lo spec_l3Matrix_l3_eq E132_ok allNil h
noncomputable def L132_1 : Nat → Option LoopD := fun n => ifEq n 3 (some ⟨50, sh132_3, xs132_3, spec_l3Matrix_l3⟩) (L132_0 n)
def sh132_7 : List Fm := d :: .cell (.val .str) :: .box 100200 [.val (.int .i64), .val (.sl (.int .i64)), .val (.sl (.int .i64)), .val (.sl (.pair (.int .i64) (.pair .str (.pair (.int .i64) (.int .i64)))))] :: d :: .box 100400 [.val (.int .i64), .own (.int .i64) 100402 false] :: .box 100500 [.val (.int .i64), .own (.int .i64) 100502 false] :: D 19 (.cell (.val (.sl (.pair (.int .i64) (.pair .str (.pair (.int .i64) (.int .i64)))))) :: .cell (.val (.int .i64)) :: .cell (.val (.int .i64)) :: D 22 [])
def xs132_7 : List (Ex × List Fm) := [(.exit 2, [d, d, d, d, .box 100400 [.val (.int .i64), .own (.int .i64) 100402 false], .box 100500 [.val (.int .i64), .own (.int .i64) 100502 false], d, d, d, d, d, d, d, d, d, d, d, d, d, d, d, d, d, d, d, d, d, d, d, d, d, d, d, d, d, d, d, d, d, d, d, d, d, d, d, d, d, d, d, d])]
noncomputable def spec_l3Matrix_l7 : (ByteArray × (Int × (List Int) × (List Int) × (List (Int × (ByteArray × (Int × Int)))) × Unit) × (Int × (List Int) × Unit) × (Int × (List Int) × Unit) × (List (Int × (ByteArray × (Int × Int)))) × Int × Int × Unit) → Option ((ByteArray × (Int × (List Int) × (List Int) × (List (Int × (ByteArray × (Int × Int)))) × Unit) × (Int × (List Int) × Unit) × (Int × (List Int) × Unit) × (List (Int × (ByteArray × (Int × Int)))) × Int × Int × Unit) ⊕ (((Int × (List Int) × Unit) × (Int × (List Int) × Unit) × Unit))) := fun (v1, (v2_0, v2_1, v2_2, v2_3, _), (v4_0, v4_1, _), (v5_0, v5_1, _), v25, v26, v27, _) =>
 bif (decide (v27 < v26)) then
  if (((0 : Int) ≤ v27) ∧ (v27 < (((List.length v25) : Nat) : Int))) then
   bif ((ByteArray.toList (List.getD v25 (Int.toNat v27) ((0 : Int), (⟨Array.empty⟩ : ByteArray), (0 : Int), (0 : Int))).2.1) == (ByteArray.toList v1)) then
    if (((0 : Int) ≤ (IntKind.wrap .i64 ((IntKind.wrap .i64 ((List.getD v25 (Int.toNat v27) ((0 : Int), (⟨Array.empty⟩ : ByteArray), (0 : Int), (0 : Int))).1 * v2_0)) + (List.getD v25 (Int.toNat v27) ((0 : Int), (⟨Array.empty⟩ : ByteArray), (0 : Int), (0 : Int))).2.2.1))) ∧ ((IntKind.wrap .i64 ((IntKind.wrap .i64 ((List.getD v25 (Int.toNat v27) ((0 : Int), (⟨Array.empty⟩ : ByteArray), (0 : Int), (0 : Int))).1 * v2_0)) + (List.getD v25 (Int.toNat v27) ((0 : Int), (⟨Array.empty⟩ : ByteArray), (0 : Int), (0 : Int))).2.2.1)) < (((List.length v5_1) : Nat) : Int))) then
     some (Sum.inl (v1, (v2_0, v2_1, v2_2, v2_3, ()), (v4_0, (List.take (List.length v4_1) (List.drop 0 v4_1)), ()), (v5_0, (List.take (List.length v5_1) (List.drop 0 (List.set v5_1 (0 + (Int.toNat (IntKind.wrap .i64 ((IntKind.wrap .i64 ((List.getD v25 (Int.toNat v27) ((0 : Int), (⟨Array.empty⟩ : ByteArray), (0 : Int), (0 : Int))).1 * v2_0)) + (List.getD v25 (Int.toNat v27) ((0 : Int), (⟨Array.empty⟩ : ByteArray), (0 : Int), (0 : Int))).2.2.1)))) (List.getD v25 (Int.toNat v27) ((0 : Int), (⟨Array.empty⟩ : ByteArray), (0 : Int), (0 : Int))).2.2.2))), ()), v25, v26, (IntKind.wrap .i64 (v27 + (1 : Int))), ()))
    else
     none
   else
    some (Sum.inl (v1, (v2_0, v2_1, v2_2, v2_3, ()), (v4_0, (List.take (List.length v4_1) (List.drop 0 v4_1)), ()), (v5_0, (List.take (List.length v5_1) (List.drop 0 v5_1)), ()), v25, v26, (IntKind.wrap .i64 (v27 + (1 : Int))), ()))
  else
   none
 else
  some (Sum.inr ((v4_0, (List.take (List.length v4_1) (List.drop 0 v4_1)), ()), (v5_0, (List.take (List.length v5_1) (List.drop 0 v5_1)), ()), ()))
theorem spec_l3Matrix_l7_eq : loopStep 50 E132 L132_1 (loopOf f132 7) sh132_7 xs132_7 = spec_l3Matrix_l7 := by kernel_rfl
theorem loop132_7 {L} (h : L 7 = some ⟨50, sh132_7, xs132_7, spec_l3Matrix_l7⟩) : LoopOk prog L (loopOf f132 7) := lo spec_l3Matrix_l7_eq E132_ok allNil h
noncomputable def L132_2 : Nat → Option LoopD := fun n => ifEq n 7 (some ⟨50, sh132_7, xs132_7, spec_l3Matrix_l7⟩) (L132_1 n)
noncomputable def spec_l3Matrix : (Int × ((List Int) × ((List Int) × (List (Int × (ByteArray × (Int × Int))))))) → ByteArray → Option ((Int × (List Int))) := fun (a0_0, a0_1, a0_2, a0_3) a1 =>
 Option.bind (loopF spec_l3Matrix_l3 (a1, (a0_0, a0_1, a0_2, a0_3, ()), ((0 : Int), [], ()), (a0_0, [], ()), (IntKind.wrap .i64 (a0_0 * a0_0)), (0 : Int), ())) fun (r0, (r1, r2, r3, r4, _), (r5, r6, _), (r7, r8, _), _) =>
  Option.bind (loopF spec_l3Matrix_l7 (r0, (r1, r2, r3, r4, ()), (r5, (List.take (List.length r6) (List.drop 0 r6)), ()), (r7, (List.take (List.length r8) (List.drop 0 r8)), ()), r4, (((List.length r4) : Nat) : Int), (0 : Int), ())) fun ((r9, r10, _), (r11, r12, _), _) =>
   some (r11, (List.take (List.length r12) (List.drop 0 r12)))
noncomputable def A132 : FnA := ⟨[.v (.pair (.int .i64) (.pair (.sl (.int .i64)) (.pair (.sl (.int .i64)) (.sl (.pair (.int .i64) (.pair .str (.pair (.int .i64) (.int .i64)))))))), .v .str], true, [.pair (.int .i64) (.sl (.int .i64))], fun x => spec_l3Matrix x.1 x.2.1⟩
theorem spec_l3Matrix_eq : fnF E132 L132_2 [.v (.pair (.int .i64) (.pair (.sl (.int .i64)) (.pair (.sl (.int .i64)) (.sl (.pair (.int .i64) (.pair .str (.pair (.int .i64) (.int .i64)))))))), .v .str] true [.pair (.int .i64) (.sl (.int .i64))] f132.ntmps f132.results.toList (codeOf f132) = fun x => spec_l3Matrix x.1 x.2.1 := by kernel_rfl
theorem A132_ok : FnOk prog 132 A132 := fo spec_l3Matrix_eq func132 E132_ok (allCons (loop132_3 rfl) (allCons (loop132_7 rfl) allNil))
/-! spec.l6Grades -/
noncomputable def E131 : Env := ⟨ty0, fun _ => none, fun _ => none, fun _ => none, fun _ => none⟩
theorem E131_ok : FnsOk prog E131 := (noFns _ _)
noncomputable def L131_0 : Nat → Option LoopD := fun _ => none
def sh131_3 : List Fm := d :: d :: .box 100200 [.val (.int .i64), .own (.int .i64) 100202 false] :: .box 100300 [.val (.int .i64), .own (.int .i64) 100302 false] :: D 6 (.cell (.val (.sl (.int .i64))) :: .cell (.val (.int .i64)) :: .cell (.val (.int .i64)) :: D 25 [])
def xs131_3 : List (Ex × List Fm) := [(.exit 0, [d, d, .box 100200 [.val (.int .i64), .own (.int .i64) 100202 false], .box 100300 [.val (.int .i64), .own (.int .i64) 100302 false], d, d, d, d, d, d, d, d, d, d, d, d, d, d, d, d, d, d, d, d, d, d, d, d, d, d, d, d, d, d, d, d, d, d])]
noncomputable def spec_l6Grades_l3 : ((Int × (List Int) × Unit) × (Int × (List Int) × Unit) × (List Int) × Int × Int × Unit) → Option (((Int × (List Int) × Unit) × (Int × (List Int) × Unit) × (List Int) × Int × Int × Unit) ⊕ (((Int × (List Int) × Unit) × (Int × (List Int) × Unit) × Unit))) := fun ((v2_0, v2_1, _), (v3_0, v3_1, _), v10, v11, v12, _) =>
 bif (decide (v12 < v11)) then
  if (((0 : Int) ≤ v12) ∧ (v12 < (((List.length v10) : Nat) : Int))) then
   bif ((List.getD v10 (Int.toNat v12) (0 : Int)) == (0 : Int)) then
    if (((0 + (List.length v3_1)) = (List.length v3_1)) ∧ ((((List.length v3_1) + (List.length (List.take 1 (List.drop 0 [(0 : Int)])))) * 8) ≤ 140737488355328)) then
     some (Sum.inl ((v2_0, (List.take (List.length v2_1) (List.drop 0 v2_1)), ()), (v3_0, (List.take ((List.length v3_1) + (List.length (List.take 1 (List.drop 0 [(0 : Int)])))) (List.drop 0 ((List.drop 0 v3_1) ++ (List.take 1 (List.drop 0 [(0 : Int)]))))), ()), v10, v11, (IntKind.wrap .i64 (v12 + (1 : Int))), ()))
    else
     none
   else
    bif ((List.getD v10 (Int.toNat v12) (0 : Int)) == (1000000 : Int)) then
     if (((0 + (List.length v3_1)) = (List.length v3_1)) ∧ ((((List.length v3_1) + (List.length (List.take 1 (List.drop 0 [(3 : Int)])))) * 8) ≤ 140737488355328)) then
      some (Sum.inl ((v2_0, (List.take (List.length v2_1) (List.drop 0 v2_1)), ()), (v3_0, (List.take ((List.length v3_1) + (List.length (List.take 1 (List.drop 0 [(3 : Int)])))) (List.drop 0 ((List.drop 0 v3_1) ++ (List.take 1 (List.drop 0 [(3 : Int)]))))), ()), v10, v11, (IntKind.wrap .i64 (v12 + (1 : Int))), ()))
     else
      none
    else
     if (((0 + (List.length v3_1)) = (List.length v3_1)) ∧ ((((List.length v3_1) + (List.length (List.take 1 (List.drop 0 [(1 : Int)])))) * 8) ≤ 140737488355328)) then
      some (Sum.inl ((v2_0, (List.take (List.length v2_1) (List.drop 0 v2_1)), ()), (v3_0, (List.take ((List.length v3_1) + (List.length (List.take 1 (List.drop 0 [(1 : Int)])))) (List.drop 0 ((List.drop 0 v3_1) ++ (List.take 1 (List.drop 0 [(1 : Int)]))))), ()), v10, v11, (IntKind.wrap .i64 (v12 + (1 : Int))), ()))
     else
      none
  else
   none
 else
  some (Sum.inr ((v2_0, (List.take (List.length v2_1) (List.drop 0 v2_1)), ()), (v3_0, (List.take (List.length v3_1) (List.drop 0 v3_1)), ()), ()))
theorem spec_l6Grades_l3_eq : loopStep 38 E131 L131_0 (loopOf f131 3) sh131_3 xs131_3 = spec_l6Grades_l3 := by kernel_rfl
theorem loop131_3 {L} (h : L 3 = some ⟨38, sh131_3, xs131_3, spec_l6Grades_l3⟩) : LoopOk prog L (loopOf f131 3) := lo spec_l6Grades_l3_eq E131_ok allNil h
noncomputable def L131_1 : Nat → Option LoopD := fun n => ifEq n 3 (some ⟨38, sh131_3, xs131_3, spec_l6Grades_l3⟩) (L131_0 n)
noncomputable def spec_l6Grades : (Int × (List Int)) → Option ((Int × (List Int))) := fun (a0_0, a0_1) =>
 Option.bind (loopF spec_l6Grades_l3 (((0 : Int), [], ()), (a0_0, [], ()), a0_1, (((List.length a0_1) : Nat) : Int), (0 : Int), ())) fun ((r0, r1, _), (r2, r3, _), _) =>
  some (r2, (List.take (List.length r3) (List.drop 0 r3)))
noncomputable def A131 : FnA := ⟨[.v (.pair (.int .i64) (.sl (.int .i64)))], true, [.pair (.int .i64) (.sl (.int .i64))], fun x => spec_l6Grades x.1⟩
theorem spec_l6Grades_eq : fnF E131 L131_1 [.v (.pair (.int .i64) (.sl (.int .i64)))] true [.pair (.int .i64) (.sl (.int .i64))] f131.ntmps f131.results.toList (codeOf f131) = fun x => spec_l6Grades x.1 := by kernel_rfl
theorem A131_ok : FnOk prog 131 A131 := fo spec_l6Grades_eq func131 E131_ok (allCons (loop131_3 rfl) allNil)
/-! spec.l2Same -/
noncomputable def E50 : Env := ⟨ty0, fun _ => none, fun _ => none, fun _ => none, fun _ => none⟩
theorem E50_ok : FnsOk prog E50 := (noFns _ _)
noncomputable def L50_0 : Nat → Option LoopD := fun _ => none
def sh50_2 : List Fm := .cell (.val (.sl (.int .i64))) :: .cell (.val (.sl (.int .i64))) :: D 8 (.cell (.val (.int .i64)) :: .cell (.val (.int .i64)) :: D 17 [])
def xs50_2 : List (Ex × List Fm) := [(.ret, (D 4 (.cell (.val .bool) :: D 24 []))), (.exit 0, (.cell (.val (.sl (.int .i64))) :: .cell (.val (.sl (.int .i64))) :: D 27 []))]
noncomputable def spec_l2Same_l2 : ((List Int) × (List Int) × Int × Int × Unit) → Option (((List Int) × (List Int) × Int × Int × Unit) ⊕ ((Bool × Unit) ⊕ ((List Int) × (List Int) × Unit))) := fun (v0, v1, v10, v11, _) =>
 bif (decide (v11 < v10)) then
  if (((0 : Int) ≤ v11) ∧ (v11 < (((List.length v0) : Nat) : Int))) then
   if (((0 : Int) ≤ v11) ∧ (v11 < (((List.length v1) : Nat) : Int))) then
    bif ((List.getD v0 (Int.toNat v11) (0 : Int)) != (List.getD v1 (Int.toNat v11) (0 : Int))) then
     some (Sum.inr (Sum.inl (false, ())))
    else
     some (Sum.inl (v0, v1, v10, (IntKind.wrap .i64 (v11 + (1 : Int))), ()))
   else
    none
  else
   none
 else
  some (Sum.inr (Sum.inr (v0, v1, ())))
theorem spec_l2Same_l2_eq : loopStep 29 E50 L50_0 (loopOf f50 2) sh50_2 xs50_2 = spec_l2Same_l2 := by kernel_rfl
theorem loop50_2 {L} (h : L 2 = some ⟨29, sh50_2, xs50_2, spec_l2Same_l2⟩) : LoopOk prog L (loopOf f50 2) := lo spec_l2Same_l2_eq E50_ok allNil h
noncomputable def L50_1 : Nat → Option LoopD := fun n => ifEq n 2 (some ⟨29, sh50_2, xs50_2, spec_l2Same_l2⟩) (L50_0 n)
noncomputable def spec_l2Same : (List Int) → (List Int) → Option (Bool) := fun a0 a1 =>
 Option.bind (loopF spec_l2Same_l2 (a0, a1, (if ((((List.length a1) : Nat) : Int) < (((List.length a0) : Nat) : Int)) then (((List.length a1) : Nat) : Int) else (((List.length a0) : Nat) : Int)), (0 : Int), ())) fun r0 =>
  (match r0 with
  | .inl (d1, _) =>
    some d1
  | .inr (d2, d3, _) =>
    some ((((List.length d2) : Nat) : Int) == (((List.length d3) : Nat) : Int)))
noncomputable def A50 : FnA := ⟨[.v (.sl (.int .i64)), .v (.sl (.int .i64))], true, [.bool], fun x => spec_l2Same x.1 x.2.1⟩
theorem spec_l2Same_eq : fnF E50 L50_1 [.v (.sl (.int .i64)), .v (.sl (.int .i64))] true [.bool] f50.ntmps f50.results.toList (codeOf f50) = fun x => spec_l2Same x.1 x.2.1 := by kernel_rfl
theorem A50_ok : FnOk prog 50 A50 := fo spec_l2Same_eq func50 E50_ok (allCons (loop50_2 rfl) allNil)
/-! spec.l6Mul -/
noncomputable def E86 : Env := ⟨ty0, fun _ => none, fun _ => none, fun _ => none, fun _ => none⟩
theorem E86_ok : FnsOk prog E86 := (noFns _ _)
noncomputable def L86_0 : Nat → Option LoopD := fun _ => none
def sh86_7 : List Fm := d :: d :: .box 100200 [.val (.int .i64), .val (.sl (.int .i64))] :: .box 100300 [.val (.int .i64), .val (.sl (.int .i64))] :: .box 100400 [.val (.int .i64), .own (.int .i64) 100402 false] :: .box 100500 [.val (.int .i64), .own (.int .i64) 100502 false] :: .cell (.val (.int .i64)) :: .cell (.val (.int .i64)) :: D 8 (.cell (.val (.int .i64)) :: .cell (.val (.int .i64)) :: d :: d :: d :: .cell (.val (.int .i64)) :: .cell (.val (.int .i64)) :: D 40 [])
def xs86_7 : List (Ex × List Fm) := [(.exit 2, [d, d, .box 100200 [.val (.int .i64), .val (.sl (.int .i64))], .box 100300 [.val (.int .i64), .val (.sl (.int .i64))], .box 100400 [.val (.int .i64), .own (.int .i64) 100402 false], .box 100500 [.val (.int .i64), .own (.int .i64) 100502 false], d, .cell (.val (.int .i64)), d, d, d, d, d, d, d, d, .cell (.val (.int .i64)), .cell (.val (.int .i64)), d, d, d, d, d, d, d, d, d, d, d, d, d, d, d, d, d, d, d, d, d, d, d, d, d, d, d, d, d, d, d, d, d, d, d, d, d, d, d, d, d, d, d, d, d])]
noncomputable def spec_l6Mul_l7 : ((Int × (List Int) × Unit) × (Int × (List Int) × Unit) × (Int × (List Int) × Unit) × (Int × (List Int) × Unit) × Int × Int × Int × Int × Int × Int × Unit) → Option (((Int × (List Int) × Unit) × (Int × (List Int) × Unit) × (Int × (List Int) × Unit) × (Int × (List Int) × Unit) × Int × Int × Int × Int × Int × Int × Unit) ⊕ (((Int × (List Int) × Unit) × (Int × (List Int) × Unit) × (Int × (List Int) × Unit) × (Int × (List Int) × Unit) × Int × Int × Int × Unit))) := fun ((v2_0, v2_1, _), (v3_0, v3_1, _), (v4_0, v4_1, _), (v5_0, v5_1, _), v6, v7, v16, v17, v21, v22, _) =>
 bif (decide (v22 < v21)) then
  if (v2_0 = (0 : Int)) then
   none
  else
   if (((0 : Int) ≤ (IntKind.wrap .i64 ((IntKind.wrap .i64 ((IntKind.wrap .i64 (Int.tdiv v6 v2_0)) * v2_0)) + v22))) ∧ ((IntKind.wrap .i64 ((IntKind.wrap .i64 ((IntKind.wrap .i64 (Int.tdiv v6 v2_0)) * v2_0)) + v22)) < (((List.length v2_1) : Nat) : Int))) then
    if (v2_0 = (0 : Int)) then
     none
    else
     if (((0 : Int) ≤ (IntKind.wrap .i64 ((IntKind.wrap .i64 (v22 * v2_0)) + (Int.tmod v6 v2_0)))) ∧ ((IntKind.wrap .i64 ((IntKind.wrap .i64 (v22 * v2_0)) + (Int.tmod v6 v2_0))) < (((List.length v3_1) : Nat) : Int))) then
      some (Sum.inl ((v2_0, v2_1, ()), (v3_0, v3_1, ()), (v4_0, (List.take (List.length v4_1) (List.drop 0 v4_1)), ()), (v5_0, (List.take (List.length v5_1) (List.drop 0 v5_1)), ()), v6, (if ((if ((List.getD v3_1 (Int.toNat (IntKind.wrap .i64 ((IntKind.wrap .i64 (v22 * v2_0)) + (Int.tmod v6 v2_0)))) (0 : Int)) > (List.getD v2_1 (Int.toNat (IntKind.wrap .i64 ((IntKind.wrap .i64 ((IntKind.wrap .i64 (Int.tdiv v6 v2_0)) * v2_0)) + v22))) (0 : Int))) then (List.getD v3_1 (Int.toNat (IntKind.wrap .i64 ((IntKind.wrap .i64 (v22 * v2_0)) + (Int.tmod v6 v2_0)))) (0 : Int)) else (List.getD v2_1 (Int.toNat (IntKind.wrap .i64 ((IntKind.wrap .i64 ((IntKind.wrap .i64 (Int.tdiv v6 v2_0)) * v2_0)) + v22))) (0 : Int))) < v7) then (if ((List.getD v3_1 (Int.toNat (IntKind.wrap .i64 ((IntKind.wrap .i64 (v22 * v2_0)) + (Int.tmod v6 v2_0)))) (0 : Int)) > (List.getD v2_1 (Int.toNat (IntKind.wrap .i64 ((IntKind.wrap .i64 ((IntKind.wrap .i64 (Int.tdiv v6 v2_0)) * v2_0)) + v22))) (0 : Int))) then (List.getD v3_1 (Int.toNat (IntKind.wrap .i64 ((IntKind.wrap .i64 (v22 * v2_0)) + (Int.tmod v6 v2_0)))) (0 : Int)) else (List.getD v2_1 (Int.toNat (IntKind.wrap .i64 ((IntKind.wrap .i64 ((IntKind.wrap .i64 (Int.tdiv v6 v2_0)) * v2_0)) + v22))) (0 : Int))) else v7), v16, v17, v21, (IntKind.wrap .i64 (v22 + (1 : Int))), ()))
     else
      none
   else
    none
 else
  some (Sum.inr ((v2_0, v2_1, ()), (v3_0, v3_1, ()), (v4_0, (List.take (List.length v4_1) (List.drop 0 v4_1)), ()), (v5_0, (List.take (List.length v5_1) (List.drop 0 v5_1)), ()), v7, v16, v17, ()))
theorem spec_l6Mul_l7_eq : loopStep 63 E86 L86_0 (loopOf f86 7) sh86_7 xs86_7 = spec_l6Mul_l7 := by kernel_rfl
theorem loop86_7 {L} (h : L 7 = some ⟨63, sh86_7, xs86_7, spec_l6Mul_l7⟩) : LoopOk prog L (loopOf f86 7) := lo spec_l6Mul_l7_eq E86_ok allNil h
noncomputable def L86_1 : Nat → Option LoopD := fun n => ifEq n 7 (some ⟨63, sh86_7, xs86_7, spec_l6Mul_l7⟩) (L86_0 n)
def sh86_3 : List Fm := d :: d :: .box 100200 [.val (.int .i64), .val (.sl (.int .i64))] :: .box 100300 [.val (.int .i64), .val (.sl (.int .i64))] :: .box 100400 [.val (.int .i64), .own (.int .i64) 100402 false] :: .box 100500 [.val (.int .i64), .own (.int .i64) 100502 false] :: D 10 (.cell (.val (.int .i64)) :: .cell (.val (.int .i64)) :: D 45 [])
def xs86_3 : List (Ex × List Fm) := [(.exit 0, [d, d, d, d, .box 100400 [.val (.int .i64), .own (.int .i64) 100402 false], .box 100500 [.val (.int .i64), .own (.int .i64) 100502 false], d, d, d, d, d, d, d, d, d, d, d, d, d, d, d, d, d, d, d, d, d, d, d, d, d, d, d, d, d, d, d, d, d, d, d, d, d, d, d, d, d, d, d, d, d, d, d, d, d, d, d, d, d, d, d, d, d])]
noncomputable def spec_l6Mul_l3 : ((Int × (List Int) × Unit) × (Int × (List Int) × Unit) × (Int × (List Int) × Unit) × (Int × (List Int) × Unit) × Int × Int × Unit) → Option (((Int × (List Int) × Unit) × (Int × (List Int) × Unit) × (Int × (List Int) × Unit) × (Int × (List Int) × Unit) × Int × Int × Unit) ⊕ (((Int × (List Int) × Unit) × (Int × (List Int) × Unit) × Unit))) := fun ((v2_0, v2_1, _), (v3_0, v3_1, _), (v4_0, v4_1, _), (v5_0, v5_1, _), v16, v17, _) =>
 bif (decide (v17 < v16)) then
  Option.bind (loopF spec_l6Mul_l7 ((v2_0, v2_1, ()), (v3_0, v3_1, ()), (v4_0, (List.take (List.length v4_1) (List.drop 0 v4_1)), ()), (v5_0, (List.take (List.length v5_1) (List.drop 0 v5_1)), ()), v17, (3 : Int), v16, v17, v2_0, (0 : Int), ())) fun ((r0, r1, _), (r2, r3, _), (r4, r5, _), (r6, r7, _), r8, r9, r10, _) =>
   if (((0 + (List.length r7)) = (List.length r7)) ∧ ((((List.length r7) + (List.length (List.take 1 (List.drop 0 [r8])))) * 8) ≤ 140737488355328)) then
    some (Sum.inl ((r0, r1, ()), (r2, r3, ()), (r4, (List.take (List.length r5) (List.drop 0 r5)), ()), (r6, (List.take ((List.length r7) + (List.length (List.take 1 (List.drop 0 [r8])))) (List.drop 0 ((List.drop 0 r7) ++ (List.take 1 (List.drop 0 [r8]))))), ()), r9, (IntKind.wrap .i64 (r10 + (1 : Int))), ()))
   else
    none
 else
  some (Sum.inr ((v4_0, (List.take (List.length v4_1) (List.drop 0 v4_1)), ()), (v5_0, (List.take (List.length v5_1) (List.drop 0 v5_1)), ()), ()))
theorem spec_l6Mul_l3_eq : loopStep 63 E86 L86_1 (loopOf f86 3) sh86_3 xs86_3 = spec_l6Mul_l3 := by kernel_rfl
theorem loop86_3 {L} (h : L 3 = some ⟨63, sh86_3, xs86_3, spec_l6Mul_l3⟩) : LoopOk prog L (loopOf f86 3) := lo spec_l6Mul_l3_eq E86_ok (allCons (loop86_7 rfl) allNil) h
noncomputable def L86_2 : Nat → Option LoopD := fun n => ifEq n 3 (some ⟨63, sh86_3, xs86_3, spec_l6Mul_l3⟩) (L86_1 n)
noncomputable def spec_l6Mul : (Int × (List Int)) → (Int × (List Int)) → Option ((Int × (List Int))) := fun (a0_0, a0_1) (a1_0, a1_1) =>
 Option.bind (loopF spec_l6Mul_l3 ((a0_0, a0_1, ()), (a1_0, a1_1, ()), ((0 : Int), [], ()), (a0_0, [], ()), (IntKind.wrap .i64 (a0_0 * a0_0)), (0 : Int), ())) fun ((r0, r1, _), (r2, r3, _), _) =>
  some (r2, (List.take (List.length r3) (List.drop 0 r3)))
noncomputable def A86 : FnA := ⟨[.v (.pair (.int .i64) (.sl (.int .i64))), .v (.pair (.int .i64) (.sl (.int .i64)))], true, [.pair (.int .i64) (.sl (.int .i64))], fun x => spec_l6Mul x.1 x.2.1⟩
theorem spec_l6Mul_eq : fnF E86 L86_2 [.v (.pair (.int .i64) (.sl (.int .i64))), .v (.pair (.int .i64) (.sl (.int .i64)))] true [.pair (.int .i64) (.sl (.int .i64))] f86.ntmps f86.results.toList (codeOf f86) = fun x => spec_l6Mul x.1 x.2.1 := by kernel_rfl
theorem A86_ok : FnOk prog 86 A86 := fo spec_l6Mul_eq func86 E86_ok (allCons (loop86_3 rfl) allNil)
/-! spec.l6Idempotent -/
noncomputable def E49 : Env := ⟨ty0, fun g => ifEq g 86 (some A86) (ifEq g 50 (some A50) (none)), fun _ => none, fun _ => none, fun _ => none⟩
theorem E49_ok : FnsOk prog E49 := (oF A86_ok func86 (oF A50_ok func50 (noFns _ _)))
noncomputable def L49_0 : Nat → Option LoopD := fun _ => none
noncomputable def spec_l6Idempotent : (Int × (List Int)) → Option (Bool) := fun (a0_0, a0_1) =>
 Option.bind (spec_l6Mul (a0_0, a0_1) (a0_0, a0_1)) fun (r0, r1) =>
  Option.bind (spec_l2Same (List.take (List.length r1) (List.drop 0 r1)) a0_1) fun r2 =>
   some r2
noncomputable def A49 : FnA := ⟨[.v (.pair (.int .i64) (.sl (.int .i64)))], true, [.bool], fun x => spec_l6Idempotent x.1⟩
theorem spec_l6Idempotent_eq : fnF E49 L49_0 [.v (.pair (.int .i64) (.sl (.int .i64)))] true [.bool] f49.ntmps f49.results.toList (codeOf f49) = fun x => spec_l6Idempotent x.1 := by kernel_rfl
theorem A49_ok : FnOk prog 49 A49 := fo spec_l6Idempotent_eq func49 E49_ok allNil
/-! spec.l6Again -/
noncomputable def E87 : Env := ⟨ty0, fun _ => none, fun _ => none, fun _ => none, fun _ => none⟩
theorem E87_ok : FnsOk prog E87 := (noFns _ _)
noncomputable def L87_0 : Nat → Option LoopD := fun _ => none
noncomputable def spec_l6Again : Int → Option (Int) := fun a0 =>
 bif (a0 == (1 : Int)) then
  some (2 : Int)
 else
  some a0
noncomputable def A87 : FnA := ⟨[.v (.int .i64)], true, [.int .i64], fun x => spec_l6Again x.1⟩
theorem spec_l6Again_eq : fnF E87 L87_0 [.v (.int .i64)] true [.int .i64] f87.ntmps f87.results.toList (codeOf f87) = fun x => spec_l6Again x.1 := by kernel_rfl
theorem A87_ok : FnOk prog 87 A87 := fo spec_l6Again_eq func87 E87_ok allNil
/-! spec.l6Stable -/
noncomputable def E51 : Env := ⟨ty0, fun g => ifEq g 87 (some A87) (none), fun _ => none, fun _ => none, fun _ => none⟩
theorem E51_ok : FnsOk prog E51 := (oF A87_ok func87 (noFns _ _))
noncomputable def L51_0 : Nat → Option LoopD := fun _ => none
def sh51_7 : List Fm := d :: .box 100100 [.val (.int .i64), .val (.sl (.int .i64))] :: .box 100200 [.val (.int .i64), .own (.int .i64) 100202 false] :: .box 100300 [.val (.int .i64), .own (.int .i64) 100302 false] :: .cell (.val (.int .i64)) :: .cell (.val (.int .i64)) :: D 8 (.cell (.val (.int .i64)) :: .cell (.val (.int .i64)) :: d :: d :: d :: .cell (.val (.int .i64)) :: .cell (.val (.int .i64)) :: D 51 [])
def xs51_7 : List (Ex × List Fm) := [(.exit 2, [d, .box 100100 [.val (.int .i64), .val (.sl (.int .i64))], .box 100200 [.val (.int .i64), .own (.int .i64) 100202 false], .box 100300 [.val (.int .i64), .own (.int .i64) 100302 false], d, .cell (.val (.int .i64)), d, d, d, d, d, d, d, d, .cell (.val (.int .i64)), .cell (.val (.int .i64)), d, d, d, d, d, d, d, d, d, d, d, d, d, d, d, d, d, d, d, d, d, d, d, d, d, d, d, d, d, d, d, d, d, d, d, d, d, d, d, d, d, d, d, d, d, d, d, d, d, d, d, d, d, d, d, d])]
noncomputable def spec_l6Stable_l7 : ((Int × (List Int) × Unit) × (Int × (List Int) × Unit) × (Int × (List Int) × Unit) × Int × Int × Int × Int × Int × Int × Unit) → Option (((Int × (List Int) × Unit) × (Int × (List Int) × Unit) × (Int × (List Int) × Unit) × Int × Int × Int × Int × Int × Int × Unit) ⊕ (((Int × (List Int) × Unit) × (Int × (List Int) × Unit) × (Int × (List Int) × Unit) × Int × Int × Int × Unit))) := fun ((v1_0, v1_1, _), (v2_0, v2_1, _), (v3_0, v3_1, _), v4, v5, v14, v15, v19, v20, _) =>
 bif (decide (v20 < v19)) then
  if (v1_0 = (0 : Int)) then
   none
  else
   if (((0 : Int) ≤ (IntKind.wrap .i64 ((IntKind.wrap .i64 ((IntKind.wrap .i64 (Int.tdiv v4 v1_0)) * v1_0)) + v20))) ∧ ((IntKind.wrap .i64 ((IntKind.wrap .i64 ((IntKind.wrap .i64 (Int.tdiv v4 v1_0)) * v1_0)) + v20)) < (((List.length v1_1) : Nat) : Int))) then
    if (((0 : Int) ≤ (IntKind.wrap .i64 ((IntKind.wrap .i64 (v20 * v1_0)) + v20))) ∧ ((IntKind.wrap .i64 ((IntKind.wrap .i64 (v20 * v1_0)) + v20)) < (((List.length v1_1) : Nat) : Int))) then
     Option.bind (spec_l6Again (List.getD v1_1 (Int.toNat (IntKind.wrap .i64 ((IntKind.wrap .i64 (v20 * v1_0)) + v20))) (0 : Int))) fun r0 =>
      if (v1_0 = (0 : Int)) then
       none
      else
       if (((0 : Int) ≤ (IntKind.wrap .i64 ((IntKind.wrap .i64 (v20 * v1_0)) + (Int.tmod v4 v1_0)))) ∧ ((IntKind.wrap .i64 ((IntKind.wrap .i64 (v20 * v1_0)) + (Int.tmod v4 v1_0))) < (((List.length v1_1) : Nat) : Int))) then
        some (Sum.inl ((v1_0, v1_1, ()), (v2_0, (List.take (List.length v2_1) (List.drop 0 v2_1)), ()), (v3_0, (List.take (List.length v3_1) (List.drop 0 v3_1)), ()), v4, (if ((if ((List.getD v1_1 (Int.toNat (IntKind.wrap .i64 ((IntKind.wrap .i64 (v20 * v1_0)) + (Int.tmod v4 v1_0)))) (0 : Int)) > (if (r0 > (List.getD v1_1 (Int.toNat (IntKind.wrap .i64 ((IntKind.wrap .i64 ((IntKind.wrap .i64 (Int.tdiv v4 v1_0)) * v1_0)) + v20))) (0 : Int))) then r0 else (List.getD v1_1 (Int.toNat (IntKind.wrap .i64 ((IntKind.wrap .i64 ((IntKind.wrap .i64 (Int.tdiv v4 v1_0)) * v1_0)) + v20))) (0 : Int)))) then (List.getD v1_1 (Int.toNat (IntKind.wrap .i64 ((IntKind.wrap .i64 (v20 * v1_0)) + (Int.tmod v4 v1_0)))) (0 : Int)) else (if (r0 > (List.getD v1_1 (Int.toNat (IntKind.wrap .i64 ((IntKind.wrap .i64 ((IntKind.wrap .i64 (Int.tdiv v4 v1_0)) * v1_0)) + v20))) (0 : Int))) then r0 else (List.getD v1_1 (Int.toNat (IntKind.wrap .i64 ((IntKind.wrap .i64 ((IntKind.wrap .i64 (Int.tdiv v4 v1_0)) * v1_0)) + v20))) (0 : Int)))) < v5) then (if ((List.getD v1_1 (Int.toNat (IntKind.wrap .i64 ((IntKind.wrap .i64 (v20 * v1_0)) + (Int.tmod v4 v1_0)))) (0 : Int)) > (if (r0 > (List.getD v1_1 (Int.toNat (IntKind.wrap .i64 ((IntKind.wrap .i64 ((IntKind.wrap .i64 (Int.tdiv v4 v1_0)) * v1_0)) + v20))) (0 : Int))) then r0 else (List.getD v1_1 (Int.toNat (IntKind.wrap .i64 ((IntKind.wrap .i64 ((IntKind.wrap .i64 (Int.tdiv v4 v1_0)) * v1_0)) + v20))) (0 : Int)))) then (List.getD v1_1 (Int.toNat (IntKind.wrap .i64 ((IntKind.wrap .i64 (v20 * v1_0)) + (Int.tmod v4 v1_0)))) (0 : Int)) else (if (r0 > (List.getD v1_1 (Int.toNat (IntKind.wrap .i64 ((IntKind.wrap .i64 ((IntKind.wrap .i64 (Int.tdiv v4 v1_0)) * v1_0)) + v20))) (0 : Int))) then r0 else (List.getD v1_1 (Int.toNat (IntKind.wrap .i64 ((IntKind.wrap .i64 ((IntKind.wrap .i64 (Int.tdiv v4 v1_0)) * v1_0)) + v20))) (0 : Int)))) else v5), v14, v15, v19, (IntKind.wrap .i64 (v20 + (1 : Int))), ()))
       else
        none
    else
     none
   else
    none
 else
  some (Sum.inr ((v1_0, v1_1, ()), (v2_0, (List.take (List.length v2_1) (List.drop 0 v2_1)), ()), (v3_0, (List.take (List.length v3_1) (List.drop 0 v3_1)), ()), v5, v14, v15, ()))
theorem spec_l6Stable_l7_eq : loopStep 72 E51 L51_0 (loopOf f51 7) sh51_7 xs51_7 = spec_l6Stable_l7 := by kernel_rfl
theorem loop51_7 {L} (h : L 7 = some ⟨72, sh51_7, xs51_7, spec_l6Stable_l7⟩) : LoopOk prog L (loopOf f51 7) := lo spec_l6Stable_l7_eq E51_ok allNil h
noncomputable def L51_1 : Nat → Option LoopD := fun n => ifEq n 7 (some ⟨72, sh51_7, xs51_7, spec_l6Stable_l7⟩) (L51_0 n)
def sh51_3 : List Fm := d :: .box 100100 [.val (.int .i64), .val (.sl (.int .i64))] :: .box 100200 [.val (.int .i64), .own (.int .i64) 100202 false] :: .box 100300 [.val (.int .i64), .own (.int .i64) 100302 false] :: D 10 (.cell (.val (.int .i64)) :: .cell (.val (.int .i64)) :: D 56 [])
def xs51_3 : List (Ex × List Fm) := [(.exit 0, [d, d, .box 100200 [.val (.int .i64), .own (.int .i64) 100202 false], .box 100300 [.val (.int .i64), .own (.int .i64) 100302 false], d, d, d, d, d, d, d, d, d, d, d, d, d, d, d, d, d, d, d, d, d, d, d, d, d, d, d, d, d, d, d, d, d, d, d, d, d, d, d, d, d, d, d, d, d, d, d, d, d, d, d, d, d, d, d, d, d, d, d, d, d, d, d, d, d, d, d, d])]
noncomputable def spec_l6Stable_l3 : ((Int × (List Int) × Unit) × (Int × (List Int) × Unit) × (Int × (List Int) × Unit) × Int × Int × Unit) → Option (((Int × (List Int) × Unit) × (Int × (List Int) × Unit) × (Int × (List Int) × Unit) × Int × Int × Unit) ⊕ (((Int × (List Int) × Unit) × (Int × (List Int) × Unit) × Unit))) := fun ((v1_0, v1_1, _), (v2_0, v2_1, _), (v3_0, v3_1, _), v14, v15, _) =>
 bif (decide (v15 < v14)) then
  Option.bind (loopF spec_l6Stable_l7 ((v1_0, v1_1, ()), (v2_0, (List.take (List.length v2_1) (List.drop 0 v2_1)), ()), (v3_0, (List.take (List.length v3_1) (List.drop 0 v3_1)), ()), v15, (3 : Int), v14, v15, v1_0, (0 : Int), ())) fun ((r0, r1, _), (r2, r3, _), (r4, r5, _), r6, r7, r8, _) =>
   if (((0 + (List.length r5)) = (List.length r5)) ∧ ((((List.length r5) + (List.length (List.take 1 (List.drop 0 [r6])))) * 8) ≤ 140737488355328)) then
    some (Sum.inl ((r0, r1, ()), (r2, (List.take (List.length r3) (List.drop 0 r3)), ()), (r4, (List.take ((List.length r5) + (List.length (List.take 1 (List.drop 0 [r6])))) (List.drop 0 ((List.drop 0 r5) ++ (List.take 1 (List.drop 0 [r6]))))), ()), r7, (IntKind.wrap .i64 (r8 + (1 : Int))), ()))
   else
    none
 else
  some (Sum.inr ((v2_0, (List.take (List.length v2_1) (List.drop 0 v2_1)), ()), (v3_0, (List.take (List.length v3_1) (List.drop 0 v3_1)), ()), ()))
theorem spec_l6Stable_l3_eq : loopStep 72 E51 L51_1 (loopOf f51 3) sh51_3 xs51_3 = spec_l6Stable_l3 := by kernel_rfl
theorem loop51_3 {L} (h : L 3 = some ⟨72, sh51_3, xs51_3, spec_l6Stable_l3⟩) : LoopOk prog L (loopOf f51 3) := lo spec_l6Stable_l3_eq E51_ok (allCons (loop51_7 rfl) allNil) h
noncomputable def L51_2 : Nat → Option LoopD := fun n => ifEq n 3 (some ⟨72, sh51_3, xs51_3, spec_l6Stable_l3⟩) (L51_1 n)
noncomputable def spec_l6Stable : (Int × (List Int)) → Option ((Int × (List Int))) := fun (a0_0, a0_1) =>
 Option.bind (loopF spec_l6Stable_l3 ((a0_0, a0_1, ()), ((0 : Int), [], ()), (a0_0, [], ()), (IntKind.wrap .i64 (a0_0 * a0_0)), (0 : Int), ())) fun ((r0, r1, _), (r2, r3, _), _) =>
  some (r2, (List.take (List.length r3) (List.drop 0 r3)))
noncomputable def A51 : FnA := ⟨[.v (.pair (.int .i64) (.sl (.int .i64)))], true, [.pair (.int .i64) (.sl (.int .i64))], fun x => spec_l6Stable x.1⟩
theorem spec_l6Stable_eq : fnF E51 L51_2 [.v (.pair (.int .i64) (.sl (.int .i64)))] true [.pair (.int .i64) (.sl (.int .i64))] f51.ntmps f51.results.toList (codeOf f51) = fun x => spec_l6Stable x.1 := by kernel_rfl
theorem A51_ok : FnOk prog 51 A51 := fo spec_l6Stable_eq func51 E51_ok (allCons (loop51_3 rfl) allNil)
/-! spec.l8Elements -/
noncomputable def E103_at39 : Env := ⟨ty0, fun g => ifEq g 132 (some A132) (ifEq g 131 (some A131) (ifEq g 50 (some A50) (ifEq g 49 (some A49) (ifEq g 51 (some A51) (ifEq g 86 (some A86) (none)))))), fun _ => none, fun _ => none, fun _ => none⟩
theorem E103_at39_ok : FnsOk prog E103_at39 := (oF A132_ok func132 (oF A131_ok func131 (oF A50_ok func50 (oF A49_ok func49 (oF A51_ok func51 (oF A86_ok func86 (noFns _ _)))))))
noncomputable def L103_at39_0 : Nat → Option LoopD := fun _ => none
def sh103_at39_2 : List Fm := .box 100000 [.own (.pair (.pair (.int .i64) (.sl (.int .i64))) .str) 100001 true, .val .bool] :: d :: .cell (.val .str) :: d :: .box 100400 [.val (.int .i64), .val (.sl (.int .i64))] :: D 6 (.cell (.val (.sl (.pair (.pair (.int .i64) (.sl (.int .i64))) .str))) :: .cell (.val (.int .i64)) :: .cell (.val (.int .i64)) :: D 48 (.cell (.val .bool) :: .box 106300 [.val (.int .i64), .val (.sl (.int .i64)), .val (.sl (.int .i64)), .val (.sl (.pair (.int .i64) (.pair .str (.pair (.int .i64) (.int .i64)))))] :: d :: d :: d :: .ali 100000 0 :: .cell (.own (.pair (.pair (.int .i64) (.sl (.int .i64))) .str) 106800 false) :: D 12 (.cell (.own .str 108100 false) :: .cell (.val (.int .i64)) :: .cell (.val (.int .i64)) :: D 108 [])))
def xs103_at39_2 : List (Ex × List Fm) := [(.ret, [d, d, d, d, d, d, d, d, d, d, d, d, d, d, d, d, d, d, d, d, d, d, d, d, d, d, d, d, d, d, d, d, d, d, d, d, d, d, d, d, d, d, d, d, d, d, d, d, d, d, d, d, d, d, d, d, d, d, d, d, d, d, .cell (.val .bool), .box 106300 [.val (.int .i64), .val (.sl (.int .i64)), .val (.sl (.int .i64)), .val (.sl (.pair (.int .i64) (.pair .str (.pair (.int .i64) (.int .i64)))))], d, d, d, .box 106700 [.own (.pair (.pair (.int .i64) (.sl (.int .i64))) .str) 106701 true, .val .bool], .cell (.own (.pair (.pair (.int .i64) (.sl (.int .i64))) .str) 106800 false), d, d, d, d, d, d, d, d, d, d, d, d, .cell (.own .str 108100 false), .cell (.val (.int .i64)), .cell (.val (.int .i64)), d, d, d, d, d, d, d, d, d, d, d, d, d, d, d, d, d, d, d, d, d, d, d, d, d, d, d, d, d, d, d, d, d, d, d, d, d, d, d, d, d, d, d, d, d, d, d, d, d, d, d, d, d, d, d, d, d, d, d, d, d, d, d, d, d, d, d, d, d, d, d, d, d, d, d, d, d, d, d, d, d, d, d, d, d, d, d, d, d, d, d, d, d, d, d, d, d, d, d, d, d, d, d, d, d, d, d, d]), (.exit 0, [.box 100000 [.own (.pair (.pair (.int .i64) (.sl (.int .i64))) .str) 100001 true, .val .bool], d, .cell (.val .str), d, .box 100400 [.val (.int .i64), .val (.sl (.int .i64))], d, d, d, d, d, d, d, d, d, d, d, d, d, d, d, d, d, d, d, d, d, d, d, d, d, d, d, d, d, d, d, d, d, d, d, d, d, d, d, d, d, d, d, d, d, d, d, d, d, d, d, d, d, d, d, d, d, .cell (.val .bool), .box 106300 [.val (.int .i64), .val (.sl (.int .i64)), .val (.sl (.int .i64)), .val (.sl (.pair (.int .i64) (.pair .str (.pair (.int .i64) (.int .i64)))))], d, d, d, .ali 100000 0, .cell (.own (.pair (.pair (.int .i64) (.sl (.int .i64))) .str) 106800 false), d, d, d, d, d, d, d, d, d, d, d, d, .cell (.own .str 108100 false), .cell (.val (.int .i64)), .cell (.val (.int .i64)), d, d, d, d, d, d, d, d, d, d, d, d, d, d, d, d, d, d, d, d, d, d, d, d, d, d, d, d, d, d, d, d, d, d, d, d, d, d, d, d, d, d, d, d, d, d, d, d, d, d, d, d, d, d, d, d, d, d, d, d, d, d, d, d, d, d, d, d, d, d, d, d, d, d, d, d, d, d, d, d, d, d, d, d, d, d, d, d, d, d, d, d, d, d, d, d, d, d, d, d, d, d, d, d, d, d, d, d])]
noncomputable def spec_l8Elements_at39_l2 : (((List ((Int × (List Int)) × ByteArray)) × Bool × Unit) × ByteArray × (Int × (List Int) × Unit) × (List ((Int × (List Int)) × ByteArray)) × Int × Int × Bool × (Int × (List Int) × (List Int) × (List (Int × (ByteArray × (Int × Int)))) × Unit) × (List ((Int × (List Int)) × ByteArray)) × (List ByteArray) × Int × Int × Unit) → Option ((((List ((Int × (List Int)) × ByteArray)) × Bool × Unit) × ByteArray × (Int × (List Int) × Unit) × (List ((Int × (List Int)) × ByteArray)) × Int × Int × Bool × (Int × (List Int) × (List Int) × (List (Int × (ByteArray × (Int × Int)))) × Unit) × (List ((Int × (List Int)) × ByteArray)) × (List ByteArray) × Int × Int × Unit) ⊕ ((Bool × (Int × (List Int) × (List Int) × (List (Int × (ByteArray × (Int × Int)))) × Unit) × ((List ((Int × (List Int)) × ByteArray)) × Bool × Unit) × (List ((Int × (List Int)) × ByteArray)) × (List ByteArray) × Int × Int × Unit) ⊕ (((List ((Int × (List Int)) × ByteArray)) × Bool × Unit) × ByteArray × (Int × (List Int) × Unit) × Bool × (Int × (List Int) × (List Int) × (List (Int × (ByteArray × (Int × Int)))) × Unit) × (List ((Int × (List Int)) × ByteArray)) × (List ByteArray) × Int × Int × Unit))) := fun ((v0_0, v0_1, _), v2, (v4_0, v4_1, _), v11, v12, v13, v62, (v63_0, v63_1, v63_2, v63_3, _), v68, v81, v82, v83, _) =>
 bif (decide (v13 < v12)) then
  if (((0 : Int) ≤ v13) ∧ (v13 < (((List.length v11) : Nat) : Int))) then
   Option.bind (spec_l2Same (List.getD v11 (Int.toNat v13) (((0 : Int), []), (⟨Array.empty⟩ : ByteArray))).1.2 v4_1) fun r0 =>
    bif r0 then
     if ((0 + (List.length v0_0)) = (List.length v0_0)) then
      some (Sum.inr (Sum.inl (v62, (v63_0, v63_1, v63_2, v63_3, ()), ((List.drop 0 v0_0), v0_1, ()), (List.take (List.length v68) (List.drop 0 v68)), (List.take (List.length v81) (List.drop 0 v81)), v82, v83, ())))
     else
      none
    else
     if ((0 + (List.length v0_0)) = (List.length v0_0)) then
      some (Sum.inl (((List.drop 0 v0_0), v0_1, ()), v2, (v4_0, v4_1, ()), v11, v12, (IntKind.wrap .i64 (v13 + (1 : Int))), v62, (v63_0, v63_1, v63_2, v63_3, ()), (List.take (List.length v68) (List.drop 0 v68)), (List.take (List.length v81) (List.drop 0 v81)), v82, v83, ()))
     else
      none
  else
   none
 else
  if ((0 + (List.length v0_0)) = (List.length v0_0)) then
   some (Sum.inr (Sum.inr (((List.drop 0 v0_0), v0_1, ()), v2, (v4_0, v4_1, ()), v62, (v63_0, v63_1, v63_2, v63_3, ()), (List.take (List.length v68) (List.drop 0 v68)), (List.take (List.length v81) (List.drop 0 v81)), v82, v83, ())))
  else
   none
theorem spec_l8Elements_at39_l2_eq : loopStep 61 E103_at39 L103_at39_0 (loopOf f133 2) sh103_at39_2 xs103_at39_2 = spec_l8Elements_at39_l2 := by kernel_rfl
theorem loop103_at39_2 {L} (h : L 2 = some ⟨61, sh103_at39_2, xs103_at39_2, spec_l8Elements_at39_l2⟩) : LoopOk prog L (loopOf f133 2) := lo spec_l8Elements_at39_l2_eq E103_at39_ok allNil h
noncomputable def L103_at39_1 : Nat → Option LoopD := fun n => ifEq n 2 (some ⟨61, sh103_at39_2, xs103_at39_2, spec_l8Elements_at39_l2⟩) (L103_at39_0 n)
def shi103_at39 : List Fm := .box 100000 [.own (.pair (.pair (.int .i64) (.sl (.int .i64))) .str) 100001 true, .val .bool] :: .cell (.val (.pair (.int .i64) (.sl (.int .i64)))) :: .cell (.val .str) :: D 59 (.cell (.val .bool) :: .box 106300 [.val (.int .i64), .val (.sl (.int .i64)), .val (.sl (.int .i64)), .val (.sl (.pair (.int .i64) (.pair .str (.pair (.int .i64) (.int .i64)))))] :: d :: d :: d :: .ali 100000 0 :: .cell (.own (.pair (.pair (.int .i64) (.sl (.int .i64))) .str) 106800 false) :: D 12 (.cell (.own .str 108100 false) :: .cell (.val (.int .i64)) :: .cell (.val (.int .i64)) :: D 108 []))
def sho103_at39 : List Fm := d :: .cell (.val .bool) :: .box 100200 [.val (.int .i64), .val (.sl (.int .i64)), .val (.sl (.int .i64)), .val (.sl (.pair (.int .i64) (.pair .str (.pair (.int .i64) (.int .i64)))))] :: d :: d :: d :: .box 100600 [.own (.pair (.pair (.int .i64) (.sl (.int .i64))) .str) 100601 true, .val .bool] :: .cell (.own (.pair (.pair (.int .i64) (.sl (.int .i64))) .str) 100700 false) :: D 12 (.cell (.own .str 102000 false) :: .cell (.val (.int .i64)) :: .cell (.val (.int .i64)) :: D 108 [])
noncomputable def spec_l8Elements_at39 : (((List ((Int × (List Int)) × ByteArray)) × Bool × Unit) × (Int × (List Int)) × ByteArray × Bool × (Int × (List Int) × (List Int) × (List (Int × (ByteArray × (Int × Int)))) × Unit) × (List ((Int × (List Int)) × ByteArray)) × (List ByteArray) × Int × Int × Unit) → Option (Bool × (Int × (List Int) × (List Int) × (List (Int × (ByteArray × (Int × Int)))) × Unit) × ((List ((Int × (List Int)) × ByteArray)) × Bool × Unit) × (List ((Int × (List Int)) × ByteArray)) × (List ByteArray) × Int × Int × Unit) := fun ((v0_0, v0_1, _), (v1_0, v1_1), v2, v62, (v63_0, v63_1, v63_2, v63_3, _), v68, v81, v82, v83, _) =>
 if ((0 + (List.length v0_0)) = (List.length v0_0)) then
  Option.bind (loopF spec_l8Elements_at39_l2 (((List.drop 0 v0_0), v0_1, ()), v2, (v1_0, v1_1, ()), (List.take (List.length v0_0) (List.drop 0 v0_0)), (((List.length v0_0) : Nat) : Int), (0 : Int), v62, (v63_0, v63_1, v63_2, v63_3, ()), (List.take (List.length v68) (List.drop 0 v68)), (List.take (List.length v81) (List.drop 0 v81)), v82, v83, ())) fun r0 =>
   (match r0 with
   | .inl (d1, (d2, d3, d4, d5, _), (d6, d7, _), d8, d9, d10, d11, _) =>
     if ((0 + (List.length d6)) = (List.length d6)) then
      some (d1, (d2, d3, d4, d5, ()), ((List.drop 0 d6), d7, ()), (List.take (List.length d8) (List.drop 0 d8)), (List.take (List.length d9) (List.drop 0 d9)), d10, d11, ())
     else
      none
   | .inr ((d12, d13, _), d14, (d15, d16, _), d17, (d18, d19, d20, d21, _), d22, d23, d24, d25, _) =>
     bif d13 then
      if ((0 + (List.length d12)) = (List.length d12)) then
       some (d17, (d18, d19, d20, d21, ()), ((List.drop 0 d12), true, ()), (List.take (List.length d22) (List.drop 0 d22)), (List.take (List.length d23) (List.drop 0 d23)), d24, d25, ())
      else
       none
     else
      bif (decide ((((List.length d12) : Nat) : Int) ≥ (120 : Int))) then
       if ((0 + (List.length d12)) = (List.length d12)) then
        some (d17, (d18, d19, d20, d21, ()), ((List.drop 0 d12), true, ()), (List.take (List.length d22) (List.drop 0 d22)), (List.take (List.length d23) (List.drop 0 d23)), d24, d25, ())
       else
        none
      else
       bif (!(decide ((((ByteArray.size d14) : Nat) : Int) > (120 : Int)))) then
        if (((0 + (List.length d12)) = (List.length d12)) ∧ ((((List.length d12) + (List.length (List.take 1 (List.drop 0 [((d15, d16), d14)])))) * 48) ≤ 140737488355328)) then
         if ((0 + ((List.length d12) + (List.length (List.take 1 (List.drop 0 [((d15, d16), d14)]))))) = (List.length ((List.drop 0 d12) ++ (List.take 1 (List.drop 0 [((d15, d16), d14)]))))) then
          some (d17, (d18, d19, d20, d21, ()), ((List.drop 0 ((List.drop 0 d12) ++ (List.take 1 (List.drop 0 [((d15, d16), d14)])))), (decide ((((ByteArray.size d14) : Nat) : Int) > (120 : Int))), ()), (List.take (List.length d22) (List.drop 0 d22)), (List.take (List.length d23) (List.drop 0 d23)), d24, d25, ())
         else
          none
        else
         none
       else
        if ((0 + (List.length d12)) = (List.length d12)) then
         some (d17, (d18, d19, d20, d21, ()), ((List.drop 0 d12), (decide ((((ByteArray.size d14) : Nat) : Int) > (120 : Int))), ()), (List.take (List.length d22) (List.drop 0 d22)), (List.take (List.length d23) (List.drop 0 d23)), d24, d25, ())
        else
         none)
 else
  none
theorem spec_l8Elements_at39_eq : inlStep f133.ntmps 131 39 E103_at39 L103_at39_1 f133.results.toList (codeOf f133) shi103_at39 sho103_at39 = spec_l8Elements_at39 := by kernel_rfl
noncomputable def I103_at39 : CallD := ⟨f133.ntmps, shi103_at39, 131, sho103_at39, spec_l8Elements_at39, 0⟩
theorem I103_at39_ok : InlOk prog 39 133 I103_at39 := inlOk_of (tysOk_of tyl_ok) E103_at39_ok (L := L103_at39_1) func133 (by kernel_rfl) (c := codeOf f133) (by kernel_rfl) (codeOk_in (L := L103_at39_1) (tysOk_of tyl_ok) E103_at39_ok mixed (c := codeOf f133) (bs := [loopOf f133 2]) (by kernel_rfl) (allCons (loop103_at39_2 rfl) allNil) (by kernel_rfl)) (by kernel_rfl) (by kernel_rfl) spec_l8Elements_at39_eq
noncomputable def E103_at78 : Env := ⟨ty0, fun g => ifEq g 132 (some A132) (ifEq g 131 (some A131) (ifEq g 50 (some A50) (ifEq g 49 (some A49) (ifEq g 51 (some A51) (ifEq g 86 (some A86) (none)))))), fun _ => none, fun _ => none, fun _ => none⟩
theorem E103_at78_ok : FnsOk prog E103_at78 := (oF A132_ok func132 (oF A131_ok func131 (oF A50_ok func50 (oF A49_ok func49 (oF A51_ok func51 (oF A86_ok func86 (noFns _ _)))))))
noncomputable def L103_at78_0 : Nat → Option LoopD := fun _ => none
def sh103_at78_2 : List Fm := .box 100000 [.own (.pair (.pair (.int .i64) (.sl (.int .i64))) .str) 100001 true, .val .bool] :: d :: .cell (.val .str) :: d :: .box 100400 [.val (.int .i64), .own (.int .i64) 100402 false] :: D 6 (.cell (.val (.sl (.pair (.pair (.int .i64) (.sl (.int .i64))) .str))) :: .cell (.val (.int .i64)) :: .cell (.val (.int .i64)) :: D 48 (.cell (.val .bool) :: D 4 (.ali 100000 0 :: .cell (.val (.sl (.pair (.pair (.int .i64) (.sl (.int .i64))) .str))) :: d :: d :: d :: .cell (.val (.int .i64)) :: .box 107300 [.val (.int .i64), .val (.sl (.int .i64)), .val .str] :: D 118 [])))
def xs103_at78_2 : List (Ex × List Fm) := [(.ret, [d, d, d, d, d, d, d, d, d, d, d, d, d, d, d, d, d, d, d, d, d, d, d, d, d, d, d, d, d, d, d, d, d, d, d, d, d, d, d, d, d, d, d, d, d, d, d, d, d, d, d, d, d, d, d, d, d, d, d, d, d, d, .cell (.val .bool), d, d, d, d, .box 106700 [.own (.pair (.pair (.int .i64) (.sl (.int .i64))) .str) 106701 true, .val .bool], .cell (.val (.sl (.pair (.pair (.int .i64) (.sl (.int .i64))) .str))), d, d, d, .cell (.val (.int .i64)), .box 107300 [.val (.int .i64), .val (.sl (.int .i64)), .val .str], d, d, d, d, d, d, d, d, d, d, d, d, d, d, d, d, d, d, d, d, d, d, d, d, d, d, d, d, d, d, d, d, d, d, d, d, d, d, d, d, d, d, d, d, d, d, d, d, d, d, d, d, d, d, d, d, d, d, d, d, d, d, d, d, d, d, d, d, d, d, d, d, d, d, d, d, d, d, d, d, d, d, d, d, d, d, d, d, d, d, d, d, d, d, d, d, d, d, d, d, d, d, d, d, d, d, d, d, d, d, d, d, d, d, d, d, d, d]), (.exit 0, [.box 100000 [.own (.pair (.pair (.int .i64) (.sl (.int .i64))) .str) 100001 true, .val .bool], d, .cell (.val .str), d, .box 100400 [.val (.int .i64), .own (.int .i64) 100402 false], d, d, d, d, d, d, d, d, d, d, d, d, d, d, d, d, d, d, d, d, d, d, d, d, d, d, d, d, d, d, d, d, d, d, d, d, d, d, d, d, d, d, d, d, d, d, d, d, d, d, d, d, d, d, d, d, d, .cell (.val .bool), d, d, d, d, .ali 100000 0, .cell (.val (.sl (.pair (.pair (.int .i64) (.sl (.int .i64))) .str))), d, d, d, .cell (.val (.int .i64)), .box 107300 [.val (.int .i64), .val (.sl (.int .i64)), .val .str], d, d, d, d, d, d, d, d, d, d, d, d, d, d, d, d, d, d, d, d, d, d, d, d, d, d, d, d, d, d, d, d, d, d, d, d, d, d, d, d, d, d, d, d, d, d, d, d, d, d, d, d, d, d, d, d, d, d, d, d, d, d, d, d, d, d, d, d, d, d, d, d, d, d, d, d, d, d, d, d, d, d, d, d, d, d, d, d, d, d, d, d, d, d, d, d, d, d, d, d, d, d, d, d, d, d, d, d, d, d, d, d, d, d, d, d, d, d])]
noncomputable def spec_l8Elements_at78_l2 : (((List ((Int × (List Int)) × ByteArray)) × Bool × Unit) × ByteArray × (Int × (List Int) × Unit) × (List ((Int × (List Int)) × ByteArray)) × Int × Int × Bool × (List ((Int × (List Int)) × ByteArray)) × Int × (Int × (List Int) × ByteArray × Unit) × Unit) → Option ((((List ((Int × (List Int)) × ByteArray)) × Bool × Unit) × ByteArray × (Int × (List Int) × Unit) × (List ((Int × (List Int)) × ByteArray)) × Int × Int × Bool × (List ((Int × (List Int)) × ByteArray)) × Int × (Int × (List Int) × ByteArray × Unit) × Unit) ⊕ ((Bool × ((List ((Int × (List Int)) × ByteArray)) × Bool × Unit) × (List ((Int × (List Int)) × ByteArray)) × Int × (Int × (List Int) × ByteArray × Unit) × Unit) ⊕ (((List ((Int × (List Int)) × ByteArray)) × Bool × Unit) × ByteArray × (Int × (List Int) × Unit) × Bool × (List ((Int × (List Int)) × ByteArray)) × Int × (Int × (List Int) × ByteArray × Unit) × Unit))) := fun ((v0_0, v0_1, _), v2, (v4_0, v4_1, _), v11, v12, v13, v62, v68, v72, (v73_0, v73_1, v73_2, _), _) =>
 bif (decide (v13 < v12)) then
  if (((0 : Int) ≤ v13) ∧ (v13 < (((List.length v11) : Nat) : Int))) then
   Option.bind (spec_l2Same (List.getD v11 (Int.toNat v13) (((0 : Int), []), (⟨Array.empty⟩ : ByteArray))).1.2 (List.take (List.length v4_1) (List.drop 0 v4_1))) fun r0 =>
    bif r0 then
     if ((0 + (List.length v0_0)) = (List.length v0_0)) then
      some (Sum.inr (Sum.inl (v62, ((List.drop 0 v0_0), v0_1, ()), v68, v72, (v73_0, v73_1, v73_2, ()), ())))
     else
      none
    else
     if ((0 + (List.length v0_0)) = (List.length v0_0)) then
      some (Sum.inl (((List.drop 0 v0_0), v0_1, ()), v2, (v4_0, (List.take (List.length v4_1) (List.drop 0 v4_1)), ()), v11, v12, (IntKind.wrap .i64 (v13 + (1 : Int))), v62, v68, v72, (v73_0, v73_1, v73_2, ()), ()))
     else
      none
  else
   none
 else
  if ((0 + (List.length v0_0)) = (List.length v0_0)) then
   some (Sum.inr (Sum.inr (((List.drop 0 v0_0), v0_1, ()), v2, (v4_0, (List.take (List.length v4_1) (List.drop 0 v4_1)), ()), v62, v68, v72, (v73_0, v73_1, v73_2, ()), ())))
  else
   none
theorem spec_l8Elements_at78_l2_eq : loopStep 61 E103_at78 L103_at78_0 (loopOf f133 2) sh103_at78_2 xs103_at78_2 = spec_l8Elements_at78_l2 := by kernel_rfl
theorem loop103_at78_2 {L} (h : L 2 = some ⟨61, sh103_at78_2, xs103_at78_2, spec_l8Elements_at78_l2⟩) : LoopOk prog L (loopOf f133 2) := lo spec_l8Elements_at78_l2_eq E103_at78_ok allNil h
noncomputable def L103_at78_1 : Nat → Option LoopD := fun n => ifEq n 2 (some ⟨61, sh103_at78_2, xs103_at78_2, spec_l8Elements_at78_l2⟩) (L103_at78_0 n)
def shi103_at78 : List Fm := .box 100000 [.own (.pair (.pair (.int .i64) (.sl (.int .i64))) .str) 100001 true, .val .bool] :: .agg [.val (.int .i64), .own (.int .i64) 100102 false] :: .cell (.val .str) :: D 59 (.cell (.val .bool) :: D 4 (.ali 100000 0 :: .cell (.val (.sl (.pair (.pair (.int .i64) (.sl (.int .i64))) .str))) :: d :: d :: d :: .cell (.val (.int .i64)) :: .box 107300 [.val (.int .i64), .val (.sl (.int .i64)), .val .str] :: D 118 []))
def sho103_at78 : List Fm := d :: .cell (.val .bool) :: D 4 (.box 100600 [.own (.pair (.pair (.int .i64) (.sl (.int .i64))) .str) 100601 true, .val .bool] :: .cell (.val (.sl (.pair (.pair (.int .i64) (.sl (.int .i64))) .str))) :: d :: d :: d :: .cell (.val (.int .i64)) :: .box 101200 [.val (.int .i64), .val (.sl (.int .i64)), .val .str] :: D 118 [])
noncomputable def spec_l8Elements_at78 : (((List ((Int × (List Int)) × ByteArray)) × Bool × Unit) × (Int × (List Int) × Unit) × ByteArray × Bool × (List ((Int × (List Int)) × ByteArray)) × Int × (Int × (List Int) × ByteArray × Unit) × Unit) → Option (Bool × ((List ((Int × (List Int)) × ByteArray)) × Bool × Unit) × (List ((Int × (List Int)) × ByteArray)) × Int × (Int × (List Int) × ByteArray × Unit) × Unit) := fun ((v0_0, v0_1, _), (v1_0, v1_1, _), v2, v62, v68, v72, (v73_0, v73_1, v73_2, _), _) =>
 if ((0 + (List.length v0_0)) = (List.length v0_0)) then
  Option.bind (loopF spec_l8Elements_at78_l2 (((List.drop 0 v0_0), v0_1, ()), v2, (v1_0, (List.take (List.length v1_1) (List.drop 0 v1_1)), ()), (List.take (List.length v0_0) (List.drop 0 v0_0)), (((List.length v0_0) : Nat) : Int), (0 : Int), v62, v68, v72, (v73_0, v73_1, v73_2, ()), ())) fun r0 =>
   (match r0 with
   | .inl (d1, (d2, d3, _), d4, d5, (d6, d7, d8, _), _) =>
     if ((0 + (List.length d2)) = (List.length d2)) then
      some (d1, ((List.drop 0 d2), d3, ()), d4, d5, (d6, d7, d8, ()), ())
     else
      none
   | .inr ((d9, d10, _), d11, (d12, d13, _), d14, d15, d16, (d17, d18, d19, _), _) =>
     bif d10 then
      if ((0 + (List.length d9)) = (List.length d9)) then
       some (d14, ((List.drop 0 d9), true, ()), d15, d16, (d17, d18, d19, ()), ())
      else
       none
     else
      bif (decide ((((List.length d9) : Nat) : Int) ≥ (120 : Int))) then
       if ((0 + (List.length d9)) = (List.length d9)) then
        some (d14, ((List.drop 0 d9), true, ()), d15, d16, (d17, d18, d19, ()), ())
       else
        none
      else
       bif (!(decide ((((ByteArray.size d11) : Nat) : Int) > (120 : Int)))) then
        if (((0 + (List.length d9)) = (List.length d9)) ∧ ((((List.length d9) + (List.length (List.take 1 (List.drop 0 [((d12, (List.take (List.length d13) (List.drop 0 d13))), d11)])))) * 48) ≤ 140737488355328)) then
         if ((0 + ((List.length d9) + (List.length (List.take 1 (List.drop 0 [((d12, (List.take (List.length d13) (List.drop 0 d13))), d11)]))))) = (List.length ((List.drop 0 d9) ++ (List.take 1 (List.drop 0 [((d12, (List.take (List.length d13) (List.drop 0 d13))), d11)]))))) then
          some (d14, ((List.drop 0 ((List.drop 0 d9) ++ (List.take 1 (List.drop 0 [((d12, (List.take (List.length d13) (List.drop 0 d13))), d11)])))), (decide ((((ByteArray.size d11) : Nat) : Int) > (120 : Int))), ()), d15, d16, (d17, d18, d19, ()), ())
         else
          none
        else
         none
       else
        if ((0 + (List.length d9)) = (List.length d9)) then
         some (d14, ((List.drop 0 d9), (decide ((((ByteArray.size d11) : Nat) : Int) > (120 : Int))), ()), d15, d16, (d17, d18, d19, ()), ())
        else
         none)
 else
  none
theorem spec_l8Elements_at78_eq : inlStep f133.ntmps 131 78 E103_at78 L103_at78_1 f133.results.toList (codeOf f133) shi103_at78 sho103_at78 = spec_l8Elements_at78 := by kernel_rfl
noncomputable def I103_at78 : CallD := ⟨f133.ntmps, shi103_at78, 131, sho103_at78, spec_l8Elements_at78, 0⟩
theorem I103_at78_ok : InlOk prog 78 133 I103_at78 := inlOk_of (tysOk_of tyl_ok) E103_at78_ok (L := L103_at78_1) func133 (by kernel_rfl) (c := codeOf f133) (by kernel_rfl) (codeOk_in (L := L103_at78_1) (tysOk_of tyl_ok) E103_at78_ok mixed (c := codeOf f133) (bs := [loopOf f133 2]) (by kernel_rfl) (allCons (loop103_at78_2 rfl) allNil) (by kernel_rfl)) (by kernel_rfl) (by kernel_rfl) spec_l8Elements_at78_eq
noncomputable def E103_at107 : Env := ⟨ty0, fun g => ifEq g 132 (some A132) (ifEq g 131 (some A131) (ifEq g 50 (some A50) (ifEq g 49 (some A49) (ifEq g 51 (some A51) (ifEq g 86 (some A86) (none)))))), fun _ => none, fun _ => none, fun _ => none⟩
theorem E103_at107_ok : FnsOk prog E103_at107 := (oF A132_ok func132 (oF A131_ok func131 (oF A50_ok func50 (oF A49_ok func49 (oF A51_ok func51 (oF A86_ok func86 (noFns _ _)))))))
noncomputable def L103_at107_0 : Nat → Option LoopD := fun _ => none
def sh103_at107_2 : List Fm := .box 100000 [.own (.pair (.pair (.int .i64) (.sl (.int .i64))) .str) 100001 true, .val .bool] :: d :: .cell (.val .str) :: d :: .box 100400 [.val (.int .i64), .own (.int .i64) 100402 false] :: D 6 (.cell (.val (.sl (.pair (.pair (.int .i64) (.sl (.int .i64))) .str))) :: .cell (.val (.int .i64)) :: .cell (.val (.int .i64)) :: D 48 (.cell (.val .bool) :: D 4 (.ali 100000 0 :: .cell (.val (.sl (.pair (.pair (.int .i64) (.sl (.int .i64))) .str))) :: d :: d :: d :: .cell (.val (.int .i64)) :: .box 107300 [.val (.int .i64), .val (.sl (.int .i64)), .val .str] :: d :: d :: .box 107600 [.val (.int .i64), .val (.sl (.int .i64)), .val .str] :: D 74 (.cell (.val (.sl (.pair (.pair (.int .i64) (.sl (.int .i64))) .str))) :: .cell (.val (.int .i64)) :: .cell (.val (.int .i64)) :: D 38 []))))
def xs103_at107_2 : List (Ex × List Fm) := [(.ret, [d, d, d, d, d, d, d, d, d, d, d, d, d, d, d, d, d, d, d, d, d, d, d, d, d, d, d, d, d, d, d, d, d, d, d, d, d, d, d, d, d, d, d, d, d, d, d, d, d, d, d, d, d, d, d, d, d, d, d, d, d, d, .cell (.val .bool), d, d, d, d, .box 106700 [.own (.pair (.pair (.int .i64) (.sl (.int .i64))) .str) 106701 true, .val .bool], .cell (.val (.sl (.pair (.pair (.int .i64) (.sl (.int .i64))) .str))), d, d, d, .cell (.val (.int .i64)), .box 107300 [.val (.int .i64), .val (.sl (.int .i64)), .val .str], d, d, .box 107600 [.val (.int .i64), .val (.sl (.int .i64)), .val .str], d, d, d, d, d, d, d, d, d, d, d, d, d, d, d, d, d, d, d, d, d, d, d, d, d, d, d, d, d, d, d, d, d, d, d, d, d, d, d, d, d, d, d, d, d, d, d, d, d, d, d, d, d, d, d, d, d, d, d, d, d, d, d, d, d, d, d, d, d, d, d, d, d, d, .cell (.val (.sl (.pair (.pair (.int .i64) (.sl (.int .i64))) .str))), .cell (.val (.int .i64)), .cell (.val (.int .i64)), d, d, d, d, d, d, d, d, d, d, d, d, d, d, d, d, d, d, d, d, d, d, d, d, d, d, d, d, d, d, d, d, d, d, d, d, d, d]), (.exit 0, [.box 100000 [.own (.pair (.pair (.int .i64) (.sl (.int .i64))) .str) 100001 true, .val .bool], d, .cell (.val .str), d, .box 100400 [.val (.int .i64), .own (.int .i64) 100402 false], d, d, d, d, d, d, d, d, d, d, d, d, d, d, d, d, d, d, d, d, d, d, d, d, d, d, d, d, d, d, d, d, d, d, d, d, d, d, d, d, d, d, d, d, d, d, d, d, d, d, d, d, d, d, d, d, d, .cell (.val .bool), d, d, d, d, .ali 100000 0, .cell (.val (.sl (.pair (.pair (.int .i64) (.sl (.int .i64))) .str))), d, d, d, .cell (.val (.int .i64)), .box 107300 [.val (.int .i64), .val (.sl (.int .i64)), .val .str], d, d, .box 107600 [.val (.int .i64), .val (.sl (.int .i64)), .val .str], d, d, d, d, d, d, d, d, d, d, d, d, d, d, d, d, d, d, d, d, d, d, d, d, d, d, d, d, d, d, d, d, d, d, d, d, d, d, d, d, d, d, d, d, d, d, d, d, d, d, d, d, d, d, d, d, d, d, d, d, d, d, d, d, d, d, d, d, d, d, d, d, d, d, .cell (.val (.sl (.pair (.pair (.int .i64) (.sl (.int .i64))) .str))), .cell (.val (.int .i64)), .cell (.val (.int .i64)), d, d, d, d, d, d, d, d, d, d, d, d, d, d, d, d, d, d, d, d, d, d, d, d, d, d, d, d, d, d, d, d, d, d, d, d, d, d])]
noncomputable def spec_l8Elements_at107_l2 : (((List ((Int × (List Int)) × ByteArray)) × Bool × Unit) × ByteArray × (Int × (List Int) × Unit) × (List ((Int × (List Int)) × ByteArray)) × Int × Int × Bool × (List ((Int × (List Int)) × ByteArray)) × Int × (Int × (List Int) × ByteArray × Unit) × (Int × (List Int) × ByteArray × Unit) × (List ((Int × (List Int)) × ByteArray)) × Int × Int × Unit) → Option ((((List ((Int × (List Int)) × ByteArray)) × Bool × Unit) × ByteArray × (Int × (List Int) × Unit) × (List ((Int × (List Int)) × ByteArray)) × Int × Int × Bool × (List ((Int × (List Int)) × ByteArray)) × Int × (Int × (List Int) × ByteArray × Unit) × (Int × (List Int) × ByteArray × Unit) × (List ((Int × (List Int)) × ByteArray)) × Int × Int × Unit) ⊕ ((Bool × ((List ((Int × (List Int)) × ByteArray)) × Bool × Unit) × (List ((Int × (List Int)) × ByteArray)) × Int × (Int × (List Int) × ByteArray × Unit) × (Int × (List Int) × ByteArray × Unit) × (List ((Int × (List Int)) × ByteArray)) × Int × Int × Unit) ⊕ (((List ((Int × (List Int)) × ByteArray)) × Bool × Unit) × ByteArray × (Int × (List Int) × Unit) × Bool × (List ((Int × (List Int)) × ByteArray)) × Int × (Int × (List Int) × ByteArray × Unit) × (Int × (List Int) × ByteArray × Unit) × (List ((Int × (List Int)) × ByteArray)) × Int × Int × Unit))) := fun ((v0_0, v0_1, _), v2, (v4_0, v4_1, _), v11, v12, v13, v62, v68, v72, (v73_0, v73_1, v73_2, _), (v76_0, v76_1, v76_2, _), v151, v152, v153, _) =>
 bif (decide (v13 < v12)) then
  if (((0 : Int) ≤ v13) ∧ (v13 < (((List.length v11) : Nat) : Int))) then
   Option.bind (spec_l2Same (List.getD v11 (Int.toNat v13) (((0 : Int), []), (⟨Array.empty⟩ : ByteArray))).1.2 (List.take (List.length v4_1) (List.drop 0 v4_1))) fun r0 =>
    bif r0 then
     if ((0 + (List.length v0_0)) = (List.length v0_0)) then
      some (Sum.inr (Sum.inl (v62, ((List.drop 0 v0_0), v0_1, ()), v68, v72, (v73_0, v73_1, v73_2, ()), (v76_0, v76_1, v76_2, ()), v151, v152, v153, ())))
     else
      none
    else
     if ((0 + (List.length v0_0)) = (List.length v0_0)) then
      some (Sum.inl (((List.drop 0 v0_0), v0_1, ()), v2, (v4_0, (List.take (List.length v4_1) (List.drop 0 v4_1)), ()), v11, v12, (IntKind.wrap .i64 (v13 + (1 : Int))), v62, v68, v72, (v73_0, v73_1, v73_2, ()), (v76_0, v76_1, v76_2, ()), v151, v152, v153, ()))
     else
      none
  else
   none
 else
  if ((0 + (List.length v0_0)) = (List.length v0_0)) then
   some (Sum.inr (Sum.inr (((List.drop 0 v0_0), v0_1, ()), v2, (v4_0, (List.take (List.length v4_1) (List.drop 0 v4_1)), ()), v62, v68, v72, (v73_0, v73_1, v73_2, ()), (v76_0, v76_1, v76_2, ()), v151, v152, v153, ())))
  else
   none
theorem spec_l8Elements_at107_l2_eq : loopStep 61 E103_at107 L103_at107_0 (loopOf f133 2) sh103_at107_2 xs103_at107_2 = spec_l8Elements_at107_l2 := by kernel_rfl
theorem loop103_at107_2 {L} (h : L 2 = some ⟨61, sh103_at107_2, xs103_at107_2, spec_l8Elements_at107_l2⟩) : LoopOk prog L (loopOf f133 2) := lo spec_l8Elements_at107_l2_eq E103_at107_ok allNil h
noncomputable def L103_at107_1 : Nat → Option LoopD := fun n => ifEq n 2 (some ⟨61, sh103_at107_2, xs103_at107_2, spec_l8Elements_at107_l2⟩) (L103_at107_0 n)
def shi103_at107 : List Fm := .box 100000 [.own (.pair (.pair (.int .i64) (.sl (.int .i64))) .str) 100001 true, .val .bool] :: .agg [.val (.int .i64), .own (.int .i64) 100102 false] :: .cell (.val .str) :: D 59 (.cell (.val .bool) :: D 4 (.ali 100000 0 :: .cell (.val (.sl (.pair (.pair (.int .i64) (.sl (.int .i64))) .str))) :: d :: d :: d :: .cell (.val (.int .i64)) :: .box 107300 [.val (.int .i64), .val (.sl (.int .i64)), .val .str] :: d :: d :: .box 107600 [.val (.int .i64), .val (.sl (.int .i64)), .val .str] :: D 74 (.cell (.val (.sl (.pair (.pair (.int .i64) (.sl (.int .i64))) .str))) :: .cell (.val (.int .i64)) :: .cell (.val (.int .i64)) :: D 38 [])))
def sho103_at107 : List Fm := d :: .cell (.val .bool) :: D 4 (.box 100600 [.own (.pair (.pair (.int .i64) (.sl (.int .i64))) .str) 100601 true, .val .bool] :: .cell (.val (.sl (.pair (.pair (.int .i64) (.sl (.int .i64))) .str))) :: d :: d :: d :: .cell (.val (.int .i64)) :: .box 101200 [.val (.int .i64), .val (.sl (.int .i64)), .val .str] :: d :: d :: .box 101500 [.val (.int .i64), .val (.sl (.int .i64)), .val .str] :: D 74 (.cell (.val (.sl (.pair (.pair (.int .i64) (.sl (.int .i64))) .str))) :: .cell (.val (.int .i64)) :: .cell (.val (.int .i64)) :: D 38 []))
noncomputable def spec_l8Elements_at107 : (((List ((Int × (List Int)) × ByteArray)) × Bool × Unit) × (Int × (List Int) × Unit) × ByteArray × Bool × (List ((Int × (List Int)) × ByteArray)) × Int × (Int × (List Int) × ByteArray × Unit) × (Int × (List Int) × ByteArray × Unit) × (List ((Int × (List Int)) × ByteArray)) × Int × Int × Unit) → Option (Bool × ((List ((Int × (List Int)) × ByteArray)) × Bool × Unit) × (List ((Int × (List Int)) × ByteArray)) × Int × (Int × (List Int) × ByteArray × Unit) × (Int × (List Int) × ByteArray × Unit) × (List ((Int × (List Int)) × ByteArray)) × Int × Int × Unit) := fun ((v0_0, v0_1, _), (v1_0, v1_1, _), v2, v62, v68, v72, (v73_0, v73_1, v73_2, _), (v76_0, v76_1, v76_2, _), v151, v152, v153, _) =>
 if ((0 + (List.length v0_0)) = (List.length v0_0)) then
  Option.bind (loopF spec_l8Elements_at107_l2 (((List.drop 0 v0_0), v0_1, ()), v2, (v1_0, (List.take (List.length v1_1) (List.drop 0 v1_1)), ()), (List.take (List.length v0_0) (List.drop 0 v0_0)), (((List.length v0_0) : Nat) : Int), (0 : Int), v62, v68, v72, (v73_0, v73_1, v73_2, ()), (v76_0, v76_1, v76_2, ()), v151, v152, v153, ())) fun r0 =>
   (match r0 with
   | .inl (d1, (d2, d3, _), d4, d5, (d6, d7, d8, _), (d9, d10, d11, _), d12, d13, d14, _) =>
     if ((0 + (List.length d2)) = (List.length d2)) then
      some (d1, ((List.drop 0 d2), d3, ()), d4, d5, (d6, d7, d8, ()), (d9, d10, d11, ()), d12, d13, d14, ())
     else
      none
   | .inr ((d15, d16, _), d17, (d18, d19, _), d20, d21, d22, (d23, d24, d25, _), (d26, d27, d28, _), d29, d30, d31, _) =>
     bif d16 then
      if ((0 + (List.length d15)) = (List.length d15)) then
       some (d20, ((List.drop 0 d15), true, ()), d21, d22, (d23, d24, d25, ()), (d26, d27, d28, ()), d29, d30, d31, ())
      else
       none
     else
      bif (decide ((((List.length d15) : Nat) : Int) ≥ (120 : Int))) then
       if ((0 + (List.length d15)) = (List.length d15)) then
        some (d20, ((List.drop 0 d15), true, ()), d21, d22, (d23, d24, d25, ()), (d26, d27, d28, ()), d29, d30, d31, ())
       else
        none
      else
       bif (!(decide ((((ByteArray.size d17) : Nat) : Int) > (120 : Int)))) then
        if (((0 + (List.length d15)) = (List.length d15)) ∧ ((((List.length d15) + (List.length (List.take 1 (List.drop 0 [((d18, (List.take (List.length d19) (List.drop 0 d19))), d17)])))) * 48) ≤ 140737488355328)) then
         if ((0 + ((List.length d15) + (List.length (List.take 1 (List.drop 0 [((d18, (List.take (List.length d19) (List.drop 0 d19))), d17)]))))) = (List.length ((List.drop 0 d15) ++ (List.take 1 (List.drop 0 [((d18, (List.take (List.length d19) (List.drop 0 d19))), d17)]))))) then
          some (d20, ((List.drop 0 ((List.drop 0 d15) ++ (List.take 1 (List.drop 0 [((d18, (List.take (List.length d19) (List.drop 0 d19))), d17)])))), (decide ((((ByteArray.size d17) : Nat) : Int) > (120 : Int))), ()), d21, d22, (d23, d24, d25, ()), (d26, d27, d28, ()), d29, d30, d31, ())
         else
          none
        else
         none
       else
        if ((0 + (List.length d15)) = (List.length d15)) then
         some (d20, ((List.drop 0 d15), (decide ((((ByteArray.size d17) : Nat) : Int) > (120 : Int))), ()), d21, d22, (d23, d24, d25, ()), (d26, d27, d28, ()), d29, d30, d31, ())
        else
         none)
 else
  none
theorem spec_l8Elements_at107_eq : inlStep f133.ntmps 131 107 E103_at107 L103_at107_1 f133.results.toList (codeOf f133) shi103_at107 sho103_at107 = spec_l8Elements_at107 := by kernel_rfl
noncomputable def I103_at107 : CallD := ⟨f133.ntmps, shi103_at107, 131, sho103_at107, spec_l8Elements_at107, 0⟩
theorem I103_at107_ok : InlOk prog 107 133 I103_at107 := inlOk_of (tysOk_of tyl_ok) E103_at107_ok (L := L103_at107_1) func133 (by kernel_rfl) (c := codeOf f133) (by kernel_rfl) (codeOk_in (L := L103_at107_1) (tysOk_of tyl_ok) E103_at107_ok mixed (c := codeOf f133) (bs := [loopOf f133 2]) (by kernel_rfl) (allCons (loop103_at107_2 rfl) allNil) (by kernel_rfl)) (by kernel_rfl) (by kernel_rfl) spec_l8Elements_at107_eq
noncomputable def E103_at120 : Env := ⟨ty0, fun g => ifEq g 132 (some A132) (ifEq g 131 (some A131) (ifEq g 50 (some A50) (ifEq g 49 (some A49) (ifEq g 51 (some A51) (ifEq g 86 (some A86) (none)))))), fun _ => none, fun _ => none, fun _ => none⟩
theorem E103_at120_ok : FnsOk prog E103_at120 := (oF A132_ok func132 (oF A131_ok func131 (oF A50_ok func50 (oF A49_ok func49 (oF A51_ok func51 (oF A86_ok func86 (noFns _ _)))))))
noncomputable def L103_at120_0 : Nat → Option LoopD := fun _ => none
def sh103_at120_2 : List Fm := .box 100000 [.own (.pair (.pair (.int .i64) (.sl (.int .i64))) .str) 100001 true, .val .bool] :: d :: .cell (.val .str) :: d :: .box 100400 [.val (.int .i64), .own (.int .i64) 100402 false] :: D 6 (.cell (.val (.sl (.pair (.pair (.int .i64) (.sl (.int .i64))) .str))) :: .cell (.val (.int .i64)) :: .cell (.val (.int .i64)) :: D 48 (.cell (.val .bool) :: D 4 (.ali 100000 0 :: .cell (.val (.sl (.pair (.pair (.int .i64) (.sl (.int .i64))) .str))) :: d :: d :: d :: .cell (.val (.int .i64)) :: .box 107300 [.val (.int .i64), .val (.sl (.int .i64)), .val .str] :: D 77 (.cell (.val (.sl (.pair (.pair (.int .i64) (.sl (.int .i64))) .str))) :: .cell (.val (.int .i64)) :: .cell (.val (.int .i64)) :: D 38 []))))
def xs103_at120_2 : List (Ex × List Fm) := [(.ret, [d, d, d, d, d, d, d, d, d, d, d, d, d, d, d, d, d, d, d, d, d, d, d, d, d, d, d, d, d, d, d, d, d, d, d, d, d, d, d, d, d, d, d, d, d, d, d, d, d, d, d, d, d, d, d, d, d, d, d, d, d, d, .cell (.val .bool), d, d, d, d, .box 106700 [.own (.pair (.pair (.int .i64) (.sl (.int .i64))) .str) 106701 true, .val .bool], .cell (.val (.sl (.pair (.pair (.int .i64) (.sl (.int .i64))) .str))), d, d, d, .cell (.val (.int .i64)), .box 107300 [.val (.int .i64), .val (.sl (.int .i64)), .val .str], d, d, d, d, d, d, d, d, d, d, d, d, d, d, d, d, d, d, d, d, d, d, d, d, d, d, d, d, d, d, d, d, d, d, d, d, d, d, d, d, d, d, d, d, d, d, d, d, d, d, d, d, d, d, d, d, d, d, d, d, d, d, d, d, d, d, d, d, d, d, d, d, d, d, d, d, d, .cell (.val (.sl (.pair (.pair (.int .i64) (.sl (.int .i64))) .str))), .cell (.val (.int .i64)), .cell (.val (.int .i64)), d, d, d, d, d, d, d, d, d, d, d, d, d, d, d, d, d, d, d, d, d, d, d, d, d, d, d, d, d, d, d, d, d, d, d, d, d, d]), (.exit 0, [.box 100000 [.own (.pair (.pair (.int .i64) (.sl (.int .i64))) .str) 100001 true, .val .bool], d, .cell (.val .str), d, .box 100400 [.val (.int .i64), .own (.int .i64) 100402 false], d, d, d, d, d, d, d, d, d, d, d, d, d, d, d, d, d, d, d, d, d, d, d, d, d, d, d, d, d, d, d, d, d, d, d, d, d, d, d, d, d, d, d, d, d, d, d, d, d, d, d, d, d, d, d, d, d, .cell (.val .bool), d, d, d, d, .ali 100000 0, .cell (.val (.sl (.pair (.pair (.int .i64) (.sl (.int .i64))) .str))), d, d, d, .cell (.val (.int .i64)), .box 107300 [.val (.int .i64), .val (.sl (.int .i64)), .val .str], d, d, d, d, d, d, d, d, d, d, d, d, d, d, d, d, d, d, d, d, d, d, d, d, d, d, d, d, d, d, d, d, d, d, d, d, d, d, d, d, d, d, d, d, d, d, d, d, d, d, d, d, d, d, d, d, d, d, d, d, d, d, d, d, d, d, d, d, d, d, d, d, d, d, d, d, d, .cell (.val (.sl (.pair (.pair (.int .i64) (.sl (.int .i64))) .str))), .cell (.val (.int .i64)), .cell (.val (.int .i64)), d, d, d, d, d, d, d, d, d, d, d, d, d, d, d, d, d, d, d, d, d, d, d, d, d, d, d, d, d, d, d, d, d, d, d, d, d, d])]
noncomputable def spec_l8Elements_at120_l2 : (((List ((Int × (List Int)) × ByteArray)) × Bool × Unit) × ByteArray × (Int × (List Int) × Unit) × (List ((Int × (List Int)) × ByteArray)) × Int × Int × Bool × (List ((Int × (List Int)) × ByteArray)) × Int × (Int × (List Int) × ByteArray × Unit) × (List ((Int × (List Int)) × ByteArray)) × Int × Int × Unit) → Option ((((List ((Int × (List Int)) × ByteArray)) × Bool × Unit) × ByteArray × (Int × (List Int) × Unit) × (List ((Int × (List Int)) × ByteArray)) × Int × Int × Bool × (List ((Int × (List Int)) × ByteArray)) × Int × (Int × (List Int) × ByteArray × Unit) × (List ((Int × (List Int)) × ByteArray)) × Int × Int × Unit) ⊕ ((Bool × ((List ((Int × (List Int)) × ByteArray)) × Bool × Unit) × (List ((Int × (List Int)) × ByteArray)) × Int × (Int × (List Int) × ByteArray × Unit) × (List ((Int × (List Int)) × ByteArray)) × Int × Int × Unit) ⊕ (((List ((Int × (List Int)) × ByteArray)) × Bool × Unit) × ByteArray × (Int × (List Int) × Unit) × Bool × (List ((Int × (List Int)) × ByteArray)) × Int × (Int × (List Int) × ByteArray × Unit) × (List ((Int × (List Int)) × ByteArray)) × Int × Int × Unit))) := fun ((v0_0, v0_1, _), v2, (v4_0, v4_1, _), v11, v12, v13, v62, v68, v72, (v73_0, v73_1, v73_2, _), v151, v152, v153, _) =>
 bif (decide (v13 < v12)) then
  if (((0 : Int) ≤ v13) ∧ (v13 < (((List.length v11) : Nat) : Int))) then
   Option.bind (spec_l2Same (List.getD v11 (Int.toNat v13) (((0 : Int), []), (⟨Array.empty⟩ : ByteArray))).1.2 (List.take (List.length v4_1) (List.drop 0 v4_1))) fun r0 =>
    bif r0 then
     if ((0 + (List.length v0_0)) = (List.length v0_0)) then
      some (Sum.inr (Sum.inl (v62, ((List.drop 0 v0_0), v0_1, ()), v68, v72, (v73_0, v73_1, v73_2, ()), v151, v152, v153, ())))
     else
      none
    else
     if ((0 + (List.length v0_0)) = (List.length v0_0)) then
      some (Sum.inl (((List.drop 0 v0_0), v0_1, ()), v2, (v4_0, (List.take (List.length v4_1) (List.drop 0 v4_1)), ()), v11, v12, (IntKind.wrap .i64 (v13 + (1 : Int))), v62, v68, v72, (v73_0, v73_1, v73_2, ()), v151, v152, v153, ()))
     else
      none
  else
   none
 else
  if ((0 + (List.length v0_0)) = (List.length v0_0)) then
   some (Sum.inr (Sum.inr (((List.drop 0 v0_0), v0_1, ()), v2, (v4_0, (List.take (List.length v4_1) (List.drop 0 v4_1)), ()), v62, v68, v72, (v73_0, v73_1, v73_2, ()), v151, v152, v153, ())))
  else
   none
theorem spec_l8Elements_at120_l2_eq : loopStep 61 E103_at120 L103_at120_0 (loopOf f133 2) sh103_at120_2 xs103_at120_2 = spec_l8Elements_at120_l2 := by kernel_rfl
theorem loop103_at120_2 {L} (h : L 2 = some ⟨61, sh103_at120_2, xs103_at120_2, spec_l8Elements_at120_l2⟩) : LoopOk prog L (loopOf f133 2) := lo spec_l8Elements_at120_l2_eq E103_at120_ok allNil h
noncomputable def L103_at120_1 : Nat → Option LoopD := fun n => ifEq n 2 (some ⟨61, sh103_at120_2, xs103_at120_2, spec_l8Elements_at120_l2⟩) (L103_at120_0 n)
def shi103_at120 : List Fm := .box 100000 [.own (.pair (.pair (.int .i64) (.sl (.int .i64))) .str) 100001 true, .val .bool] :: .agg [.val (.int .i64), .own (.int .i64) 100102 false] :: .cell (.val .str) :: D 59 (.cell (.val .bool) :: D 4 (.ali 100000 0 :: .cell (.val (.sl (.pair (.pair (.int .i64) (.sl (.int .i64))) .str))) :: d :: d :: d :: .cell (.val (.int .i64)) :: .box 107300 [.val (.int .i64), .val (.sl (.int .i64)), .val .str] :: D 77 (.cell (.val (.sl (.pair (.pair (.int .i64) (.sl (.int .i64))) .str))) :: .cell (.val (.int .i64)) :: .cell (.val (.int .i64)) :: D 38 [])))
def sho103_at120 : List Fm := d :: .cell (.val .bool) :: D 4 (.box 100600 [.own (.pair (.pair (.int .i64) (.sl (.int .i64))) .str) 100601 true, .val .bool] :: .cell (.val (.sl (.pair (.pair (.int .i64) (.sl (.int .i64))) .str))) :: d :: d :: d :: .cell (.val (.int .i64)) :: .box 101200 [.val (.int .i64), .val (.sl (.int .i64)), .val .str] :: D 77 (.cell (.val (.sl (.pair (.pair (.int .i64) (.sl (.int .i64))) .str))) :: .cell (.val (.int .i64)) :: .cell (.val (.int .i64)) :: D 38 []))
noncomputable def spec_l8Elements_at120 : (((List ((Int × (List Int)) × ByteArray)) × Bool × Unit) × (Int × (List Int) × Unit) × ByteArray × Bool × (List ((Int × (List Int)) × ByteArray)) × Int × (Int × (List Int) × ByteArray × Unit) × (List ((Int × (List Int)) × ByteArray)) × Int × Int × Unit) → Option (Bool × ((List ((Int × (List Int)) × ByteArray)) × Bool × Unit) × (List ((Int × (List Int)) × ByteArray)) × Int × (Int × (List Int) × ByteArray × Unit) × (List ((Int × (List Int)) × ByteArray)) × Int × Int × Unit) := fun ((v0_0, v0_1, _), (v1_0, v1_1, _), v2, v62, v68, v72, (v73_0, v73_1, v73_2, _), v151, v152, v153, _) =>
 if ((0 + (List.length v0_0)) = (List.length v0_0)) then
  Option.bind (loopF spec_l8Elements_at120_l2 (((List.drop 0 v0_0), v0_1, ()), v2, (v1_0, (List.take (List.length v1_1) (List.drop 0 v1_1)), ()), (List.take (List.length v0_0) (List.drop 0 v0_0)), (((List.length v0_0) : Nat) : Int), (0 : Int), v62, v68, v72, (v73_0, v73_1, v73_2, ()), v151, v152, v153, ())) fun r0 =>
   (match r0 with
   | .inl (d1, (d2, d3, _), d4, d5, (d6, d7, d8, _), d9, d10, d11, _) =>
     if ((0 + (List.length d2)) = (List.length d2)) then
      some (d1, ((List.drop 0 d2), d3, ()), d4, d5, (d6, d7, d8, ()), d9, d10, d11, ())
     else
      none
   | .inr ((d12, d13, _), d14, (d15, d16, _), d17, d18, d19, (d20, d21, d22, _), d23, d24, d25, _) =>
     bif d13 then
      if ((0 + (List.length d12)) = (List.length d12)) then
       some (d17, ((List.drop 0 d12), true, ()), d18, d19, (d20, d21, d22, ()), d23, d24, d25, ())
      else
       none
     else
      bif (decide ((((List.length d12) : Nat) : Int) ≥ (120 : Int))) then
       if ((0 + (List.length d12)) = (List.length d12)) then
        some (d17, ((List.drop 0 d12), true, ()), d18, d19, (d20, d21, d22, ()), d23, d24, d25, ())
       else
        none
      else
       bif (!(decide ((((ByteArray.size d14) : Nat) : Int) > (120 : Int)))) then
        if (((0 + (List.length d12)) = (List.length d12)) ∧ ((((List.length d12) + (List.length (List.take 1 (List.drop 0 [((d15, (List.take (List.length d16) (List.drop 0 d16))), d14)])))) * 48) ≤ 140737488355328)) then
         if ((0 + ((List.length d12) + (List.length (List.take 1 (List.drop 0 [((d15, (List.take (List.length d16) (List.drop 0 d16))), d14)]))))) = (List.length ((List.drop 0 d12) ++ (List.take 1 (List.drop 0 [((d15, (List.take (List.length d16) (List.drop 0 d16))), d14)]))))) then
          some (d17, ((List.drop 0 ((List.drop 0 d12) ++ (List.take 1 (List.drop 0 [((d15, (List.take (List.length d16) (List.drop 0 d16))), d14)])))), (decide ((((ByteArray.size d14) : Nat) : Int) > (120 : Int))), ()), d18, d19, (d20, d21, d22, ()), d23, d24, d25, ())
         else
          none
        else
         none
       else
        if ((0 + (List.length d12)) = (List.length d12)) then
         some (d17, ((List.drop 0 d12), (decide ((((ByteArray.size d14) : Nat) : Int) > (120 : Int))), ()), d18, d19, (d20, d21, d22, ()), d23, d24, d25, ())
        else
         none)
 else
  none
theorem spec_l8Elements_at120_eq : inlStep f133.ntmps 131 120 E103_at120 L103_at120_1 f133.results.toList (codeOf f133) shi103_at120 sho103_at120 = spec_l8Elements_at120 := by kernel_rfl
noncomputable def I103_at120 : CallD := ⟨f133.ntmps, shi103_at120, 131, sho103_at120, spec_l8Elements_at120, 0⟩
theorem I103_at120_ok : InlOk prog 120 133 I103_at120 := inlOk_of (tysOk_of tyl_ok) E103_at120_ok (L := L103_at120_1) func133 (by kernel_rfl) (c := codeOf f133) (by kernel_rfl) (codeOk_in (L := L103_at120_1) (tysOk_of tyl_ok) E103_at120_ok mixed (c := codeOf f133) (bs := [loopOf f133 2]) (by kernel_rfl) (allCons (loop103_at120_2 rfl) allNil) (by kernel_rfl)) (by kernel_rfl) (by kernel_rfl) spec_l8Elements_at120_eq
noncomputable def E103 : Env := ⟨ty0, fun g => ifEq g 132 (some A132) (ifEq g 131 (some A131) (ifEq g 50 (some A50) (ifEq g 49 (some A49) (ifEq g 51 (some A51) (ifEq g 86 (some A86) (none)))))), fun _ => none, fun _ => none, fun d => ifI (Nat.beq d 39) (some (133, I103_at39)) (ifI (Nat.beq d 78) (some (133, I103_at78)) (ifI (Nat.beq d 107) (some (133, I103_at107)) (ifI (Nat.beq d 120) (some (133, I103_at120)) (none))))⟩
theorem E103_ok : FnsOk prog E103 := (oneIl (d0 := 39) (g0 := 133) I103_at39_ok (oneIl (d0 := 78) (g0 := 133) I103_at78_ok (oneIl (d0 := 107) (g0 := 133) I103_at107_ok (oneIl (d0 := 120) (g0 := 133) I103_at120_ok (oF A132_ok func132 (oF A131_ok func131 (oF A50_ok func50 (oF A49_ok func49 (oF A51_ok func51 (oF A86_ok func86 (noFns _ _)))))))))))
noncomputable def L103_0 : Nat → Option LoopD := fun _ => none
def sh103_4 : List Fm := d :: .cell (.val .bool) :: .box 100200 [.val (.int .i64), .val (.sl (.int .i64)), .val (.sl (.int .i64)), .val (.sl (.pair (.int .i64) (.pair .str (.pair (.int .i64) (.int .i64)))))] :: d :: d :: d :: .box 100600 [.own (.pair (.pair (.int .i64) (.sl (.int .i64))) .str) 100601 true, .val .bool] :: .cell (.own (.pair (.pair (.int .i64) (.sl (.int .i64))) .str) 100700 false) :: D 12 (.cell (.own .str 102000 false) :: .cell (.val (.int .i64)) :: .cell (.val (.int .i64)) :: D 108 [])
def xs103_4 : List (Ex × List Fm) := [(.exit 0, [d, .cell (.val .bool), d, d, d, d, .box 100600 [.own (.pair (.pair (.int .i64) (.sl (.int .i64))) .str) 100601 true, .val .bool], .cell (.own (.pair (.pair (.int .i64) (.sl (.int .i64))) .str) 100700 false), d, d, d, d, d, d, d, d, d, d, d, d, d, d, d, d, d, d, d, d, d, d, d, d, d, d, d, d, d, d, d, d, d, d, d, d, d, d, d, d, d, d, d, d, d, d, d, d, d, d, d, d, d, d, d, d, d, d, d, d, d, d, d, d, d, d, d, d, d, d, d, d, d, d, d, d, d, d, d, d, d, d, d, d, d, d, d, d, d, d, d, d, d, d, d, d, d, d, d, d, d, d, d, d, d, d, d, d, d, d, d, d, d, d, d, d, d, d, d, d, d, d, d])]
noncomputable def spec_l8Elements_l4 : (Bool × (Int × (List Int) × (List Int) × (List (Int × (ByteArray × (Int × Int)))) × Unit) × ((List ((Int × (List Int)) × ByteArray)) × Bool × Unit) × (List ((Int × (List Int)) × ByteArray)) × (List ByteArray) × Int × Int × Unit) → Option ((Bool × (Int × (List Int) × (List Int) × (List (Int × (ByteArray × (Int × Int)))) × Unit) × ((List ((Int × (List Int)) × ByteArray)) × Bool × Unit) × (List ((Int × (List Int)) × ByteArray)) × (List ByteArray) × Int × Int × Unit) ⊕ ((Bool × ((List ((Int × (List Int)) × ByteArray)) × Bool × Unit) × (List ((Int × (List Int)) × ByteArray)) × Unit))) := fun (v1, (v2_0, v2_1, v2_2, v2_3, _), (v6_0, v6_1, _), v7, v20, v21, v22, _) =>
 bif (decide (v22 < v21)) then
  if (((0 : Int) ≤ v22) ∧ (v22 < (((List.length v20) : Nat) : Int))) then
   Option.bind (spec_l3Matrix (v2_0, v2_1, v2_2, v2_3) (List.getD v20 (0 + (Int.toNat v22)) (⟨Array.empty⟩ : ByteArray))) fun (r0, r1) =>
    Option.bind (spec_l6Grades (r0, (List.take (List.length r1) (List.drop 0 r1)))) fun (r2, r3) =>
     if (((0 + (List.length v7)) = (List.length v7)) ∧ ((((List.length v7) + (List.length (List.take 1 (List.drop 0 [((r2, (List.take (List.length r3) (List.drop 0 r3))), (List.getD v20 (0 + (Int.toNat v22)) (⟨Array.empty⟩ : ByteArray)))])))) * 48) ≤ 140737488355328)) then
      if ((0 + (List.length v6_0)) = (List.length v6_0)) then
       Option.bind (spec_l8Elements_at39 (((List.drop 0 v6_0), v6_1, ()), (r2, (List.take (List.length r3) (List.drop 0 r3))), (List.getD v20 (0 + (Int.toNat v22)) (⟨Array.empty⟩ : ByteArray)), v1, (v2_0, v2_1, v2_2, v2_3, ()), (List.take ((List.length v7) + (List.length (List.take 1 (List.drop 0 [((r2, (List.take (List.length r3) (List.drop 0 r3))), (List.getD v20 (0 + (Int.toNat v22)) (⟨Array.empty⟩ : ByteArray)))])))) (List.drop 0 ((List.drop 0 v7) ++ (List.take 1 (List.drop 0 [((r2, (List.take (List.length r3) (List.drop 0 r3))), (List.getD v20 (0 + (Int.toNat v22)) (⟨Array.empty⟩ : ByteArray)))]))))), (List.take (List.length v20) (List.drop 0 v20)), v21, v22, ())) fun (r4, (r5, r6, r7, r8, _), (r9, r10, _), r11, r12, r13, r14, _) =>
        if ((0 + (List.length r9)) = (List.length r9)) then
         some (Sum.inl (r4, (r5, r6, r7, r8, ()), ((List.drop 0 r9), r10, ()), (List.take (List.length r11) (List.drop 0 r11)), (List.take (List.length r12) (List.drop 0 r12)), r13, (IntKind.wrap .i64 (r14 + (1 : Int))), ()))
        else
         none
      else
       none
     else
      none
  else
   none
 else
  if ((0 + (List.length v6_0)) = (List.length v6_0)) then
   some (Sum.inr (v1, ((List.drop 0 v6_0), v6_1, ()), (List.take (List.length v7) (List.drop 0 v7)), ()))
  else
   none
theorem spec_l8Elements_l4_eq : loopStep 131 E103 L103_0 (loopOf f103 4) sh103_4 xs103_4 = spec_l8Elements_l4 := by kernel_rfl
theorem loop103_4 {L} (h : L 4 = some ⟨131, sh103_4, xs103_4, spec_l8Elements_l4⟩) : LoopOk prog L (loopOf f103 4) := lo spec_l8Elements_l4_eq E103_ok allNil h
noncomputable def L103_1 : Nat → Option LoopD := fun n => ifEq n 4 (some ⟨131, sh103_4, xs103_4, spec_l8Elements_l4⟩) (L103_0 n)
def sh103_20 : List Fm := d :: .cell (.val .bool) :: D 4 (.box 100600 [.own (.pair (.pair (.int .i64) (.sl (.int .i64))) .str) 100601 true, .val .bool] :: .cell (.val (.sl (.pair (.pair (.int .i64) (.sl (.int .i64))) .str))) :: d :: d :: d :: .cell (.val (.int .i64)) :: .box 101200 [.val (.int .i64), .val (.sl (.int .i64)), .val .str] :: D 77 (.cell (.val (.sl (.pair (.pair (.int .i64) (.sl (.int .i64))) .str))) :: .cell (.val (.int .i64)) :: .cell (.val (.int .i64)) :: D 38 []))
def xs103_20 : List (Ex × List Fm) := [(.exit 4, [d, .cell (.val .bool), d, d, d, d, .box 100600 [.own (.pair (.pair (.int .i64) (.sl (.int .i64))) .str) 100601 true, .val .bool], .cell (.val (.sl (.pair (.pair (.int .i64) (.sl (.int .i64))) .str))), d, d, d, .cell (.val (.int .i64)), d, d, d, d, d, d, d, d, d, d, d, d, d, d, d, d, d, d, d, d, d, d, d, d, d, d, d, d, d, d, d, d, d, d, d, d, d, d, d, d, d, d, d, d, d, d, d, d, d, d, d, d, d, d, d, d, d, d, d, d, d, d, d, d, d, d, d, d, d, d, d, d, d, d, d, d, d, d, d, d, d, d, d, d, d, d, d, d, d, d, d, d, d, d, d, d, d, d, d, d, d, d, d, d, d, d, d, d, d, d, d, d, d, d, d, d, d, d, d])]
noncomputable def spec_l8Elements_l20 : (Bool × ((List ((Int × (List Int)) × ByteArray)) × Bool × Unit) × (List ((Int × (List Int)) × ByteArray)) × Int × (Int × (List Int) × ByteArray × Unit) × (List ((Int × (List Int)) × ByteArray)) × Int × Int × Unit) → Option ((Bool × ((List ((Int × (List Int)) × ByteArray)) × Bool × Unit) × (List ((Int × (List Int)) × ByteArray)) × Int × (Int × (List Int) × ByteArray × Unit) × (List ((Int × (List Int)) × ByteArray)) × Int × Int × Unit) ⊕ ((Bool × ((List ((Int × (List Int)) × ByteArray)) × Bool × Unit) × (List ((Int × (List Int)) × ByteArray)) × Int × Unit))) := fun (v1, (v6_0, v6_1, _), v7, v11, (v12_0, v12_1, v12_2, _), v90, v91, v92, _) =>
 bif (decide (v92 < v91)) then
  if (((0 : Int) ≤ v92) ∧ (v92 < (((List.length v90) : Nat) : Int))) then
   Option.bind (spec_l6Mul (v12_0, v12_1) ((List.getD v90 (Int.toNat v92) (((0 : Int), []), (⟨Array.empty⟩ : ByteArray))).1.1, (List.getD v90 (Int.toNat v92) (((0 : Int), []), (⟨Array.empty⟩ : ByteArray))).1.2)) fun (r0, r1) =>
    if (((ByteArray.size v12_2) + (ByteArray.size (List.getD v90 (Int.toNat v92) (((0 : Int), []), (⟨Array.empty⟩ : ByteArray))).2)) ≤ 9223372036854775807) then
     if ((0 + (List.length v6_0)) = (List.length v6_0)) then
      Option.bind (spec_l8Elements_at107 (((List.drop 0 v6_0), v6_1, ()), (r0, (List.take (List.length r1) (List.drop 0 r1)), ()), (v12_2 ++ (List.getD v90 (Int.toNat v92) (((0 : Int), []), (⟨Array.empty⟩ : ByteArray))).2), v1, v7, v11, (v12_0, v12_1, v12_2, ()), ((List.getD v90 (Int.toNat v92) (((0 : Int), []), (⟨Array.empty⟩ : ByteArray))).1.1, (List.getD v90 (Int.toNat v92) (((0 : Int), []), (⟨Array.empty⟩ : ByteArray))).1.2, (List.getD v90 (Int.toNat v92) (((0 : Int), []), (⟨Array.empty⟩ : ByteArray))).2, ()), v90, v91, v92, ())) fun (r2, (r3, r4, _), r5, r6, (r7, r8, r9, _), (r10, r11, r12, _), r13, r14, r15, _) =>
       bif r2 then
        Option.bind (spec_l6Mul (r10, r11) (r7, r8)) fun (r16, r17) =>
         if (((ByteArray.size r12) + (ByteArray.size r9)) ≤ 9223372036854775807) then
          if ((0 + (List.length r3)) = (List.length r3)) then
           Option.bind (spec_l8Elements_at120 (((List.drop 0 r3), r4, ()), (r16, (List.take (List.length r17) (List.drop 0 r17)), ()), (r12 ++ r9), r2, r5, r6, (r7, r8, r9, ()), r13, r14, r15, ())) fun (r18, (r19, r20, _), r21, r22, (r23, r24, r25, _), r26, r27, r28, _) =>
            if ((0 + (List.length r19)) = (List.length r19)) then
             some (Sum.inl (r18, ((List.drop 0 r19), r20, ()), r21, r22, (r23, r24, r25, ()), r26, r27, (IntKind.wrap .i64 (r28 + (1 : Int))), ()))
            else
             none
          else
           none
         else
          none
       else
        if ((0 + (List.length r3)) = (List.length r3)) then
         some (Sum.inl (r2, ((List.drop 0 r3), r4, ()), r5, r6, (r7, r8, r9, ()), r13, r14, (IntKind.wrap .i64 (r15 + (1 : Int))), ()))
        else
         none
     else
      none
    else
     none
  else
   none
 else
  if ((0 + (List.length v6_0)) = (List.length v6_0)) then
   some (Sum.inr (v1, ((List.drop 0 v6_0), v6_1, ()), v7, v11, ()))
  else
   none
theorem spec_l8Elements_l20_eq : loopStep 131 E103 L103_1 (loopOf f103 20) sh103_20 xs103_20 = spec_l8Elements_l20 := by kernel_rfl
theorem loop103_20 {L} (h : L 20 = some ⟨131, sh103_20, xs103_20, spec_l8Elements_l20⟩) : LoopOk prog L (loopOf f103 20) := lo spec_l8Elements_l20_eq E103_ok allNil h
noncomputable def L103_2 : Nat → Option LoopD := fun n => ifEq n 20 (some ⟨131, sh103_20, xs103_20, spec_l8Elements_l20⟩) (L103_1 n)
def sh103_11 : List Fm := d :: .cell (.val .bool) :: D 4 (.box 100600 [.own (.pair (.pair (.int .i64) (.sl (.int .i64))) .str) 100601 true, .val .bool] :: .cell (.val (.sl (.pair (.pair (.int .i64) (.sl (.int .i64))) .str))) :: d :: d :: d :: .cell (.val (.int .i64)) :: D 119 [])
def xs103_11 : List (Ex × List Fm) := [(.exit 2, [d, d, d, d, d, d, .box 100600 [.val (.sl (.pair (.pair (.int .i64) (.sl (.int .i64))) .str)), .val .bool], d, d, d, d, d, d, d, d, d, d, d, d, d, d, d, d, d, d, d, d, d, d, d, d, d, d, d, d, d, d, d, d, d, d, d, d, d, d, d, d, d, d, d, d, d, d, d, d, d, d, d, d, d, d, d, d, d, d, d, d, d, d, d, d, d, d, d, d, d, d, d, d, d, d, d, d, d, d, d, d, d, d, d, d, d, d, d, d, d, d, d, d, d, d, d, d, d, d, d, d, d, d, d, d, d, d, d, d, d, d, d, d, d, d, d, d, d, d, d, d, d, d, d, d])]
noncomputable def spec_l8Elements_l11 : (Bool × ((List ((Int × (List Int)) × ByteArray)) × Bool × Unit) × (List ((Int × (List Int)) × ByteArray)) × Int × Unit) → Option ((Bool × ((List ((Int × (List Int)) × ByteArray)) × Bool × Unit) × (List ((Int × (List Int)) × ByteArray)) × Int × Unit) ⊕ ((((List ((Int × (List Int)) × ByteArray)) × Bool × Unit) × Unit))) := fun (v1, (v6_0, v6_1, _), v7, v11, _) =>
 bif (decide (v11 < (((List.length v6_0) : Nat) : Int))) then
  bif (!v6_1) then
   if (((0 : Int) ≤ v11) ∧ (v11 < (((List.length v6_0) : Nat) : Int))) then
    bif v1 then
     Option.bind (spec_l6Idempotent ((List.getD v6_0 (0 + (Int.toNat v11)) (((0 : Int), []), (⟨Array.empty⟩ : ByteArray))).1.1, (List.getD v6_0 (0 + (Int.toNat v11)) (((0 : Int), []), (⟨Array.empty⟩ : ByteArray))).1.2)) fun r0 =>
      bif r0 then
       Option.bind (spec_l6Stable ((List.getD v6_0 (0 + (Int.toNat v11)) (((0 : Int), []), (⟨Array.empty⟩ : ByteArray))).1.1, (List.getD v6_0 (0 + (Int.toNat v11)) (((0 : Int), []), (⟨Array.empty⟩ : ByteArray))).1.2)) fun (r1, r2) =>
        if (((ByteArray.size (⟨#[(40 : UInt8)]⟩ : ByteArray)) + (ByteArray.size (List.getD v6_0 (0 + (Int.toNat v11)) (((0 : Int), []), (⟨Array.empty⟩ : ByteArray))).2)) ≤ 9223372036854775807) then
         if (((ByteArray.size ((⟨#[(40 : UInt8)]⟩ : ByteArray) ++ (List.getD v6_0 (0 + (Int.toNat v11)) (((0 : Int), []), (⟨Array.empty⟩ : ByteArray))).2)) + (ByteArray.size (⟨#[(41 : UInt8), (35 : UInt8)]⟩ : ByteArray))) ≤ 9223372036854775807) then
          if ((0 + (List.length v6_0)) = (List.length v6_0)) then
           Option.bind (spec_l8Elements_at78 (((List.drop 0 v6_0), v6_1, ()), (r1, (List.take (List.length r2) (List.drop 0 r2)), ()), (((⟨#[(40 : UInt8)]⟩ : ByteArray) ++ (List.getD v6_0 (0 + (Int.toNat v11)) (((0 : Int), []), (⟨Array.empty⟩ : ByteArray))).2) ++ (⟨#[(41 : UInt8), (35 : UInt8)]⟩ : ByteArray)), v1, v7, v11, ((List.getD v6_0 (0 + (Int.toNat v11)) (((0 : Int), []), (⟨Array.empty⟩ : ByteArray))).1.1, (List.getD v6_0 (0 + (Int.toNat v11)) (((0 : Int), []), (⟨Array.empty⟩ : ByteArray))).1.2, (List.getD v6_0 (0 + (Int.toNat v11)) (((0 : Int), []), (⟨Array.empty⟩ : ByteArray))).2, ()), ())) fun (r3, (r4, r5, _), r6, r7, (r8, r9, r10, _), _) =>
            bif r3 then
             if (((0 : Int) ≤ (IntKind.wrap .i64 (r7 + (1 : Int)))) ∧ ((IntKind.wrap .i64 (r7 + (1 : Int))) ≤ (((List.length r4) : Nat) : Int))) then
              if (((0 + 0) = (List.length ([] : List Unit))) ∧ (((0 + (List.length (List.take ((Int.toNat (IntKind.wrap .i64 (r7 + (1 : Int)))) - 0) (List.drop (0 + 0) r4)))) * 48) ≤ 140737488355328)) then
               if ((0 + (List.length r4)) = (List.length r4)) then
                Option.bind (loopF spec_l8Elements_l20 (r3, ((List.drop 0 r4), r5, ()), r6, r7, (r8, r9, r10, ()), (List.take (0 + (List.length (List.take ((Int.toNat (IntKind.wrap .i64 (r7 + (1 : Int)))) - 0) (List.drop (0 + 0) r4)))) (List.drop 0 ((List.drop 0 []) ++ (List.take ((Int.toNat (IntKind.wrap .i64 (r7 + (1 : Int)))) - 0) (List.drop (0 + 0) r4))))), (((0 + (List.length (List.take ((Int.toNat (IntKind.wrap .i64 (r7 + (1 : Int)))) - 0) (List.drop (0 + 0) r4)))) : Nat) : Int), (0 : Int), ())) fun (r11, (r12, r13, _), r14, r15, _) =>
                 if ((0 + (List.length r12)) = (List.length r12)) then
                  some (Sum.inl (r11, ((List.drop 0 r12), r13, ()), r14, (IntKind.wrap .i64 (r15 + (1 : Int))), ()))
                 else
                  none
               else
                none
              else
               none
             else
              none
            else
             if ((0 + (List.length r4)) = (List.length r4)) then
              Option.bind (loopF spec_l8Elements_l20 (r3, ((List.drop 0 r4), r5, ()), r6, r7, (r8, r9, r10, ()), r6, (((List.length r6) : Nat) : Int), (0 : Int), ())) fun (r16, (r17, r18, _), r19, r20, _) =>
               if ((0 + (List.length r17)) = (List.length r17)) then
                some (Sum.inl (r16, ((List.drop 0 r17), r18, ()), r19, (IntKind.wrap .i64 (r20 + (1 : Int))), ()))
               else
                none
             else
              none
          else
           none
         else
          none
        else
         none
      else
       bif v1 then
        if (((0 : Int) ≤ (IntKind.wrap .i64 (v11 + (1 : Int)))) ∧ ((IntKind.wrap .i64 (v11 + (1 : Int))) ≤ (((List.length v6_0) : Nat) : Int))) then
         if (((0 + 0) = (List.length ([] : List Unit))) ∧ (((0 + (List.length (List.take ((Int.toNat (IntKind.wrap .i64 (v11 + (1 : Int)))) - 0) (List.drop (0 + 0) v6_0)))) * 48) ≤ 140737488355328)) then
          if ((0 + (List.length v6_0)) = (List.length v6_0)) then
           Option.bind (loopF spec_l8Elements_l20 (v1, ((List.drop 0 v6_0), v6_1, ()), v7, v11, ((List.getD v6_0 (0 + (Int.toNat v11)) (((0 : Int), []), (⟨Array.empty⟩ : ByteArray))).1.1, (List.getD v6_0 (0 + (Int.toNat v11)) (((0 : Int), []), (⟨Array.empty⟩ : ByteArray))).1.2, (List.getD v6_0 (0 + (Int.toNat v11)) (((0 : Int), []), (⟨Array.empty⟩ : ByteArray))).2, ()), (List.take (0 + (List.length (List.take ((Int.toNat (IntKind.wrap .i64 (v11 + (1 : Int)))) - 0) (List.drop (0 + 0) v6_0)))) (List.drop 0 ((List.drop 0 []) ++ (List.take ((Int.toNat (IntKind.wrap .i64 (v11 + (1 : Int)))) - 0) (List.drop (0 + 0) v6_0))))), (((0 + (List.length (List.take ((Int.toNat (IntKind.wrap .i64 (v11 + (1 : Int)))) - 0) (List.drop (0 + 0) v6_0)))) : Nat) : Int), (0 : Int), ())) fun (r21, (r22, r23, _), r24, r25, _) =>
            if ((0 + (List.length r22)) = (List.length r22)) then
             some (Sum.inl (r21, ((List.drop 0 r22), r23, ()), r24, (IntKind.wrap .i64 (r25 + (1 : Int))), ()))
            else
             none
          else
           none
         else
          none
        else
         none
       else
        if ((0 + (List.length v6_0)) = (List.length v6_0)) then
         Option.bind (loopF spec_l8Elements_l20 (v1, ((List.drop 0 v6_0), v6_1, ()), v7, v11, ((List.getD v6_0 (0 + (Int.toNat v11)) (((0 : Int), []), (⟨Array.empty⟩ : ByteArray))).1.1, (List.getD v6_0 (0 + (Int.toNat v11)) (((0 : Int), []), (⟨Array.empty⟩ : ByteArray))).1.2, (List.getD v6_0 (0 + (Int.toNat v11)) (((0 : Int), []), (⟨Array.empty⟩ : ByteArray))).2, ()), v7, (((List.length v7) : Nat) : Int), (0 : Int), ())) fun (r26, (r27, r28, _), r29, r30, _) =>
          if ((0 + (List.length r27)) = (List.length r27)) then
           some (Sum.inl (r26, ((List.drop 0 r27), r28, ()), r29, (IntKind.wrap .i64 (r30 + (1 : Int))), ()))
          else
           none
        else
         none
    else
     bif v1 then
      if (((0 : Int) ≤ (IntKind.wrap .i64 (v11 + (1 : Int)))) ∧ ((IntKind.wrap .i64 (v11 + (1 : Int))) ≤ (((List.length v6_0) : Nat) : Int))) then
       if (((0 + 0) = (List.length ([] : List Unit))) ∧ (((0 + (List.length (List.take ((Int.toNat (IntKind.wrap .i64 (v11 + (1 : Int)))) - 0) (List.drop (0 + 0) v6_0)))) * 48) ≤ 140737488355328)) then
        if ((0 + (List.length v6_0)) = (List.length v6_0)) then
         Option.bind (loopF spec_l8Elements_l20 (v1, ((List.drop 0 v6_0), v6_1, ()), v7, v11, ((List.getD v6_0 (0 + (Int.toNat v11)) (((0 : Int), []), (⟨Array.empty⟩ : ByteArray))).1.1, (List.getD v6_0 (0 + (Int.toNat v11)) (((0 : Int), []), (⟨Array.empty⟩ : ByteArray))).1.2, (List.getD v6_0 (0 + (Int.toNat v11)) (((0 : Int), []), (⟨Array.empty⟩ : ByteArray))).2, ()), (List.take (0 + (List.length (List.take ((Int.toNat (IntKind.wrap .i64 (v11 + (1 : Int)))) - 0) (List.drop (0 + 0) v6_0)))) (List.drop 0 ((List.drop 0 []) ++ (List.take ((Int.toNat (IntKind.wrap .i64 (v11 + (1 : Int)))) - 0) (List.drop (0 + 0) v6_0))))), (((0 + (List.length (List.take ((Int.toNat (IntKind.wrap .i64 (v11 + (1 : Int)))) - 0) (List.drop (0 + 0) v6_0)))) : Nat) : Int), (0 : Int), ())) fun (r31, (r32, r33, _), r34, r35, _) =>
          if ((0 + (List.length r32)) = (List.length r32)) then
           some (Sum.inl (r31, ((List.drop 0 r32), r33, ()), r34, (IntKind.wrap .i64 (r35 + (1 : Int))), ()))
          else
           none
        else
         none
       else
        none
      else
       none
     else
      if ((0 + (List.length v6_0)) = (List.length v6_0)) then
       Option.bind (loopF spec_l8Elements_l20 (v1, ((List.drop 0 v6_0), v6_1, ()), v7, v11, ((List.getD v6_0 (0 + (Int.toNat v11)) (((0 : Int), []), (⟨Array.empty⟩ : ByteArray))).1.1, (List.getD v6_0 (0 + (Int.toNat v11)) (((0 : Int), []), (⟨Array.empty⟩ : ByteArray))).1.2, (List.getD v6_0 (0 + (Int.toNat v11)) (((0 : Int), []), (⟨Array.empty⟩ : ByteArray))).2, ()), v7, (((List.length v7) : Nat) : Int), (0 : Int), ())) fun (r36, (r37, r38, _), r39, r40, _) =>
        if ((0 + (List.length r37)) = (List.length r37)) then
         some (Sum.inl (r36, ((List.drop 0 r37), r38, ()), r39, (IntKind.wrap .i64 (r40 + (1 : Int))), ()))
        else
         none
      else
       none
   else
    none
  else
   some (Sum.inr (((List.take (List.length v6_0) (List.drop 0 v6_0)), v6_1, ()), ()))
 else
  some (Sum.inr (((List.take (List.length v6_0) (List.drop 0 v6_0)), v6_1, ()), ()))
theorem spec_l8Elements_l11_eq : loopStep 131 E103 L103_2 (loopOf f103 11) sh103_11 xs103_11 = spec_l8Elements_l11 := by kernel_rfl
theorem loop103_11 {L} (h : L 11 = some ⟨131, sh103_11, xs103_11, spec_l8Elements_l11⟩) : LoopOk prog L (loopOf f103 11) := lo spec_l8Elements_l11_eq E103_ok (allCons (loop103_20 rfl) allNil) h
noncomputable def L103_3 : Nat → Option LoopD := fun n => ifEq n 11 (some ⟨131, sh103_11, xs103_11, spec_l8Elements_l11⟩) (L103_2 n)
noncomputable def spec_l8Elements : (Int × ((List Int) × ((List Int) × (List (Int × (ByteArray × (Int × Int))))))) → Bool → Option ((List ((Int × (List Int)) × ByteArray)) × Bool) := fun (a0_0, a0_1, a0_2, a0_3) a1 =>
 if ((0 + 0) = (List.length ([] : List Unit))) then
  Option.bind (loopF spec_l8Elements_l4 (a1, (a0_0, a0_1, a0_2, a0_3, ()), ((List.drop 0 []), false, ()), (List.take 0 (List.drop 0 [])), (List.take 2 (List.drop 0 [(⟨#[(97 : UInt8)]⟩ : ByteArray), (⟨#[(98 : UInt8)]⟩ : ByteArray)])), ((2 : Nat) : Int), (0 : Int), ())) fun (r0, (r1, r2, _), r3, _) =>
   if ((0 + (List.length r1)) = (List.length r1)) then
    Option.bind (loopF spec_l8Elements_l11 (r0, ((List.drop 0 r1), r2, ()), (List.take (List.length r3) (List.drop 0 r3)), (0 : Int), ())) fun ((r4, r5, _), _) =>
     some (r4, (!r5))
   else
    none
 else
  none
noncomputable def A103 : FnA := ⟨[.v (.pair (.int .i64) (.pair (.sl (.int .i64)) (.pair (.sl (.int .i64)) (.sl (.pair (.int .i64) (.pair .str (.pair (.int .i64) (.int .i64)))))))), .v .bool], false, [.sl (.pair (.pair (.int .i64) (.sl (.int .i64))) .str), .bool], fun x => spec_l8Elements x.1 x.2.1⟩
theorem spec_l8Elements_eq : fnF E103 L103_3 [.v (.pair (.int .i64) (.pair (.sl (.int .i64)) (.pair (.sl (.int .i64)) (.sl (.pair (.int .i64) (.pair .str (.pair (.int .i64) (.int .i64)))))))), .v .bool] false [.sl (.pair (.pair (.int .i64) (.sl (.int .i64))) .str), .bool] f103.ntmps f103.results.toList (codeOf f103) = fun x => spec_l8Elements x.1 x.2.1 := by kernel_rfl
theorem A103_ok : FnOk prog 103 A103 := fo spec_l8Elements_eq func103 E103_ok (allCons (loop103_4 rfl) (allCons (loop103_11 rfl) allNil))
/-! spec.l8RawElementsOf -/
noncomputable def E75 : Env := ⟨ty0, fun g => ifEq g 62 (some A62) (ifEq g 103 (some A103) (none)), fun _ => none, fun _ => none, fun _ => none⟩
theorem E75_ok : FnsOk prog E75 := (oF A62_ok func62 (oF A103_ok func103 (noFns _ _)))
noncomputable def L75_0 : Nat → Option LoopD := fun _ => none
noncomputable def spec_l8RawElementsOf : (Int × ((List Int) × ((List Int) × (List (Int × (ByteArray × (Int × Int))))))) → Option ((List ((Int × (List Int)) × ByteArray)) × Bool) := fun (a0_0, a0_1, a0_2, a0_3) =>
 Option.bind (spec_AutomatonValid (a0_0, a0_1, a0_2, a0_3)) fun r0 =>
  bif (!r0) then
   some ((List.take 0 (List.drop 0 [])), false)
  else
   Option.bind (spec_l8Elements (a0_0, a0_1, a0_2, a0_3) true) fun (r1, r2) =>
    bif (!r2) then
     some ((List.take 0 (List.drop 0 [])), false)
    else
     some (r1, true)
noncomputable def A75 : FnA := ⟨[.v (.pair (.int .i64) (.pair (.sl (.int .i64)) (.pair (.sl (.int .i64)) (.sl (.pair (.int .i64) (.pair .str (.pair (.int .i64) (.int .i64))))))))], false, [.sl (.pair (.pair (.int .i64) (.sl (.int .i64))) .str), .bool], fun x => spec_l8RawElementsOf x.1⟩
theorem spec_l8RawElementsOf_eq : fnF E75 L75_0 [.v (.pair (.int .i64) (.pair (.sl (.int .i64)) (.pair (.sl (.int .i64)) (.sl (.pair (.int .i64) (.pair .str (.pair (.int .i64) (.int .i64))))))))] false [.sl (.pair (.pair (.int .i64) (.sl (.int .i64))) .str), .bool] f75.ntmps f75.results.toList (codeOf f75) = fun x => spec_l8RawElementsOf x.1 := by kernel_rfl
theorem A75_ok : FnOk prog 75 A75 := fo spec_l8RawElementsOf_eq func75 E75_ok allNil
/-! spec.l13OwnMatrix -/
noncomputable def E134 : Env := ⟨ty0, fun _ => none, fun _ => none, fun _ => none, fun _ => none⟩
theorem E134_ok : FnsOk prog E134 := (noFns _ _)
noncomputable def L134_0 : Nat → Option LoopD := fun _ => none
noncomputable def spec_l13OwnMatrix : (Int × (List Int)) → Option ((Int × (List Int))) := fun (a0_0, a0_1) =>
 if (((0 + 0) = (List.length ([] : List Unit))) ∧ (((0 + (List.length a0_1)) * 8) ≤ 140737488355328)) then
  some (a0_0, (List.take (0 + (List.length a0_1)) (List.drop 0 ((List.drop 0 []) ++ a0_1))))
 else
  none
noncomputable def A134 : FnA := ⟨[.v (.pair (.int .i64) (.sl (.int .i64)))], true, [.pair (.int .i64) (.sl (.int .i64))], fun x => spec_l13OwnMatrix x.1⟩
theorem spec_l13OwnMatrix_eq : fnF E134 L134_0 [.v (.pair (.int .i64) (.sl (.int .i64)))] true [.pair (.int .i64) (.sl (.int .i64))] f134.ntmps f134.results.toList (codeOf f134) = fun x => spec_l13OwnMatrix x.1 := by kernel_rfl
theorem A134_ok : FnOk prog 134 A134 := fo spec_l13OwnMatrix_eq func134 E134_ok allNil
/-! spec.l13OwnElement -/
noncomputable def E104 : Env := ⟨ty0, fun g => ifEq g 134 (some A134) (none), fun _ => none, fun _ => none, fun _ => none⟩
theorem E104_ok : FnsOk prog E104 := (oF A134_ok func134 (noFns _ _))
noncomputable def L104_0 : Nat → Option LoopD := fun _ => none
noncomputable def spec_l13OwnElement : ((Int × (List Int)) × ByteArray) → Option (((Int × (List Int)) × ByteArray)) := fun ((a0_0, a0_1), a0_2) =>
 Option.bind (spec_l13OwnMatrix (a0_0, a0_1)) fun (r0, r1) =>
  some ((r0, (List.take (List.length r1) (List.drop 0 r1))), a0_2)
noncomputable def A104 : FnA := ⟨[.v (.pair (.pair (.int .i64) (.sl (.int .i64))) .str)], true, [.pair (.pair (.int .i64) (.sl (.int .i64))) .str], fun x => spec_l13OwnElement x.1⟩
theorem spec_l13OwnElement_eq : fnF E104 L104_0 [.v (.pair (.pair (.int .i64) (.sl (.int .i64))) .str)] true [.pair (.pair (.int .i64) (.sl (.int .i64))) .str] f104.ntmps f104.results.toList (codeOf f104) = fun x => spec_l13OwnElement x.1 := by kernel_rfl
theorem A104_ok : FnOk prog 104 A104 := fo spec_l13OwnElement_eq func104 E104_ok allNil
/-! spec.l13OwnListElement -/
noncomputable def E76 : Env := ⟨ty0, fun g => ifEq g 104 (some A104) (none), fun _ => none, fun _ => none, fun _ => none⟩
theorem E76_ok : FnsOk prog E76 := (oF A104_ok func104 (noFns _ _))
noncomputable def L76_0 : Nat → Option LoopD := fun _ => none
def sh76_3 : List Fm := d :: d :: d :: .cell (.own (.pair (.pair (.int .i64) (.sl (.int .i64))) .str) 100300 false) :: d :: d :: d :: .cell (.val (.sl (.pair (.pair (.int .i64) (.sl (.int .i64))) .str))) :: .cell (.val (.int .i64)) :: .cell (.val (.int .i64)) :: D 10 []
def xs76_3 : List (Ex × List Fm) := [(.exit 0, (d :: d :: d :: .cell (.own (.pair (.pair (.int .i64) (.sl (.int .i64))) .str) 100300 false) :: D 16 []))]
noncomputable def spec_l13OwnListElement_l3 : ((List ((Int × (List Int)) × ByteArray)) × (List ((Int × (List Int)) × ByteArray)) × Int × Int × Unit) → Option (((List ((Int × (List Int)) × ByteArray)) × (List ((Int × (List Int)) × ByteArray)) × Int × Int × Unit) ⊕ (((List ((Int × (List Int)) × ByteArray)) × Unit))) := fun (v3, v7, v8, v9, _) =>
 bif (decide (v9 < v8)) then
  if (((0 : Int) ≤ v9) ∧ (v9 < (((List.length v7) : Nat) : Int))) then
   Option.bind (spec_l13OwnElement (((List.getD v7 (Int.toNat v9) (((0 : Int), []), (⟨Array.empty⟩ : ByteArray))).1.1, (List.getD v7 (Int.toNat v9) (((0 : Int), []), (⟨Array.empty⟩ : ByteArray))).1.2), (List.getD v7 (Int.toNat v9) (((0 : Int), []), (⟨Array.empty⟩ : ByteArray))).2)) fun ((r0, r1), r2) =>
    if (((0 + (List.length v3)) = (List.length v3)) ∧ ((((List.length v3) + (List.length (List.take 1 (List.drop 0 [((r0, (List.take (List.length r1) (List.drop 0 r1))), r2)])))) * 48) ≤ 140737488355328)) then
     some (Sum.inl ((List.take ((List.length v3) + (List.length (List.take 1 (List.drop 0 [((r0, (List.take (List.length r1) (List.drop 0 r1))), r2)])))) (List.drop 0 ((List.drop 0 v3) ++ (List.take 1 (List.drop 0 [((r0, (List.take (List.length r1) (List.drop 0 r1))), r2)]))))), v7, v8, (IntKind.wrap .i64 (v9 + (1 : Int))), ()))
    else
     none
  else
   none
 else
  some (Sum.inr ((List.take (List.length v3) (List.drop 0 v3)), ()))
theorem spec_l13OwnListElement_l3_eq : loopStep 20 E76 L76_0 (loopOf f76 3) sh76_3 xs76_3 = spec_l13OwnListElement_l3 := by kernel_rfl
theorem loop76_3 {L} (h : L 3 = some ⟨20, sh76_3, xs76_3, spec_l13OwnListElement_l3⟩) : LoopOk prog L (loopOf f76 3) := lo spec_l13OwnListElement_l3_eq E76_ok allNil h
noncomputable def L76_1 : Nat → Option LoopD := fun n => ifEq n 3 (some ⟨20, sh76_3, xs76_3, spec_l13OwnListElement_l3⟩) (L76_0 n)
noncomputable def spec_l13OwnListElement : (List ((Int × (List Int)) × ByteArray)) → Option ((List ((Int × (List Int)) × ByteArray))) := fun a0 =>
 Option.bind (loopF spec_l13OwnListElement_l3 ((List.take 0 (List.drop 0 [])), a0, (((List.length a0) : Nat) : Int), (0 : Int), ())) fun (r0, _) =>
  some (List.take (List.length r0) (List.drop 0 r0))
noncomputable def A76 : FnA := ⟨[.v (.sl (.pair (.pair (.int .i64) (.sl (.int .i64))) .str))], true, [.sl (.pair (.pair (.int .i64) (.sl (.int .i64))) .str)], fun x => spec_l13OwnListElement x.1⟩
theorem spec_l13OwnListElement_eq : fnF E76 L76_1 [.v (.sl (.pair (.pair (.int .i64) (.sl (.int .i64))) .str))] true [.sl (.pair (.pair (.int .i64) (.sl (.int .i64))) .str)] f76.ntmps f76.results.toList (codeOf f76) = fun x => spec_l13OwnListElement x.1 := by kernel_rfl
theorem A76_ok : FnOk prog 76 A76 := fo spec_l13OwnListElement_eq func76 E76_ok (allCons (loop76_3 rfl) allNil)
/-! spec.ElementsOf -/
noncomputable def E36 : Env := ⟨ty0, fun g => ifEq g 75 (some A75) (ifEq g 76 (some A76) (none)), fun _ => none, fun _ => none, fun _ => none⟩
theorem E36_ok : FnsOk prog E36 := (oF A75_ok func75 (oF A76_ok func76 (noFns _ _)))
noncomputable def L36_0 : Nat → Option LoopD := fun _ => none
noncomputable def spec_ElementsOf : (Int × ((List Int) × ((List Int) × (List (Int × (ByteArray × (Int × Int))))))) → Option ((List ((Int × (List Int)) × ByteArray)) × Bool) := fun (a0_0, a0_1, a0_2, a0_3) =>
 Option.bind (spec_l8RawElementsOf (a0_0, a0_1, a0_2, a0_3)) fun (r0, r1) =>
  Option.bind (spec_l13OwnListElement r0) fun r2 =>
   some ((List.take (List.length r2) (List.drop 0 r2)), r1)
noncomputable def A36 : FnA := ⟨[.v (.pair (.int .i64) (.pair (.sl (.int .i64)) (.pair (.sl (.int .i64)) (.sl (.pair (.int .i64) (.pair .str (.pair (.int .i64) (.int .i64))))))))], true, [.sl (.pair (.pair (.int .i64) (.sl (.int .i64))) .str), .bool], fun x => spec_ElementsOf x.1⟩
theorem spec_ElementsOf_eq : fnF E36 L36_0 [.v (.pair (.int .i64) (.pair (.sl (.int .i64)) (.pair (.sl (.int .i64)) (.sl (.pair (.int .i64) (.pair .str (.pair (.int .i64) (.int .i64))))))))] true [.sl (.pair (.pair (.int .i64) (.sl (.int .i64))) .str), .bool] f36.ntmps f36.results.toList (codeOf f36) = fun x => spec_ElementsOf x.1 := by kernel_rfl
theorem A36_ok : FnOk prog 36 A36 := fo spec_ElementsOf_eq func36 E36_ok allNil
/-! spec.l6Between -/
noncomputable def E37 : Env := ⟨ty0, fun _ => none, fun _ => none, fun _ => none, fun _ => none⟩
theorem E37_ok : FnsOk prog E37 := (noFns _ _)
noncomputable def L37_0 : Nat → Option LoopD := fun _ => none
def sh37_6 : List Fm := d :: d :: .box 100200 [.val (.int .i64), .val (.sl (.int .i64)), .val (.sl (.int .i64)), .val (.sl (.pair (.int .i64) (.pair .str (.pair (.int .i64) (.int .i64)))))] :: .box 100300 [.val (.int .i64), .val (.sl (.int .i64))] :: d :: .cell (.val (.int .i64)) :: d :: .cell (.val (.int .i64)) :: d :: d :: d :: .cell (.val (.sl (.int .i64))) :: .cell (.val (.int .i64)) :: .cell (.val (.int .i64)) :: D 4 (.cell (.val (.sl (.int .i64))) :: .cell (.val (.int .i64)) :: .cell (.val (.int .i64)) :: D 18 [])
def xs37_6 : List (Ex × List Fm) := [(.exit 2, [d, d, .box 100200 [.val (.int .i64), .val (.sl (.int .i64)), .val (.sl (.int .i64)), .val (.sl (.pair (.int .i64) (.pair .str (.pair (.int .i64) (.int .i64)))))], .box 100300 [.val (.int .i64), .val (.sl (.int .i64))], d, .cell (.val (.int .i64)), d, d, d, d, d, .cell (.val (.sl (.int .i64))), .cell (.val (.int .i64)), .cell (.val (.int .i64)), d, d, d, d, d, d, d, d, d, d, d, d, d, d, d, d, d, d, d, d, d, d, d, d, d])]
noncomputable def spec_l6Between_l6 : ((Int × (List Int) × (List Int) × (List (Int × (ByteArray × (Int × Int)))) × Unit) × (Int × (List Int) × Unit) × Int × Int × (List Int) × Int × Int × (List Int) × Int × Int × Unit) → Option (((Int × (List Int) × (List Int) × (List (Int × (ByteArray × (Int × Int)))) × Unit) × (Int × (List Int) × Unit) × Int × Int × (List Int) × Int × Int × (List Int) × Int × Int × Unit) ⊕ (((Int × (List Int) × (List Int) × (List (Int × (ByteArray × (Int × Int)))) × Unit) × (Int × (List Int) × Unit) × Int × (List Int) × Int × Int × Unit))) := fun ((v2_0, v2_1, v2_2, v2_3, _), (v3_0, v3_1, _), v5, v7, v11, v12, v13, v18, v19, v20, _) =>
 bif (decide (v20 < v19)) then
  if (((0 : Int) ≤ v20) ∧ (v20 < (((List.length v18) : Nat) : Int))) then
   if (((0 : Int) ≤ (IntKind.wrap .i64 ((IntKind.wrap .i64 (v7 * v2_0)) + (List.getD v18 (Int.toNat v20) (0 : Int))))) ∧ ((IntKind.wrap .i64 ((IntKind.wrap .i64 (v7 * v2_0)) + (List.getD v18 (Int.toNat v20) (0 : Int)))) < (((List.length v3_1) : Nat) : Int))) then
    some (Sum.inl ((v2_0, v2_1, v2_2, v2_3, ()), (v3_0, v3_1, ()), (if ((List.getD v3_1 (Int.toNat (IntKind.wrap .i64 ((IntKind.wrap .i64 (v7 * v2_0)) + (List.getD v18 (Int.toNat v20) (0 : Int))))) (0 : Int)) < v5) then (List.getD v3_1 (Int.toNat (IntKind.wrap .i64 ((IntKind.wrap .i64 (v7 * v2_0)) + (List.getD v18 (Int.toNat v20) (0 : Int))))) (0 : Int)) else v5), v7, v11, v12, v13, v18, v19, (IntKind.wrap .i64 (v20 + (1 : Int))), ()))
   else
    none
  else
   none
 else
  some (Sum.inr ((v2_0, v2_1, v2_2, v2_3, ()), (v3_0, v3_1, ()), v5, v11, v12, v13, ()))
theorem spec_l6Between_l6_eq : loopStep 39 E37 L37_0 (loopOf f37 6) sh37_6 xs37_6 = spec_l6Between_l6 := by kernel_rfl
theorem loop37_6 {L} (h : L 6 = some ⟨39, sh37_6, xs37_6, spec_l6Between_l6⟩) : LoopOk prog L (loopOf f37 6) := lo spec_l6Between_l6_eq E37_ok allNil h
noncomputable def L37_1 : Nat → Option LoopD := fun n => ifEq n 6 (some ⟨39, sh37_6, xs37_6, spec_l6Between_l6⟩) (L37_0 n)
def sh37_3 : List Fm := d :: d :: .box 100200 [.val (.int .i64), .val (.sl (.int .i64)), .val (.sl (.int .i64)), .val (.sl (.pair (.int .i64) (.pair .str (.pair (.int .i64) (.int .i64)))))] :: .box 100300 [.val (.int .i64), .val (.sl (.int .i64))] :: d :: .cell (.val (.int .i64)) :: D 5 (.cell (.val (.sl (.int .i64))) :: .cell (.val (.int .i64)) :: .cell (.val (.int .i64)) :: D 25 [])
def xs37_3 : List (Ex × List Fm) := [(.exit 0, (D 5 (.cell (.val (.int .i64)) :: D 33 [])))]
noncomputable def spec_l6Between_l3 : ((Int × (List Int) × (List Int) × (List (Int × (ByteArray × (Int × Int)))) × Unit) × (Int × (List Int) × Unit) × Int × (List Int) × Int × Int × Unit) → Option (((Int × (List Int) × (List Int) × (List (Int × (ByteArray × (Int × Int)))) × Unit) × (Int × (List Int) × Unit) × Int × (List Int) × Int × Int × Unit) ⊕ ((Int × Unit))) := fun ((v2_0, v2_1, v2_2, v2_3, _), (v3_0, v3_1, _), v5, v11, v12, v13, _) =>
 bif (decide (v13 < v12)) then
  if (((0 : Int) ≤ v13) ∧ (v13 < (((List.length v11) : Nat) : Int))) then
   Option.bind (loopF spec_l6Between_l6 ((v2_0, v2_1, v2_2, v2_3, ()), (v3_0, v3_1, ()), v5, (List.getD v11 (Int.toNat v13) (0 : Int)), v11, v12, v13, v2_2, (((List.length v2_2) : Nat) : Int), (0 : Int), ())) fun ((r0, r1, r2, r3, _), (r4, r5, _), r6, r7, r8, r9, _) =>
    some (Sum.inl ((r0, r1, r2, r3, ()), (r4, r5, ()), r6, r7, r8, (IntKind.wrap .i64 (r9 + (1 : Int))), ()))
  else
   none
 else
  some (Sum.inr (v5, ()))
theorem spec_l6Between_l3_eq : loopStep 39 E37 L37_1 (loopOf f37 3) sh37_3 xs37_3 = spec_l6Between_l3 := by kernel_rfl
theorem loop37_3 {L} (h : L 3 = some ⟨39, sh37_3, xs37_3, spec_l6Between_l3⟩) : LoopOk prog L (loopOf f37 3) := lo spec_l6Between_l3_eq E37_ok (allCons (loop37_6 rfl) allNil) h
noncomputable def L37_2 : Nat → Option LoopD := fun n => ifEq n 3 (some ⟨39, sh37_3, xs37_3, spec_l6Between_l3⟩) (L37_1 n)
noncomputable def spec_l6Between : (Int × ((List Int) × ((List Int) × (List (Int × (ByteArray × (Int × Int))))))) → (Int × (List Int)) → Option (Int) := fun (a0_0, a0_1, a0_2, a0_3) (a1_0, a1_1) =>
 Option.bind (loopF spec_l6Between_l3 ((a0_0, a0_1, a0_2, a0_3, ()), (a1_0, a1_1, ()), (3 : Int), a0_1, (((List.length a0_1) : Nat) : Int), (0 : Int), ())) fun (r0, _) =>
  some r0
noncomputable def A37 : FnA := ⟨[.v (.pair (.int .i64) (.pair (.sl (.int .i64)) (.pair (.sl (.int .i64)) (.sl (.pair (.int .i64) (.pair .str (.pair (.int .i64) (.int .i64)))))))), .v (.pair (.int .i64) (.sl (.int .i64)))], true, [.int .i64], fun x => spec_l6Between x.1 x.2.1⟩
theorem spec_l6Between_eq : fnF E37 L37_2 [.v (.pair (.int .i64) (.pair (.sl (.int .i64)) (.pair (.sl (.int .i64)) (.sl (.pair (.int .i64) (.pair .str (.pair (.int .i64) (.int .i64)))))))), .v (.pair (.int .i64) (.sl (.int .i64)))] true [.int .i64] f37.ntmps f37.results.toList (codeOf f37) = fun x => spec_l6Between x.1 x.2.1 := by kernel_rfl
theorem A37_ok : FnOk prog 37 A37 := fo spec_l6Between_eq func37 E37_ok (allCons (loop37_3 rfl) allNil)
/-! spec.GradesIn -/
noncomputable def E8 : Env := ⟨ty0, fun g => ifEq g 36 (some A36) (ifEq g 37 (some A37) (none)), fun _ => none, fun _ => none, fun _ => none⟩
theorem E8_ok : FnsOk prog E8 := (oF A36_ok func36 (oF A37_ok func37 (noFns _ _)))
noncomputable def L8_0 : Nat → Option LoopD := fun _ => none
def sh8_7 : List Fm := d :: .box 100100 [.val (.int .i64), .val (.sl (.int .i64)), .val (.sl (.int .i64)), .val (.sl (.pair (.int .i64) (.pair .str (.pair (.int .i64) (.int .i64)))))] :: d :: d :: .cell (.own (.int .i64) 100400 false) :: d :: d :: .box 100700 [.val .bool, .val .bool, .val .bool, .val .bool] :: D 13 (.cell (.own (.pair (.pair (.int .i64) (.sl (.int .i64))) .str) 102100 false) :: .cell (.val (.int .i64)) :: .cell (.val (.int .i64)) :: D 21 [])
def xs8_7 : List (Ex × List Fm) := [(.exit 0, [d, d, d, d, .cell (.own (.int .i64) 100400 false), d, d, .box 100700 [.val .bool, .val .bool, .val .bool, .val .bool], d, d, d, d, d, d, d, d, d, d, d, d, d, d, d, d, d, d, d, d, d, d, d, d, d, d, d, d, d, d, d, d, d, d, d, d, d])]
noncomputable def spec_GradesIn_l7 : ((Int × (List Int) × (List Int) × (List (Int × (ByteArray × (Int × Int)))) × Unit) × (List Int) × (Bool × Bool × Bool × Bool × Unit) × (List ((Int × (List Int)) × ByteArray)) × Int × Int × Unit) → Option (((Int × (List Int) × (List Int) × (List (Int × (ByteArray × (Int × Int)))) × Unit) × (List Int) × (Bool × Bool × Bool × Bool × Unit) × (List ((Int × (List Int)) × ByteArray)) × Int × Int × Unit) ⊕ (((List Int) × (Bool × Bool × Bool × Bool × Unit) × Unit))) := fun ((v1_0, v1_1, v1_2, v1_3, _), v4, (v7_0, v7_1, v7_2, v7_3, _), v21, v22, v23, _) =>
 bif (decide (v23 < v22)) then
  if (((0 : Int) ≤ v23) ∧ (v23 < (((List.length v21) : Nat) : Int))) then
   Option.bind (spec_l6Between (v1_0, v1_1, v1_2, v1_3) ((List.getD v21 (0 + (Int.toNat v23)) (((0 : Int), []), (⟨Array.empty⟩ : ByteArray))).1.1, (List.getD v21 (0 + (Int.toNat v23)) (((0 : Int), []), (⟨Array.empty⟩ : ByteArray))).1.2)) fun r0 =>
    if (((0 : Int) ≤ r0) ∧ (r0 < ((4 : Nat) : Int))) then
     some (Sum.inl ((v1_0, v1_1, v1_2, v1_3, ()), (List.take (List.length v4) (List.drop 0 v4)), ((bif (Nat.beq (Int.toNat r0) 0) then true else v7_0), (bif (Nat.beq (Int.toNat r0) (0 + 1)) then true else v7_1), (bif (Nat.beq (Int.toNat r0) ((0 + 1) + 1)) then true else v7_2), (bif (Nat.beq (Int.toNat r0) (((0 + 1) + 1) + 1)) then true else v7_3), ()), (List.take (List.length v21) (List.drop 0 v21)), v22, (IntKind.wrap .i64 (v23 + (1 : Int))), ()))
    else
     none
  else
   none
 else
  some (Sum.inr ((List.take (List.length v4) (List.drop 0 v4)), (v7_0, v7_1, v7_2, v7_3, ()), ()))
theorem spec_GradesIn_l7_eq : loopStep 45 E8 L8_0 (loopOf f8 7) sh8_7 xs8_7 = spec_GradesIn_l7 := by kernel_rfl
theorem loop8_7 {L} (h : L 7 = some ⟨45, sh8_7, xs8_7, spec_GradesIn_l7⟩) : LoopOk prog L (loopOf f8 7) := lo spec_GradesIn_l7_eq E8_ok allNil h
noncomputable def L8_1 : Nat → Option LoopD := fun n => ifEq n 7 (some ⟨45, sh8_7, xs8_7, spec_GradesIn_l7⟩) (L8_0 n)
def sh8_12 : List Fm := D 4 (.cell (.own (.int .i64) 100400 false) :: D 28 (.cell (.val (.pair .bool (.pair .bool (.pair .bool .bool)))) :: .cell (.val (.int .i64)) :: D 10 []))
def xs8_12 : List (Ex × List Fm) := [(.exit 2, (D 4 (.cell (.own (.int .i64) 100400 false) :: D 40 [])))]
noncomputable def spec_GradesIn_l12 : ((List Int) × (Bool × (Bool × (Bool × Bool))) × Int × Unit) → Option (((List Int) × (Bool × (Bool × (Bool × Bool))) × Int × Unit) ⊕ (((List Int) × Unit))) := fun (v4, (v33_0, v33_1, v33_2, v33_3), v34, _) =>
 bif (decide (v34 < (4 : Int))) then
  if (((0 : Int) ≤ v34) ∧ (v34 < ((4 : Nat) : Int))) then
   bif (List.getD [v33_0, v33_1, v33_2, v33_3] (Int.toNat v34) false) then
    if (((0 + (List.length v4)) = (List.length v4)) ∧ ((((List.length v4) + (List.length (List.take 1 (List.drop 0 [v34])))) * 8) ≤ 140737488355328)) then
     some (Sum.inl ((List.take ((List.length v4) + (List.length (List.take 1 (List.drop 0 [v34])))) (List.drop 0 ((List.drop 0 v4) ++ (List.take 1 (List.drop 0 [v34]))))), (v33_0, v33_1, v33_2, v33_3), (IntKind.wrap .i64 (v34 + (1 : Int))), ()))
    else
     none
   else
    some (Sum.inl ((List.take (List.length v4) (List.drop 0 v4)), (v33_0, v33_1, v33_2, v33_3), (IntKind.wrap .i64 (v34 + (1 : Int))), ()))
  else
   none
 else
  some (Sum.inr ((List.take (List.length v4) (List.drop 0 v4)), ()))
theorem spec_GradesIn_l12_eq : loopStep 45 E8 L8_1 (loopOf f8 12) sh8_12 xs8_12 = spec_GradesIn_l12 := by kernel_rfl
theorem loop8_12 {L} (h : L 12 = some ⟨45, sh8_12, xs8_12, spec_GradesIn_l12⟩) : LoopOk prog L (loopOf f8 12) := lo spec_GradesIn_l12_eq E8_ok allNil h
noncomputable def L8_2 : Nat → Option LoopD := fun n => ifEq n 12 (some ⟨45, sh8_12, xs8_12, spec_GradesIn_l12⟩) (L8_1 n)
noncomputable def spec_GradesIn : (Int × ((List Int) × ((List Int) × (List (Int × (ByteArray × (Int × Int))))))) → Option ((List Int) × Bool) := fun (a0_0, a0_1, a0_2, a0_3) =>
 Option.bind (spec_ElementsOf (a0_0, a0_1, a0_2, a0_3)) fun (r0, r1) =>
  bif (!r1) then
   some ((List.take 0 (List.drop 0 [])), false)
  else
   Option.bind (loopF spec_GradesIn_l7 ((a0_0, a0_1, a0_2, a0_3, ()), (List.take 0 (List.drop 0 [])), (false, false, false, false, ()), (List.take (List.length r0) (List.drop 0 r0)), (((List.length r0) : Nat) : Int), (0 : Int), ())) fun (r2, (r3, r4, r5, r6, _), _) =>
    Option.bind (loopF spec_GradesIn_l12 ((List.take (List.length r2) (List.drop 0 r2)), (r3, r4, r5, r6), (0 : Int), ())) fun (r7, _) =>
     some ((List.take (List.length r7) (List.drop 0 r7)), true)
noncomputable def A8 : FnA := ⟨[.v (.pair (.int .i64) (.pair (.sl (.int .i64)) (.pair (.sl (.int .i64)) (.sl (.pair (.int .i64) (.pair .str (.pair (.int .i64) (.int .i64))))))))], true, [.sl (.int .i64), .bool], fun x => spec_GradesIn x.1⟩
theorem spec_GradesIn_eq : fnF E8 L8_2 [.v (.pair (.int .i64) (.pair (.sl (.int .i64)) (.pair (.sl (.int .i64)) (.sl (.pair (.int .i64) (.pair .str (.pair (.int .i64) (.int .i64))))))))] true [.sl (.int .i64), .bool] f8.ntmps f8.results.toList (codeOf f8) = fun x => spec_GradesIn x.1 := by kernel_rfl
theorem A8_ok : FnOk prog 8 A8 := fo spec_GradesIn_eq func8 E8_ok (allCons (loop8_7 rfl) (allCons (loop8_12 rfl) allNil))
/-! impl.StablesOf -/
noncomputable def E17 : Env := ⟨ty0, fun g => ifEq g 23 (some A23) (ifEq g 21 (some A21) (ifEq g 48 (some A48) (none))), fun _ => none, fun _ => none, fun _ => none⟩
theorem E17_ok : FnsOk prog E17 := (oF A23_ok func23 (oF A21_ok func21 (oF A48_ok func48 (noFns _ _))))
noncomputable def L17_0 : Nat → Option LoopD := fun _ => none
def sh17_6 : List Fm := D 6 (.cell (.own .str 100600 false) :: D 12 (.cell (.own (.pair (.pair (.int .i64) (.sl (.int .i64))) .str) 101900 false) :: .cell (.val (.int .i64)) :: .cell (.val (.int .i64)) :: D 23 []))
def xs17_6 : List (Ex × List Fm) := [(.exit 0, (D 6 (.cell (.own .str 100600 false) :: D 38 [])))]
noncomputable def impl_StablesOf_l6 : ((List ByteArray) × (List ((Int × (List Int)) × ByteArray)) × Int × Int × Unit) → Option (((List ByteArray) × (List ((Int × (List Int)) × ByteArray)) × Int × Int × Unit) ⊕ (((List ByteArray) × Unit))) := fun (v6, v19, v20, v21, _) =>
 bif (decide (v21 < v20)) then
  if (((0 : Int) ≤ v21) ∧ (v21 < (((List.length v19) : Nat) : Int))) then
   Option.bind (impl_Stabilise ((List.getD v19 (0 + (Int.toNat v21)) (((0 : Int), []), (⟨Array.empty⟩ : ByteArray))).1.1, (List.getD v19 (0 + (Int.toNat v21)) (((0 : Int), []), (⟨Array.empty⟩ : ByteArray))).1.2)) fun ((r0, r1), r2) =>
    bif r2 then
     Option.bind (impl_SameMatrix (r0, (List.take (List.length r1) (List.drop 0 r1))) ((List.getD v19 (0 + (Int.toNat v21)) (((0 : Int), []), (⟨Array.empty⟩ : ByteArray))).1.1, (List.getD v19 (0 + (Int.toNat v21)) (((0 : Int), []), (⟨Array.empty⟩ : ByteArray))).1.2)) fun r3 =>
      bif r3 then
       if (((0 + (List.length v6)) = (List.length v6)) ∧ ((((List.length v6) + (List.length (List.take 1 (List.drop 0 [(List.getD v19 (0 + (Int.toNat v21)) (((0 : Int), []), (⟨Array.empty⟩ : ByteArray))).2])))) * 16) ≤ 140737488355328)) then
        some (Sum.inl ((List.take ((List.length v6) + (List.length (List.take 1 (List.drop 0 [(List.getD v19 (0 + (Int.toNat v21)) (((0 : Int), []), (⟨Array.empty⟩ : ByteArray))).2])))) (List.drop 0 ((List.drop 0 v6) ++ (List.take 1 (List.drop 0 [(List.getD v19 (0 + (Int.toNat v21)) (((0 : Int), []), (⟨Array.empty⟩ : ByteArray))).2]))))), (List.take (List.length v19) (List.drop 0 v19)), v20, (IntKind.wrap .i64 (v21 + (1 : Int))), ()))
       else
        none
      else
       some (Sum.inl ((List.take (List.length v6) (List.drop 0 v6)), (List.take (List.length v19) (List.drop 0 v19)), v20, (IntKind.wrap .i64 (v21 + (1 : Int))), ()))
    else
     some (Sum.inl ((List.take (List.length v6) (List.drop 0 v6)), (List.take (List.length v19) (List.drop 0 v19)), v20, (IntKind.wrap .i64 (v21 + (1 : Int))), ()))
  else
   none
 else
  some (Sum.inr ((List.take (List.length v6) (List.drop 0 v6)), ()))
theorem impl_StablesOf_l6_eq : loopStep 45 E17 L17_0 (loopOf f17 6) sh17_6 xs17_6 = impl_StablesOf_l6 := by kernel_rfl
theorem loop17_6 {L} (h : L 6 = some ⟨45, sh17_6, xs17_6, impl_StablesOf_l6⟩) : LoopOk prog L (loopOf f17 6) := lo impl_StablesOf_l6_eq E17_ok allNil h
noncomputable def L17_1 : Nat → Option LoopD := fun n => ifEq n 6 (some ⟨45, sh17_6, xs17_6, impl_StablesOf_l6⟩) (L17_0 n)
noncomputable def impl_StablesOf : (Int × ((List Int) × ((List Int) × (List (Int × (ByteArray × (Int × Int))))))) → Option ((List ByteArray) × Bool) := fun (a0_0, a0_1, a0_2, a0_3) =>
 Option.bind (impl_ElementsOf (a0_0, a0_1, a0_2, a0_3)) fun (r0, r1) =>
  bif (!r1) then
   some ([], false)
  else
   Option.bind (loopF impl_StablesOf_l6 ((List.take 0 (List.drop 0 [])), (List.take (List.length r0) (List.drop 0 r0)), (((List.length r0) : Nat) : Int), (0 : Int), ())) fun (r2, _) =>
    some ((List.take (List.length r2) (List.drop 0 r2)), true)
noncomputable def A17 : FnA := ⟨[.v (.pair (.int .i64) (.pair (.sl (.int .i64)) (.pair (.sl (.int .i64)) (.sl (.pair (.int .i64) (.pair .str (.pair (.int .i64) (.int .i64))))))))], true, [.sl .str, .bool], fun x => impl_StablesOf x.1⟩
theorem impl_StablesOf_eq : fnF E17 L17_1 [.v (.pair (.int .i64) (.pair (.sl (.int .i64)) (.pair (.sl (.int .i64)) (.sl (.pair (.int .i64) (.pair .str (.pair (.int .i64) (.int .i64))))))))] true [.sl .str, .bool] f17.ntmps f17.results.toList (codeOf f17) = fun x => impl_StablesOf x.1 := by kernel_rfl
theorem A17_ok : FnOk prog 17 A17 := fo impl_StablesOf_eq func17 E17_ok (allCons (loop17_6 rfl) allNil)
/-! spec.StablesOf -/
noncomputable def E18 : Env := ⟨ty0, fun g => ifEq g 36 (some A36) (ifEq g 49 (some A49) (ifEq g 51 (some A51) (ifEq g 50 (some A50) (none)))), fun _ => none, fun _ => none, fun _ => none⟩
theorem E18_ok : FnsOk prog E18 := (oF A36_ok func36 (oF A49_ok func49 (oF A51_ok func51 (oF A50_ok func50 (noFns _ _)))))
noncomputable def L18_0 : Nat → Option LoopD := fun _ => none
def sh18_4 : List Fm := D 4 (.cell (.own .str 100400 false) :: d :: .cell (.val .bool) :: D 8 (.cell (.own (.pair (.pair (.int .i64) (.sl (.int .i64))) .str) 101500 false) :: .cell (.val (.int .i64)) :: .cell (.val (.int .i64)) :: D 24 []))
def xs18_4 : List (Ex × List Fm) := [(.exit 0, (D 4 (.cell (.own .str 100400 false) :: d :: .cell (.val .bool) :: D 35 [])))]
noncomputable def spec_StablesOf_l4 : ((List ByteArray) × Bool × (List ((Int × (List Int)) × ByteArray)) × Int × Int × Unit) → Option (((List ByteArray) × Bool × (List ((Int × (List Int)) × ByteArray)) × Int × Int × Unit) ⊕ (((List ByteArray) × Bool × Unit))) := fun (v4, v6, v15, v16, v17, _) =>
 bif (decide (v17 < v16)) then
  if (((0 : Int) ≤ v17) ∧ (v17 < (((List.length v15) : Nat) : Int))) then
   Option.bind (spec_l6Idempotent ((List.getD v15 (0 + (Int.toNat v17)) (((0 : Int), []), (⟨Array.empty⟩ : ByteArray))).1.1, (List.getD v15 (0 + (Int.toNat v17)) (((0 : Int), []), (⟨Array.empty⟩ : ByteArray))).1.2)) fun r0 =>
    bif r0 then
     Option.bind (spec_l6Stable ((List.getD v15 (0 + (Int.toNat v17)) (((0 : Int), []), (⟨Array.empty⟩ : ByteArray))).1.1, (List.getD v15 (0 + (Int.toNat v17)) (((0 : Int), []), (⟨Array.empty⟩ : ByteArray))).1.2)) fun (r1, r2) =>
      Option.bind (spec_l2Same (List.take (List.length r2) (List.drop 0 r2)) (List.getD v15 (0 + (Int.toNat v17)) (((0 : Int), []), (⟨Array.empty⟩ : ByteArray))).1.2) fun r3 =>
       bif r3 then
        if (((0 + (List.length v4)) = (List.length v4)) ∧ ((((List.length v4) + (List.length (List.take 1 (List.drop 0 [(List.getD v15 (0 + (Int.toNat v17)) (((0 : Int), []), (⟨Array.empty⟩ : ByteArray))).2])))) * 16) ≤ 140737488355328)) then
         some (Sum.inl ((List.take ((List.length v4) + (List.length (List.take 1 (List.drop 0 [(List.getD v15 (0 + (Int.toNat v17)) (((0 : Int), []), (⟨Array.empty⟩ : ByteArray))).2])))) (List.drop 0 ((List.drop 0 v4) ++ (List.take 1 (List.drop 0 [(List.getD v15 (0 + (Int.toNat v17)) (((0 : Int), []), (⟨Array.empty⟩ : ByteArray))).2]))))), v6, (List.take (List.length v15) (List.drop 0 v15)), v16, (IntKind.wrap .i64 (v17 + (1 : Int))), ()))
        else
         none
       else
        some (Sum.inl ((List.take (List.length v4) (List.drop 0 v4)), v6, (List.take (List.length v15) (List.drop 0 v15)), v16, (IntKind.wrap .i64 (v17 + (1 : Int))), ()))
    else
     some (Sum.inl ((List.take (List.length v4) (List.drop 0 v4)), v6, (List.take (List.length v15) (List.drop 0 v15)), v16, (IntKind.wrap .i64 (v17 + (1 : Int))), ()))
  else
   none
 else
  some (Sum.inr ((List.take (List.length v4) (List.drop 0 v4)), v6, ()))
theorem spec_StablesOf_l4_eq : loopStep 42 E18 L18_0 (loopOf f18 4) sh18_4 xs18_4 = spec_StablesOf_l4 := by kernel_rfl
theorem loop18_4 {L} (h : L 4 = some ⟨42, sh18_4, xs18_4, spec_StablesOf_l4⟩) : LoopOk prog L (loopOf f18 4) := lo spec_StablesOf_l4_eq E18_ok allNil h
noncomputable def L18_1 : Nat → Option LoopD := fun n => ifEq n 4 (some ⟨42, sh18_4, xs18_4, spec_StablesOf_l4⟩) (L18_0 n)
noncomputable def spec_StablesOf : (Int × ((List Int) × ((List Int) × (List (Int × (ByteArray × (Int × Int))))))) → Option ((List ByteArray) × Bool) := fun (a0_0, a0_1, a0_2, a0_3) =>
 Option.bind (spec_ElementsOf (a0_0, a0_1, a0_2, a0_3)) fun (r0, r1) =>
  Option.bind (loopF spec_StablesOf_l4 ((List.take 0 (List.drop 0 [])), r1, (List.take (List.length r0) (List.drop 0 r0)), (((List.length r0) : Nat) : Int), (0 : Int), ())) fun (r2, r3, _) =>
   some ((List.take (List.length r2) (List.drop 0 r2)), r3)
noncomputable def A18 : FnA := ⟨[.v (.pair (.int .i64) (.pair (.sl (.int .i64)) (.pair (.sl (.int .i64)) (.sl (.pair (.int .i64) (.pair .str (.pair (.int .i64) (.int .i64))))))))], true, [.sl .str, .bool], fun x => spec_StablesOf x.1⟩
theorem spec_StablesOf_eq : fnF E18 L18_1 [.v (.pair (.int .i64) (.pair (.sl (.int .i64)) (.pair (.sl (.int .i64)) (.sl (.pair (.int .i64) (.pair .str (.pair (.int .i64) (.int .i64))))))))] true [.sl .str, .bool] f18.ntmps f18.results.toList (codeOf f18) = fun x => spec_StablesOf x.1 := by kernel_rfl
theorem A18_ok : FnOk prog 18 A18 := fo spec_StablesOf_eq func18 E18_ok (allCons (loop18_4 rfl) allNil)
/-! laws.daSame -/
noncomputable def E19 : Env := ⟨ty0, fun _ => none, fun _ => none, fun _ => none, fun _ => none⟩
theorem E19_ok : FnsOk prog E19 := (noFns _ _)
noncomputable def L19_0 : Nat → Option LoopD := fun _ => none
def sh19_2 : List Fm := .cell (.val (.sl (.int .i64))) :: .cell (.val (.sl (.int .i64))) :: D 8 (.cell (.val (.int .i64)) :: .cell (.val (.int .i64)) :: D 17 [])
def xs19_2 : List (Ex × List Fm) := [(.ret, (D 4 (.cell (.val .bool) :: D 24 []))), (.exit 0, (.cell (.val (.sl (.int .i64))) :: .cell (.val (.sl (.int .i64))) :: D 27 []))]
noncomputable def laws_daSame_l2 : ((List Int) × (List Int) × Int × Int × Unit) → Option (((List Int) × (List Int) × Int × Int × Unit) ⊕ ((Bool × Unit) ⊕ ((List Int) × (List Int) × Unit))) := fun (v0, v1, v10, v11, _) =>
 bif (decide (v11 < v10)) then
  if (((0 : Int) ≤ v11) ∧ (v11 < (((List.length v0) : Nat) : Int))) then
   if (((0 : Int) ≤ v11) ∧ (v11 < (((List.length v1) : Nat) : Int))) then
    bif ((List.getD v0 (Int.toNat v11) (0 : Int)) != (List.getD v1 (Int.toNat v11) (0 : Int))) then
     some (Sum.inr (Sum.inl (false, ())))
    else
     some (Sum.inl (v0, v1, v10, (IntKind.wrap .i64 (v11 + (1 : Int))), ()))
   else
    none
  else
   none
 else
  some (Sum.inr (Sum.inr (v0, v1, ())))
theorem laws_daSame_l2_eq : loopStep 29 E19 L19_0 (loopOf f19 2) sh19_2 xs19_2 = laws_daSame_l2 := by kernel_rfl
theorem loop19_2 {L} (h : L 2 = some ⟨29, sh19_2, xs19_2, laws_daSame_l2⟩) : LoopOk prog L (loopOf f19 2) := lo laws_daSame_l2_eq E19_ok allNil h
noncomputable def L19_1 : Nat → Option LoopD := fun n => ifEq n 2 (some ⟨29, sh19_2, xs19_2, laws_daSame_l2⟩) (L19_0 n)
noncomputable def laws_daSame : (List Int) → (List Int) → Option (Bool) := fun a0 a1 =>
 Option.bind (loopF laws_daSame_l2 (a0, a1, (if ((((List.length a1) : Nat) : Int) < (((List.length a0) : Nat) : Int)) then (((List.length a1) : Nat) : Int) else (((List.length a0) : Nat) : Int)), (0 : Int), ())) fun r0 =>
  (match r0 with
  | .inl (d1, _) =>
    some d1
  | .inr (d2, d3, _) =>
    some ((((List.length d2) : Nat) : Int) == (((List.length d3) : Nat) : Int)))
noncomputable def A19 : FnA := ⟨[.v (.sl (.int .i64)), .v (.sl (.int .i64))], true, [.bool], fun x => laws_daSame x.1 x.2.1⟩
theorem laws_daSame_eq : fnF E19 L19_1 [.v (.sl (.int .i64)), .v (.sl (.int .i64))] true [.bool] f19.ntmps f19.results.toList (codeOf f19) = fun x => laws_daSame x.1 x.2.1 := by kernel_rfl
theorem A19_ok : FnOk prog 19 A19 := fo laws_daSame_eq func19 E19_ok (allCons (loop19_2 rfl) allNil)
/-! laws.daMatrix -/
noncomputable def E22 : Env := ⟨ty0, fun g => ifEq g 19 (some A19) (none), fun _ => none, fun _ => none, fun _ => none⟩
theorem E22_ok : FnsOk prog E22 := (oF A19_ok func19 (noFns _ _))
noncomputable def L22_0 : Nat → Option LoopD := fun _ => none
noncomputable def laws_daMatrix : (Int × (List Int)) → (Int × (List Int)) → Option (Bool) := fun (a0_0, a0_1) (a1_0, a1_1) =>
 bif (a0_0 == a1_0) then
  Option.bind (laws_daSame a0_1 a1_1) fun r0 =>
   some r0
 else
  some false
noncomputable def A22 : FnA := ⟨[.v (.pair (.int .i64) (.sl (.int .i64))), .v (.pair (.int .i64) (.sl (.int .i64)))], true, [.bool], fun x => laws_daMatrix x.1 x.2.1⟩
theorem laws_daMatrix_eq : fnF E22 L22_0 [.v (.pair (.int .i64) (.sl (.int .i64))), .v (.pair (.int .i64) (.sl (.int .i64)))] true [.bool] f22.ntmps f22.results.toList (codeOf f22) = fun x => laws_daMatrix x.1 x.2.1 := by kernel_rfl
theorem A22_ok : FnOk prog 22 A22 := fo laws_daMatrix_eq func22 E22_ok allNil
/-! impl.GradeOf -/
noncomputable def E24 : Env := ⟨ty0, fun g => ifEq g 20 (some A20) (ifEq g 40 (some A40) (none)), fun _ => none, fun _ => none, fun _ => none⟩
theorem E24_ok : FnsOk prog E24 := (oF A20_ok func20 (oF A40_ok func40 (noFns _ _)))
noncomputable def L24_0 : Nat → Option LoopD := fun _ => none
noncomputable def impl_GradeOf : (Int × ((List Int) × ((List Int) × (List (Int × (ByteArray × (Int × Int))))))) → ByteArray → Option (Int) := fun (a0_0, a0_1, a0_2, a0_3) a1 =>
 Option.bind (impl_ValueOf (a0_0, a0_1, a0_2, a0_3) a1) fun ((r0, r1), r2) =>
  bif (!r2) then
   some (-1 : Int)
  else
   Option.bind (impl_GradeBetween (a0_0, a0_1, a0_2, a0_3) (r0, (List.take (List.length r1) (List.drop 0 r1)))) fun r3 =>
    some r3
noncomputable def A24 : FnA := ⟨[.v (.pair (.int .i64) (.pair (.sl (.int .i64)) (.pair (.sl (.int .i64)) (.sl (.pair (.int .i64) (.pair .str (.pair (.int .i64) (.int .i64)))))))), .v .str], true, [.int .i64], fun x => impl_GradeOf x.1 x.2.1⟩
theorem impl_GradeOf_eq : fnF E24 L24_0 [.v (.pair (.int .i64) (.pair (.sl (.int .i64)) (.pair (.sl (.int .i64)) (.sl (.pair (.int .i64) (.pair .str (.pair (.int .i64) (.int .i64)))))))), .v .str] true [.int .i64] f24.ntmps f24.results.toList (codeOf f24) = fun x => impl_GradeOf x.1 x.2.1 := by kernel_rfl
theorem A24_ok : FnOk prog 24 A24 := fo impl_GradeOf_eq func24 E24_ok allNil
end Go.Proofs.YtcmcjhdccnbmoaaGreat
