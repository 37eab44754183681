/- What Go functions that the laws reach compute, and that they do: written by a program of this session. -/
import Derived.Test.YtcmcjhdccnbmoaaGreatG0
import Derived.KernelRfl
set_option linter.unusedVariables false
namespace Go.Proofs.YtcmcjhdccnbmoaaGreat
open Go Go.Proofs.YtcmcjhdccnbmoaaGreat.Am Go.Proofs.Tryz
set_option maxRecDepth 100000
/-! impl.ElementsOf -/
noncomputable def E23_at5_at32 : Env := ⟨ty0, fun g => ifEq g 28 (some A28) (ifEq g 20 (some A20) (ifEq g 91 (some A91) (ifEq g 92 (some A92) (ifEq g 21 (some A21) (ifEq g 61 (some A61) (none)))))), fun _ => none, fun _ => none, fun _ => none⟩
theorem E23_at5_at32_ok : FnsOk prog E23_at5_at32 := (oF A28_ok func28 (oF A20_ok func20 (oF A91_ok func91 (oF A92_ok func92 (oF A21_ok func21 (oF A61_ok func61 (noFns _ _)))))))
noncomputable def L23_at5_at32_0 : Nat → Option LoopD := fun _ => none
def shi23_at5_at32 : List Fm := .box 100000 [.own (.pair (.pair (.int .i64) (.sl (.int .i64))) .str) 100001 false, .val .bool] :: .agg [.val (.int .i64), .own (.int .i64) 100102 false] :: .cell (.val .str) :: D 36 (.fnv 59 :: .box 104000 [.val (.int .i64), .val (.sl (.int .i64)), .val (.sl (.int .i64)), .val (.sl (.pair (.int .i64) (.pair .str (.pair (.int .i64) (.int .i64)))))] :: d :: d :: d :: .ali 100000 0 :: D 10 (.cell (.own .str 105500 false) :: .cell (.val (.int .i64)) :: .cell (.val (.int .i64)) :: D 50 []))
def sho23_at5_at32 : List Fm := d :: .fnv 59 :: .box 100200 [.val (.int .i64), .val (.sl (.int .i64)), .val (.sl (.int .i64)), .val (.sl (.pair (.int .i64) (.pair .str (.pair (.int .i64) (.int .i64)))))] :: d :: d :: d :: .box 100600 [.own (.pair (.pair (.int .i64) (.sl (.int .i64))) .str) 100601 false, .val .bool] :: D 10 (.cell (.own .str 101700 false) :: .cell (.val (.int .i64)) :: .cell (.val (.int .i64)) :: D 50 [])
noncomputable def impl_ElementsOf_at5_at32 : (((List ((Int × (List Int)) × ByteArray)) × Bool × Unit) × (Int × (List Int) × Unit) × ByteArray × (Int × (List Int) × (List Int) × (List (Int × (ByteArray × (Int × Int)))) × Unit) × (List ByteArray) × Int × Int × Unit) → Option ((Int × (List Int) × (List Int) × (List (Int × (ByteArray × (Int × Int)))) × Unit) × ((List ((Int × (List Int)) × ByteArray)) × Bool × Unit) × (List ByteArray) × Int × Int × Unit) := fun ((v0_0, v0_1, _), (v1_0, v1_1, _), v2, (v40_0, v40_1, v40_2, v40_3, _), v55, v56, v57, _) =>
 Option.bind (slices_ContainsFunc_Element (List.take (List.length v0_0) (List.drop 0 v0_0)) (fun y0 => (impl_found_put_1 y0.1 (v1_0, (List.take (List.length v1_1) (List.drop 0 v1_1)))))) fun r1 =>
  bif r1 then
   some ((v40_0, v40_1, v40_2, v40_3, ()), ((List.take (List.length v0_0) (List.drop 0 v0_0)), v0_1, ()), (List.take (List.length v55) (List.drop 0 v55)), v56, v57, ())
  else
   bif (decide ((((List.length v0_0) : Nat) : Int) ≥ (120 : Int))) then
    some ((v40_0, v40_1, v40_2, v40_3, ()), ((List.take (List.length v0_0) (List.drop 0 v0_0)), false, ()), (List.take (List.length v55) (List.drop 0 v55)), v56, v57, ())
   else
    bif (decide ((((ByteArray.size v2) : Nat) : Int) > (120 : Int))) then
     some ((v40_0, v40_1, v40_2, v40_3, ()), ((List.take (List.length v0_0) (List.drop 0 v0_0)), false, ()), (List.take (List.length v55) (List.drop 0 v55)), v56, v57, ())
    else
     if (((0 + (List.length v0_0)) = (List.length v0_0)) ∧ ((((List.length v0_0) + (List.length (List.take 1 (List.drop 0 [((v1_0, (List.take (List.length v1_1) (List.drop 0 v1_1))), v2)])))) * 48) ≤ 140737488355328)) then
      some ((v40_0, v40_1, v40_2, v40_3, ()), ((List.take ((List.length v0_0) + (List.length (List.take 1 (List.drop 0 [((v1_0, (List.take (List.length v1_1) (List.drop 0 v1_1))), v2)])))) (List.drop 0 ((List.drop 0 v0_0) ++ (List.take 1 (List.drop 0 [((v1_0, (List.take (List.length v1_1) (List.drop 0 v1_1))), v2)]))))), v0_1, ()), (List.take (List.length v55) (List.drop 0 v55)), v56, v57, ())
     else
      none
theorem impl_ElementsOf_at5_at32_eq : inlStep f60.ntmps 62 32 E23_at5_at32 L23_at5_at32_0 f60.results.toList (codeOf f60) shi23_at5_at32 sho23_at5_at32 = impl_ElementsOf_at5_at32 := by kernel_rfl
noncomputable def I23_at5_at32 : CallD := ⟨f60.ntmps, shi23_at5_at32, 62, sho23_at5_at32, impl_ElementsOf_at5_at32, 0⟩
theorem I23_at5_at32_ok : InlOk prog 32 60 I23_at5_at32 := inlOk_of (tysOk_of tyl_ok) E23_at5_at32_ok (L := L23_at5_at32_0) func60 (by kernel_rfl) (c := codeOf f60) (by kernel_rfl) (codeOk_in (L := L23_at5_at32_0) (tysOk_of tyl_ok) E23_at5_at32_ok mixed (c := codeOf f60) (bs := []) (by kernel_rfl) allNil (by kernel_rfl)) (by kernel_rfl) (by kernel_rfl) impl_ElementsOf_at5_at32_eq
noncomputable def E23_at5_at52_at31 : Env := ⟨ty0, fun g => ifEq g 28 (some A28) (ifEq g 20 (some A20) (ifEq g 91 (some A91) (ifEq g 92 (some A92) (ifEq g 21 (some A21) (ifEq g 61 (some A61) (none)))))), fun _ => none, fun _ => none, fun _ => none⟩
theorem E23_at5_at52_at31_ok : FnsOk prog E23_at5_at52_at31 := (oF A28_ok func28 (oF A20_ok func20 (oF A91_ok func91 (oF A92_ok func92 (oF A21_ok func21 (oF A61_ok func61 (noFns _ _)))))))
noncomputable def L23_at5_at52_at31_0 : Nat → Option LoopD := fun _ => none
def shi23_at5_at52_at31 : List Fm := .box 100000 [.own (.pair (.pair (.int .i64) (.sl (.int .i64))) .str) 100001 false, .val .bool] :: .agg [.val (.int .i64), .own (.int .i64) 100102 false] :: .cell (.val .str) :: D 35 (.ali 100000 0 :: .cell (.val (.int .i64)) :: d :: d :: .box 104200 [.val (.int .i64), .val (.sl (.int .i64)), .val .str] :: D 78 (.fnv 59 :: D 4 (.ali 100000 0 :: D 4 (.cell (.val (.int .i64)) :: D 58 []))))
def sho23_at5_at52_at31 : List Fm := .box 100000 [.own (.pair (.pair (.int .i64) (.sl (.int .i64))) .str) 100001 false, .val .bool] :: .cell (.val (.int .i64)) :: d :: d :: .box 100400 [.val (.int .i64), .val (.sl (.int .i64)), .val .str] :: D 78 (.fnv 59 :: D 4 (.ali 100000 0 :: D 4 (.cell (.val (.int .i64)) :: D 58 [])))
noncomputable def impl_ElementsOf_at5_at52_at31 : (((List ((Int × (List Int)) × ByteArray)) × Bool × Unit) × (Int × (List Int) × Unit) × ByteArray × Int × (Int × (List Int) × ByteArray × Unit) × Int × Unit) → Option (((List ((Int × (List Int)) × ByteArray)) × Bool × Unit) × Int × (Int × (List Int) × ByteArray × Unit) × Int × Unit) := fun ((v0_0, v0_1, _), (v1_0, v1_1, _), v2, v39, (v42_0, v42_1, v42_2, _), v131, _) =>
 Option.bind (slices_ContainsFunc_Element (List.take (List.length v0_0) (List.drop 0 v0_0)) (fun y0 => (impl_found_put_1 y0.1 (v1_0, (List.take (List.length v1_1) (List.drop 0 v1_1)))))) fun r1 =>
  bif r1 then
   some (((List.take (List.length v0_0) (List.drop 0 v0_0)), v0_1, ()), v39, (v42_0, v42_1, v42_2, ()), v131, ())
  else
   bif (decide ((((List.length v0_0) : Nat) : Int) ≥ (120 : Int))) then
    some (((List.take (List.length v0_0) (List.drop 0 v0_0)), false, ()), v39, (v42_0, v42_1, v42_2, ()), v131, ())
   else
    bif (decide ((((ByteArray.size v2) : Nat) : Int) > (120 : Int))) then
     some (((List.take (List.length v0_0) (List.drop 0 v0_0)), false, ()), v39, (v42_0, v42_1, v42_2, ()), v131, ())
    else
     if (((0 + (List.length v0_0)) = (List.length v0_0)) ∧ ((((List.length v0_0) + (List.length (List.take 1 (List.drop 0 [((v1_0, (List.take (List.length v1_1) (List.drop 0 v1_1))), v2)])))) * 48) ≤ 140737488355328)) then
      some (((List.take ((List.length v0_0) + (List.length (List.take 1 (List.drop 0 [((v1_0, (List.take (List.length v1_1) (List.drop 0 v1_1))), v2)])))) (List.drop 0 ((List.drop 0 v0_0) ++ (List.take 1 (List.drop 0 [((v1_0, (List.take (List.length v1_1) (List.drop 0 v1_1))), v2)]))))), v0_1, ()), v39, (v42_0, v42_1, v42_2, ()), v131, ())
     else
      none
theorem impl_ElementsOf_at5_at52_at31_eq : inlStep f60.ntmps 82 31 E23_at5_at52_at31 L23_at5_at52_at31_0 f60.results.toList (codeOf f60) shi23_at5_at52_at31 sho23_at5_at52_at31 = impl_ElementsOf_at5_at52_at31 := by kernel_rfl
noncomputable def I23_at5_at52_at31 : CallD := ⟨f60.ntmps, shi23_at5_at52_at31, 82, sho23_at5_at52_at31, impl_ElementsOf_at5_at52_at31, 0⟩
theorem I23_at5_at52_at31_ok : InlOk prog 31 60 I23_at5_at52_at31 := inlOk_of (tysOk_of tyl_ok) E23_at5_at52_at31_ok (L := L23_at5_at52_at31_0) func60 (by kernel_rfl) (c := codeOf f60) (by kernel_rfl) (codeOk_in (L := L23_at5_at52_at31_0) (tysOk_of tyl_ok) E23_at5_at52_at31_ok mixed (c := codeOf f60) (bs := []) (by kernel_rfl) allNil (by kernel_rfl)) (by kernel_rfl) (by kernel_rfl) impl_ElementsOf_at5_at52_at31_eq
noncomputable def E23_at5_at52_at65 : Env := ⟨ty0, fun g => ifEq g 28 (some A28) (ifEq g 20 (some A20) (ifEq g 91 (some A91) (ifEq g 92 (some A92) (ifEq g 21 (some A21) (ifEq g 61 (some A61) (none)))))), fun _ => none, fun _ => none, fun _ => none⟩
theorem E23_at5_at52_at65_ok : FnsOk prog E23_at5_at52_at65 := (oF A28_ok func28 (oF A20_ok func20 (oF A91_ok func91 (oF A92_ok func92 (oF A21_ok func21 (oF A61_ok func61 (noFns _ _)))))))
noncomputable def L23_at5_at52_at65_0 : Nat → Option LoopD := fun _ => none
def shi23_at5_at52_at65 : List Fm := .box 100000 [.own (.pair (.pair (.int .i64) (.sl (.int .i64))) .str) 100001 false, .val .bool] :: .cell (.val (.pair (.int .i64) (.sl (.int .i64)))) :: .cell (.val .str) :: D 35 (.ali 100000 0 :: .cell (.val (.int .i64)) :: d :: d :: .box 104200 [.val (.int .i64), .val (.sl (.int .i64)), .val .str] :: d :: d :: .cell (.val (.int .i64)) :: .box 104600 [.val (.int .i64), .val (.sl (.int .i64)), .val .str] :: .box 104700 [.val (.int .i64), .val (.sl (.int .i64))] :: D 73 (.fnv 59 :: D 4 (.ali 100000 0 :: D 4 (.cell (.val (.int .i64)) :: D 58 []))))
def sho23_at5_at52_at65 : List Fm := .box 100000 [.own (.pair (.pair (.int .i64) (.sl (.int .i64))) .str) 100001 false, .val .bool] :: .cell (.val (.int .i64)) :: d :: d :: .box 100400 [.val (.int .i64), .val (.sl (.int .i64)), .val .str] :: d :: d :: .cell (.val (.int .i64)) :: .box 100800 [.val (.int .i64), .val (.sl (.int .i64)), .val .str] :: .box 100900 [.val (.int .i64), .val (.sl (.int .i64))] :: D 73 (.fnv 59 :: D 4 (.ali 100000 0 :: D 4 (.cell (.val (.int .i64)) :: D 58 [])))
noncomputable def impl_ElementsOf_at5_at52_at65 : (((List ((Int × (List Int)) × ByteArray)) × Bool × Unit) × (Int × (List Int)) × ByteArray × Int × (Int × (List Int) × ByteArray × Unit) × Int × (Int × (List Int) × ByteArray × Unit) × (Int × (List Int) × Unit) × Int × Unit) → Option (((List ((Int × (List Int)) × ByteArray)) × Bool × Unit) × Int × (Int × (List Int) × ByteArray × Unit) × Int × (Int × (List Int) × ByteArray × Unit) × (Int × (List Int) × Unit) × Int × Unit) := fun ((v0_0, v0_1, _), (v1_0, v1_1), v2, v39, (v42_0, v42_1, v42_2, _), v45, (v46_0, v46_1, v46_2, _), (v47_0, v47_1, _), v131, _) =>
 Option.bind (slices_ContainsFunc_Element (List.take (List.length v0_0) (List.drop 0 v0_0)) (fun y0 => (impl_found_put_1 y0.1 (v1_0, v1_1)))) fun r1 =>
  bif r1 then
   some (((List.take (List.length v0_0) (List.drop 0 v0_0)), v0_1, ()), v39, (v42_0, v42_1, v42_2, ()), v45, (v46_0, v46_1, v46_2, ()), (v47_0, v47_1, ()), v131, ())
  else
   bif (decide ((((List.length v0_0) : Nat) : Int) ≥ (120 : Int))) then
    some (((List.take (List.length v0_0) (List.drop 0 v0_0)), false, ()), v39, (v42_0, v42_1, v42_2, ()), v45, (v46_0, v46_1, v46_2, ()), (v47_0, v47_1, ()), v131, ())
   else
    bif (decide ((((ByteArray.size v2) : Nat) : Int) > (120 : Int))) then
     some (((List.take (List.length v0_0) (List.drop 0 v0_0)), false, ()), v39, (v42_0, v42_1, v42_2, ()), v45, (v46_0, v46_1, v46_2, ()), (v47_0, v47_1, ()), v131, ())
    else
     if (((0 + (List.length v0_0)) = (List.length v0_0)) ∧ ((((List.length v0_0) + (List.length (List.take 1 (List.drop 0 [((v1_0, v1_1), v2)])))) * 48) ≤ 140737488355328)) then
      some (((List.take ((List.length v0_0) + (List.length (List.take 1 (List.drop 0 [((v1_0, v1_1), v2)])))) (List.drop 0 ((List.drop 0 v0_0) ++ (List.take 1 (List.drop 0 [((v1_0, v1_1), v2)]))))), v0_1, ()), v39, (v42_0, v42_1, v42_2, ()), v45, (v46_0, v46_1, v46_2, ()), (v47_0, v47_1, ()), v131, ())
     else
      none
theorem impl_ElementsOf_at5_at52_at65_eq : inlStep f60.ntmps 82 65 E23_at5_at52_at65 L23_at5_at52_at65_0 f60.results.toList (codeOf f60) shi23_at5_at52_at65 sho23_at5_at52_at65 = impl_ElementsOf_at5_at52_at65 := by kernel_rfl
noncomputable def I23_at5_at52_at65 : CallD := ⟨f60.ntmps, shi23_at5_at52_at65, 82, sho23_at5_at52_at65, impl_ElementsOf_at5_at52_at65, 0⟩
theorem I23_at5_at52_at65_ok : InlOk prog 65 60 I23_at5_at52_at65 := inlOk_of (tysOk_of tyl_ok) E23_at5_at52_at65_ok (L := L23_at5_at52_at65_0) func60 (by kernel_rfl) (c := codeOf f60) (by kernel_rfl) (codeOk_in (L := L23_at5_at52_at65_0) (tysOk_of tyl_ok) E23_at5_at52_at65_ok mixed (c := codeOf f60) (bs := []) (by kernel_rfl) allNil (by kernel_rfl)) (by kernel_rfl) (by kernel_rfl) impl_ElementsOf_at5_at52_at65_eq
noncomputable def E23_at5_at52_at81 : Env := ⟨ty0, fun g => ifEq g 28 (some A28) (ifEq g 20 (some A20) (ifEq g 91 (some A91) (ifEq g 92 (some A92) (ifEq g 21 (some A21) (ifEq g 61 (some A61) (none)))))), fun _ => none, fun _ => none, fun _ => none⟩
theorem E23_at5_at52_at81_ok : FnsOk prog E23_at5_at52_at81 := (oF A28_ok func28 (oF A20_ok func20 (oF A91_ok func91 (oF A92_ok func92 (oF A21_ok func21 (oF A61_ok func61 (noFns _ _)))))))
noncomputable def L23_at5_at52_at81_0 : Nat → Option LoopD := fun _ => none
def shi23_at5_at52_at81 : List Fm := .box 100000 [.own (.pair (.pair (.int .i64) (.sl (.int .i64))) .str) 100001 false, .val .bool] :: .agg [.val (.int .i64), .own (.int .i64) 100102 false] :: .cell (.val .str) :: D 35 (.ali 100000 0 :: .cell (.val (.int .i64)) :: d :: d :: .box 104200 [.val (.int .i64), .val (.sl (.int .i64)), .val .str] :: d :: d :: .cell (.val (.int .i64)) :: D 75 (.fnv 59 :: D 4 (.ali 100000 0 :: D 4 (.cell (.val (.int .i64)) :: D 58 []))))
def sho23_at5_at52_at81 : List Fm := .box 100000 [.own (.pair (.pair (.int .i64) (.sl (.int .i64))) .str) 100001 false, .val .bool] :: .cell (.val (.int .i64)) :: d :: d :: .box 100400 [.val (.int .i64), .val (.sl (.int .i64)), .val .str] :: d :: d :: .cell (.val (.int .i64)) :: D 75 (.fnv 59 :: D 4 (.ali 100000 0 :: D 4 (.cell (.val (.int .i64)) :: D 58 [])))
noncomputable def impl_ElementsOf_at5_at52_at81 : (((List ((Int × (List Int)) × ByteArray)) × Bool × Unit) × (Int × (List Int) × Unit) × ByteArray × Int × (Int × (List Int) × ByteArray × Unit) × Int × Int × Unit) → Option (((List ((Int × (List Int)) × ByteArray)) × Bool × Unit) × Int × (Int × (List Int) × ByteArray × Unit) × Int × Int × Unit) := fun ((v0_0, v0_1, _), (v1_0, v1_1, _), v2, v39, (v42_0, v42_1, v42_2, _), v45, v131, _) =>
 Option.bind (slices_ContainsFunc_Element (List.take (List.length v0_0) (List.drop 0 v0_0)) (fun y0 => (impl_found_put_1 y0.1 (v1_0, (List.take (List.length v1_1) (List.drop 0 v1_1)))))) fun r1 =>
  bif r1 then
   some (((List.take (List.length v0_0) (List.drop 0 v0_0)), v0_1, ()), v39, (v42_0, v42_1, v42_2, ()), v45, v131, ())
  else
   bif (decide ((((List.length v0_0) : Nat) : Int) ≥ (120 : Int))) then
    some (((List.take (List.length v0_0) (List.drop 0 v0_0)), false, ()), v39, (v42_0, v42_1, v42_2, ()), v45, v131, ())
   else
    bif (decide ((((ByteArray.size v2) : Nat) : Int) > (120 : Int))) then
     some (((List.take (List.length v0_0) (List.drop 0 v0_0)), false, ()), v39, (v42_0, v42_1, v42_2, ()), v45, v131, ())
    else
     if (((0 + (List.length v0_0)) = (List.length v0_0)) ∧ ((((List.length v0_0) + (List.length (List.take 1 (List.drop 0 [((v1_0, (List.take (List.length v1_1) (List.drop 0 v1_1))), v2)])))) * 48) ≤ 140737488355328)) then
      some (((List.take ((List.length v0_0) + (List.length (List.take 1 (List.drop 0 [((v1_0, (List.take (List.length v1_1) (List.drop 0 v1_1))), v2)])))) (List.drop 0 ((List.drop 0 v0_0) ++ (List.take 1 (List.drop 0 [((v1_0, (List.take (List.length v1_1) (List.drop 0 v1_1))), v2)]))))), v0_1, ()), v39, (v42_0, v42_1, v42_2, ()), v45, v131, ())
     else
      none
theorem impl_ElementsOf_at5_at52_at81_eq : inlStep f60.ntmps 82 81 E23_at5_at52_at81 L23_at5_at52_at81_0 f60.results.toList (codeOf f60) shi23_at5_at52_at81 sho23_at5_at52_at81 = impl_ElementsOf_at5_at52_at81 := by kernel_rfl
noncomputable def I23_at5_at52_at81 : CallD := ⟨f60.ntmps, shi23_at5_at52_at81, 82, sho23_at5_at52_at81, impl_ElementsOf_at5_at52_at81, 0⟩
theorem I23_at5_at52_at81_ok : InlOk prog 81 60 I23_at5_at52_at81 := inlOk_of (tysOk_of tyl_ok) E23_at5_at52_at81_ok (L := L23_at5_at52_at81_0) func60 (by kernel_rfl) (c := codeOf f60) (by kernel_rfl) (codeOk_in (L := L23_at5_at52_at81_0) (tysOk_of tyl_ok) E23_at5_at52_at81_ok mixed (c := codeOf f60) (bs := []) (by kernel_rfl) allNil (by kernel_rfl)) (by kernel_rfl) (by kernel_rfl) impl_ElementsOf_at5_at52_at81_eq
noncomputable def E23_at5_at52 : Env := ⟨ty0, fun g => ifEq g 28 (some A28) (ifEq g 20 (some A20) (ifEq g 91 (some A91) (ifEq g 92 (some A92) (ifEq g 21 (some A21) (ifEq g 61 (some A61) (none)))))), fun _ => none, fun _ => none, fun d => ifI (Nat.beq d 31) (some (60, I23_at5_at52_at31)) (ifI (Nat.beq d 65) (some (60, I23_at5_at52_at65)) (ifI (Nat.beq d 81) (some (60, I23_at5_at52_at81)) (none)))⟩
theorem E23_at5_at52_ok : FnsOk prog E23_at5_at52 := (oneIl (d0 := 31) (g0 := 60) I23_at5_at52_at31_ok (oneIl (d0 := 65) (g0 := 60) I23_at5_at52_at65_ok (oneIl (d0 := 81) (g0 := 60) I23_at5_at52_at81_ok (oF A28_ok func28 (oF A20_ok func20 (oF A91_ok func91 (oF A92_ok func92 (oF A21_ok func21 (oF A61_ok func61 (noFns _ _))))))))))
noncomputable def L23_at5_at52_0 : Nat → Option LoopD := fun _ => none
def sh23_at5_at52_5 : List Fm := .box 100000 [.own (.pair (.pair (.int .i64) (.sl (.int .i64))) .str) 100001 false, .val .bool] :: .cell (.val (.int .i64)) :: d :: d :: .box 100400 [.val (.int .i64), .val (.sl (.int .i64)), .val .str] :: d :: d :: .cell (.val (.int .i64)) :: D 75 (.fnv 59 :: D 4 (.ali 100000 0 :: D 4 (.cell (.val (.int .i64)) :: D 58 [])))
def xs23_at5_at52_5 : List (Ex × List Fm) := [(.exit 0, [d, d, d, d, d, d, d, d, d, d, d, d, d, d, d, d, d, d, d, d, d, d, d, d, d, d, d, d, d, d, d, d, d, d, d, d, d, d, d, d, d, d, d, d, d, d, d, d, d, d, d, d, d, d, d, d, d, d, d, d, d, d, d, d, d, d, d, d, d, d, d, d, d, d, d, d, d, d, d, d, d, d, d, .fnv 59, d, d, d, d, .box 108800 [.own (.pair (.pair (.int .i64) (.sl (.int .i64))) .str) 108801 false, .val .bool], d, d, d, d, .cell (.val (.int .i64)), d, d, d, d, d, d, d, d, d, d, d, d, d, d, d, d, d, d, d, d, d, d, d, d, d, d, d, d, d, d, d, d, d, d, d, d, d, d, d, d, d, d, d, d, d, d, d, d, d, d, d, d, d, d, d, d, d, d])]
noncomputable def impl_ElementsOf_at5_at52_l5 : (((List ((Int × (List Int)) × ByteArray)) × Bool × Unit) × Int × (Int × (List Int) × ByteArray × Unit) × Int × Int × Unit) → Option ((((List ((Int × (List Int)) × ByteArray)) × Bool × Unit) × Int × (Int × (List Int) × ByteArray × Unit) × Int × Int × Unit) ⊕ ((((List ((Int × (List Int)) × ByteArray)) × Bool × Unit) × Int × Unit))) := fun ((v0_0, v0_1, _), v1, (v4_0, v4_1, v4_2, _), v7, v93, _) =>
 bif (decide (v7 ≤ v1)) then
  bif v0_1 then
   if (((0 : Int) ≤ v7) ∧ (v7 < (((List.length v0_0) : Nat) : Int))) then
    Option.bind (impl_MulGrades (v4_0, v4_1) ((List.getD v0_0 (0 + (Int.toNat v7)) (((0 : Int), []), (⟨Array.empty⟩ : ByteArray))).1.1, (List.getD v0_0 (0 + (Int.toNat v7)) (((0 : Int), []), (⟨Array.empty⟩ : ByteArray))).1.2)) fun ((r0, r1), r2) =>
     if (((ByteArray.size v4_2) + (ByteArray.size (List.getD v0_0 (0 + (Int.toNat v7)) (((0 : Int), []), (⟨Array.empty⟩ : ByteArray))).2)) ≤ 9223372036854775807) then
      Option.bind (impl_ElementsOf_at5_at52_at65 (((List.take (List.length v0_0) (List.drop 0 v0_0)), v0_1, ()), (r0, (List.take (List.length r1) (List.drop 0 r1))), (v4_2 ++ (List.getD v0_0 (0 + (Int.toNat v7)) (((0 : Int), []), (⟨Array.empty⟩ : ByteArray))).2), v1, (v4_0, v4_1, v4_2, ()), v7, ((List.getD v0_0 (0 + (Int.toNat v7)) (((0 : Int), []), (⟨Array.empty⟩ : ByteArray))).1.1, (List.getD v0_0 (0 + (Int.toNat v7)) (((0 : Int), []), (⟨Array.empty⟩ : ByteArray))).1.2, (List.getD v0_0 (0 + (Int.toNat v7)) (((0 : Int), []), (⟨Array.empty⟩ : ByteArray))).2, ()), (r0, (List.take (List.length r1) (List.drop 0 r1)), ()), v93, ())) fun ((r3, r4, _), r5, (r6, r7, r8, _), r9, (r10, r11, r12, _), (r13, r14, _), r15, _) =>
       Option.bind (impl_MulGrades (r10, r11) (r6, r7)) fun ((r16, r17), r18) =>
        if (((ByteArray.size r12) + (ByteArray.size r8)) ≤ 9223372036854775807) then
         Option.bind (impl_ElementsOf_at5_at52_at81 (((List.take (List.length r3) (List.drop 0 r3)), r4, ()), (r16, (List.take (List.length r17) (List.drop 0 r17)), ()), (r12 ++ r8), r5, (r6, r7, r8, ()), r9, r15, ())) fun ((r19, r20, _), r21, (r22, r23, r24, _), r25, r26, _) =>
          some (Sum.inl (((List.take (List.length r19) (List.drop 0 r19)), r20, ()), r21, (r22, r23, r24, ()), (IntKind.wrap .i64 (r25 + (1 : Int))), r26, ()))
        else
         none
     else
      none
   else
    none
  else
   some (Sum.inr (((List.take (List.length v0_0) (List.drop 0 v0_0)), v0_1, ()), v93, ()))
 else
  some (Sum.inr (((List.take (List.length v0_0) (List.drop 0 v0_0)), v0_1, ()), v93, ()))
theorem impl_ElementsOf_at5_at52_l5_eq : loopStep 82 E23_at5_at52 L23_at5_at52_0 (loopOf f59 5) sh23_at5_at52_5 xs23_at5_at52_5 = impl_ElementsOf_at5_at52_l5 := by kernel_rfl
theorem loop23_at5_at52_5 {L} (h : L 5 = some ⟨82, sh23_at5_at52_5, xs23_at5_at52_5, impl_ElementsOf_at5_at52_l5⟩) : LoopOk prog L (loopOf f59 5) := lo impl_ElementsOf_at5_at52_l5_eq E23_at5_at52_ok allNil h
noncomputable def L23_at5_at52_1 : Nat → Option LoopD := fun n => ifEq n 5 (some ⟨82, sh23_at5_at52_5, xs23_at5_at52_5, impl_ElementsOf_at5_at52_l5⟩) (L23_at5_at52_0 n)
def shi23_at5_at52 : List Fm := .box 100000 [.own (.pair (.pair (.int .i64) (.sl (.int .i64))) .str) 100001 false, .val .bool] :: .cell (.val (.int .i64)) :: D 81 (.fnv 59 :: D 4 (.ali 100000 0 :: D 4 (.cell (.val (.int .i64)) :: D 58 [])))
def sho23_at5_at52 : List Fm := d :: .fnv 59 :: D 4 (.box 100600 [.own (.pair (.pair (.int .i64) (.sl (.int .i64))) .str) 100601 false, .val .bool] :: D 4 (.cell (.val (.int .i64)) :: D 58 []))
noncomputable def impl_ElementsOf_at5_at52 : (((List ((Int × (List Int)) × ByteArray)) × Bool × Unit) × Int × Int × Unit) → Option (((List ((Int × (List Int)) × ByteArray)) × Bool × Unit) × Int × Unit) := fun ((v0_0, v0_1, _), v1, v93, _) =>
 if (((0 : Int) ≤ v1) ∧ (v1 < (((List.length v0_0) : Nat) : Int))) then
  Option.bind (impl_Stabilise ((List.getD v0_0 (0 + (Int.toNat v1)) (((0 : Int), []), (⟨Array.empty⟩ : ByteArray))).1.1, (List.getD v0_0 (0 + (Int.toNat v1)) (((0 : Int), []), (⟨Array.empty⟩ : ByteArray))).1.2)) fun ((r0, r1), r2) =>
   bif r2 then
    if (((ByteArray.size (⟨#[(40 : UInt8)]⟩ : ByteArray)) + (ByteArray.size (List.getD v0_0 (0 + (Int.toNat v1)) (((0 : Int), []), (⟨Array.empty⟩ : ByteArray))).2)) ≤ 9223372036854775807) then
     if (((ByteArray.size ((⟨#[(40 : UInt8)]⟩ : ByteArray) ++ (List.getD v0_0 (0 + (Int.toNat v1)) (((0 : Int), []), (⟨Array.empty⟩ : ByteArray))).2)) + (ByteArray.size (⟨#[(41 : UInt8), (35 : UInt8)]⟩ : ByteArray))) ≤ 9223372036854775807) then
      Option.bind (impl_ElementsOf_at5_at52_at31 (((List.take (List.length v0_0) (List.drop 0 v0_0)), v0_1, ()), (r0, (List.take (List.length r1) (List.drop 0 r1)), ()), (((⟨#[(40 : UInt8)]⟩ : ByteArray) ++ (List.getD v0_0 (0 + (Int.toNat v1)) (((0 : Int), []), (⟨Array.empty⟩ : ByteArray))).2) ++ (⟨#[(41 : UInt8), (35 : UInt8)]⟩ : ByteArray)), v1, ((List.getD v0_0 (0 + (Int.toNat v1)) (((0 : Int), []), (⟨Array.empty⟩ : ByteArray))).1.1, (List.getD v0_0 (0 + (Int.toNat v1)) (((0 : Int), []), (⟨Array.empty⟩ : ByteArray))).1.2, (List.getD v0_0 (0 + (Int.toNat v1)) (((0 : Int), []), (⟨Array.empty⟩ : ByteArray))).2, ()), v93, ())) fun ((r3, r4, _), r5, (r6, r7, r8, _), r9, _) =>
       Option.bind (loopF impl_ElementsOf_at5_at52_l5 (((List.take (List.length r3) (List.drop 0 r3)), r4, ()), r5, (r6, r7, r8, ()), (0 : Int), r9, ())) fun ((r10, r11, _), r12, _) =>
        some (((List.take (List.length r10) (List.drop 0 r10)), r11, ()), r12, ())
     else
      none
    else
     none
   else
    Option.bind (loopF impl_ElementsOf_at5_at52_l5 (((List.take (List.length v0_0) (List.drop 0 v0_0)), v0_1, ()), v1, ((List.getD v0_0 (0 + (Int.toNat v1)) (((0 : Int), []), (⟨Array.empty⟩ : ByteArray))).1.1, (List.getD v0_0 (0 + (Int.toNat v1)) (((0 : Int), []), (⟨Array.empty⟩ : ByteArray))).1.2, (List.getD v0_0 (0 + (Int.toNat v1)) (((0 : Int), []), (⟨Array.empty⟩ : ByteArray))).2, ()), (0 : Int), v93, ())) fun ((r13, r14, _), r15, _) =>
     some (((List.take (List.length r13) (List.drop 0 r13)), r14, ()), r15, ())
 else
  none
theorem impl_ElementsOf_at5_at52_eq : inlStep f59.ntmps 62 52 E23_at5_at52 L23_at5_at52_1 f59.results.toList (codeOf f59) shi23_at5_at52 sho23_at5_at52 = impl_ElementsOf_at5_at52 := by kernel_rfl
noncomputable def I23_at5_at52 : CallD := ⟨f59.ntmps, shi23_at5_at52, 62, sho23_at5_at52, impl_ElementsOf_at5_at52, 0⟩
theorem I23_at5_at52_ok : InlOk prog 52 59 I23_at5_at52 := inlOk_of (tysOk_of tyl_ok) E23_at5_at52_ok (L := L23_at5_at52_1) func59 (by kernel_rfl) (c := codeOf f59) (by kernel_rfl) (codeOk_in (L := L23_at5_at52_1) (tysOk_of tyl_ok) E23_at5_at52_ok mixed (c := codeOf f59) (bs := [loopOf f59 5]) (by kernel_rfl) (allCons (loop23_at5_at52_5 rfl) allNil) (by kernel_rfl)) (by kernel_rfl) (by kernel_rfl) impl_ElementsOf_at5_at52_eq
noncomputable def E23_at5 : Env := ⟨ty0, fun g => ifEq g 28 (some A28) (ifEq g 20 (some A20) (ifEq g 91 (some A91) (ifEq g 92 (some A92) (ifEq g 21 (some A21) (ifEq g 61 (some A61) (none)))))), fun _ => none, fun _ => none, fun d => ifI (Nat.beq d 32) (some (60, I23_at5_at32)) (ifI (Nat.beq d 52) (some (59, I23_at5_at52)) (none))⟩
theorem E23_at5_ok : FnsOk prog E23_at5 := (oneIl (d0 := 32) (g0 := 60) I23_at5_at32_ok (oneIl (d0 := 52) (g0 := 59) I23_at5_at52_ok (oF A28_ok func28 (oF A20_ok func20 (oF A91_ok func91 (oF A92_ok func92 (oF A21_ok func21 (oF A61_ok func61 (noFns _ _)))))))))
noncomputable def L23_at5_0 : Nat → Option LoopD := fun _ => none
def sh23_at5_5 : List Fm := d :: .fnv 59 :: .box 100200 [.val (.int .i64), .val (.sl (.int .i64)), .val (.sl (.int .i64)), .val (.sl (.pair (.int .i64) (.pair .str (.pair (.int .i64) (.int .i64)))))] :: d :: d :: d :: .box 100600 [.own (.pair (.pair (.int .i64) (.sl (.int .i64))) .str) 100601 false, .val .bool] :: D 10 (.cell (.own .str 101700 false) :: .cell (.val (.int .i64)) :: .cell (.val (.int .i64)) :: D 50 [])
def xs23_at5_5 : List (Ex × List Fm) := [(.exit 0, [d, .fnv 59, d, d, d, d, .box 100600 [.own (.pair (.pair (.int .i64) (.sl (.int .i64))) .str) 100601 false, .val .bool], d, d, d, d, d, d, d, d, d, d, d, d, d, d, d, d, d, d, d, d, d, d, d, d, d, d, d, d, d, d, d, d, d, d, d, d, d, d, d, d, d, d, d, d, d, d, d, d, d, d, d, d, d, d, d, d, d, d, d, d, d, d, d])]
noncomputable def impl_ElementsOf_at5_l5 : ((Int × (List Int) × (List Int) × (List (Int × (ByteArray × (Int × Int)))) × Unit) × ((List ((Int × (List Int)) × ByteArray)) × Bool × Unit) × (List ByteArray) × Int × Int × Unit) → Option (((Int × (List Int) × (List Int) × (List (Int × (ByteArray × (Int × Int)))) × Unit) × ((List ((Int × (List Int)) × ByteArray)) × Bool × Unit) × (List ByteArray) × Int × Int × Unit) ⊕ ((((List ((Int × (List Int)) × ByteArray)) × Bool × Unit) × Unit))) := fun ((v2_0, v2_1, v2_2, v2_3, _), (v6_0, v6_1, _), v17, v18, v19, _) =>
 bif (decide (v19 < v18)) then
  if (((0 : Int) ≤ v19) ∧ (v19 < (((List.length v17) : Nat) : Int))) then
   Option.bind (impl_ValueOf (v2_0, v2_1, v2_2, v2_3) (List.getD v17 (0 + (Int.toNat v19)) (⟨Array.empty⟩ : ByteArray))) fun ((r0, r1), r2) =>
    Option.bind (impl_ElementsOf_at5_at32 (((List.take (List.length v6_0) (List.drop 0 v6_0)), v6_1, ()), (r0, (List.take (List.length r1) (List.drop 0 r1)), ()), (List.getD v17 (0 + (Int.toNat v19)) (⟨Array.empty⟩ : ByteArray)), (v2_0, v2_1, v2_2, v2_3, ()), (List.take (List.length v17) (List.drop 0 v17)), v18, v19, ())) fun ((r3, r4, r5, r6, _), (r7, r8, _), r9, r10, r11, _) =>
     some (Sum.inl ((r3, r4, r5, r6, ()), ((List.take (List.length r7) (List.drop 0 r7)), r8, ()), (List.take (List.length r9) (List.drop 0 r9)), r10, (IntKind.wrap .i64 (r11 + (1 : Int))), ()))
  else
   none
 else
  some (Sum.inr (((List.take (List.length v6_0) (List.drop 0 v6_0)), v6_1, ()), ()))
theorem impl_ElementsOf_at5_l5_eq : loopStep 62 E23_at5 L23_at5_0 (loopOf f58 5) sh23_at5_5 xs23_at5_5 = impl_ElementsOf_at5_l5 := by kernel_rfl
theorem loop23_at5_5 {L} (h : L 5 = some ⟨62, sh23_at5_5, xs23_at5_5, impl_ElementsOf_at5_l5⟩) : LoopOk prog L (loopOf f58 5) := lo impl_ElementsOf_at5_l5_eq E23_at5_ok allNil h
noncomputable def L23_at5_1 : Nat → Option LoopD := fun n => ifEq n 5 (some ⟨62, sh23_at5_5, xs23_at5_5, impl_ElementsOf_at5_l5⟩) (L23_at5_0 n)
def sh23_at5_11 : List Fm := d :: .fnv 59 :: D 4 (.box 100600 [.own (.pair (.pair (.int .i64) (.sl (.int .i64))) .str) 100601 false, .val .bool] :: D 4 (.cell (.val (.int .i64)) :: D 58 []))
def xs23_at5_11 : List (Ex × List Fm) := [(.exit 2, [d, d, d, d, d, d, .box 100600 [.own (.pair (.pair (.int .i64) (.sl (.int .i64))) .str) 100601 false, .val .bool], d, d, d, d, d, d, d, d, d, d, d, d, d, d, d, d, d, d, d, d, d, d, d, d, d, d, d, d, d, d, d, d, d, d, d, d, d, d, d, d, d, d, d, d, d, d, d, d, d, d, d, d, d, d, d, d, d, d, d, d, d, d, d])]
noncomputable def impl_ElementsOf_at5_l11 : (((List ((Int × (List Int)) × ByteArray)) × Bool × Unit) × Int × Unit) → Option ((((List ((Int × (List Int)) × ByteArray)) × Bool × Unit) × Int × Unit) ⊕ ((((List ((Int × (List Int)) × ByteArray)) × Bool × Unit) × Unit))) := fun ((v6_0, v6_1, _), v11, _) =>
 bif (decide (v11 < (((List.length v6_0) : Nat) : Int))) then
  bif v6_1 then
   Option.bind (impl_ElementsOf_at5_at52 (((List.take (List.length v6_0) (List.drop 0 v6_0)), v6_1, ()), v11, v11, ())) fun ((r0, r1, _), r2, _) =>
    some (Sum.inl (((List.take (List.length r0) (List.drop 0 r0)), r1, ()), (IntKind.wrap .i64 (r2 + (1 : Int))), ()))
  else
   some (Sum.inr (((List.take (List.length v6_0) (List.drop 0 v6_0)), v6_1, ()), ()))
 else
  some (Sum.inr (((List.take (List.length v6_0) (List.drop 0 v6_0)), v6_1, ()), ()))
theorem impl_ElementsOf_at5_l11_eq : loopStep 62 E23_at5 L23_at5_1 (loopOf f58 11) sh23_at5_11 xs23_at5_11 = impl_ElementsOf_at5_l11 := by kernel_rfl
theorem loop23_at5_11 {L} (h : L 11 = some ⟨62, sh23_at5_11, xs23_at5_11, impl_ElementsOf_at5_l11⟩) : LoopOk prog L (loopOf f58 11) := lo impl_ElementsOf_at5_l11_eq E23_at5_ok allNil h
noncomputable def L23_at5_2 : Nat → Option LoopD := fun n => ifEq n 11 (some ⟨62, sh23_at5_11, xs23_at5_11, impl_ElementsOf_at5_l11⟩) (L23_at5_1 n)
def shi23_at5 : List Fm := .cell (.val (.pair (.int .i64) (.pair (.sl (.int .i64)) (.pair (.sl (.int .i64)) (.sl (.pair (.int .i64) (.pair .str (.pair (.int .i64) (.int .i64))))))))) :: .fnv 59 :: D 68 []
def sho23_at5 : List Fm := D 5 (.tup [.own (.pair (.pair (.int .i64) (.sl (.int .i64))) .str) 100501 false, .val .bool] :: d :: d :: [])
noncomputable def impl_ElementsOf_at5 : ((Int × ((List Int) × ((List Int) × (List (Int × (ByteArray × (Int × Int))))))) × Unit) → Option (((List ((Int × (List Int)) × ByteArray)) × Bool × Unit) × Unit) := fun ((v0_0, v0_1, v0_2, v0_3), _) =>
 Option.bind (impl_AutomatonValid (v0_0, v0_1, v0_2, v0_3)) fun r0 =>
  bif (!r0) then
   some (([], false, ()), ())
  else
   Option.bind (loopF impl_ElementsOf_at5_l5 ((v0_0, v0_1, v0_2, v0_3, ()), ([], true, ()), (List.take 2 (List.drop 0 [(⟨#[(97 : UInt8)]⟩ : ByteArray), (⟨#[(98 : UInt8)]⟩ : ByteArray)])), ((2 : Nat) : Int), (0 : Int), ())) fun ((r1, r2, _), _) =>
    Option.bind (loopF impl_ElementsOf_at5_l11 (((List.take (List.length r1) (List.drop 0 r1)), r2, ()), (0 : Int), ())) fun ((r3, r4, _), _) =>
     bif (!r4) then
      some (([], false, ()), ())
     else
      some (((List.take (List.length r3) (List.drop 0 r3)), true, ()), ())
theorem impl_ElementsOf_at5_eq : inlStep f58.ntmps 8 5 E23_at5 L23_at5_2 f58.results.toList (codeOf f58) shi23_at5 sho23_at5 = impl_ElementsOf_at5 := by kernel_rfl
noncomputable def I23_at5 : CallD := ⟨f58.ntmps, shi23_at5, 8, sho23_at5, impl_ElementsOf_at5, 0⟩
theorem I23_at5_ok : InlOk prog 5 58 I23_at5 := inlOk_of (tysOk_of tyl_ok) E23_at5_ok (L := L23_at5_2) func58 (by kernel_rfl) (c := codeOf f58) (by kernel_rfl) (codeOk_in (L := L23_at5_2) (tysOk_of tyl_ok) E23_at5_ok mixed (c := codeOf f58) (bs := [loopOf f58 5, loopOf f58 11]) (by kernel_rfl) (allCons (loop23_at5_5 rfl) (allCons (loop23_at5_11 rfl) allNil)) (by kernel_rfl)) (by kernel_rfl) (by kernel_rfl) impl_ElementsOf_at5_eq
noncomputable def E23 : Env := ⟨ty0, fun g => ifEq g 28 (some A28) (ifEq g 20 (some A20) (ifEq g 91 (some A91) (ifEq g 92 (some A92) (ifEq g 21 (some A21) (ifEq g 61 (some A61) (none)))))), fun _ => none, fun _ => none, fun d => ifI (Nat.beq d 5) (some (58, I23_at5)) (none)⟩
theorem E23_ok : FnsOk prog E23 := (oneIl (d0 := 5) (g0 := 58) I23_at5_ok (oF A28_ok func28 (oF A20_ok func20 (oF A91_ok func91 (oF A92_ok func92 (oF A21_ok func21 (oF A61_ok func61 (noFns _ _))))))))
noncomputable def L23_0 : Nat → Option LoopD := fun _ => none
noncomputable def impl_ElementsOf : (Int × ((List Int) × ((List Int) × (List (Int × (ByteArray × (Int × Int))))))) → Option ((List ((Int × (List Int)) × ByteArray)) × Bool) := fun (a0_0, a0_1, a0_2, a0_3) =>
 Option.bind (impl_ElementsOf_at5 ((a0_0, a0_1, a0_2, a0_3), ())) fun ((r0, r1, _), _) =>
  some ((List.take (List.length r0) (List.drop 0 r0)), r1)
noncomputable def A23 : FnA := ⟨[.v (.pair (.int .i64) (.pair (.sl (.int .i64)) (.pair (.sl (.int .i64)) (.sl (.pair (.int .i64) (.pair .str (.pair (.int .i64) (.int .i64))))))))], true, [.sl (.pair (.pair (.int .i64) (.sl (.int .i64))) .str), .bool], fun x => impl_ElementsOf x.1⟩
theorem impl_ElementsOf_eq : fnF E23 L23_0 [.v (.pair (.int .i64) (.pair (.sl (.int .i64)) (.pair (.sl (.int .i64)) (.sl (.pair (.int .i64) (.pair .str (.pair (.int .i64) (.int .i64))))))))] true [.sl (.pair (.pair (.int .i64) (.sl (.int .i64))) .str), .bool] f23.ntmps f23.results.toList (codeOf f23) = fun x => impl_ElementsOf x.1 := by kernel_rfl
theorem A23_ok : FnOk prog 23 A23 := fo impl_ElementsOf_eq func23 E23_ok allNil
/-! impl.GradeBetween -/
noncomputable def E40 : Env := ⟨ty0, fun g => ifEq g 28 (some A28) (ifEq g 78 (some A78) (ifEq g 57 (some A57) (none))), fun _ => none, fun _ => none, fun _ => none⟩
theorem E40_ok : FnsOk prog E40 := (oF A28_ok func28 (oF A78_ok func78 (oF A57_ok func57 (noFns _ _))))
noncomputable def L40_0 : Nat → Option LoopD := fun _ => none
def sh40_8 : List Fm := d :: d :: .box 100200 [.val (.int .i64), .val (.sl (.int .i64)), .val (.sl (.int .i64)), .val (.sl (.pair (.int .i64) (.pair .str (.pair (.int .i64) (.int .i64)))))] :: .box 100300 [.val (.int .i64), .val (.sl (.int .i64))] :: d :: .cell (.val (.int .i64)) :: d :: .cell (.val (.int .i64)) :: D 18 (.cell (.val (.sl (.int .i64))) :: .cell (.val (.int .i64)) :: .cell (.val (.int .i64)) :: D 4 (.cell (.val (.sl (.int .i64))) :: .cell (.val (.int .i64)) :: .cell (.val (.int .i64)) :: D 12 []))
def xs40_8 : List (Ex × List Fm) := [(.exit 2, [d, d, .box 100200 [.val (.int .i64), .val (.sl (.int .i64)), .val (.sl (.int .i64)), .val (.sl (.pair (.int .i64) (.pair .str (.pair (.int .i64) (.int .i64)))))], .box 100300 [.val (.int .i64), .val (.sl (.int .i64))], d, .cell (.val (.int .i64)), d, d, d, d, d, d, d, d, d, d, d, d, d, d, d, d, d, d, d, d, .cell (.val (.sl (.int .i64))), .cell (.val (.int .i64)), .cell (.val (.int .i64)), d, d, d, d, d, d, d, d, d, d, d, d, d, d, d, d, d, d, d])]
noncomputable def impl_GradeBetween_l8 : ((Int × (List Int) × (List Int) × (List (Int × (ByteArray × (Int × Int)))) × Unit) × (Int × (List Int) × Unit) × Int × Int × (List Int) × Int × Int × (List Int) × Int × Int × Unit) → Option (((Int × (List Int) × (List Int) × (List (Int × (ByteArray × (Int × Int)))) × Unit) × (Int × (List Int) × Unit) × Int × Int × (List Int) × Int × Int × (List Int) × Int × Int × Unit) ⊕ (((Int × (List Int) × (List Int) × (List (Int × (ByteArray × (Int × Int)))) × Unit) × (Int × (List Int) × Unit) × Int × (List Int) × Int × Int × Unit))) := fun ((v2_0, v2_1, v2_2, v2_3, _), (v3_0, v3_1, _), v5, v7, v26, v27, v28, v33, v34, v35, _) =>
 bif (decide (v35 < v34)) then
  if (((0 : Int) ≤ v35) ∧ (v35 < (((List.length v33) : Nat) : Int))) then
   Option.bind (impl_Matrix_at (v3_0, v3_1) v7 (List.getD v33 (Int.toNat v35) (0 : Int))) fun r0 =>
    some (Sum.inl ((v2_0, v2_1, v2_2, v2_3, ()), (v3_0, v3_1, ()), (if (r0 < v5) then r0 else v5), v7, v26, v27, v28, v33, v34, (IntKind.wrap .i64 (v35 + (1 : Int))), ()))
  else
   none
 else
  some (Sum.inr ((v2_0, v2_1, v2_2, v2_3, ()), (v3_0, v3_1, ()), v5, v26, v27, v28, ()))
theorem impl_GradeBetween_l8_eq : loopStep 48 E40 L40_0 (loopOf f40 8) sh40_8 xs40_8 = impl_GradeBetween_l8 := by kernel_rfl
theorem loop40_8 {L} (h : L 8 = some ⟨48, sh40_8, xs40_8, impl_GradeBetween_l8⟩) : LoopOk prog L (loopOf f40 8) := lo impl_GradeBetween_l8_eq E40_ok allNil h
noncomputable def L40_1 : Nat → Option LoopD := fun n => ifEq n 8 (some ⟨48, sh40_8, xs40_8, impl_GradeBetween_l8⟩) (L40_0 n)
def sh40_5 : List Fm := d :: d :: .box 100200 [.val (.int .i64), .val (.sl (.int .i64)), .val (.sl (.int .i64)), .val (.sl (.pair (.int .i64) (.pair .str (.pair (.int .i64) (.int .i64)))))] :: .box 100300 [.val (.int .i64), .val (.sl (.int .i64))] :: d :: .cell (.val (.int .i64)) :: D 20 (.cell (.val (.sl (.int .i64))) :: .cell (.val (.int .i64)) :: .cell (.val (.int .i64)) :: D 19 [])
def xs40_5 : List (Ex × List Fm) := [(.exit 0, (D 5 (.cell (.val (.int .i64)) :: D 42 [])))]
noncomputable def impl_GradeBetween_l5 : ((Int × (List Int) × (List Int) × (List (Int × (ByteArray × (Int × Int)))) × Unit) × (Int × (List Int) × Unit) × Int × (List Int) × Int × Int × Unit) → Option (((Int × (List Int) × (List Int) × (List (Int × (ByteArray × (Int × Int)))) × Unit) × (Int × (List Int) × Unit) × Int × (List Int) × Int × Int × Unit) ⊕ ((Int × Unit))) := fun ((v2_0, v2_1, v2_2, v2_3, _), (v3_0, v3_1, _), v5, v26, v27, v28, _) =>
 bif (decide (v28 < v27)) then
  if (((0 : Int) ≤ v28) ∧ (v28 < (((List.length v26) : Nat) : Int))) then
   Option.bind (loopF impl_GradeBetween_l8 ((v2_0, v2_1, v2_2, v2_3, ()), (v3_0, v3_1, ()), v5, (List.getD v26 (Int.toNat v28) (0 : Int)), v26, v27, v28, v2_2, (((List.length v2_2) : Nat) : Int), (0 : Int), ())) fun ((r0, r1, r2, r3, _), (r4, r5, _), r6, r7, r8, r9, _) =>
    some (Sum.inl ((r0, r1, r2, r3, ()), (r4, r5, ()), r6, r7, r8, (IntKind.wrap .i64 (r9 + (1 : Int))), ()))
  else
   none
 else
  some (Sum.inr (v5, ()))
theorem impl_GradeBetween_l5_eq : loopStep 48 E40 L40_1 (loopOf f40 5) sh40_5 xs40_5 = impl_GradeBetween_l5 := by kernel_rfl
theorem loop40_5 {L} (h : L 5 = some ⟨48, sh40_5, xs40_5, impl_GradeBetween_l5⟩) : LoopOk prog L (loopOf f40 5) := lo impl_GradeBetween_l5_eq E40_ok (allCons (loop40_8 rfl) allNil) h
noncomputable def L40_2 : Nat → Option LoopD := fun n => ifEq n 5 (some ⟨48, sh40_5, xs40_5, impl_GradeBetween_l5⟩) (L40_1 n)
noncomputable def impl_GradeBetween : (Int × ((List Int) × ((List Int) × (List (Int × (ByteArray × (Int × Int))))))) → (Int × (List Int)) → Option (Int) := fun (a0_0, a0_1, a0_2, a0_3) (a1_0, a1_1) =>
 Option.bind (impl_AutomatonValid (a0_0, a0_1, a0_2, a0_3)) fun r0 =>
  bif (!r0) then
   some (-1 : Int)
  else
   Option.bind (impl_GradesValid (a1_0, a1_1)) fun r1 =>
    bif (!r1) then
     some (-1 : Int)
    else
     bif (a1_0 != a0_0) then
      some (-1 : Int)
     else
      Option.bind (loopF impl_GradeBetween_l5 ((a0_0, a0_1, a0_2, a0_3, ()), (a1_0, a1_1, ()), (3 : Int), a0_1, (((List.length a0_1) : Nat) : Int), (0 : Int), ())) fun (r2, _) =>
       some r2
noncomputable def A40 : FnA := ⟨[.v (.pair (.int .i64) (.pair (.sl (.int .i64)) (.pair (.sl (.int .i64)) (.sl (.pair (.int .i64) (.pair .str (.pair (.int .i64) (.int .i64)))))))), .v (.pair (.int .i64) (.sl (.int .i64)))], true, [.int .i64], fun x => impl_GradeBetween x.1 x.2.1⟩
theorem impl_GradeBetween_eq : fnF E40 L40_2 [.v (.pair (.int .i64) (.pair (.sl (.int .i64)) (.pair (.sl (.int .i64)) (.sl (.pair (.int .i64) (.pair .str (.pair (.int .i64) (.int .i64)))))))), .v (.pair (.int .i64) (.sl (.int .i64)))] true [.int .i64] f40.ntmps f40.results.toList (codeOf f40) = fun x => impl_GradeBetween x.1 x.2.1 := by kernel_rfl
theorem A40_ok : FnOk prog 40 A40 := fo impl_GradeBetween_eq func40 E40_ok (allCons (loop40_5 rfl) allNil)
/-! impl.GradesIn -/
def shi10_at34 : List Fm := .cell (.own (.int .i64) 100000 false) :: D 96 []
def sho10_at34 : List Fm := D 34 (.cell (.own (.int .i64) 103400 false) :: d :: [])
def shr10_at34 : List Fm := D 96 []
noncomputable def impl_GradesIn_at34 : ((List Int) × Unit) → Option ((List Int) × Unit) := fun (v0, _) =>
 Option.bind (compI v0) fun (r0, r1) =>
  some ((List.take r1 (List.drop 0 r0)), ())
theorem impl_GradesIn_at34_eq : turnStep 61 36 34 100000 (.int .i64) shr10_at34 sho10_at34 compI = impl_GradesIn_at34 := by kernel_rfl
noncomputable def I10_at34 : CallD := ⟨61, shi10_at34, 36, sho10_at34, impl_GradesIn_at34, 1⟩
theorem I10_at34_ok : InlOk prog 34 43 I10_at34 := compI_turned (rest := shr10_at34) (by kernel_rfl) (by kernel_rfl) impl_GradesIn_at34_eq
noncomputable def E10_at35 : Env := ⟨ty0, fun g => ifEq g 23 (some A23) (ifEq g 40 (some A40) (none)), fun g => ifEq g 41 (some A41) (none), fun _ => none, fun _ => none⟩
theorem E10_at35_ok : FnsOk prog E10_at35 := (oF A23_ok func23 (oF A40_ok func40 (oneMs A41_ok (by kernel_rfl) func41 (by kernel_rfl) (by kernel_rfl) (noFns _ _))))
noncomputable def L10_at35_0 : Nat → Option LoopD := fun _ => none
def shi10_at35 : List Fm := .cell (.own (.int .i64) 100000 false) :: D 44 []
def sho10_at35 : List Fm := D 35 (.cell (.own (.int .i64) 103500 false) :: [])
noncomputable def impl_GradesIn_at35 : ((List Int) × Unit) → Option ((List Int) × Unit) := fun (v0, _) =>
 if (((0 : Int) ≤ (((List.length v0) : Nat) : Int)) ∧ (((((List.length v0) : Nat) : Int) ≤ (((List.length v0) : Nat) : Int)) ∧ ((((List.length v0) : Nat) : Int) = (((List.length v0) : Nat) : Int)))) then
  some ((List.take (Int.toNat (((List.length v0) : Nat) : Int)) (List.drop 0 v0)), ())
 else
  none
theorem impl_GradesIn_at35_eq : inlStep f42.ntmps 36 35 E10_at35 L10_at35_0 f42.results.toList (codeOf f42) shi10_at35 sho10_at35 = impl_GradesIn_at35 := by kernel_rfl
noncomputable def I10_at35 : CallD := ⟨f42.ntmps, shi10_at35, 36, sho10_at35, impl_GradesIn_at35, 0⟩
theorem I10_at35_ok : InlOk prog 35 42 I10_at35 := inlOk_of (tysOk_of tyl_ok) E10_at35_ok (L := L10_at35_0) func42 (by kernel_rfl) (c := codeOf f42) (by kernel_rfl) (codeOk_in (L := L10_at35_0) (tysOk_of tyl_ok) E10_at35_ok mixed (c := codeOf f42) (bs := []) (by kernel_rfl) allNil (by kernel_rfl)) (by kernel_rfl) (by kernel_rfl) impl_GradesIn_at35_eq
noncomputable def E10 : Env := ⟨ty0, fun g => ifEq g 23 (some A23) (ifEq g 40 (some A40) (none)), fun g => ifEq g 41 (some A41) (none), fun _ => none, fun d => ifI (Nat.beq d 34) (some (43, I10_at34)) (ifI (Nat.beq d 35) (some (42, I10_at35)) (none))⟩
theorem E10_ok : FnsOk prog E10 := (oneIl (d0 := 34) (g0 := 43) I10_at34_ok (oneIl (d0 := 35) (g0 := 42) I10_at35_ok (oF A23_ok func23 (oF A40_ok func40 (oneMs A41_ok (by kernel_rfl) func41 (by kernel_rfl) (by kernel_rfl) (noFns _ _))))))
noncomputable def L10_0 : Nat → Option LoopD := fun _ => none
def sh10_6 : List Fm := d :: .box 100100 [.val (.int .i64), .val (.sl (.int .i64)), .val (.sl (.int .i64)), .val (.sl (.pair (.int .i64) (.pair .str (.pair (.int .i64) (.int .i64)))))] :: D 4 (.cell (.own (.int .i64) 100600 false) :: D 10 (.cell (.own (.pair (.pair (.int .i64) (.sl (.int .i64))) .str) 101700 false) :: .cell (.val (.int .i64)) :: .cell (.val (.int .i64)) :: D 16 []))
def xs10_6 : List (Ex × List Fm) := [(.exit 0, (D 6 (.cell (.own (.int .i64) 100600 false) :: D 29 [])))]
noncomputable def impl_GradesIn_l6 : ((Int × (List Int) × (List Int) × (List (Int × (ByteArray × (Int × Int)))) × Unit) × (List Int) × (List ((Int × (List Int)) × ByteArray)) × Int × Int × Unit) → Option (((Int × (List Int) × (List Int) × (List (Int × (ByteArray × (Int × Int)))) × Unit) × (List Int) × (List ((Int × (List Int)) × ByteArray)) × Int × Int × Unit) ⊕ (((List Int) × Unit))) := fun ((v1_0, v1_1, v1_2, v1_3, _), v6, v17, v18, v19, _) =>
 bif (decide (v19 < v18)) then
  if (((0 : Int) ≤ v19) ∧ (v19 < (((List.length v17) : Nat) : Int))) then
   Option.bind (impl_GradeBetween (v1_0, v1_1, v1_2, v1_3) ((List.getD v17 (0 + (Int.toNat v19)) (((0 : Int), []), (⟨Array.empty⟩ : ByteArray))).1.1, (List.getD v17 (0 + (Int.toNat v19)) (((0 : Int), []), (⟨Array.empty⟩ : ByteArray))).1.2)) fun r0 =>
    if (((0 + (List.length v6)) = (List.length v6)) ∧ ((((List.length v6) + (List.length (List.take 1 (List.drop 0 [r0])))) * 8) ≤ 140737488355328)) then
     some (Sum.inl ((v1_0, v1_1, v1_2, v1_3, ()), (List.take ((List.length v6) + (List.length (List.take 1 (List.drop 0 [r0])))) (List.drop 0 ((List.drop 0 v6) ++ (List.take 1 (List.drop 0 [r0]))))), (List.take (List.length v17) (List.drop 0 v17)), v18, (IntKind.wrap .i64 (v19 + (1 : Int))), ()))
    else
     none
  else
   none
 else
  some (Sum.inr ((List.take (List.length v6) (List.drop 0 v6)), ()))
theorem impl_GradesIn_l6_eq : loopStep 36 E10 L10_0 (loopOf f10 6) sh10_6 xs10_6 = impl_GradesIn_l6 := by kernel_rfl
theorem loop10_6 {L} (h : L 6 = some ⟨36, sh10_6, xs10_6, impl_GradesIn_l6⟩) : LoopOk prog L (loopOf f10 6) := lo impl_GradesIn_l6_eq E10_ok allNil h
noncomputable def L10_1 : Nat → Option LoopD := fun n => ifEq n 6 (some ⟨36, sh10_6, xs10_6, impl_GradesIn_l6⟩) (L10_0 n)
noncomputable def impl_GradesIn : (Int × ((List Int) × ((List Int) × (List (Int × (ByteArray × (Int × Int))))))) → Option ((List Int) × Bool) := fun (a0_0, a0_1, a0_2, a0_3) =>
 Option.bind (impl_ElementsOf (a0_0, a0_1, a0_2, a0_3)) fun (r0, r1) =>
  bif (!r1) then
   some ([], false)
  else
   Option.bind (loopF impl_GradesIn_l6 ((a0_0, a0_1, a0_2, a0_3, ()), (List.take 0 (List.drop 0 [])), (List.take (List.length r0) (List.drop 0 r0)), (((List.length r0) : Nat) : Int), (0 : Int), ())) fun (r2, _) =>
    if ((List.length r2) = (List.length r2)) then
     Option.bind (slices_Sort r2) fun (_, r3, _) =>
      Option.bind (impl_GradesIn_at34 ((List.take (List.length r2) (List.drop 0 r3)), ())) fun (r4, _) =>
       Option.bind (impl_GradesIn_at35 ((List.take (List.length r4) (List.drop 0 r4)), ())) fun (r5, _) =>
        some ((List.take (List.length r5) (List.drop 0 r5)), true)
    else
     none
noncomputable def A10 : FnA := ⟨[.v (.pair (.int .i64) (.pair (.sl (.int .i64)) (.pair (.sl (.int .i64)) (.sl (.pair (.int .i64) (.pair .str (.pair (.int .i64) (.int .i64))))))))], true, [.sl (.int .i64), .bool], fun x => impl_GradesIn x.1⟩
theorem impl_GradesIn_eq : fnF E10 L10_1 [.v (.pair (.int .i64) (.pair (.sl (.int .i64)) (.pair (.sl (.int .i64)) (.sl (.pair (.int .i64) (.pair .str (.pair (.int .i64) (.int .i64))))))))] true [.sl (.int .i64), .bool] f10.ntmps f10.results.toList (codeOf f10) = fun x => impl_GradesIn x.1 := by kernel_rfl
theorem A10_ok : FnOk prog 10 A10 := fo impl_GradesIn_eq func10 E10_ok (allCons (loop10_6 rfl) allNil)
/-! slices.Index[[]int,int] -/
noncomputable def E98 : Env := ⟨ty0, fun _ => none, fun _ => none, fun _ => none, fun _ => none⟩
theorem E98_ok : FnsOk prog E98 := (noFns _ _)
noncomputable def L98_0 : Nat → Option LoopD := fun _ => none
def sh98_2 : List Fm := .cell (.val (.sl (.int .i64))) :: .cell (.val (.int .i64)) :: D 5 (.cell (.val (.int .i64)) :: .cell (.val (.int .i64)) :: D 10 [])
def xs98_2 : List (Ex × List Fm) := [(.ret, (D 4 (.cell (.val (.int .i64)) :: D 14 []))), (.exit 0, (D 19 []))]
noncomputable def slices_Index_l2 : ((List Int) × Int × Int × Int × Unit) → Option (((List Int) × Int × Int × Int × Unit) ⊕ ((Int × Unit) ⊕ (Unit))) := fun (v0, v1, v7, v8, _) =>
 bif (decide (v8 < v7)) then
  if (((0 : Int) ≤ v8) ∧ (v8 < (((List.length v0) : Nat) : Int))) then
   bif (v1 == (List.getD v0 (Int.toNat v8) (0 : Int))) then
    some (Sum.inr (Sum.inl (v8, ())))
   else
    some (Sum.inl (v0, v1, v7, (IntKind.wrap .i64 (v8 + (1 : Int))), ()))
  else
   none
 else
  some (Sum.inr (Sum.inr ()))
theorem slices_Index_l2_eq : loopStep 19 E98 L98_0 (loopOf f98 2) sh98_2 xs98_2 = slices_Index_l2 := by kernel_rfl
theorem loop98_2 {L} (h : L 2 = some ⟨19, sh98_2, xs98_2, slices_Index_l2⟩) : LoopOk prog L (loopOf f98 2) := lo slices_Index_l2_eq E98_ok allNil h
noncomputable def L98_1 : Nat → Option LoopD := fun n => ifEq n 2 (some ⟨19, sh98_2, xs98_2, slices_Index_l2⟩) (L98_0 n)
noncomputable def slices_Index : (List Int) → Int → Option (Int) := fun a0 a1 =>
 Option.bind (loopF slices_Index_l2 (a0, a1, (((List.length a0) : Nat) : Int), (0 : Int), ())) fun r0 =>
  (match r0 with
  | .inl (d1, _) =>
    some d1
  | .inr _ =>
    some (-1 : Int))
noncomputable def A98 : FnA := ⟨[.v (.sl (.int .i64)), .v (.int .i64)], true, [.int .i64], fun x => slices_Index x.1 x.2.1⟩
theorem slices_Index_eq : fnF E98 L98_1 [.v (.sl (.int .i64)), .v (.int .i64)] true [.int .i64] f98.ntmps f98.results.toList (codeOf f98) = fun x => slices_Index x.1 x.2.1 := by kernel_rfl
theorem A98_ok : FnOk prog 98 A98 := fo slices_Index_eq func98 E98_ok (allCons (loop98_2 rfl) allNil)
/-! slices.Contains[[]int,int] -/
noncomputable def E65 : Env := ⟨ty0, fun g => ifEq g 98 (some A98) (none), fun _ => none, fun _ => none, fun _ => none⟩
theorem E65_ok : FnsOk prog E65 := (oF A98_ok func98 (noFns _ _))
noncomputable def L65_0 : Nat → Option LoopD := fun _ => none
noncomputable def slices_Contains : (List Int) → Int → Option (Bool) := fun a0 a1 =>
 Option.bind (slices_Index a0 a1) fun r0 =>
  some (decide (r0 ≥ (0 : Int)))
noncomputable def A65 : FnA := ⟨[.v (.sl (.int .i64)), .v (.int .i64)], true, [.bool], fun x => slices_Contains x.1 x.2.1⟩
theorem slices_Contains_eq : fnF E65 L65_0 [.v (.sl (.int .i64)), .v (.int .i64)] true [.bool] f65.ntmps f65.results.toList (codeOf f65) = fun x => slices_Contains x.1 x.2.1 := by kernel_rfl
theorem A65_ok : FnOk prog 65 A65 := fo slices_Contains_eq func65 E65_ok allNil
/-! impl.WordValid -/
noncomputable def E70 : Env := ⟨ty0, fun _ => none, fun _ => none, fun _ => none, fun _ => none⟩
theorem E70_ok : FnsOk prog E70 := (noFns _ _)
noncomputable def L70_0 : Nat → Option LoopD := fun _ => none
def sh70_2 : List Fm := .cell (.val .str) :: D 4 (.cell (.val (.int .i64)) :: .cell (.val (.int .i64)) :: D 16 [])
def xs70_2 : List (Ex × List Fm) := [(.ret, (d :: d :: .cell (.val .bool) :: D 20 [])), (.exit 0, (.cell (.val .str) :: D 22 []))]
noncomputable def impl_WordValid_l2 : (ByteArray × Int × Int × Unit) → Option ((ByteArray × Int × Int × Unit) ⊕ ((Bool × Unit) ⊕ (ByteArray × Unit))) := fun (v0, v5, v6, _) =>
 bif (decide (v6 < v5)) then
  if (((0 : Int) ≤ v6) ∧ (v6 < (((ByteArray.size v0) : Nat) : Int))) then
   bif ((((UInt8.toNat (Array.getD (ByteArray.data v0) (Int.toNat v6) (0 : UInt8))) : Nat) : Int) != (97 : Int)) then
    if (((0 : Int) ≤ v6) ∧ (v6 < (((ByteArray.size v0) : Nat) : Int))) then
     bif ((((UInt8.toNat (Array.getD (ByteArray.data v0) (Int.toNat v6) (0 : UInt8))) : Nat) : Int) != (98 : Int)) then
      some (Sum.inr (Sum.inl (false, ())))
     else
      some (Sum.inl (v0, v5, (IntKind.wrap .i64 (v6 + (1 : Int))), ()))
    else
     none
   else
    some (Sum.inl (v0, v5, (IntKind.wrap .i64 (v6 + (1 : Int))), ()))
  else
   none
 else
  some (Sum.inr (Sum.inr (v0, ())))
theorem impl_WordValid_l2_eq : loopStep 23 E70 L70_0 (loopOf f70 2) sh70_2 xs70_2 = impl_WordValid_l2 := by kernel_rfl
theorem loop70_2 {L} (h : L 2 = some ⟨23, sh70_2, xs70_2, impl_WordValid_l2⟩) : LoopOk prog L (loopOf f70 2) := lo impl_WordValid_l2_eq E70_ok allNil h
noncomputable def L70_1 : Nat → Option LoopD := fun n => ifEq n 2 (some ⟨23, sh70_2, xs70_2, impl_WordValid_l2⟩) (L70_0 n)
noncomputable def impl_WordValid : ByteArray → Option (Bool) := fun a0 =>
 Option.bind (loopF impl_WordValid_l2 (a0, (((ByteArray.size a0) : Nat) : Int), (0 : Int), ())) fun r0 =>
  (match r0 with
  | .inl (d1, _) =>
    some d1
  | .inr (d2, _) =>
    some (decide ((((ByteArray.size d2) : Nat) : Int) ≤ (1000 : Int))))
noncomputable def A70 : FnA := ⟨[.v .str], true, [.bool], fun x => impl_WordValid x.1⟩
theorem impl_WordValid_eq : fnF E70 L70_1 [.v .str] true [.bool] f70.ntmps f70.results.toList (codeOf f70) = fun x => impl_WordValid x.1 := by kernel_rfl
theorem A70_ok : FnOk prog 70 A70 := fo impl_WordValid_eq func70 E70_ok (allCons (loop70_2 rfl) allNil)
/-! math/bits.Mul64 -/
noncomputable def E147 : Env := ⟨ty0, fun _ => none, fun _ => none, fun _ => none, fun _ => none⟩
theorem E147_ok : FnsOk prog E147 := (noFns _ _)
noncomputable def L147_0 : Nat → Option LoopD := fun _ => none
noncomputable def bits_Mul64 : Int → Int → Option (Int × Int) := fun a0 a1 =>
 if ((32 : Int) < (0 : Int)) then
  none
 else
  if ((32 : Int) < (0 : Int)) then
   none
  else
   if ((32 : Int) < (0 : Int)) then
    none
   else
    if ((32 : Int) < (0 : Int)) then
     none
    else
     if ((32 : Int) < (0 : Int)) then
      none
     else
      some ((IntKind.wrap .u64 ((IntKind.wrap .u64 ((IntKind.wrap .u64 ((Int.fdiv a0 ((2 : Int) ^ (Min.min (Int.toNat (32 : Int)) (IntKind.bits .u64)))) * (Int.fdiv a1 ((2 : Int) ^ (Min.min (Int.toNat (32 : Int)) (IntKind.bits .u64)))))) + (Int.fdiv (IntKind.wrap .u64 ((IntKind.wrap .u64 ((Int.fdiv a0 ((2 : Int) ^ (Min.min (Int.toNat (32 : Int)) (IntKind.bits .u64)))) * ((((BitVec.toNat ((BitVec.ofInt (IntKind.bits .u64) a1) &&& (BitVec.ofInt (IntKind.bits .u64) (4294967295 : Int)))) % (Int.natAbs ((2 : Int) ^ (IntKind.bits .u64)))) : Nat) : Int))) + (Int.fdiv (IntKind.wrap .u64 (((((BitVec.toNat ((BitVec.ofInt (IntKind.bits .u64) a0) &&& (BitVec.ofInt (IntKind.bits .u64) (4294967295 : Int)))) % (Int.natAbs ((2 : Int) ^ (IntKind.bits .u64)))) : Nat) : Int) * ((((BitVec.toNat ((BitVec.ofInt (IntKind.bits .u64) a1) &&& (BitVec.ofInt (IntKind.bits .u64) (4294967295 : Int)))) % (Int.natAbs ((2 : Int) ^ (IntKind.bits .u64)))) : Nat) : Int))) ((2 : Int) ^ (Min.min (Int.toNat (32 : Int)) (IntKind.bits .u64)))))) ((2 : Int) ^ (Min.min (Int.toNat (32 : Int)) (IntKind.bits .u64)))))) + (Int.fdiv (IntKind.wrap .u64 (((((BitVec.toNat ((BitVec.ofInt (IntKind.bits .u64) (IntKind.wrap .u64 ((IntKind.wrap .u64 ((Int.fdiv a0 ((2 : Int) ^ (Min.min (Int.toNat (32 : Int)) (IntKind.bits .u64)))) * ((((BitVec.toNat ((BitVec.ofInt (IntKind.bits .u64) a1) &&& (BitVec.ofInt (IntKind.bits .u64) (4294967295 : Int)))) % (Int.natAbs ((2 : Int) ^ (IntKind.bits .u64)))) : Nat) : Int))) + (Int.fdiv (IntKind.wrap .u64 (((((BitVec.toNat ((BitVec.ofInt (IntKind.bits .u64) a0) &&& (BitVec.ofInt (IntKind.bits .u64) (4294967295 : Int)))) % (Int.natAbs ((2 : Int) ^ (IntKind.bits .u64)))) : Nat) : Int) * ((((BitVec.toNat ((BitVec.ofInt (IntKind.bits .u64) a1) &&& (BitVec.ofInt (IntKind.bits .u64) (4294967295 : Int)))) % (Int.natAbs ((2 : Int) ^ (IntKind.bits .u64)))) : Nat) : Int))) ((2 : Int) ^ (Min.min (Int.toNat (32 : Int)) (IntKind.bits .u64))))))) &&& (BitVec.ofInt (IntKind.bits .u64) (4294967295 : Int)))) % (Int.natAbs ((2 : Int) ^ (IntKind.bits .u64)))) : Nat) : Int) + (IntKind.wrap .u64 (((((BitVec.toNat ((BitVec.ofInt (IntKind.bits .u64) a0) &&& (BitVec.ofInt (IntKind.bits .u64) (4294967295 : Int)))) % (Int.natAbs ((2 : Int) ^ (IntKind.bits .u64)))) : Nat) : Int) * (Int.fdiv a1 ((2 : Int) ^ (Min.min (Int.toNat (32 : Int)) (IntKind.bits .u64)))))))) ((2 : Int) ^ (Min.min (Int.toNat (32 : Int)) (IntKind.bits .u64)))))), (IntKind.wrap .u64 (a0 * a1)))
noncomputable def A147 : FnA := ⟨[.v (.int .u64), .v (.int .u64)], true, [.int .u64, .int .u64], fun x => bits_Mul64 x.1 x.2.1⟩
theorem bits_Mul64_eq : fnF E147 L147_0 [.v (.int .u64), .v (.int .u64)] true [.int .u64, .int .u64] f147.ntmps f147.results.toList (codeOf f147) = fun x => bits_Mul64 x.1 x.2.1 := by kernel_rfl
theorem A147_ok : FnOk prog 147 A147 := fo bits_Mul64_eq func147 E147_ok allNil
/-! math/bits.Mul -/
noncomputable def E130 : Env := ⟨ty0, fun g => ifEq g 147 (some A147) (none), fun _ => none, fun _ => none, fun _ => none⟩
theorem E130_ok : FnsOk prog E130 := (oF A147_ok func147 (noFns _ _))
noncomputable def L130_0 : Nat → Option LoopD := fun _ => none
noncomputable def bits_Mul : Int → Int → Option (Int × Int) := fun a0 a1 =>
 Option.bind (bits_Mul64 a0 a1) fun (r0, r1) =>
  some (r0, r1)
noncomputable def A130 : FnA := ⟨[.v (.int .u64), .v (.int .u64)], true, [.int .u64, .int .u64], fun x => bits_Mul x.1 x.2.1⟩
theorem bits_Mul_eq : fnF E130 L130_0 [.v (.int .u64), .v (.int .u64)] true [.int .u64, .int .u64] f130.ntmps f130.results.toList (codeOf f130) = fun x => bits_Mul x.1 x.2.1 := by kernel_rfl
theorem A130_ok : FnOk prog 130 A130 := fo bits_Mul_eq func130 E130_ok allNil
/-! slices.Repeat[[]int,int] -/
noncomputable def E102 : Env := ⟨ty0, fun g => ifEq g 130 (some A130) (none), fun _ => none, fun _ => none, fun _ => none⟩
theorem E102_ok : FnsOk prog E102 := (oF A130_ok func130 (noFns _ _))
noncomputable def L102_0 : Nat → Option LoopD := fun _ => none
def sh102_8 : List Fm := D 7 (.cell (.own (.int .i64) 100700 false) :: .cell (.val (.int .i64)) :: D 39 [])
def xs102_8 : List (Ex × List Fm) := [(.exit 0, (D 7 (.cell (.own (.int .i64) 100700 false) :: D 40 [])))]
noncomputable def slices_Repeat_l8 : ((List Int) × Int × Unit) → Option (((List Int) × Int × Unit) ⊕ (((List Int) × Unit))) := fun (v7, v8, _) =>
 bif (decide (v8 < (((List.length v7) : Nat) : Int))) then
  if (((0 : Int) ≤ v8) ∧ (v8 ≤ (((List.length v7) : Nat) : Int))) then
   if (((0 : Int) ≤ v8) ∧ (v8 ≤ (((List.length v7) : Nat) : Int))) then
    some (Sum.inl ((List.take (List.length v7) (List.drop 0 ((List.take (0 + (Int.toNat v8)) v7) ++ ((List.take ((List.length v7) - (Int.toNat v8)) (List.take ((Int.toNat v8) - 0) (List.drop (0 + 0) v7))) ++ (List.drop ((0 + (Int.toNat v8)) + (List.length (List.take ((List.length v7) - (Int.toNat v8)) (List.take ((Int.toNat v8) - 0) (List.drop (0 + 0) v7))))) v7))))), (IntKind.wrap .i64 (v8 + (((List.length (List.take ((List.length v7) - (Int.toNat v8)) (List.take ((Int.toNat v8) - 0) (List.drop (0 + 0) v7)))) : Nat) : Int))), ()))
   else
    none
  else
   none
 else
  some (Sum.inr ((List.take (List.length v7) (List.drop 0 v7)), ()))
theorem slices_Repeat_l8_eq : loopStep 48 E102 L102_0 (loopOf f102 8) sh102_8 xs102_8 = slices_Repeat_l8 := by kernel_rfl
theorem loop102_8 {L} (h : L 8 = some ⟨48, sh102_8, xs102_8, slices_Repeat_l8⟩) : LoopOk prog L (loopOf f102 8) := lo slices_Repeat_l8_eq E102_ok allNil h
noncomputable def L102_1 : Nat → Option LoopD := fun n => ifEq n 8 (some ⟨48, sh102_8, xs102_8, slices_Repeat_l8⟩) (L102_0 n)
noncomputable def slices_Repeat : (List Int) → Int → Option ((List Int)) := fun a0 a1 =>
 bif (decide (a1 < (0 : Int))) then
  none
 else
  Option.bind (bits_Mul (IntKind.wrap .u64 (((List.length a0) : Nat) : Int)) (IntKind.wrap .u64 a1)) fun (r0, r1) =>
   bif (decide (r0 > (0 : Int))) then
    none
   else
    bif (decide (r1 > (9223372036854775807 : Int))) then
     none
    else
     if (((0 : Int) ≤ (IntKind.wrap .i64 r1)) ∧ (((IntKind.wrap .i64 r1) = (IntKind.wrap .i64 r1)) ∧ (((IntKind.wrap .i64 r1) * ((8 : Nat) : Int)) ≤ (140737488355328 : Int)))) then
      Option.bind (loopF slices_Repeat_l8 ((List.take (Int.toNat (IntKind.wrap .i64 r1)) (List.drop 0 ((List.take 0 (List.replicate (Int.toNat (IntKind.wrap .i64 r1)) (0 : Int))) ++ ((List.take (Int.toNat (IntKind.wrap .i64 r1)) a0) ++ (List.drop (0 + (List.length (List.take (Int.toNat (IntKind.wrap .i64 r1)) a0))) (List.replicate (Int.toNat (IntKind.wrap .i64 r1)) (0 : Int))))))), (((List.length (List.take (Int.toNat (IntKind.wrap .i64 r1)) a0)) : Nat) : Int), ())) fun (r2, _) =>
       some (List.take (List.length r2) (List.drop 0 r2))
     else
      none
noncomputable def A102 : FnA := ⟨[.v (.sl (.int .i64)), .v (.int .i64)], true, [.sl (.int .i64)], fun x => slices_Repeat x.1 x.2.1⟩
theorem slices_Repeat_eq : fnF E102 L102_1 [.v (.sl (.int .i64)), .v (.int .i64)] true [.sl (.int .i64)] f102.ntmps f102.results.toList (codeOf f102) = fun x => slices_Repeat x.1 x.2.1 := by kernel_rfl
theorem A102_ok : FnOk prog 102 A102 := fo slices_Repeat_eq func102 E102_ok (allCons (loop102_8 rfl) allNil)
/-! impl.toEnd -/
noncomputable def E71 : Env := ⟨ty0, fun g => ifEq g 102 (some A102) (none), fun _ => none, fun _ => none, fun _ => none⟩
theorem E71_ok : FnsOk prog E71 := (oF A102_ok func102 (noFns _ _))
noncomputable def L71_0 : Nat → Option LoopD := fun _ => none
def sh71_3 : List Fm := d :: .cell (.val .str) :: .box 100200 [.val (.int .i64), .val (.sl (.int .i64)), .val (.sl (.int .i64)), .val (.sl (.pair (.int .i64) (.pair .str (.pair (.int .i64) (.int .i64)))))] :: d :: d :: .cell (.own (.int .i64) 100500 false) :: D 12 (.cell (.val (.sl (.int .i64))) :: .cell (.val (.int .i64)) :: .cell (.val (.int .i64)) :: D 60 [])
def xs71_3 : List (Ex × List Fm) := [(.exit 0, [d, .cell (.val .str), .box 100200 [.val (.int .i64), .val (.sl (.int .i64)), .val (.sl (.int .i64)), .val (.sl (.pair (.int .i64) (.pair .str (.pair (.int .i64) (.int .i64)))))], d, d, .cell (.own (.int .i64) 100500 false), d, d, d, d, d, d, d, d, d, d, d, d, d, d, d, d, d, d, d, d, d, d, d, d, d, d, d, d, d, d, d, d, d, d, d, d, d, d, d, d, d, d, d, d, d, d, d, d, d, d, d, d, d, d, d, d, d, d, d, d, d, d, d, d, d, d, d, d, d, d, d, d, d, d, d])]
noncomputable def impl_toEnd_l3 : (ByteArray × (Int × (List Int) × (List Int) × (List (Int × (ByteArray × (Int × Int)))) × Unit) × (List Int) × (List Int) × Int × Int × Unit) → Option ((ByteArray × (Int × (List Int) × (List Int) × (List (Int × (ByteArray × (Int × Int)))) × Unit) × (List Int) × (List Int) × Int × Int × Unit) ⊕ ((ByteArray × (Int × (List Int) × (List Int) × (List (Int × (ByteArray × (Int × Int)))) × Unit) × (List Int) × Unit))) := fun (v1, (v2_0, v2_1, v2_2, v2_3, _), v5, v18, v19, v20, _) =>
 bif (decide (v20 < v19)) then
  if (((0 : Int) ≤ v20) ∧ (v20 < (((List.length v18) : Nat) : Int))) then
   if (((0 : Int) ≤ (List.getD v18 (Int.toNat v20) (0 : Int))) ∧ ((List.getD v18 (Int.toNat v20) (0 : Int)) < (((List.length v5) : Nat) : Int))) then
    some (Sum.inl (v1, (v2_0, v2_1, v2_2, v2_3, ()), (List.take (List.length v5) (List.drop 0 (List.set v5 (0 + (Int.toNat (List.getD v18 (Int.toNat v20) (0 : Int)))) (0 : Int)))), v18, v19, (IntKind.wrap .i64 (v20 + (1 : Int))), ()))
   else
    none
  else
   none
 else
  some (Sum.inr (v1, (v2_0, v2_1, v2_2, v2_3, ()), (List.take (List.length v5) (List.drop 0 v5)), ()))
theorem impl_toEnd_l3_eq : loopStep 81 E71 L71_0 (loopOf f71 3) sh71_3 xs71_3 = impl_toEnd_l3 := by kernel_rfl
theorem loop71_3 {L} (h : L 3 = some ⟨81, sh71_3, xs71_3, impl_toEnd_l3⟩) : LoopOk prog L (loopOf f71 3) := lo impl_toEnd_l3_eq E71_ok allNil h
noncomputable def L71_1 : Nat → Option LoopD := fun n => ifEq n 3 (some ⟨81, sh71_3, xs71_3, impl_toEnd_l3⟩) (L71_0 n)
def sh71_13 : List Fm := d :: .cell (.val .str) :: .box 100200 [.val (.int .i64), .val (.sl (.int .i64)), .val (.sl (.int .i64)), .val (.sl (.pair (.int .i64) (.pair .str (.pair (.int .i64) (.int .i64)))))] :: d :: d :: .cell (.val (.sl (.int .i64))) :: d :: d :: .cell (.own (.sl (.int .i64)) 100800 false) :: .cell (.val (.int .i64)) :: .cell (.own (.int .i64) 101000 false) :: D 31 (.cell (.val (.sl (.pair (.int .i64) (.pair .str (.pair (.int .i64) (.int .i64)))))) :: .cell (.val (.int .i64)) :: .cell (.val (.int .i64)) :: D 36 [])
def xs71_13 : List (Ex × List Fm) := [(.exit 4, [d, .cell (.val .str), .box 100200 [.val (.int .i64), .val (.sl (.int .i64)), .val (.sl (.int .i64)), .val (.sl (.pair (.int .i64) (.pair .str (.pair (.int .i64) (.int .i64)))))], d, d, d, d, d, .cell (.own (.sl (.int .i64)) 100800 false), .cell (.val (.int .i64)), .cell (.own (.int .i64) 101000 false), d, d, d, d, d, d, d, d, d, d, d, d, d, d, d, d, d, d, d, d, d, d, d, d, d, d, d, d, d, d, d, d, d, d, d, d, d, d, d, d, d, d, d, d, d, d, d, d, d, d, d, d, d, d, d, d, d, d, d, d, d, d, d, d, d, d, d, d, d, d])]
noncomputable def impl_toEnd_l13 : (ByteArray × (Int × (List Int) × (List Int) × (List (Int × (ByteArray × (Int × Int)))) × Unit) × (List Int) × (List (List Int)) × Int × (List Int) × (List (Int × (ByteArray × (Int × Int)))) × Int × Int × Unit) → Option ((ByteArray × (Int × (List Int) × (List Int) × (List (Int × (ByteArray × (Int × Int)))) × Unit) × (List Int) × (List (List Int)) × Int × (List Int) × (List (Int × (ByteArray × (Int × Int)))) × Int × Int × Unit) ⊕ ((ByteArray × (Int × (List Int) × (List Int) × (List (Int × (ByteArray × (Int × Int)))) × Unit) × (List (List Int)) × Int × (List Int) × Unit))) := fun (v1, (v2_0, v2_1, v2_2, v2_3, _), v5, v8, v9, v10, v42, v43, v44, _) =>
 bif (decide (v44 < v43)) then
  if (((0 : Int) ≤ v44) ∧ (v44 < (((List.length v42) : Nat) : Int))) then
   if (((0 : Int) ≤ v9) ∧ ((v9 ≤ (IntKind.wrap .i64 (v9 + (1 : Int)))) ∧ ((IntKind.wrap .i64 (v9 + (1 : Int))) ≤ (((ByteArray.size v1) : Nat) : Int)))) then
    bif ((ByteArray.toList (List.getD v42 (Int.toNat v44) ((0 : Int), (⟨Array.empty⟩ : ByteArray), (0 : Int), (0 : Int))).2.1) == (ByteArray.toList (ByteArray.extract v1 (Int.toNat v9) (Int.toNat (IntKind.wrap .i64 (v9 + (1 : Int))))))) then
     if (((0 : Int) ≤ (List.getD v42 (Int.toNat v44) ((0 : Int), (⟨Array.empty⟩ : ByteArray), (0 : Int), (0 : Int))).1) ∧ ((List.getD v42 (Int.toNat v44) ((0 : Int), (⟨Array.empty⟩ : ByteArray), (0 : Int), (0 : Int))).1 < (((List.length v10) : Nat) : Int))) then
      if (((0 : Int) ≤ (List.getD v42 (Int.toNat v44) ((0 : Int), (⟨Array.empty⟩ : ByteArray), (0 : Int), (0 : Int))).2.2.1) ∧ ((List.getD v42 (Int.toNat v44) ((0 : Int), (⟨Array.empty⟩ : ByteArray), (0 : Int), (0 : Int))).2.2.1 < (((List.length v5) : Nat) : Int))) then
       if (((0 : Int) ≤ (List.getD v42 (Int.toNat v44) ((0 : Int), (⟨Array.empty⟩ : ByteArray), (0 : Int), (0 : Int))).1) ∧ ((List.getD v42 (Int.toNat v44) ((0 : Int), (⟨Array.empty⟩ : ByteArray), (0 : Int), (0 : Int))).1 < (((List.length v10) : Nat) : Int))) then
        some (Sum.inl (v1, (v2_0, v2_1, v2_2, v2_3, ()), v5, (List.take (List.length v8) (List.drop 0 v8)), v9, (List.take (List.length v10) (List.drop 0 (List.set v10 (0 + (Int.toNat (List.getD v42 (Int.toNat v44) ((0 : Int), (⟨Array.empty⟩ : ByteArray), (0 : Int), (0 : Int))).1)) (if ((IntKind.wrap .i64 ((List.getD v42 (Int.toNat v44) ((0 : Int), (⟨Array.empty⟩ : ByteArray), (0 : Int), (0 : Int))).2.2.2 + (List.getD v5 (Int.toNat (List.getD v42 (Int.toNat v44) ((0 : Int), (⟨Array.empty⟩ : ByteArray), (0 : Int), (0 : Int))).2.2.1) (0 : Int)))) < (List.getD v10 (0 + (Int.toNat (List.getD v42 (Int.toNat v44) ((0 : Int), (⟨Array.empty⟩ : ByteArray), (0 : Int), (0 : Int))).1)) (0 : Int))) then (IntKind.wrap .i64 ((List.getD v42 (Int.toNat v44) ((0 : Int), (⟨Array.empty⟩ : ByteArray), (0 : Int), (0 : Int))).2.2.2 + (List.getD v5 (Int.toNat (List.getD v42 (Int.toNat v44) ((0 : Int), (⟨Array.empty⟩ : ByteArray), (0 : Int), (0 : Int))).2.2.1) (0 : Int)))) else (List.getD v10 (0 + (Int.toNat (List.getD v42 (Int.toNat v44) ((0 : Int), (⟨Array.empty⟩ : ByteArray), (0 : Int), (0 : Int))).1)) (0 : Int)))))), v42, v43, (IntKind.wrap .i64 (v44 + (1 : Int))), ()))
       else
        none
      else
       none
     else
      none
    else
     some (Sum.inl (v1, (v2_0, v2_1, v2_2, v2_3, ()), v5, (List.take (List.length v8) (List.drop 0 v8)), v9, (List.take (List.length v10) (List.drop 0 v10)), v42, v43, (IntKind.wrap .i64 (v44 + (1 : Int))), ()))
   else
    none
  else
   none
 else
  some (Sum.inr (v1, (v2_0, v2_1, v2_2, v2_3, ()), (List.take (List.length v8) (List.drop 0 v8)), v9, (List.take (List.length v10) (List.drop 0 v10)), ()))
theorem impl_toEnd_l13_eq : loopStep 81 E71 L71_1 (loopOf f71 13) sh71_13 xs71_13 = impl_toEnd_l13 := by kernel_rfl
theorem loop71_13 {L} (h : L 13 = some ⟨81, sh71_13, xs71_13, impl_toEnd_l13⟩) : LoopOk prog L (loopOf f71 13) := lo impl_toEnd_l13_eq E71_ok allNil h
noncomputable def L71_2 : Nat → Option LoopD := fun n => ifEq n 13 (some ⟨81, sh71_13, xs71_13, impl_toEnd_l13⟩) (L71_1 n)
def sh71_9 : List Fm := d :: .cell (.val .str) :: .box 100200 [.val (.int .i64), .val (.sl (.int .i64)), .val (.sl (.int .i64)), .val (.sl (.pair (.int .i64) (.pair .str (.pair (.int .i64) (.int .i64)))))] :: d :: d :: .cell (.val (.sl (.int .i64))) :: d :: d :: .cell (.own (.sl (.int .i64)) 100800 false) :: .cell (.val (.int .i64)) :: D 71 []
def xs71_9 : List (Ex × List Fm) := [(.exit 2, (D 8 (.cell (.own (.sl (.int .i64)) 100800 false) :: D 72 [])))]
noncomputable def impl_toEnd_l9 : (ByteArray × (Int × (List Int) × (List Int) × (List (Int × (ByteArray × (Int × Int)))) × Unit) × (List Int) × (List (List Int)) × Int × Unit) → Option ((ByteArray × (Int × (List Int) × (List Int) × (List (Int × (ByteArray × (Int × Int)))) × Unit) × (List Int) × (List (List Int)) × Int × Unit) ⊕ (((List (List Int)) × Unit))) := fun (v1, (v2_0, v2_1, v2_2, v2_3, _), v5, v8, v9, _) =>
 bif (decide (v9 ≥ (0 : Int))) then
  Option.bind (slices_Repeat (List.take 1 (List.drop 0 [(1000000 : Int)])) v2_0) fun r0 =>
   Option.bind (loopF impl_toEnd_l13 (v1, (v2_0, v2_1, v2_2, v2_3, ()), v5, (List.take (List.length v8) (List.drop 0 v8)), v9, (List.take (List.length r0) (List.drop 0 r0)), v2_3, (((List.length v2_3) : Nat) : Int), (0 : Int), ())) fun (r1, (r2, r3, r4, r5, _), r6, r7, r8, _) =>
    if (((0 + (List.length r6)) = (List.length r6)) ∧ ((((List.length r6) + (List.length (List.take 1 (List.drop 0 [(List.take (List.length r8) (List.drop 0 r8))])))) * 24) ≤ 140737488355328)) then
     some (Sum.inl (r1, (r2, r3, r4, r5, ()), (List.take (List.length r8) (List.drop 0 r8)), (List.take ((List.length r6) + (List.length (List.take 1 (List.drop 0 [(List.take (List.length r8) (List.drop 0 r8))])))) (List.drop 0 ((List.drop 0 r6) ++ (List.take 1 (List.drop 0 [(List.take (List.length r8) (List.drop 0 r8))]))))), (IntKind.wrap .i64 (r7 - (1 : Int))), ()))
    else
     none
 else
  some (Sum.inr ((List.take (List.length v8) (List.drop 0 v8)), ()))
theorem impl_toEnd_l9_eq : loopStep 81 E71 L71_2 (loopOf f71 9) sh71_9 xs71_9 = impl_toEnd_l9 := by kernel_rfl
theorem loop71_9 {L} (h : L 9 = some ⟨81, sh71_9, xs71_9, impl_toEnd_l9⟩) : LoopOk prog L (loopOf f71 9) := lo impl_toEnd_l9_eq E71_ok (allCons (loop71_13 rfl) allNil) h
noncomputable def L71_3 : Nat → Option LoopD := fun n => ifEq n 9 (some ⟨81, sh71_9, xs71_9, impl_toEnd_l9⟩) (L71_2 n)
noncomputable def impl_toEnd : (Int × ((List Int) × ((List Int) × (List (Int × (ByteArray × (Int × Int))))))) → ByteArray → Option ((List (List Int))) := fun (a0_0, a0_1, a0_2, a0_3) a1 =>
 Option.bind (slices_Repeat (List.take 1 (List.drop 0 [(1000000 : Int)])) a0_0) fun r0 =>
  Option.bind (loopF impl_toEnd_l3 (a1, (a0_0, a0_1, a0_2, a0_3, ()), (List.take (List.length r0) (List.drop 0 r0)), a0_2, (((List.length a0_2) : Nat) : Int), (0 : Int), ())) fun (r1, (r2, r3, r4, r5, _), r6, _) =>
   Option.bind (loopF impl_toEnd_l9 (r1, (r2, r3, r4, r5, ()), (List.take (List.length r6) (List.drop 0 r6)), (List.take 1 (List.drop 0 [(List.take (List.length r6) (List.drop 0 r6))])), (IntKind.wrap .i64 ((((ByteArray.size r1) : Nat) : Int) - (1 : Int))), ())) fun (r7, _) =>
    some (List.take (List.length r7) (List.drop 0 r7))
noncomputable def A71 : FnA := ⟨[.v (.pair (.int .i64) (.pair (.sl (.int .i64)) (.pair (.sl (.int .i64)) (.sl (.pair (.int .i64) (.pair .str (.pair (.int .i64) (.int .i64)))))))), .v .str], true, [.sl (.sl (.int .i64))], fun x => impl_toEnd x.1 x.2.1⟩
theorem impl_toEnd_eq : fnF E71 L71_3 [.v (.pair (.int .i64) (.pair (.sl (.int .i64)) (.pair (.sl (.int .i64)) (.sl (.pair (.int .i64) (.pair .str (.pair (.int .i64) (.int .i64)))))))), .v .str] true [.sl (.sl (.int .i64))] f71.ntmps f71.results.toList (codeOf f71) = fun x => impl_toEnd x.1 x.2.1 := by kernel_rfl
theorem A71_ok : FnOk prog 71 A71 := fo impl_toEnd_eq func71 E71_ok (allCons (loop71_3 rfl) (allCons (loop71_9 rfl) allNil))
/-! impl.CostOf -/
noncomputable def E31 : Env := ⟨ty0, fun g => ifEq g 28 (some A28) (ifEq g 70 (some A70) (ifEq g 71 (some A71) (none))), fun _ => none, fun _ => none, fun _ => none⟩
theorem E31_ok : FnsOk prog E31 := (oF A28_ok func28 (oF A70_ok func70 (oF A71_ok func71 (noFns _ _))))
noncomputable def L31_0 : Nat → Option LoopD := fun _ => none
def sh31_6 : List Fm := d :: .cell (.val .str) :: d :: d :: d :: .cell (.own (.sl (.int .i64)) 100500 false) :: .cell (.val (.int .i64)) :: D 14 (.cell (.val (.sl (.int .i64))) :: .cell (.val (.int .i64)) :: .cell (.val (.int .i64)) :: D 15 [])
def xs31_6 : List (Ex × List Fm) := [(.exit 0, (D 6 (.cell (.val (.int .i64)) :: D 32 [])))]
noncomputable def impl_CostOf_l6 : (ByteArray × (List (List Int)) × Int × (List Int) × Int × Int × Unit) → Option ((ByteArray × (List (List Int)) × Int × (List Int) × Int × Int × Unit) ⊕ ((Int × Unit))) := fun (v1, v5, v6, v21, v22, v23, _) =>
 bif (decide (v23 < v22)) then
  if (((0 : Int) ≤ v23) ∧ (v23 < (((List.length v21) : Nat) : Int))) then
   if (((0 : Int) ≤ (((ByteArray.size v1) : Nat) : Int)) ∧ ((((ByteArray.size v1) : Nat) : Int) < (((List.length v5) : Nat) : Int))) then
    if (((0 : Int) ≤ (List.getD v21 (Int.toNat v23) (0 : Int))) ∧ ((List.getD v21 (Int.toNat v23) (0 : Int)) < (((List.length (List.getD v5 (0 + (Int.toNat (((ByteArray.size v1) : Nat) : Int))) [])) : Nat) : Int))) then
     some (Sum.inl (v1, (List.take (List.length v5) (List.drop 0 v5)), (if ((List.getD (List.getD v5 (0 + (Int.toNat (((ByteArray.size v1) : Nat) : Int))) []) (Int.toNat (List.getD v21 (Int.toNat v23) (0 : Int))) (0 : Int)) < v6) then (List.getD (List.getD v5 (0 + (Int.toNat (((ByteArray.size v1) : Nat) : Int))) []) (Int.toNat (List.getD v21 (Int.toNat v23) (0 : Int))) (0 : Int)) else v6), v21, v22, (IntKind.wrap .i64 (v23 + (1 : Int))), ()))
    else
     none
   else
    none
  else
   none
 else
  some (Sum.inr (v6, ()))
theorem impl_CostOf_l6_eq : loopStep 39 E31 L31_0 (loopOf f31 6) sh31_6 xs31_6 = impl_CostOf_l6 := by kernel_rfl
theorem loop31_6 {L} (h : L 6 = some ⟨39, sh31_6, xs31_6, impl_CostOf_l6⟩) : LoopOk prog L (loopOf f31 6) := lo impl_CostOf_l6_eq E31_ok allNil h
noncomputable def L31_1 : Nat → Option LoopD := fun n => ifEq n 6 (some ⟨39, sh31_6, xs31_6, impl_CostOf_l6⟩) (L31_0 n)
noncomputable def impl_CostOf : (Int × ((List Int) × ((List Int) × (List (Int × (ByteArray × (Int × Int))))))) → ByteArray → Option (Int) := fun (a0_0, a0_1, a0_2, a0_3) a1 =>
 Option.bind (impl_AutomatonValid (a0_0, a0_1, a0_2, a0_3)) fun r0 =>
  bif (!r0) then
   some (-1 : Int)
  else
   Option.bind (impl_WordValid a1) fun r1 =>
    bif (!r1) then
     some (-1 : Int)
    else
     Option.bind (impl_toEnd (a0_0, a0_1, a0_2, a0_3) a1) fun r2 =>
      Option.bind (loopF impl_CostOf_l6 (a1, (List.take (List.length r2) (List.drop 0 r2)), (1000000 : Int), a0_1, (((List.length a0_1) : Nat) : Int), (0 : Int), ())) fun (r3, _) =>
       some r3
noncomputable def A31 : FnA := ⟨[.v (.pair (.int .i64) (.pair (.sl (.int .i64)) (.pair (.sl (.int .i64)) (.sl (.pair (.int .i64) (.pair .str (.pair (.int .i64) (.int .i64)))))))), .v .str], true, [.int .i64], fun x => impl_CostOf x.1 x.2.1⟩
theorem impl_CostOf_eq : fnF E31 L31_1 [.v (.pair (.int .i64) (.pair (.sl (.int .i64)) (.pair (.sl (.int .i64)) (.sl (.pair (.int .i64) (.pair .str (.pair (.int .i64) (.int .i64)))))))), .v .str] true [.int .i64] f31.ntmps f31.results.toList (codeOf f31) = fun x => impl_CostOf x.1 x.2.1 := by kernel_rfl
theorem A31_ok : FnOk prog 31 A31 := fo impl_CostOf_eq func31 E31_ok (allCons (loop31_6 rfl) allNil)
/-! impl.VerdictOf -/
noncomputable def E26 : Env := ⟨ty0, fun g => ifEq g 28 (some A28) (ifEq g 10 (some A10) (ifEq g 65 (some A65) (ifEq g 31 (some A31) (none)))), fun _ => none, fun _ => none, fun _ => none⟩
theorem E26_ok : FnsOk prog E26 := (oF A28_ok func28 (oF A10_ok func10 (oF A65_ok func65 (oF A31_ok func31 (noFns _ _)))))
noncomputable def L26_0 : Nat → Option LoopD := fun _ => none
noncomputable def impl_VerdictOf : (Int × ((List Int) × ((List Int) × (List (Int × (ByteArray × (Int × Int))))))) → Option (ByteArray) := fun (a0_0, a0_1, a0_2, a0_3) =>
 Option.bind (impl_AutomatonValid (a0_0, a0_1, a0_2, a0_3)) fun r0 =>
  bif (!r0) then
   some (⟨#[]⟩ : ByteArray)
  else
   Option.bind (impl_GradesIn (a0_0, a0_1, a0_2, a0_3)) fun (r1, r2) =>
    bif (!r2) then
     some (⟨#[(117 : UInt8), (110 : UInt8), (107 : UInt8), (110 : UInt8), (111 : UInt8), (119 : UInt8), (110 : UInt8)]⟩ : ByteArray)
    else
     Option.bind (slices_Contains (List.take (List.length r1) (List.drop 0 r1)) (2 : Int)) fun r3 =>
      bif r3 then
       some (⟨#[(103 : UInt8), (114 : UInt8), (111 : UInt8), (119 : UInt8), (105 : UInt8), (110 : UInt8), (103 : UInt8)]⟩ : ByteArray)
      else
       Option.bind (slices_Contains (List.take (List.length r1) (List.drop 0 r1)) (1 : Int)) fun r4 =>
        bif r4 then
         some (⟨#[(98 : UInt8), (111 : UInt8), (117 : UInt8), (110 : UInt8), (100 : UInt8), (101 : UInt8), (100 : UInt8)]⟩ : ByteArray)
        else
         Option.bind (slices_Contains (List.take (List.length r1) (List.drop 0 r1)) (0 : Int)) fun r5 =>
          bif r5 then
           some (⟨#[(102 : UInt8), (114 : UInt8), (101 : UInt8), (101 : UInt8)]⟩ : ByteArray)
          else
           Option.bind (impl_CostOf (a0_0, a0_1, a0_2, a0_3) (⟨#[]⟩ : ByteArray)) fun r6 =>
            bif (decide (r6 < (1000000 : Int))) then
             some (⟨#[(102 : UInt8), (114 : UInt8), (101 : UInt8), (101 : UInt8)]⟩ : ByteArray)
            else
             some (⟨#[(110 : UInt8), (111 : UInt8), (110 : UInt8), (101 : UInt8)]⟩ : ByteArray)
noncomputable def A26 : FnA := ⟨[.v (.pair (.int .i64) (.pair (.sl (.int .i64)) (.pair (.sl (.int .i64)) (.sl (.pair (.int .i64) (.pair .str (.pair (.int .i64) (.int .i64))))))))], true, [.str], fun x => impl_VerdictOf x.1⟩
theorem impl_VerdictOf_eq : fnF E26 L26_0 [.v (.pair (.int .i64) (.pair (.sl (.int .i64)) (.pair (.sl (.int .i64)) (.sl (.pair (.int .i64) (.pair .str (.pair (.int .i64) (.int .i64))))))))] true [.str] f26.ntmps f26.results.toList (codeOf f26) = fun x => impl_VerdictOf x.1 := by kernel_rfl
theorem A26_ok : FnOk prog 26 A26 := fo impl_VerdictOf_eq func26 E26_ok allNil
/-! spec.l3Matrix -/
noncomputable def E132 : Env := ⟨ty0, fun _ => none, fun _ => none, fun _ => none, fun _ => none⟩
theorem E132_ok : FnsOk prog E132 := (noFns _ _)
noncomputable def L132_0 : Nat → Option LoopD := fun _ => none
def sh132_3 : List Fm := d :: .cell (.val .str) :: .box 100200 [.val (.int .i64), .val (.sl (.int .i64)), .val (.sl (.int .i64)), .val (.sl (.pair (.int .i64) (.pair .str (.pair (.int .i64) (.int .i64)))))] :: d :: .box 100400 [.val (.int .i64), .own (.int .i64) 100402 false] :: .box 100500 [.val (.int .i64), .own (.int .i64) 100502 false] :: D 9 (.cell (.val (.int .i64)) :: .cell (.val (.int .i64)) :: D 33 [])
def xs132_3 : List (Ex × List Fm) := [(.exit 0, [d, .cell (.val .str), .box 100200 [.val (.int .i64), .val (.sl (.int .i64)), .val (.sl (.int .i64)), .val (.sl (.pair (.int .i64) (.pair .str (.pair (.int .i64) (.int .i64)))))], d, .box 100400 [.val (.int .i64), .own (.int .i64) 100402 false], .box 100500 [.val (.int .i64), .own (.int .i64) 100502 false], d, d, d, d, d, d, d, d, d, d, d, d, d, d, d, d, d, d, d, d, d, d, d, d, d, d, d, d, d, d, d, d, d, d, d, d, d, d, d, d, d, d, d, d])]
noncomputable def spec_l3Matrix_l3 : (ByteArray × (Int × (List Int) × (List Int) × (List (Int × (ByteArray × (Int × Int)))) × Unit) × (Int × (List Int) × Unit) × (Int × (List Int) × Unit) × Int × Int × Unit) → Option ((ByteArray × (Int × (List Int) × (List Int) × (List (Int × (ByteArray × (Int × Int)))) × Unit) × (Int × (List Int) × Unit) × (Int × (List Int) × Unit) × Int × Int × Unit) ⊕ ((ByteArray × (Int × (List Int) × (List Int) × (List (Int × (ByteArray × (Int × Int)))) × Unit) × (Int × (List Int) × Unit) × (Int × (List Int) × Unit) × Unit))) := fun (v1, (v2_0, v2_1, v2_2, v2_3, _), (v4_0, v4_1, _), (v5_0, v5_1, _), v15, v16, _) =>
 bif (decide (v16 < v15)) then
  if (((0 + (List.length v5_1)) = (List.length v5_1)) ∧ ((((List.length v5_1) + (List.length (List.take 1 (List.drop 0 [(1000000 : Int)])))) * 8) ≤ 140737488355328)) then
   some (Sum.inl (v1, (v2_0, v2_1, v2_2, v2_3, ()), (v4_0, (List.take (List.length v4_1) (List.drop 0 v4_1)), ()), (v5_0, (List.take ((List.length v5_1) + (List.length (List.take 1 (List.drop 0 [(1000000 : Int)])))) (List.drop 0 ((List.drop 0 v5_1) ++ (List.take 1 (List.drop 0 [(1000000 : Int)]))))), ()), v15, (IntKind.wrap .i64 (v16 + (1 : Int))), ()))
  else
   none
 else
  some (Sum.inr (v1, (v2_0, v2_1, v2_2, v2_3, ()), (v4_0, (List.take (List.length v4_1) (List.drop 0 v4_1)), ()), (v5_0, (List.take (List.length v5_1) (List.drop 0 v5_1)), ()), ()))
theorem spec_l3Matrix_l3_eq : loopStep 50 E132 L132_0 (loopOf f132 3) sh132_3 xs132_3 = spec_l3Matrix_l3 := by kernel_rfl
theorem loop132_3 {L} (h : L 3 = some ⟨50, sh132_3, xs132_3, spec_l3Matrix_l3⟩) : LoopOk prog L (loopOf f132 3) := lo spec_l3Matrix_l3_eq E132_ok allNil h
noncomputable def L132_1 : Nat → Option LoopD := fun n => ifEq n 3 (some ⟨50, sh132_3, xs132_3, spec_l3Matrix_l3⟩) (L132_0 n)
def sh132_7 : List Fm := d :: .cell (.val .str) :: .box 100200 [.val (.int .i64), .val (.sl (.int .i64)), .val (.sl (.int .i64)), .val (.sl (.pair (.int .i64) (.pair .str (.pair (.int .i64) (.int .i64)))))] :: d :: .box 100400 [.val (.int .i64), .own (.int .i64) 100402 false] :: .box 100500 [.val (.int .i64), .own (.int .i64) 100502 false] :: D 19 (.cell (.val (.sl (.pair (.int .i64) (.pair .str (.pair (.int .i64) (.int .i64)))))) :: .cell (.val (.int .i64)) :: .cell (.val (.int .i64)) :: D 22 [])
def xs132_7 : List (Ex × List Fm) := [(.exit 2, [d, d, d, d, .box 100400 [.val (.int .i64), .own (.int .i64) 100402 false], .box 100500 [.val (.int .i64), .own (.int .i64) 100502 false], d, d, d, d, d, d, d, d, d, d, d, d, d, d, d, d, d, d, d, d, d, d, d, d, d, d, d, d, d, d, d, d, d, d, d, d, d, d, d, d, d, d, d, d])]
noncomputable def spec_l3Matrix_l7 : (ByteArray × (Int × (List Int) × (List Int) × (List (Int × (ByteArray × (Int × Int)))) × Unit) × (Int × (List Int) × Unit) × (Int × (List Int) × Unit) × (List (Int × (ByteArray × (Int × Int)))) × Int × Int × Unit) → Option ((ByteArray × (Int × (List Int) × (List Int) × (List (Int × (ByteArray × (Int × Int)))) × Unit) × (Int × (List Int) × Unit) × (Int × (List Int) × Unit) × (List (Int × (ByteArray × (Int × Int)))) × Int × Int × Unit) ⊕ (((Int × (List Int) × Unit) × (Int × (List Int) × Unit) × Unit))) := fun (v1, (v2_0, v2_1, v2_2, v2_3, _), (v4_0, v4_1, _), (v5_0, v5_1, _), v25, v26, v27, _) =>
 bif (decide (v27 < v26)) then
  if (((0 : Int) ≤ v27) ∧ (v27 < (((List.length v25) : Nat) : Int))) then
   bif ((ByteArray.toList (List.getD v25 (Int.toNat v27) ((0 : Int), (⟨Array.empty⟩ : ByteArray), (0 : Int), (0 : Int))).2.1) == (ByteArray.toList v1)) then
    if (((0 : Int) ≤ (IntKind.wrap .i64 ((IntKind.wrap .i64 ((List.getD v25 (Int.toNat v27) ((0 : Int), (⟨Array.empty⟩ : ByteArray), (0 : Int), (0 : Int))).1 * v2_0)) + (List.getD v25 (Int.toNat v27) ((0 : Int), (⟨Array.empty⟩ : ByteArray), (0 : Int), (0 : Int))).2.2.1))) ∧ ((IntKind.wrap .i64 ((IntKind.wrap .i64 ((List.getD v25 (Int.toNat v27) ((0 : Int), (⟨Array.empty⟩ : ByteArray), (0 : Int), (0 : Int))).1 * v2_0)) + (List.getD v25 (Int.toNat v27) ((0 : Int), (⟨Array.empty⟩ : ByteArray), (0 : Int), (0 : Int))).2.2.1)) < (((List.length v5_1) : Nat) : Int))) then
     some (Sum.inl (v1, (v2_0, v2_1, v2_2, v2_3, ()), (v4_0, (List.take (List.length v4_1) (List.drop 0 v4_1)), ()), (v5_0, (List.take (List.length v5_1) (List.drop 0 (List.set v5_1 (0 + (Int.toNat (IntKind.wrap .i64 ((IntKind.wrap .i64 ((List.getD v25 (Int.toNat v27) ((0 : Int), (⟨Array.empty⟩ : ByteArray), (0 : Int), (0 : Int))).1 * v2_0)) + (List.getD v25 (Int.toNat v27) ((0 : Int), (⟨Array.empty⟩ : ByteArray), (0 : Int), (0 : Int))).2.2.1)))) (List.getD v25 (Int.toNat v27) ((0 : Int), (⟨Array.empty⟩ : ByteArray), (0 : Int), (0 : Int))).2.2.2))), ()), v25, v26, (IntKind.wrap .i64 (v27 + (1 : Int))), ()))
    else
     none
   else
    some (Sum.inl (v1, (v2_0, v2_1, v2_2, v2_3, ()), (v4_0, (List.take (List.length v4_1) (List.drop 0 v4_1)), ()), (v5_0, (List.take (List.length v5_1) (List.drop 0 v5_1)), ()), v25, v26, (IntKind.wrap .i64 (v27 + (1 : Int))), ()))
  else
   none
 else
  some (Sum.inr ((v4_0, (List.take (List.length v4_1) (List.drop 0 v4_1)), ()), (v5_0, (List.take (List.length v5_1) (List.drop 0 v5_1)), ()), ()))
theorem spec_l3Matrix_l7_eq : loopStep 50 E132 L132_1 (loopOf f132 7) sh132_7 xs132_7 = spec_l3Matrix_l7 := by kernel_rfl
theorem loop132_7 {L} (h : L 7 = some ⟨50, sh132_7, xs132_7, spec_l3Matrix_l7⟩) : LoopOk prog L (loopOf f132 7) := lo spec_l3Matrix_l7_eq E132_ok allNil h
noncomputable def L132_2 : Nat → Option LoopD := fun n => ifEq n 7 (some ⟨50, sh132_7, xs132_7, spec_l3Matrix_l7⟩) (L132_1 n)
noncomputable def spec_l3Matrix : (Int × ((List Int) × ((List Int) × (List (Int × (ByteArray × (Int × Int))))))) → ByteArray → Option ((Int × (List Int))) := fun (a0_0, a0_1, a0_2, a0_3) a1 =>
 Option.bind (loopF spec_l3Matrix_l3 (a1, (a0_0, a0_1, a0_2, a0_3, ()), ((0 : Int), [], ()), (a0_0, [], ()), (IntKind.wrap .i64 (a0_0 * a0_0)), (0 : Int), ())) fun (r0, (r1, r2, r3, r4, _), (r5, r6, _), (r7, r8, _), _) =>
  Option.bind (loopF spec_l3Matrix_l7 (r0, (r1, r2, r3, r4, ()), (r5, (List.take (List.length r6) (List.drop 0 r6)), ()), (r7, (List.take (List.length r8) (List.drop 0 r8)), ()), r4, (((List.length r4) : Nat) : Int), (0 : Int), ())) fun ((r9, r10, _), (r11, r12, _), _) =>
   some (r11, (List.take (List.length r12) (List.drop 0 r12)))
noncomputable def A132 : FnA := ⟨[.v (.pair (.int .i64) (.pair (.sl (.int .i64)) (.pair (.sl (.int .i64)) (.sl (.pair (.int .i64) (.pair .str (.pair (.int .i64) (.int .i64)))))))), .v .str], true, [.pair (.int .i64) (.sl (.int .i64))], fun x => spec_l3Matrix x.1 x.2.1⟩
theorem spec_l3Matrix_eq : fnF E132 L132_2 [.v (.pair (.int .i64) (.pair (.sl (.int .i64)) (.pair (.sl (.int .i64)) (.sl (.pair (.int .i64) (.pair .str (.pair (.int .i64) (.int .i64)))))))), .v .str] true [.pair (.int .i64) (.sl (.int .i64))] f132.ntmps f132.results.toList (codeOf f132) = fun x => spec_l3Matrix x.1 x.2.1 := by kernel_rfl
theorem A132_ok : FnOk prog 132 A132 := fo spec_l3Matrix_eq func132 E132_ok (allCons (loop132_3 rfl) (allCons (loop132_7 rfl) allNil))
/-! spec.l6Grades -/
noncomputable def E131 : Env := ⟨ty0, fun _ => none, fun _ => none, fun _ => none, fun _ => none⟩
theorem E131_ok : FnsOk prog E131 := (noFns _ _)
noncomputable def L131_0 : Nat → Option LoopD := fun _ => none
def sh131_3 : List Fm := d :: d :: .box 100200 [.val (.int .i64), .own (.int .i64) 100202 false] :: .box 100300 [.val (.int .i64), .own (.int .i64) 100302 false] :: D 6 (.cell (.val (.sl (.int .i64))) :: .cell (.val (.int .i64)) :: .cell (.val (.int .i64)) :: D 25 [])
def xs131_3 : List (Ex × List Fm) := [(.exit 0, [d, d, .box 100200 [.val (.int .i64), .own (.int .i64) 100202 false], .box 100300 [.val (.int .i64), .own (.int .i64) 100302 false], d, d, d, d, d, d, d, d, d, d, d, d, d, d, d, d, d, d, d, d, d, d, d, d, d, d, d, d, d, d, d, d, d, d])]
noncomputable def spec_l6Grades_l3 : ((Int × (List Int) × Unit) × (Int × (List Int) × Unit) × (List Int) × Int × Int × Unit) → Option (((Int × (List Int) × Unit) × (Int × (List Int) × Unit) × (List Int) × Int × Int × Unit) ⊕ (((Int × (List Int) × Unit) × (Int × (List Int) × Unit) × Unit))) := fun ((v2_0, v2_1, _), (v3_0, v3_1, _), v10, v11, v12, _) =>
 bif (decide (v12 < v11)) then
  if (((0 : Int) ≤ v12) ∧ (v12 < (((List.length v10) : Nat) : Int))) then
   bif ((List.getD v10 (Int.toNat v12) (0 : Int)) == (0 : Int)) then
    if (((0 + (List.length v3_1)) = (List.length v3_1)) ∧ ((((List.length v3_1) + (List.length (List.take 1 (List.drop 0 [(0 : Int)])))) * 8) ≤ 140737488355328)) then
     some (Sum.inl ((v2_0, (List.take (List.length v2_1) (List.drop 0 v2_1)), ()), (v3_0, (List.take ((List.length v3_1) + (List.length (List.take 1 (List.drop 0 [(0 : Int)])))) (List.drop 0 ((List.drop 0 v3_1) ++ (List.take 1 (List.drop 0 [(0 : Int)]))))), ()), v10, v11, (IntKind.wrap .i64 (v12 + (1 : Int))), ()))
    else
     none
   else
    bif ((List.getD v10 (Int.toNat v12) (0 : Int)) == (1000000 : Int)) then
     if (((0 + (List.length v3_1)) = (List.length v3_1)) ∧ ((((List.length v3_1) + (List.length (List.take 1 (List.drop 0 [(3 : Int)])))) * 8) ≤ 140737488355328)) then
      some (Sum.inl ((v2_0, (List.take (List.length v2_1) (List.drop 0 v2_1)), ()), (v3_0, (List.take ((List.length v3_1) + (List.length (List.take 1 (List.drop 0 [(3 : Int)])))) (List.drop 0 ((List.drop 0 v3_1) ++ (List.take 1 (List.drop 0 [(3 : Int)]))))), ()), v10, v11, (IntKind.wrap .i64 (v12 + (1 : Int))), ()))
     else
      none
    else
     if (((0 + (List.length v3_1)) = (List.length v3_1)) ∧ ((((List.length v3_1) + (List.length (List.take 1 (List.drop 0 [(1 : Int)])))) * 8) ≤ 140737488355328)) then
      some (Sum.inl ((v2_0, (List.take (List.length v2_1) (List.drop 0 v2_1)), ()), (v3_0, (List.take ((List.length v3_1) + (List.length (List.take 1 (List.drop 0 [(1 : Int)])))) (List.drop 0 ((List.drop 0 v3_1) ++ (List.take 1 (List.drop 0 [(1 : Int)]))))), ()), v10, v11, (IntKind.wrap .i64 (v12 + (1 : Int))), ()))
     else
      none
  else
   none
 else
  some (Sum.inr ((v2_0, (List.take (List.length v2_1) (List.drop 0 v2_1)), ()), (v3_0, (List.take (List.length v3_1) (List.drop 0 v3_1)), ()), ()))
theorem spec_l6Grades_l3_eq : loopStep 38 E131 L131_0 (loopOf f131 3) sh131_3 xs131_3 = spec_l6Grades_l3 := by kernel_rfl
theorem loop131_3 {L} (h : L 3 = some ⟨38, sh131_3, xs131_3, spec_l6Grades_l3⟩) : LoopOk prog L (loopOf f131 3) := lo spec_l6Grades_l3_eq E131_ok allNil h
noncomputable def L131_1 : Nat → Option LoopD := fun n => ifEq n 3 (some ⟨38, sh131_3, xs131_3, spec_l6Grades_l3⟩) (L131_0 n)
noncomputable def spec_l6Grades : (Int × (List Int)) → Option ((Int × (List Int))) := fun (a0_0, a0_1) =>
 Option.bind (loopF spec_l6Grades_l3 (((0 : Int), [], ()), (a0_0, [], ()), a0_1, (((List.length a0_1) : Nat) : Int), (0 : Int), ())) fun ((r0, r1, _), (r2, r3, _), _) =>
  some (r2, (List.take (List.length r3) (List.drop 0 r3)))
noncomputable def A131 : FnA := ⟨[.v (.pair (.int .i64) (.sl (.int .i64)))], true, [.pair (.int .i64) (.sl (.int .i64))], fun x => spec_l6Grades x.1⟩
theorem spec_l6Grades_eq : fnF E131 L131_1 [.v (.pair (.int .i64) (.sl (.int .i64)))] true [.pair (.int .i64) (.sl (.int .i64))] f131.ntmps f131.results.toList (codeOf f131) = fun x => spec_l6Grades x.1 := by kernel_rfl
theorem A131_ok : FnOk prog 131 A131 := fo spec_l6Grades_eq func131 E131_ok (allCons (loop131_3 rfl) allNil)
/-! spec.l2Same -/
noncomputable def E50 : Env := ⟨ty0, fun _ => none, fun _ => none, fun _ => none, fun _ => none⟩
theorem E50_ok : FnsOk prog E50 := (noFns _ _)
noncomputable def L50_0 : Nat → Option LoopD := fun _ => none
def sh50_2 : List Fm := .cell (.val (.sl (.int .i64))) :: .cell (.val (.sl (.int .i64))) :: D 8 (.cell (.val (.int .i64)) :: .cell (.val (.int .i64)) :: D 17 [])
def xs50_2 : List (Ex × List Fm) := [(.ret, (D 4 (.cell (.val .bool) :: D 24 []))), (.exit 0, (.cell (.val (.sl (.int .i64))) :: .cell (.val (.sl (.int .i64))) :: D 27 []))]
noncomputable def spec_l2Same_l2 : ((List Int) × (List Int) × Int × Int × Unit) → Option (((List Int) × (List Int) × Int × Int × Unit) ⊕ ((Bool × Unit) ⊕ ((List Int) × (List Int) × Unit))) := fun (v0, v1, v10, v11, _) =>
 bif (decide (v11 < v10)) then
  if (((0 : Int) ≤ v11) ∧ (v11 < (((List.length v0) : Nat) : Int))) then
   if (((0 : Int) ≤ v11) ∧ (v11 < (((List.length v1) : Nat) : Int))) then
    bif ((List.getD v0 (Int.toNat v11) (0 : Int)) != (List.getD v1 (Int.toNat v11) (0 : Int))) then
     some (Sum.inr (Sum.inl (false, ())))
    else
     some (Sum.inl (v0, v1, v10, (IntKind.wrap .i64 (v11 + (1 : Int))), ()))
   else
    none
  else
   none
 else
  some (Sum.inr (Sum.inr (v0, v1, ())))
theorem spec_l2Same_l2_eq : loopStep 29 E50 L50_0 (loopOf f50 2) sh50_2 xs50_2 = spec_l2Same_l2 := by kernel_rfl
theorem loop50_2 {L} (h : L 2 = some ⟨29, sh50_2, xs50_2, spec_l2Same_l2⟩) : LoopOk prog L (loopOf f50 2) := lo spec_l2Same_l2_eq E50_ok allNil h
noncomputable def L50_1 : Nat → Option LoopD := fun n => ifEq n 2 (some ⟨29, sh50_2, xs50_2, spec_l2Same_l2⟩) (L50_0 n)
noncomputable def spec_l2Same : (List Int) → (List Int) → Option (Bool) := fun a0 a1 =>
 Option.bind (loopF spec_l2Same_l2 (a0, a1, (if ((((List.length a1) : Nat) : Int) < (((List.length a0) : Nat) : Int)) then (((List.length a1) : Nat) : Int) else (((List.length a0) : Nat) : Int)), (0 : Int), ())) fun r0 =>
  (match r0 with
  | .inl (d1, _) =>
    some d1
  | .inr (d2, d3, _) =>
    some ((((List.length d2) : Nat) : Int) == (((List.length d3) : Nat) : Int)))
noncomputable def A50 : FnA := ⟨[.v (.sl (.int .i64)), .v (.sl (.int .i64))], true, [.bool], fun x => spec_l2Same x.1 x.2.1⟩
theorem spec_l2Same_eq : fnF E50 L50_1 [.v (.sl (.int .i64)), .v (.sl (.int .i64))] true [.bool] f50.ntmps f50.results.toList (codeOf f50) = fun x => spec_l2Same x.1 x.2.1 := by kernel_rfl
theorem A50_ok : FnOk prog 50 A50 := fo spec_l2Same_eq func50 E50_ok (allCons (loop50_2 rfl) allNil)
/-! spec.l6Mul -/
noncomputable def E86 : Env := ⟨ty0, fun _ => none, fun _ => none, fun _ => none, fun _ => none⟩
theorem E86_ok : FnsOk prog E86 := (noFns _ _)
noncomputable def L86_0 : Nat → Option LoopD := fun _ => none
def sh86_7 : List Fm := d :: d :: .box 100200 [.val (.int .i64), .val (.sl (.int .i64))] :: .box 100300 [.val (.int .i64), .val (.sl (.int .i64))] :: .box 100400 [.val (.int .i64), .own (.int .i64) 100402 false] :: .box 100500 [.val (.int .i64), .own (.int .i64) 100502 false] :: .cell (.val (.int .i64)) :: .cell (.val (.int .i64)) :: D 8 (.cell (.val (.int .i64)) :: .cell (.val (.int .i64)) :: d :: d :: d :: .cell (.val (.int .i64)) :: .cell (.val (.int .i64)) :: D 40 [])
def xs86_7 : List (Ex × List Fm) := [(.exit 2, [d, d, .box 100200 [.val (.int .i64), .val (.sl (.int .i64))], .box 100300 [.val (.int .i64), .val (.sl (.int .i64))], .box 100400 [.val (.int .i64), .own (.int .i64) 100402 false], .box 100500 [.val (.int .i64), .own (.int .i64) 100502 false], d, .cell (.val (.int .i64)), d, d, d, d, d, d, d, d, .cell (.val (.int .i64)), .cell (.val (.int .i64)), d, d, d, d, d, d, d, d, d, d, d, d, d, d, d, d, d, d, d, d, d, d, d, d, d, d, d, d, d, d, d, d, d, d, d, d, d, d, d, d, d, d, d, d, d])]
noncomputable def spec_l6Mul_l7 : ((Int × (List Int) × Unit) × (Int × (List Int) × Unit) × (Int × (List Int) × Unit) × (Int × (List Int) × Unit) × Int × Int × Int × Int × Int × Int × Unit) → Option (((Int × (List Int) × Unit) × (Int × (List Int) × Unit) × (Int × (List Int) × Unit) × (Int × (List Int) × Unit) × Int × Int × Int × Int × Int × Int × Unit) ⊕ (((Int × (List Int) × Unit) × (Int × (List Int) × Unit) × (Int × (List Int) × Unit) × (Int × (List Int) × Unit) × Int × Int × Int × Unit))) := fun ((v2_0, v2_1, _), (v3_0, v3_1, _), (v4_0, v4_1, _), (v5_0, v5_1, _), v6, v7, v16, v17, v21, v22, _) =>
 bif (decide (v22 < v21)) then
  if (v2_0 = (0 : Int)) then
   none
  else
   if (((0 : Int) ≤ (IntKind.wrap .i64 ((IntKind.wrap .i64 ((IntKind.wrap .i64 (Int.tdiv v6 v2_0)) * v2_0)) + v22))) ∧ ((IntKind.wrap .i64 ((IntKind.wrap .i64 ((IntKind.wrap .i64 (Int.tdiv v6 v2_0)) * v2_0)) + v22)) < (((List.length v2_1) : Nat) : Int))) then
    if (v2_0 = (0 : Int)) then
     none
    else
     if (((0 : Int) ≤ (IntKind.wrap .i64 ((IntKind.wrap .i64 (v22 * v2_0)) + (Int.tmod v6 v2_0)))) ∧ ((IntKind.wrap .i64 ((IntKind.wrap .i64 (v22 * v2_0)) + (Int.tmod v6 v2_0))) < (((List.length v3_1) : Nat) : Int))) then
      some (Sum.inl ((v2_0, v2_1, ()), (v3_0, v3_1, ()), (v4_0, (List.take (List.length v4_1) (List.drop 0 v4_1)), ()), (v5_0, (List.take (List.length v5_1) (List.drop 0 v5_1)), ()), v6, (if ((if ((List.getD v3_1 (Int.toNat (IntKind.wrap .i64 ((IntKind.wrap .i64 (v22 * v2_0)) + (Int.tmod v6 v2_0)))) (0 : Int)) > (List.getD v2_1 (Int.toNat (IntKind.wrap .i64 ((IntKind.wrap .i64 ((IntKind.wrap .i64 (Int.tdiv v6 v2_0)) * v2_0)) + v22))) (0 : Int))) then (List.getD v3_1 (Int.toNat (IntKind.wrap .i64 ((IntKind.wrap .i64 (v22 * v2_0)) + (Int.tmod v6 v2_0)))) (0 : Int)) else (List.getD v2_1 (Int.toNat (IntKind.wrap .i64 ((IntKind.wrap .i64 ((IntKind.wrap .i64 (Int.tdiv v6 v2_0)) * v2_0)) + v22))) (0 : Int))) < v7) then (if ((List.getD v3_1 (Int.toNat (IntKind.wrap .i64 ((IntKind.wrap .i64 (v22 * v2_0)) + (Int.tmod v6 v2_0)))) (0 : Int)) > (List.getD v2_1 (Int.toNat (IntKind.wrap .i64 ((IntKind.wrap .i64 ((IntKind.wrap .i64 (Int.tdiv v6 v2_0)) * v2_0)) + v22))) (0 : Int))) then (List.getD v3_1 (Int.toNat (IntKind.wrap .i64 ((IntKind.wrap .i64 (v22 * v2_0)) + (Int.tmod v6 v2_0)))) (0 : Int)) else (List.getD v2_1 (Int.toNat (IntKind.wrap .i64 ((IntKind.wrap .i64 ((IntKind.wrap .i64 (Int.tdiv v6 v2_0)) * v2_0)) + v22))) (0 : Int))) else v7), v16, v17, v21, (IntKind.wrap .i64 (v22 + (1 : Int))), ()))
     else
      none
   else
    none
 else
  some (Sum.inr ((v2_0, v2_1, ()), (v3_0, v3_1, ()), (v4_0, (List.take (List.length v4_1) (List.drop 0 v4_1)), ()), (v5_0, (List.take (List.length v5_1) (List.drop 0 v5_1)), ()), v7, v16, v17, ()))
theorem spec_l6Mul_l7_eq : loopStep 63 E86 L86_0 (loopOf f86 7) sh86_7 xs86_7 = spec_l6Mul_l7 := by kernel_rfl
theorem loop86_7 {L} (h : L 7 = some ⟨63, sh86_7, xs86_7, spec_l6Mul_l7⟩) : LoopOk prog L (loopOf f86 7) := lo spec_l6Mul_l7_eq E86_ok allNil h
noncomputable def L86_1 : Nat → Option LoopD := fun n => ifEq n 7 (some ⟨63, sh86_7, xs86_7, spec_l6Mul_l7⟩) (L86_0 n)
def sh86_3 : List Fm := d :: d :: .box 100200 [.val (.int .i64), .val (.sl (.int .i64))] :: .box 100300 [.val (.int .i64), .val (.sl (.int .i64))] :: .box 100400 [.val (.int .i64), .own (.int .i64) 100402 false] :: .box 100500 [.val (.int .i64), .own (.int .i64) 100502 false] :: D 10 (.cell (.val (.int .i64)) :: .cell (.val (.int .i64)) :: D 45 [])
def xs86_3 : List (Ex × List Fm) := [(.exit 0, [d, d, d, d, .box 100400 [.val (.int .i64), .own (.int .i64) 100402 false], .box 100500 [.val (.int .i64), .own (.int .i64) 100502 false], d, d, d, d, d, d, d, d, d, d, d, d, d, d, d, d, d, d, d, d, d, d, d, d, d, d, d, d, d, d, d, d, d, d, d, d, d, d, d, d, d, d, d, d, d, d, d, d, d, d, d, d, d, d, d, d, d])]
noncomputable def spec_l6Mul_l3 : ((Int × (List Int) × Unit) × (Int × (List Int) × Unit) × (Int × (List Int) × Unit) × (Int × (List Int) × Unit) × Int × Int × Unit) → Option (((Int × (List Int) × Unit) × (Int × (List Int) × Unit) × (Int × (List Int) × Unit) × (Int × (List Int) × Unit) × Int × Int × Unit) ⊕ (((Int × (List Int) × Unit) × (Int × (List Int) × Unit) × Unit))) := fun ((v2_0, v2_1, _), (v3_0, v3_1, _), (v4_0, v4_1, _), (v5_0, v5_1, _), v16, v17, _) =>
 bif (decide (v17 < v16)) then
  Option.bind (loopF spec_l6Mul_l7 ((v2_0, v2_1, ()), (v3_0, v3_1, ()), (v4_0, (List.take (List.length v4_1) (List.drop 0 v4_1)), ()), (v5_0, (List.take (List.length v5_1) (List.drop 0 v5_1)), ()), v17, (3 : Int), v16, v17, v2_0, (0 : Int), ())) fun ((r0, r1, _), (r2, r3, _), (r4, r5, _), (r6, r7, _), r8, r9, r10, _) =>
   if (((0 + (List.length r7)) = (List.length r7)) ∧ ((((List.length r7) + (List.length (List.take 1 (List.drop 0 [r8])))) * 8) ≤ 140737488355328)) then
    some (Sum.inl ((r0, r1, ()), (r2, r3, ()), (r4, (List.take (List.length r5) (List.drop 0 r5)), ()), (r6, (List.take ((List.length r7) + (List.length (List.take 1 (List.drop 0 [r8])))) (List.drop 0 ((List.drop 0 r7) ++ (List.take 1 (List.drop 0 [r8]))))), ()), r9, (IntKind.wrap .i64 (r10 + (1 : Int))), ()))
   else
    none
 else
  some (Sum.inr ((v4_0, (List.take (List.length v4_1) (List.drop 0 v4_1)), ()), (v5_0, (List.take (List.length v5_1) (List.drop 0 v5_1)), ()), ()))
theorem spec_l6Mul_l3_eq : loopStep 63 E86 L86_1 (loopOf f86 3) sh86_3 xs86_3 = spec_l6Mul_l3 := by kernel_rfl
theorem loop86_3 {L} (h : L 3 = some ⟨63, sh86_3, xs86_3, spec_l6Mul_l3⟩) : LoopOk prog L (loopOf f86 3) := lo spec_l6Mul_l3_eq E86_ok (allCons (loop86_7 rfl) allNil) h
noncomputable def L86_2 : Nat → Option LoopD := fun n => ifEq n 3 (some ⟨63, sh86_3, xs86_3, spec_l6Mul_l3⟩) (L86_1 n)
noncomputable def spec_l6Mul : (Int × (List Int)) → (Int × (List Int)) → Option ((Int × (List Int))) := fun (a0_0, a0_1) (a1_0, a1_1) =>
 Option.bind (loopF spec_l6Mul_l3 ((a0_0, a0_1, ()), (a1_0, a1_1, ()), ((0 : Int), [], ()), (a0_0, [], ()), (IntKind.wrap .i64 (a0_0 * a0_0)), (0 : Int), ())) fun ((r0, r1, _), (r2, r3, _), _) =>
  some (r2, (List.take (List.length r3) (List.drop 0 r3)))
noncomputable def A86 : FnA := ⟨[.v (.pair (.int .i64) (.sl (.int .i64))), .v (.pair (.int .i64) (.sl (.int .i64)))], true, [.pair (.int .i64) (.sl (.int .i64))], fun x => spec_l6Mul x.1 x.2.1⟩
theorem spec_l6Mul_eq : fnF E86 L86_2 [.v (.pair (.int .i64) (.sl (.int .i64))), .v (.pair (.int .i64) (.sl (.int .i64)))] true [.pair (.int .i64) (.sl (.int .i64))] f86.ntmps f86.results.toList (codeOf f86) = fun x => spec_l6Mul x.1 x.2.1 := by kernel_rfl
theorem A86_ok : FnOk prog 86 A86 := fo spec_l6Mul_eq func86 E86_ok (allCons (loop86_3 rfl) allNil)
/-! spec.l6Idempotent -/
noncomputable def E49 : Env := ⟨ty0, fun g => ifEq g 86 (some A86) (ifEq g 50 (some A50) (none)), fun _ => none, fun _ => none, fun _ => none⟩
theorem E49_ok : FnsOk prog E49 := (oF A86_ok func86 (oF A50_ok func50 (noFns _ _)))
noncomputable def L49_0 : Nat → Option LoopD := fun _ => none
noncomputable def spec_l6Idempotent : (Int × (List Int)) → Option (Bool) := fun (a0_0, a0_1) =>
 Option.bind (spec_l6Mul (a0_0, a0_1) (a0_0, a0_1)) fun (r0, r1) =>
  Option.bind (spec_l2Same (List.take (List.length r1) (List.drop 0 r1)) a0_1) fun r2 =>
   some r2
noncomputable def A49 : FnA := ⟨[.v (.pair (.int .i64) (.sl (.int .i64)))], true, [.bool], fun x => spec_l6Idempotent x.1⟩
theorem spec_l6Idempotent_eq : fnF E49 L49_0 [.v (.pair (.int .i64) (.sl (.int .i64)))] true [.bool] f49.ntmps f49.results.toList (codeOf f49) = fun x => spec_l6Idempotent x.1 := by kernel_rfl
theorem A49_ok : FnOk prog 49 A49 := fo spec_l6Idempotent_eq func49 E49_ok allNil
/-! spec.l6Again -/
noncomputable def E87 : Env := ⟨ty0, fun _ => none, fun _ => none, fun _ => none, fun _ => none⟩
theorem E87_ok : FnsOk prog E87 := (noFns _ _)
noncomputable def L87_0 : Nat → Option LoopD := fun _ => none
noncomputable def spec_l6Again : Int → Option (Int) := fun a0 =>
 bif (a0 == (1 : Int)) then
  some (2 : Int)
 else
  some a0
noncomputable def A87 : FnA := ⟨[.v (.int .i64)], true, [.int .i64], fun x => spec_l6Again x.1⟩
theorem spec_l6Again_eq : fnF E87 L87_0 [.v (.int .i64)] true [.int .i64] f87.ntmps f87.results.toList (codeOf f87) = fun x => spec_l6Again x.1 := by kernel_rfl
theorem A87_ok : FnOk prog 87 A87 := fo spec_l6Again_eq func87 E87_ok allNil
/-! spec.l6Stable -/
noncomputable def E51 : Env := ⟨ty0, fun g => ifEq g 87 (some A87) (none), fun _ => none, fun _ => none, fun _ => none⟩
theorem E51_ok : FnsOk prog E51 := (oF A87_ok func87 (noFns _ _))
noncomputable def L51_0 : Nat → Option LoopD := fun _ => none
def sh51_7 : List Fm := d :: .box 100100 [.val (.int .i64), .val (.sl (.int .i64))] :: .box 100200 [.val (.int .i64), .own (.int .i64) 100202 false] :: .box 100300 [.val (.int .i64), .own (.int .i64) 100302 false] :: .cell (.val (.int .i64)) :: .cell (.val (.int .i64)) :: D 8 (.cell (.val (.int .i64)) :: .cell (.val (.int .i64)) :: d :: d :: d :: .cell (.val (.int .i64)) :: .cell (.val (.int .i64)) :: D 51 [])
def xs51_7 : List (Ex × List Fm) := [(.exit 2, [d, .box 100100 [.val (.int .i64), .val (.sl (.int .i64))], .box 100200 [.val (.int .i64), .own (.int .i64) 100202 false], .box 100300 [.val (.int .i64), .own (.int .i64) 100302 false], d, .cell (.val (.int .i64)), d, d, d, d, d, d, d, d, .cell (.val (.int .i64)), .cell (.val (.int .i64)), d, d, d, d, d, d, d, d, d, d, d, d, d, d, d, d, d, d, d, d, d, d, d, d, d, d, d, d, d, d, d, d, d, d, d, d, d, d, d, d, d, d, d, d, d, d, d, d, d, d, d, d, d, d, d, d])]
noncomputable def spec_l6Stable_l7 : ((Int × (List Int) × Unit) × (Int × (List Int) × Unit) × (Int × (List Int) × Unit) × Int × Int × Int × Int × Int × Int × Unit) → Option (((Int × (List Int) × Unit) × (Int × (List Int) × Unit) × (Int × (List Int) × Unit) × Int × Int × Int × Int × Int × Int × Unit) ⊕ (((Int × (List Int) × Unit) × (Int × (List Int) × Unit) × (Int × (List Int) × Unit) × Int × Int × Int × Unit))) := fun ((v1_0, v1_1, _), (v2_0, v2_1, _), (v3_0, v3_1, _), v4, v5, v14, v15, v19, v20, _) =>
 bif (decide (v20 < v19)) then
  if (v1_0 = (0 : Int)) then
   none
  else
   if (((0 : Int) ≤ (IntKind.wrap .i64 ((IntKind.wrap .i64 ((IntKind.wrap .i64 (Int.tdiv v4 v1_0)) * v1_0)) + v20))) ∧ ((IntKind.wrap .i64 ((IntKind.wrap .i64 ((IntKind.wrap .i64 (Int.tdiv v4 v1_0)) * v1_0)) + v20)) < (((List.length v1_1) : Nat) : Int))) then
    if (((0 : Int) ≤ (IntKind.wrap .i64 ((IntKind.wrap .i64 (v20 * v1_0)) + v20))) ∧ ((IntKind.wrap .i64 ((IntKind.wrap .i64 (v20 * v1_0)) + v20)) < (((List.length v1_1) : Nat) : Int))) then
     Option.bind (spec_l6Again (List.getD v1_1 (Int.toNat (IntKind.wrap .i64 ((IntKind.wrap .i64 (v20 * v1_0)) + v20))) (0 : Int))) fun r0 =>
      if (v1_0 = (0 : Int)) then
       none
      else
       if (((0 : Int) ≤ (IntKind.wrap .i64 ((IntKind.wrap .i64 (v20 * v1_0)) + (Int.tmod v4 v1_0)))) ∧ ((IntKind.wrap .i64 ((IntKind.wrap .i64 (v20 * v1_0)) + (Int.tmod v4 v1_0))) < (((List.length v1_1) : Nat) : Int))) then
        some (Sum.inl ((v1_0, v1_1, ()), (v2_0, (List.take (List.length v2_1) (List.drop 0 v2_1)), ()), (v3_0, (List.take (List.length v3_1) (List.drop 0 v3_1)), ()), v4, (if ((if ((List.getD v1_1 (Int.toNat (IntKind.wrap .i64 ((IntKind.wrap .i64 (v20 * v1_0)) + (Int.tmod v4 v1_0)))) (0 : Int)) > (if (r0 > (List.getD v1_1 (Int.toNat (IntKind.wrap .i64 ((IntKind.wrap .i64 ((IntKind.wrap .i64 (Int.tdiv v4 v1_0)) * v1_0)) + v20))) (0 : Int))) then r0 else (List.getD v1_1 (Int.toNat (IntKind.wrap .i64 ((IntKind.wrap .i64 ((IntKind.wrap .i64 (Int.tdiv v4 v1_0)) * v1_0)) + v20))) (0 : Int)))) then (List.getD v1_1 (Int.toNat (IntKind.wrap .i64 ((IntKind.wrap .i64 (v20 * v1_0)) + (Int.tmod v4 v1_0)))) (0 : Int)) else (if (r0 > (List.getD v1_1 (Int.toNat (IntKind.wrap .i64 ((IntKind.wrap .i64 ((IntKind.wrap .i64 (Int.tdiv v4 v1_0)) * v1_0)) + v20))) (0 : Int))) then r0 else (List.getD v1_1 (Int.toNat (IntKind.wrap .i64 ((IntKind.wrap .i64 ((IntKind.wrap .i64 (Int.tdiv v4 v1_0)) * v1_0)) + v20))) (0 : Int)))) < v5) then (if ((List.getD v1_1 (Int.toNat (IntKind.wrap .i64 ((IntKind.wrap .i64 (v20 * v1_0)) + (Int.tmod v4 v1_0)))) (0 : Int)) > (if (r0 > (List.getD v1_1 (Int.toNat (IntKind.wrap .i64 ((IntKind.wrap .i64 ((IntKind.wrap .i64 (Int.tdiv v4 v1_0)) * v1_0)) + v20))) (0 : Int))) then r0 else (List.getD v1_1 (Int.toNat (IntKind.wrap .i64 ((IntKind.wrap .i64 ((IntKind.wrap .i64 (Int.tdiv v4 v1_0)) * v1_0)) + v20))) (0 : Int)))) then (List.getD v1_1 (Int.toNat (IntKind.wrap .i64 ((IntKind.wrap .i64 (v20 * v1_0)) + (Int.tmod v4 v1_0)))) (0 : Int)) else (if (r0 > (List.getD v1_1 (Int.toNat (IntKind.wrap .i64 ((IntKind.wrap .i64 ((IntKind.wrap .i64 (Int.tdiv v4 v1_0)) * v1_0)) + v20))) (0 : Int))) then r0 else (List.getD v1_1 (Int.toNat (IntKind.wrap .i64 ((IntKind.wrap .i64 ((IntKind.wrap .i64 (Int.tdiv v4 v1_0)) * v1_0)) + v20))) (0 : Int)))) else v5), v14, v15, v19, (IntKind.wrap .i64 (v20 + (1 : Int))), ()))
       else
        none
    else
     none
   else
    none
 else
  some (Sum.inr ((v1_0, v1_1, ()), (v2_0, (List.take (List.length v2_1) (List.drop 0 v2_1)), ()), (v3_0, (List.take (List.length v3_1) (List.drop 0 v3_1)), ()), v5, v14, v15, ()))
theorem spec_l6Stable_l7_eq : loopStep 72 E51 L51_0 (loopOf f51 7) sh51_7 xs51_7 = spec_l6Stable_l7 := by kernel_rfl
theorem loop51_7 {L} (h : L 7 = some ⟨72, sh51_7, xs51_7, spec_l6Stable_l7⟩) : LoopOk prog L (loopOf f51 7) := lo spec_l6Stable_l7_eq E51_ok allNil h
noncomputable def L51_1 : Nat → Option LoopD := fun n => ifEq n 7 (some ⟨72, sh51_7, xs51_7, spec_l6Stable_l7⟩) (L51_0 n)
def sh51_3 : List Fm := d :: .box 100100 [.val (.int .i64), .val (.sl (.int .i64))] :: .box 100200 [.val (.int .i64), .own (.int .i64) 100202 false] :: .box 100300 [.val (.int .i64), .own (.int .i64) 100302 false] :: D 10 (.cell (.val (.int .i64)) :: .cell (.val (.int .i64)) :: D 56 [])
def xs51_3 : List (Ex × List Fm) := [(.exit 0, [d, d, .box 100200 [.val (.int .i64), .own (.int .i64) 100202 false], .box 100300 [.val (.int .i64), .own (.int .i64) 100302 false], d, d, d, d, d, d, d, d, d, d, d, d, d, d, d, d, d, d, d, d, d, d, d, d, d, d, d, d, d, d, d, d, d, d, d, d, d, d, d, d, d, d, d, d, d, d, d, d, d, d, d, d, d, d, d, d, d, d, d, d, d, d, d, d, d, d, d, d])]
noncomputable def spec_l6Stable_l3 : ((Int × (List Int) × Unit) × (Int × (List Int) × Unit) × (Int × (List Int) × Unit) × Int × Int × Unit) → Option (((Int × (List Int) × Unit) × (Int × (List Int) × Unit) × (Int × (List Int) × Unit) × Int × Int × Unit) ⊕ (((Int × (List Int) × Unit) × (Int × (List Int) × Unit) × Unit))) := fun ((v1_0, v1_1, _), (v2_0, v2_1, _), (v3_0, v3_1, _), v14, v15, _) =>
 bif (decide (v15 < v14)) then
  Option.bind (loopF spec_l6Stable_l7 ((v1_0, v1_1, ()), (v2_0, (List.take (List.length v2_1) (List.drop 0 v2_1)), ()), (v3_0, (List.take (List.length v3_1) (List.drop 0 v3_1)), ()), v15, (3 : Int), v14, v15, v1_0, (0 : Int), ())) fun ((r0, r1, _), (r2, r3, _), (r4, r5, _), r6, r7, r8, _) =>
   if (((0 + (List.length r5)) = (List.length r5)) ∧ ((((List.length r5) + (List.length (List.take 1 (List.drop 0 [r6])))) * 8) ≤ 140737488355328)) then
    some (Sum.inl ((r0, r1, ()), (r2, (List.take (List.length r3) (List.drop 0 r3)), ()), (r4, (List.take ((List.length r5) + (List.length (List.take 1 (List.drop 0 [r6])))) (List.drop 0 ((List.drop 0 r5) ++ (List.take 1 (List.drop 0 [r6]))))), ()), r7, (IntKind.wrap .i64 (r8 + (1 : Int))), ()))
   else
    none
 else
  some (Sum.inr ((v2_0, (List.take (List.length v2_1) (List.drop 0 v2_1)), ()), (v3_0, (List.take (List.length v3_1) (List.drop 0 v3_1)), ()), ()))
theorem spec_l6Stable_l3_eq : loopStep 72 E51 L51_1 (loopOf f51 3) sh51_3 xs51_3 = spec_l6Stable_l3 := by kernel_rfl
theorem loop51_3 {L} (h : L 3 = some ⟨72, sh51_3, xs51_3, spec_l6Stable_l3⟩) : LoopOk prog L (loopOf f51 3) := lo spec_l6Stable_l3_eq E51_ok (allCons (loop51_7 rfl) allNil) h
noncomputable def L51_2 : Nat → Option LoopD := fun n => ifEq n 3 (some ⟨72, sh51_3, xs51_3, spec_l6Stable_l3⟩) (L51_1 n)
noncomputable def spec_l6Stable : (Int × (List Int)) → Option ((Int × (List Int))) := fun (a0_0, a0_1) =>
 Option.bind (loopF spec_l6Stable_l3 ((a0_0, a0_1, ()), ((0 : Int), [], ()), (a0_0, [], ()), (IntKind.wrap .i64 (a0_0 * a0_0)), (0 : Int), ())) fun ((r0, r1, _), (r2, r3, _), _) =>
  some (r2, (List.take (List.length r3) (List.drop 0 r3)))
noncomputable def A51 : FnA := ⟨[.v (.pair (.int .i64) (.sl (.int .i64)))], true, [.pair (.int .i64) (.sl (.int .i64))], fun x => spec_l6Stable x.1⟩
theorem spec_l6Stable_eq : fnF E51 L51_2 [.v (.pair (.int .i64) (.sl (.int .i64)))] true [.pair (.int .i64) (.sl (.int .i64))] f51.ntmps f51.results.toList (codeOf f51) = fun x => spec_l6Stable x.1 := by kernel_rfl
theorem A51_ok : FnOk prog 51 A51 := fo spec_l6Stable_eq func51 E51_ok (allCons (loop51_3 rfl) allNil)
/-! spec.l8Elements -/
noncomputable def E103_at39 : Env := ⟨ty0, fun g => ifEq g 132 (some A132) (ifEq g 131 (some A131) (ifEq g 50 (some A50) (ifEq g 49 (some A49) (ifEq g 51 (some A51) (ifEq g 86 (some A86) (none)))))), fun _ => none, fun _ => none, fun _ => none⟩
theorem E103_at39_ok : FnsOk prog E103_at39 := (oF A132_ok func132 (oF A131_ok func131 (oF A50_ok func50 (oF A49_ok func49 (oF A51_ok func51 (oF A86_ok func86 (noFns _ _)))))))
noncomputable def L103_at39_0 : Nat → Option LoopD := fun _ => none
def sh103_at39_2 : List Fm := .box 100000 [.own (.pair (.pair (.int .i64) (.sl (.int .i64))) .str) 100001 true, .val .bool] :: d :: .cell (.val .str) :: d :: .box 100400 [.val (.int .i64), .val (.sl (.int .i64))] :: D 6 (.cell (.val (.sl (.pair (.pair (.int .i64) (.sl (.int .i64))) .str))) :: .cell (.val (.int .i64)) :: .cell (.val (.int .i64)) :: D 48 (.cell (.val .bool) :: .box 106300 [.val (.int .i64), .val (.sl (.int .i64)), .val (.sl (.int .i64)), .val (.sl (.pair (.int .i64) (.pair .str (.pair (.int .i64) (.int .i64)))))] :: d :: d :: d :: .ali 100000 0 :: .cell (.own (.pair (.pair (.int .i64) (.sl (.int .i64))) .str) 106800 false) :: D 12 (.cell (.own .str 108100 false) :: .cell (.val (.int .i64)) :: .cell (.val (.int .i64)) :: D 108 [])))
def xs103_at39_2 : List (Ex × List Fm) := [(.ret, [d, d, d, d, d, d, d, d, d, d, d, d, d, d, d, d, d, d, d, d, d, d, d, d, d, d, d, d, d, d, d, d, d, d, d, d, d, d, d, d, d, d, d, d, d, d, d, d, d, d, d, d, d, d, d, d, d, d, d, d, d, d, .cell (.val .bool), .box 106300 [.val (.int .i64), .val (.sl (.int .i64)), .val (.sl (.int .i64)), .val (.sl (.pair (.int .i64) (.pair .str (.pair (.int .i64) (.int .i64)))))], d, d, d, .box 106700 [.own (.pair (.pair (.int .i64) (.sl (.int .i64))) .str) 106701 true, .val .bool], .cell (.own (.pair (.pair (.int .i64) (.sl (.int .i64))) .str) 106800 false), d, d, d, d, d, d, d, d, d, d, d, d, .cell (.own .str 108100 false), .cell (.val (.int .i64)), .cell (.val (.int .i64)), d, d, d, d, d, d, d, d, d, d, d, d, d, d, d, d, d, d, d, d, d, d, d, d, d, d, d, d, d, d, d, d, d, d, d, d, d, d, d, d, d, d, d, d, d, d, d, d, d, d, d, d, d, d, d, d, d, d, d, d, d, d, d, d, d, d, d, d, d, d, d, d, d, d, d, d, d, d, d, d, d, d, d, d, d, d, d, d, d, d, d, d, d, d, d, d, d, d, d, d, d, d, d, d, d, d, d, d]), (.exit 0, [.box 100000 [.own (.pair (.pair (.int .i64) (.sl (.int .i64))) .str) 100001 true, .val .bool], d, .cell (.val .str), d, .box 100400 [.val (.int .i64), .val (.sl (.int .i64))], d, d, d, d, d, d, d, d, d, d, d, d, d, d, d, d, d, d, d, d, d, d, d, d, d, d, d, d, d, d, d, d, d, d, d, d, d, d, d, d, d, d, d, d, d, d, d, d, d, d, d, d, d, d, d, d, d, .cell (.val .bool), .box 106300 [.val (.int .i64), .val (.sl (.int .i64)), .val (.sl (.int .i64)), .val (.sl (.pair (.int .i64) (.pair .str (.pair (.int .i64) (.int .i64)))))], d, d, d, .ali 100000 0, .cell (.own (.pair (.pair (.int .i64) (.sl (.int .i64))) .str) 106800 false), d, d, d, d, d, d, d, d, d, d, d, d, .cell (.own .str 108100 false), .cell (.val (.int .i64)), .cell (.val (.int .i64)), d, d, d, d, d, d, d, d, d, d, d, d, d, d, d, d, d, d, d, d, d, d, d, d, d, d, d, d, d, d, d, d, d, d, d, d, d, d, d, d, d, d, d, d, d, d, d, d, d, d, d, d, d, d, d, d, d, d, d, d, d, d, d, d, d, d, d, d, d, d, d, d, d, d, d, d, d, d, d, d, d, d, d, d, d, d, d, d, d, d, d, d, d, d, d, d, d, d, d, d, d, d, d, d, d, d, d, d])]
noncomputable def spec_l8Elements_at39_l2 : (((List ((Int × (List Int)) × ByteArray)) × Bool × Unit) × ByteArray × (Int × (List Int) × Unit) × (List ((Int × (List Int)) × ByteArray)) × Int × Int × Bool × (Int × (List Int) × (List Int) × (List (Int × (ByteArray × (Int × Int)))) × Unit) × (List ((Int × (List Int)) × ByteArray)) × (List ByteArray) × Int × Int × Unit) → Option ((((List ((Int × (List Int)) × ByteArray)) × Bool × Unit) × ByteArray × (Int × (List Int) × Unit) × (List ((Int × (List Int)) × ByteArray)) × Int × Int × Bool × (Int × (List Int) × (List Int) × (List (Int × (ByteArray × (Int × Int)))) × Unit) × (List ((Int × (List Int)) × ByteArray)) × (List ByteArray) × Int × Int × Unit) ⊕ ((Bool × (Int × (List Int) × (List Int) × (List (Int × (ByteArray × (Int × Int)))) × Unit) × ((List ((Int × (List Int)) × ByteArray)) × Bool × Unit) × (List ((Int × (List Int)) × ByteArray)) × (List ByteArray) × Int × Int × Unit) ⊕ (((List ((Int × (List Int)) × ByteArray)) × Bool × Unit) × ByteArray × (Int × (List Int) × Unit) × Bool × (Int × (List Int) × (List Int) × (List (Int × (ByteArray × (Int × Int)))) × Unit) × (List ((Int × (List Int)) × ByteArray)) × (List ByteArray) × Int × Int × Unit))) := fun ((v0_0, v0_1, _), v2, (v4_0, v4_1, _), v11, v12, v13, v62, (v63_0, v63_1, v63_2, v63_3, _), v68, v81, v82, v83, _) =>
 bif (decide (v13 < v12)) then
  if (((0 : Int) ≤ v13) ∧ (v13 < (((List.length v11) : Nat) : Int))) then
   Option.bind (spec_l2Same (List.getD v11 (Int.toNat v13) (((0 : Int), []), (⟨Array.empty⟩ : ByteArray))).1.2 v4_1) fun r0 =>
    bif r0 then
     if ((0 + (List.length v0_0)) = (List.length v0_0)) then
      some (Sum.inr (Sum.inl (v62, (v63_0, v63_1, v63_2, v63_3, ()), ((List.drop 0 v0_0), v0_1, ()), (List.take (List.length v68) (List.drop 0 v68)), (List.take (List.length v81) (List.drop 0 v81)), v82, v83, ())))
     else
      none
    else
     if ((0 + (List.length v0_0)) = (List.length v0_0)) then
      some (Sum.inl (((List.drop 0 v0_0), v0_1, ()), v2, (v4_0, v4_1, ()), v11, v12, (IntKind.wrap .i64 (v13 + (1 : Int))), v62, (v63_0, v63_1, v63_2, v63_3, ()), (List.take (List.length v68) (List.drop 0 v68)), (List.take (List.length v81) (List.drop 0 v81)), v82, v83, ()))
     else
      none
  else
   none
 else
  if ((0 + (List.length v0_0)) = (List.length v0_0)) then
   some (Sum.inr (Sum.inr (((List.drop 0 v0_0), v0_1, ()), v2, (v4_0, v4_1, ()), v62, (v63_0, v63_1, v63_2, v63_3, ()), (List.take (List.length v68) (List.drop 0 v68)), (List.take (List.length v81) (List.drop 0 v81)), v82, v83, ())))
  else
   none
theorem spec_l8Elements_at39_l2_eq : loopStep 61 E103_at39 L103_at39_0 (loopOf f133 2) sh103_at39_2 xs103_at39_2 = spec_l8Elements_at39_l2 := by kernel_rfl
theorem loop103_at39_2 {L} (h : L 2 = some ⟨61, sh103_at39_2, xs103_at39_2, spec_l8Elements_at39_l2⟩) : LoopOk prog L (loopOf f133 2) := lo spec_l8Elements_at39_l2_eq E103_at39_ok allNil h
noncomputable def L103_at39_1 : Nat → Option LoopD := fun n => ifEq n 2 (some ⟨61, sh103_at39_2, xs103_at39_2, spec_l8Elements_at39_l2⟩) (L103_at39_0 n)
def shi103_at39 : List Fm := .box 100000 [.own (.pair (.pair (.int .i64) (.sl (.int .i64))) .str) 100001 true, .val .bool] :: .cell (.val (.pair (.int .i64) (.sl (.int .i64)))) :: .cell (.val .str) :: D 59 (.cell (.val .bool) :: .box 106300 [.val (.int .i64), .val (.sl (.int .i64)), .val (.sl (.int .i64)), .val (.sl (.pair (.int .i64) (.pair .str (.pair (.int .i64) (.int .i64)))))] :: d :: d :: d :: .ali 100000 0 :: .cell (.own (.pair (.pair (.int .i64) (.sl (.int .i64))) .str) 106800 false) :: D 12 (.cell (.own .str 108100 false) :: .cell (.val (.int .i64)) :: .cell (.val (.int .i64)) :: D 108 []))
def sho103_at39 : List Fm := d :: .cell (.val .bool) :: .box 100200 [.val (.int .i64), .val (.sl (.int .i64)), .val (.sl (.int .i64)), .val (.sl (.pair (.int .i64) (.pair .str (.pair (.int .i64) (.int .i64)))))] :: d :: d :: d :: .box 100600 [.own (.pair (.pair (.int .i64) (.sl (.int .i64))) .str) 100601 true, .val .bool] :: .cell (.own (.pair (.pair (.int .i64) (.sl (.int .i64))) .str) 100700 false) :: D 12 (.cell (.own .str 102000 false) :: .cell (.val (.int .i64)) :: .cell (.val (.int .i64)) :: D 108 [])
noncomputable def spec_l8Elements_at39 : (((List ((Int × (List Int)) × ByteArray)) × Bool × Unit) × (Int × (List Int)) × ByteArray × Bool × (Int × (List Int) × (List Int) × (List (Int × (ByteArray × (Int × Int)))) × Unit) × (List ((Int × (List Int)) × ByteArray)) × (List ByteArray) × Int × Int × Unit) → Option (Bool × (Int × (List Int) × (List Int) × (List (Int × (ByteArray × (Int × Int)))) × Unit) × ((List ((Int × (List Int)) × ByteArray)) × Bool × Unit) × (List ((Int × (List Int)) × ByteArray)) × (List ByteArray) × Int × Int × Unit) := fun ((v0_0, v0_1, _), (v1_0, v1_1), v2, v62, (v63_0, v63_1, v63_2, v63_3, _), v68, v81, v82, v83, _) =>
 if ((0 + (List.length v0_0)) = (List.length v0_0)) then
  Option.bind (loopF spec_l8Elements_at39_l2 (((List.drop 0 v0_0), v0_1, ()), v2, (v1_0, v1_1, ()), (List.take (List.length v0_0) (List.drop 0 v0_0)), (((List.length v0_0) : Nat) : Int), (0 : Int), v62, (v63_0, v63_1, v63_2, v63_3, ()), (List.take (List.length v68) (List.drop 0 v68)), (List.take (List.length v81) (List.drop 0 v81)), v82, v83, ())) fun r0 =>
   (match r0 with
   | .inl (d1, (d2, d3, d4, d5, _), (d6, d7, _), d8, d9, d10, d11, _) =>
     if ((0 + (List.length d6)) = (List.length d6)) then
      some (d1, (d2, d3, d4, d5, ()), ((List.drop 0 d6), d7, ()), (List.take (List.length d8) (List.drop 0 d8)), (List.take (List.length d9) (List.drop 0 d9)), d10, d11, ())
     else
      none
   | .inr ((d12, d13, _), d14, (d15, d16, _), d17, (d18, d19, d20, d21, _), d22, d23, d24, d25, _) =>
     bif d13 then
      if ((0 + (List.length d12)) = (List.length d12)) then
       some (d17, (d18, d19, d20, d21, ()), ((List.drop 0 d12), true, ()), (List.take (List.length d22) (List.drop 0 d22)), (List.take (List.length d23) (List.drop 0 d23)), d24, d25, ())
      else
       none
     else
      bif (decide ((((List.length d12) : Nat) : Int) ≥ (120 : Int))) then
       if ((0 + (List.length d12)) = (List.length d12)) then
        some (d17, (d18, d19, d20, d21, ()), ((List.drop 0 d12), true, ()), (List.take (List.length d22) (List.drop 0 d22)), (List.take (List.length d23) (List.drop 0 d23)), d24, d25, ())
       else
        none
      else
       bif (!(decide ((((ByteArray.size d14) : Nat) : Int) > (120 : Int)))) then
        if (((0 + (List.length d12)) = (List.length d12)) ∧ ((((List.length d12) + (List.length (List.take 1 (List.drop 0 [((d15, d16), d14)])))) * 48) ≤ 140737488355328)) then
         if ((0 + ((List.length d12) + (List.length (List.take 1 (List.drop 0 [((d15, d16), d14)]))))) = (List.length ((List.drop 0 d12) ++ (List.take 1 (List.drop 0 [((d15, d16), d14)]))))) then
          some (d17, (d18, d19, d20, d21, ()), ((List.drop 0 ((List.drop 0 d12) ++ (List.take 1 (List.drop 0 [((d15, d16), d14)])))), (decide ((((ByteArray.size d14) : Nat) : Int) > (120 : Int))), ()), (List.take (List.length d22) (List.drop 0 d22)), (List.take (List.length d23) (List.drop 0 d23)), d24, d25, ())
         else
          none
        else
         none
       else
        if ((0 + (List.length d12)) = (List.length d12)) then
         some (d17, (d18, d19, d20, d21, ()), ((List.drop 0 d12), (decide ((((ByteArray.size d14) : Nat) : Int) > (120 : Int))), ()), (List.take (List.length d22) (List.drop 0 d22)), (List.take (List.length d23) (List.drop 0 d23)), d24, d25, ())
        else
         none)
 else
  none
theorem spec_l8Elements_at39_eq : inlStep f133.ntmps 131 39 E103_at39 L103_at39_1 f133.results.toList (codeOf f133) shi103_at39 sho103_at39 = spec_l8Elements_at39 := by kernel_rfl
noncomputable def I103_at39 : CallD := ⟨f133.ntmps, shi103_at39, 131, sho103_at39, spec_l8Elements_at39, 0⟩
theorem I103_at39_ok : InlOk prog 39 133 I103_at39 := inlOk_of (tysOk_of tyl_ok) E103_at39_ok (L := L103_at39_1) func133 (by kernel_rfl) (c := codeOf f133) (by kernel_rfl) (codeOk_in (L := L103_at39_1) (tysOk_of tyl_ok) E103_at39_ok mixed (c := codeOf f133) (bs := [loopOf f133 2]) (by kernel_rfl) (allCons (loop103_at39_2 rfl) allNil) (by kernel_rfl)) (by kernel_rfl) (by kernel_rfl) spec_l8Elements_at39_eq
noncomputable def E103_at78 : Env := ⟨ty0, fun g => ifEq g 132 (some A132) (ifEq g 131 (some A131) (ifEq g 50 (some A50) (ifEq g 49 (some A49) (ifEq g 51 (some A51) (ifEq g 86 (some A86) (none)))))), fun _ => none, fun _ => none, fun _ => none⟩
theorem E103_at78_ok : FnsOk prog E103_at78 := (oF A132_ok func132 (oF A131_ok func131 (oF A50_ok func50 (oF A49_ok func49 (oF A51_ok func51 (oF A86_ok func86 (noFns _ _)))))))
noncomputable def L103_at78_0 : Nat → Option LoopD := fun _ => none
def sh103_at78_2 : List Fm := .box 100000 [.own (.pair (.pair (.int .i64) (.sl (.int .i64))) .str) 100001 true, .val .bool] :: d :: .cell (.val .str) :: d :: .box 100400 [.val (.int .i64), .own (.int .i64) 100402 false] :: D 6 (.cell (.val (.sl (.pair (.pair (.int .i64) (.sl (.int .i64))) .str))) :: .cell (.val (.int .i64)) :: .cell (.val (.int .i64)) :: D 48 (.cell (.val .bool) :: D 4 (.ali 100000 0 :: .cell (.val (.sl (.pair (.pair (.int .i64) (.sl (.int .i64))) .str))) :: d :: d :: d :: .cell (.val (.int .i64)) :: .box 107300 [.val (.int .i64), .val (.sl (.int .i64)), .val .str] :: D 118 [])))
def xs103_at78_2 : List (Ex × List Fm) := [(.ret, [d, d, d, d, d, d, d, d, d, d, d, d, d, d, d, d, d, d, d, d, d, d, d, d, d, d, d, d, d, d, d, d, d, d, d, d, d, d, d, d, d, d, d, d, d, d, d, d, d, d, d, d, d, d, d, d, d, d, d, d, d, d, .cell (.val .bool), d, d, d, d, .box 106700 [.own (.pair (.pair (.int .i64) (.sl (.int .i64))) .str) 106701 true, .val .bool], .cell (.val (.sl (.pair (.pair (.int .i64) (.sl (.int .i64))) .str))), d, d, d, .cell (.val (.int .i64)), .box 107300 [.val (.int .i64), .val (.sl (.int .i64)), .val .str], d, d, d, d, d, d, d, d, d, d, d, d, d, d, d, d, d, d, d, d, d, d, d, d, d, d, d, d, d, d, d, d, d, d, d, d, d, d, d, d, d, d, d, d, d, d, d, d, d, d, d, d, d, d, d, d, d, d, d, d, d, d, d, d, d, d, d, d, d, d, d, d, d, d, d, d, d, d, d, d, d, d, d, d, d, d, d, d, d, d, d, d, d, d, d, d, d, d, d, d, d, d, d, d, d, d, d, d, d, d, d, d, d, d, d, d, d, d]), (.exit 0, [.box 100000 [.own (.pair (.pair (.int .i64) (.sl (.int .i64))) .str) 100001 true, .val .bool], d, .cell (.val .str), d, .box 100400 [.val (.int .i64), .own (.int .i64) 100402 false], d, d, d, d, d, d, d, d, d, d, d, d, d, d, d, d, d, d, d, d, d, d, d, d, d, d, d, d, d, d, d, d, d, d, d, d, d, d, d, d, d, d, d, d, d, d, d, d, d, d, d, d, d, d, d, d, d, .cell (.val .bool), d, d, d, d, .ali 100000 0, .cell (.val (.sl (.pair (.pair (.int .i64) (.sl (.int .i64))) .str))), d, d, d, .cell (.val (.int .i64)), .box 107300 [.val (.int .i64), .val (.sl (.int .i64)), .val .str], d, d, d, d, d, d, d, d, d, d, d, d, d, d, d, d, d, d, d, d, d, d, d, d, d, d, d, d, d, d, d, d, d, d, d, d, d, d, d, d, d, d, d, d, d, d, d, d, d, d, d, d, d, d, d, d, d, d, d, d, d, d, d, d, d, d, d, d, d, d, d, d, d, d, d, d, d, d, d, d, d, d, d, d, d, d, d, d, d, d, d, d, d, d, d, d, d, d, d, d, d, d, d, d, d, d, d, d, d, d, d, d, d, d, d, d, d, d])]
noncomputable def spec_l8Elements_at78_l2 : (((List ((Int × (List Int)) × ByteArray)) × Bool × Unit) × ByteArray × (Int × (List Int) × Unit) × (List ((Int × (List Int)) × ByteArray)) × Int × Int × Bool × (List ((Int × (List Int)) × ByteArray)) × Int × (Int × (List Int) × ByteArray × Unit) × Unit) → Option ((((List ((Int × (List Int)) × ByteArray)) × Bool × Unit) × ByteArray × (Int × (List Int) × Unit) × (List ((Int × (List Int)) × ByteArray)) × Int × Int × Bool × (List ((Int × (List Int)) × ByteArray)) × Int × (Int × (List Int) × ByteArray × Unit) × Unit) ⊕ ((Bool × ((List ((Int × (List Int)) × ByteArray)) × Bool × Unit) × (List ((Int × (List Int)) × ByteArray)) × Int × (Int × (List Int) × ByteArray × Unit) × Unit) ⊕ (((List ((Int × (List Int)) × ByteArray)) × Bool × Unit) × ByteArray × (Int × (List Int) × Unit) × Bool × (List ((Int × (List Int)) × ByteArray)) × Int × (Int × (List Int) × ByteArray × Unit) × Unit))) := fun ((v0_0, v0_1, _), v2, (v4_0, v4_1, _), v11, v12, v13, v62, v68, v72, (v73_0, v73_1, v73_2, _), _) =>
 bif (decide (v13 < v12)) then
  if (((0 : Int) ≤ v13) ∧ (v13 < (((List.length v11) : Nat) : Int))) then
   Option.bind (spec_l2Same (List.getD v11 (Int.toNat v13) (((0 : Int), []), (⟨Array.empty⟩ : ByteArray))).1.2 (List.take (List.length v4_1) (List.drop 0 v4_1))) fun r0 =>
    bif r0 then
     if ((0 + (List.length v0_0)) = (List.length v0_0)) then
      some (Sum.inr (Sum.inl (v62, ((List.drop 0 v0_0), v0_1, ()), v68, v72, (v73_0, v73_1, v73_2, ()), ())))
     else
      none
    else
     if ((0 + (List.length v0_0)) = (List.length v0_0)) then
      some (Sum.inl (((List.drop 0 v0_0), v0_1, ()), v2, (v4_0, (List.take (List.length v4_1) (List.drop 0 v4_1)), ()), v11, v12, (IntKind.wrap .i64 (v13 + (1 : Int))), v62, v68, v72, (v73_0, v73_1, v73_2, ()), ()))
     else
      none
  else
   none
 else
  if ((0 + (List.length v0_0)) = (List.length v0_0)) then
   some (Sum.inr (Sum.inr (((List.drop 0 v0_0), v0_1, ()), v2, (v4_0, (List.take (List.length v4_1) (List.drop 0 v4_1)), ()), v62, v68, v72, (v73_0, v73_1, v73_2, ()), ())))
  else
   none
theorem spec_l8Elements_at78_l2_eq : loopStep 61 E103_at78 L103_at78_0 (loopOf f133 2) sh103_at78_2 xs103_at78_2 = spec_l8Elements_at78_l2 := by kernel_rfl
theorem loop103_at78_2 {L} (h : L 2 = some ⟨61, sh103_at78_2, xs103_at78_2, spec_l8Elements_at78_l2⟩) : LoopOk prog L (loopOf f133 2) := lo spec_l8Elements_at78_l2_eq E103_at78_ok allNil h
noncomputable def L103_at78_1 : Nat → Option LoopD := fun n => ifEq n 2 (some ⟨61, sh103_at78_2, xs103_at78_2, spec_l8Elements_at78_l2⟩) (L103_at78_0 n)
def shi103_at78 : List Fm := .box 100000 [.own (.pair (.pair (.int .i64) (.sl (.int .i64))) .str) 100001 true, .val .bool] :: .agg [.val (.int .i64), .own (.int .i64) 100102 false] :: .cell (.val .str) :: D 59 (.cell (.val .bool) :: D 4 (.ali 100000 0 :: .cell (.val (.sl (.pair (.pair (.int .i64) (.sl (.int .i64))) .str))) :: d :: d :: d :: .cell (.val (.int .i64)) :: .box 107300 [.val (.int .i64), .val (.sl (.int .i64)), .val .str] :: D 118 []))
def sho103_at78 : List Fm := d :: .cell (.val .bool) :: D 4 (.box 100600 [.own (.pair (.pair (.int .i64) (.sl (.int .i64))) .str) 100601 true, .val .bool] :: .cell (.val (.sl (.pair (.pair (.int .i64) (.sl (.int .i64))) .str))) :: d :: d :: d :: .cell (.val (.int .i64)) :: .box 101200 [.val (.int .i64), .val (.sl (.int .i64)), .val .str] :: D 118 [])
noncomputable def spec_l8Elements_at78 : (((List ((Int × (List Int)) × ByteArray)) × Bool × Unit) × (Int × (List Int) × Unit) × ByteArray × Bool × (List ((Int × (List Int)) × ByteArray)) × Int × (Int × (List Int) × ByteArray × Unit) × Unit) → Option (Bool × ((List ((Int × (List Int)) × ByteArray)) × Bool × Unit) × (List ((Int × (List Int)) × ByteArray)) × Int × (Int × (List Int) × ByteArray × Unit) × Unit) := fun ((v0_0, v0_1, _), (v1_0, v1_1, _), v2, v62, v68, v72, (v73_0, v73_1, v73_2, _), _) =>
 if ((0 + (List.length v0_0)) = (List.length v0_0)) then
  Option.bind (loopF spec_l8Elements_at78_l2 (((List.drop 0 v0_0), v0_1, ()), v2, (v1_0, (List.take (List.length v1_1) (List.drop 0 v1_1)), ()), (List.take (List.length v0_0) (List.drop 0 v0_0)), (((List.length v0_0) : Nat) : Int), (0 : Int), v62, v68, v72, (v73_0, v73_1, v73_2, ()), ())) fun r0 =>
   (match r0 with
   | .inl (d1, (d2, d3, _), d4, d5, (d6, d7, d8, _), _) =>
     if ((0 + (List.length d2)) = (List.length d2)) then
      some (d1, ((List.drop 0 d2), d3, ()), d4, d5, (d6, d7, d8, ()), ())
     else
      none
   | .inr ((d9, d10, _), d11, (d12, d13, _), d14, d15, d16, (d17, d18, d19, _), _) =>
     bif d10 then
      if ((0 + (List.length d9)) = (List.length d9)) then
       some (d14, ((List.drop 0 d9), true, ()), d15, d16, (d17, d18, d19, ()), ())
      else
       none
     else
      bif (decide ((((List.length d9) : Nat) : Int) ≥ (120 : Int))) then
       if ((0 + (List.length d9)) = (List.length d9)) then
        some (d14, ((List.drop 0 d9), true, ()), d15, d16, (d17, d18, d19, ()), ())
       else
        none
      else
       bif (!(decide ((((ByteArray.size d11) : Nat) : Int) > (120 : Int)))) then
        if (((0 + (List.length d9)) = (List.length d9)) ∧ ((((List.length d9) + (List.length (List.take 1 (List.drop 0 [((d12, (List.take (List.length d13) (List.drop 0 d13))), d11)])))) * 48) ≤ 140737488355328)) then
         if ((0 + ((List.length d9) + (List.length (List.take 1 (List.drop 0 [((d12, (List.take (List.length d13) (List.drop 0 d13))), d11)]))))) = (List.length ((List.drop 0 d9) ++ (List.take 1 (List.drop 0 [((d12, (List.take (List.length d13) (List.drop 0 d13))), d11)]))))) then
          some (d14, ((List.drop 0 ((List.drop 0 d9) ++ (List.take 1 (List.drop 0 [((d12, (List.take (List.length d13) (List.drop 0 d13))), d11)])))), (decide ((((ByteArray.size d11) : Nat) : Int) > (120 : Int))), ()), d15, d16, (d17, d18, d19, ()), ())
         else
          none
        else
         none
       else
        if ((0 + (List.length d9)) = (List.length d9)) then
         some (d14, ((List.drop 0 d9), (decide ((((ByteArray.size d11) : Nat) : Int) > (120 : Int))), ()), d15, d16, (d17, d18, d19, ()), ())
        else
         none)
 else
  none
theorem spec_l8Elements_at78_eq : inlStep f133.ntmps 131 78 E103_at78 L103_at78_1 f133.results.toList (codeOf f133) shi103_at78 sho103_at78 = spec_l8Elements_at78 := by kernel_rfl
noncomputable def I103_at78 : CallD := ⟨f133.ntmps, shi103_at78, 131, sho103_at78, spec_l8Elements_at78, 0⟩
theorem I103_at78_ok : InlOk prog 78 133 I103_at78 := inlOk_of (tysOk_of tyl_ok) E103_at78_ok (L := L103_at78_1) func133 (by kernel_rfl) (c := codeOf f133) (by kernel_rfl) (codeOk_in (L := L103_at78_1) (tysOk_of tyl_ok) E103_at78_ok mixed (c := codeOf f133) (bs := [loopOf f133 2]) (by kernel_rfl) (allCons (loop103_at78_2 rfl) allNil) (by kernel_rfl)) (by kernel_rfl) (by kernel_rfl) spec_l8Elements_at78_eq
noncomputable def E103_at107 : Env := ⟨ty0, fun g => ifEq g 132 (some A132) (ifEq g 131 (some A131) (ifEq g 50 (some A50) (ifEq g 49 (some A49) (ifEq g 51 (some A51) (ifEq g 86 (some A86) (none)))))), fun _ => none, fun _ => none, fun _ => none⟩
theorem E103_at107_ok : FnsOk prog E103_at107 := (oF A132_ok func132 (oF A131_ok func131 (oF A50_ok func50 (oF A49_ok func49 (oF A51_ok func51 (oF A86_ok func86 (noFns _ _)))))))
noncomputable def L103_at107_0 : Nat → Option LoopD := fun _ => none
def sh103_at107_2 : List Fm := .box 100000 [.own (.pair (.pair (.int .i64) (.sl (.int .i64))) .str) 100001 true, .val .bool] :: d :: .cell (.val .str) :: d :: .box 100400 [.val (.int .i64), .own (.int .i64) 100402 false] :: D 6 (.cell (.val (.sl (.pair (.pair (.int .i64) (.sl (.int .i64))) .str))) :: .cell (.val (.int .i64)) :: .cell (.val (.int .i64)) :: D 48 (.cell (.val .bool) :: D 4 (.ali 100000 0 :: .cell (.val (.sl (.pair (.pair (.int .i64) (.sl (.int .i64))) .str))) :: d :: d :: d :: .cell (.val (.int .i64)) :: .box 107300 [.val (.int .i64), .val (.sl (.int .i64)), .val .str] :: d :: d :: .box 107600 [.val (.int .i64), .val (.sl (.int .i64)), .val .str] :: D 74 (.cell (.val (.sl (.pair (.pair (.int .i64) (.sl (.int .i64))) .str))) :: .cell (.val (.int .i64)) :: .cell (.val (.int .i64)) :: D 38 []))))
def xs103_at107_2 : List (Ex × List Fm) := [(.ret, [d, d, d, d, d, d, d, d, d, d, d, d, d, d, d, d, d, d, d, d, d, d, d, d, d, d, d, d, d, d, d, d, d, d, d, d, d, d, d, d, d, d, d, d, d, d, d, d, d, d, d, d, d, d, d, d, d, d, d, d, d, d, .cell (.val .bool), d, d, d, d, .box 106700 [.own (.pair (.pair (.int .i64) (.sl (.int .i64))) .str) 106701 true, .val .bool], .cell (.val (.sl (.pair (.pair (.int .i64) (.sl (.int .i64))) .str))), d, d, d, .cell (.val (.int .i64)), .box 107300 [.val (.int .i64), .val (.sl (.int .i64)), .val .str], d, d, .box 107600 [.val (.int .i64), .val (.sl (.int .i64)), .val .str], d, d, d, d, d, d, d, d, d, d, d, d, d, d, d, d, d, d, d, d, d, d, d, d, d, d, d, d, d, d, d, d, d, d, d, d, d, d, d, d, d, d, d, d, d, d, d, d, d, d, d, d, d, d, d, d, d, d, d, d, d, d, d, d, d, d, d, d, d, d, d, d, d, d, .cell (.val (.sl (.pair (.pair (.int .i64) (.sl (.int .i64))) .str))), .cell (.val (.int .i64)), .cell (.val (.int .i64)), d, d, d, d, d, d, d, d, d, d, d, d, d, d, d, d, d, d, d, d, d, d, d, d, d, d, d, d, d, d, d, d, d, d, d, d, d, d]), (.exit 0, [.box 100000 [.own (.pair (.pair (.int .i64) (.sl (.int .i64))) .str) 100001 true, .val .bool], d, .cell (.val .str), d, .box 100400 [.val (.int .i64), .own (.int .i64) 100402 false], d, d, d, d, d, d, d, d, d, d, d, d, d, d, d, d, d, d, d, d, d, d, d, d, d, d, d, d, d, d, d, d, d, d, d, d, d, d, d, d, d, d, d, d, d, d, d, d, d, d, d, d, d, d, d, d, d, .cell (.val .bool), d, d, d, d, .ali 100000 0, .cell (.val (.sl (.pair (.pair (.int .i64) (.sl (.int .i64))) .str))), d, d, d, .cell (.val (.int .i64)), .box 107300 [.val (.int .i64), .val (.sl (.int .i64)), .val .str], d, d, .box 107600 [.val (.int .i64), .val (.sl (.int .i64)), .val .str], d, d, d, d, d, d, d, d, d, d, d, d, d, d, d, d, d, d, d, d, d, d, d, d, d, d, d, d, d, d, d, d, d, d, d, d, d, d, d, d, d, d, d, d, d, d, d, d, d, d, d, d, d, d, d, d, d, d, d, d, d, d, d, d, d, d, d, d, d, d, d, d, d, d, .cell (.val (.sl (.pair (.pair (.int .i64) (.sl (.int .i64))) .str))), .cell (.val (.int .i64)), .cell (.val (.int .i64)), d, d, d, d, d, d, d, d, d, d, d, d, d, d, d, d, d, d, d, d, d, d, d, d, d, d, d, d, d, d, d, d, d, d, d, d, d, d])]
noncomputable def spec_l8Elements_at107_l2 : (((List ((Int × (List Int)) × ByteArray)) × Bool × Unit) × ByteArray × (Int × (List Int) × Unit) × (List ((Int × (List Int)) × ByteArray)) × Int × Int × Bool × (List ((Int × (List Int)) × ByteArray)) × Int × (Int × (List Int) × ByteArray × Unit) × (Int × (List Int) × ByteArray × Unit) × (List ((Int × (List Int)) × ByteArray)) × Int × Int × Unit) → Option ((((List ((Int × (List Int)) × ByteArray)) × Bool × Unit) × ByteArray × (Int × (List Int) × Unit) × (List ((Int × (List Int)) × ByteArray)) × Int × Int × Bool × (List ((Int × (List Int)) × ByteArray)) × Int × (Int × (List Int) × ByteArray × Unit) × (Int × (List Int) × ByteArray × Unit) × (List ((Int × (List Int)) × ByteArray)) × Int × Int × Unit) ⊕ ((Bool × ((List ((Int × (List Int)) × ByteArray)) × Bool × Unit) × (List ((Int × (List Int)) × ByteArray)) × Int × (Int × (List Int) × ByteArray × Unit) × (Int × (List Int) × ByteArray × Unit) × (List ((Int × (List Int)) × ByteArray)) × Int × Int × Unit) ⊕ (((List ((Int × (List Int)) × ByteArray)) × Bool × Unit) × ByteArray × (Int × (List Int) × Unit) × Bool × (List ((Int × (List Int)) × ByteArray)) × Int × (Int × (List Int) × ByteArray × Unit) × (Int × (List Int) × ByteArray × Unit) × (List ((Int × (List Int)) × ByteArray)) × Int × Int × Unit))) := fun ((v0_0, v0_1, _), v2, (v4_0, v4_1, _), v11, v12, v13, v62, v68, v72, (v73_0, v73_1, v73_2, _), (v76_0, v76_1, v76_2, _), v151, v152, v153, _) =>
 bif (decide (v13 < v12)) then
  if (((0 : Int) ≤ v13) ∧ (v13 < (((List.length v11) : Nat) : Int))) then
   Option.bind (spec_l2Same (List.getD v11 (Int.toNat v13) (((0 : Int), []), (⟨Array.empty⟩ : ByteArray))).1.2 (List.take (List.length v4_1) (List.drop 0 v4_1))) fun r0 =>
    bif r0 then
     if ((0 + (List.length v0_0)) = (List.length v0_0)) then
      some (Sum.inr (Sum.inl (v62, ((List.drop 0 v0_0), v0_1, ()), v68, v72, (v73_0, v73_1, v73_2, ()), (v76_0, v76_1, v76_2, ()), v151, v152, v153, ())))
     else
      none
    else
     if ((0 + (List.length v0_0)) = (List.length v0_0)) then
      some (Sum.inl (((List.drop 0 v0_0), v0_1, ()), v2, (v4_0, (List.take (List.length v4_1) (List.drop 0 v4_1)), ()), v11, v12, (IntKind.wrap .i64 (v13 + (1 : Int))), v62, v68, v72, (v73_0, v73_1, v73_2, ()), (v76_0, v76_1, v76_2, ()), v151, v152, v153, ()))
     else
      none
  else
   none
 else
  if ((0 + (List.length v0_0)) = (List.length v0_0)) then
   some (Sum.inr (Sum.inr (((List.drop 0 v0_0), v0_1, ()), v2, (v4_0, (List.take (List.length v4_1) (List.drop 0 v4_1)), ()), v62, v68, v72, (v73_0, v73_1, v73_2, ()), (v76_0, v76_1, v76_2, ()), v151, v152, v153, ())))
  else
   none
theorem spec_l8Elements_at107_l2_eq : loopStep 61 E103_at107 L103_at107_0 (loopOf f133 2) sh103_at107_2 xs103_at107_2 = spec_l8Elements_at107_l2 := by kernel_rfl
theorem loop103_at107_2 {L} (h : L 2 = some ⟨61, sh103_at107_2, xs103_at107_2, spec_l8Elements_at107_l2⟩) : LoopOk prog L (loopOf f133 2) := lo spec_l8Elements_at107_l2_eq E103_at107_ok allNil h
noncomputable def L103_at107_1 : Nat → Option LoopD := fun n => ifEq n 2 (some ⟨61, sh103_at107_2, xs103_at107_2, spec_l8Elements_at107_l2⟩) (L103_at107_0 n)
def shi103_at107 : List Fm := .box 100000 [.own (.pair (.pair (.int .i64) (.sl (.int .i64))) .str) 100001 true, .val .bool] :: .agg [.val (.int .i64), .own (.int .i64) 100102 false] :: .cell (.val .str) :: D 59 (.cell (.val .bool) :: D 4 (.ali 100000 0 :: .cell (.val (.sl (.pair (.pair (.int .i64) (.sl (.int .i64))) .str))) :: d :: d :: d :: .cell (.val (.int .i64)) :: .box 107300 [.val (.int .i64), .val (.sl (.int .i64)), .val .str] :: d :: d :: .box 107600 [.val (.int .i64), .val (.sl (.int .i64)), .val .str] :: D 74 (.cell (.val (.sl (.pair (.pair (.int .i64) (.sl (.int .i64))) .str))) :: .cell (.val (.int .i64)) :: .cell (.val (.int .i64)) :: D 38 [])))
def sho103_at107 : List Fm := d :: .cell (.val .bool) :: D 4 (.box 100600 [.own (.pair (.pair (.int .i64) (.sl (.int .i64))) .str) 100601 true, .val .bool] :: .cell (.val (.sl (.pair (.pair (.int .i64) (.sl (.int .i64))) .str))) :: d :: d :: d :: .cell (.val (.int .i64)) :: .box 101200 [.val (.int .i64), .val (.sl (.int .i64)), .val .str] :: d :: d :: .box 101500 [.val (.int .i64), .val (.sl (.int .i64)), .val .str] :: D 74 (.cell (.val (.sl (.pair (.pair (.int .i64) (.sl (.int .i64))) .str))) :: .cell (.val (.int .i64)) :: .cell (.val (.int .i64)) :: D 38 []))
noncomputable def spec_l8Elements_at107 : (((List ((Int × (List Int)) × ByteArray)) × Bool × Unit) × (Int × (List Int) × Unit) × ByteArray × Bool × (List ((Int × (List Int)) × ByteArray)) × Int × (Int × (List Int) × ByteArray × Unit) × (Int × (List Int) × ByteArray × Unit) × (List ((Int × (List Int)) × ByteArray)) × Int × Int × Unit) → Option (Bool × ((List ((Int × (List Int)) × ByteArray)) × Bool × Unit) × (List ((Int × (List Int)) × ByteArray)) × Int × (Int × (List Int) × ByteArray × Unit) × (Int × (List Int) × ByteArray × Unit) × (List ((Int × (List Int)) × ByteArray)) × Int × Int × Unit) := fun ((v0_0, v0_1, _), (v1_0, v1_1, _), v2, v62, v68, v72, (v73_0, v73_1, v73_2, _), (v76_0, v76_1, v76_2, _), v151, v152, v153, _) =>
 if ((0 + (List.length v0_0)) = (List.length v0_0)) then
  Option.bind (loopF spec_l8Elements_at107_l2 (((List.drop 0 v0_0), v0_1, ()), v2, (v1_0, (List.take (List.length v1_1) (List.drop 0 v1_1)), ()), (List.take (List.length v0_0) (List.drop 0 v0_0)), (((List.length v0_0) : Nat) : Int), (0 : Int), v62, v68, v72, (v73_0, v73_1, v73_2, ()), (v76_0, v76_1, v76_2, ()), v151, v152, v153, ())) fun r0 =>
   (match r0 with
   | .inl (d1, (d2, d3, _), d4, d5, (d6, d7, d8, _), (d9, d10, d11, _), d12, d13, d14, _) =>
     if ((0 + (List.length d2)) = (List.length d2)) then
      some (d1, ((List.drop 0 d2), d3, ()), d4, d5, (d6, d7, d8, ()), (d9, d10, d11, ()), d12, d13, d14, ())
     else
      none
   | .inr ((d15, d16, _), d17, (d18, d19, _), d20, d21, d22, (d23, d24, d25, _), (d26, d27, d28, _), d29, d30, d31, _) =>
     bif d16 then
      if ((0 + (List.length d15)) = (List.length d15)) then
       some (d20, ((List.drop 0 d15), true, ()), d21, d22, (d23, d24, d25, ()), (d26, d27, d28, ()), d29, d30, d31, ())
      else
       none
     else
      bif (decide ((((List.length d15) : Nat) : Int) ≥ (120 : Int))) then
       if ((0 + (List.length d15)) = (List.length d15)) then
        some (d20, ((List.drop 0 d15), true, ()), d21, d22, (d23, d24, d25, ()), (d26, d27, d28, ()), d29, d30, d31, ())
       else
        none
      else
       bif (!(decide ((((ByteArray.size d17) : Nat) : Int) > (120 : Int)))) then
        if (((0 + (List.length d15)) = (List.length d15)) ∧ ((((List.length d15) + (List.length (List.take 1 (List.drop 0 [((d18, (List.take (List.length d19) (List.drop 0 d19))), d17)])))) * 48) ≤ 140737488355328)) then
         if ((0 + ((List.length d15) + (List.length (List.take 1 (List.drop 0 [((d18, (List.take (List.length d19) (List.drop 0 d19))), d17)]))))) = (List.length ((List.drop 0 d15) ++ (List.take 1 (List.drop 0 [((d18, (List.take (List.length d19) (List.drop 0 d19))), d17)]))))) then
          some (d20, ((List.drop 0 ((List.drop 0 d15) ++ (List.take 1 (List.drop 0 [((d18, (List.take (List.length d19) (List.drop 0 d19))), d17)])))), (decide ((((ByteArray.size d17) : Nat) : Int) > (120 : Int))), ()), d21, d22, (d23, d24, d25, ()), (d26, d27, d28, ()), d29, d30, d31, ())
         else
          none
        else
         none
       else
        if ((0 + (List.length d15)) = (List.length d15)) then
         some (d20, ((List.drop 0 d15), (decide ((((ByteArray.size d17) : Nat) : Int) > (120 : Int))), ()), d21, d22, (d23, d24, d25, ()), (d26, d27, d28, ()), d29, d30, d31, ())
        else
         none)
 else
  none
theorem spec_l8Elements_at107_eq : inlStep f133.ntmps 131 107 E103_at107 L103_at107_1 f133.results.toList (codeOf f133) shi103_at107 sho103_at107 = spec_l8Elements_at107 := by kernel_rfl
noncomputable def I103_at107 : CallD := ⟨f133.ntmps, shi103_at107, 131, sho103_at107, spec_l8Elements_at107, 0⟩
theorem I103_at107_ok : InlOk prog 107 133 I103_at107 := inlOk_of (tysOk_of tyl_ok) E103_at107_ok (L := L103_at107_1) func133 (by kernel_rfl) (c := codeOf f133) (by kernel_rfl) (codeOk_in (L := L103_at107_1) (tysOk_of tyl_ok) E103_at107_ok mixed (c := codeOf f133) (bs := [loopOf f133 2]) (by kernel_rfl) (allCons (loop103_at107_2 rfl) allNil) (by kernel_rfl)) (by kernel_rfl) (by kernel_rfl) spec_l8Elements_at107_eq
noncomputable def E103_at120 : Env := ⟨ty0, fun g => ifEq g 132 (some A132) (ifEq g 131 (some A131) (ifEq g 50 (some A50) (ifEq g 49 (some A49) (ifEq g 51 (some A51) (ifEq g 86 (some A86) (none)))))), fun _ => none, fun _ => none, fun _ => none⟩
theorem E103_at120_ok : FnsOk prog E103_at120 := (oF A132_ok func132 (oF A131_ok func131 (oF A50_ok func50 (oF A49_ok func49 (oF A51_ok func51 (oF A86_ok func86 (noFns _ _)))))))
noncomputable def L103_at120_0 : Nat → Option LoopD := fun _ => none
def sh103_at120_2 : List Fm := .box 100000 [.own (.pair (.pair (.int .i64) (.sl (.int .i64))) .str) 100001 true, .val .bool] :: d :: .cell (.val .str) :: d :: .box 100400 [.val (.int .i64), .own (.int .i64) 100402 false] :: D 6 (.cell (.val (.sl (.pair (.pair (.int .i64) (.sl (.int .i64))) .str))) :: .cell (.val (.int .i64)) :: .cell (.val (.int .i64)) :: D 48 (.cell (.val .bool) :: D 4 (.ali 100000 0 :: .cell (.val (.sl (.pair (.pair (.int .i64) (.sl (.int .i64))) .str))) :: d :: d :: d :: .cell (.val (.int .i64)) :: .box 107300 [.val (.int .i64), .val (.sl (.int .i64)), .val .str] :: D 77 (.cell (.val (.sl (.pair (.pair (.int .i64) (.sl (.int .i64))) .str))) :: .cell (.val (.int .i64)) :: .cell (.val (.int .i64)) :: D 38 []))))
def xs103_at120_2 : List (Ex × List Fm) := [(.ret, [d, d, d, d, d, d, d, d, d, d, d, d, d, d, d, d, d, d, d, d, d, d, d, d, d, d, d, d, d, d, d, d, d, d, d, d, d, d, d, d, d, d, d, d, d, d, d, d, d, d, d, d, d, d, d, d, d, d, d, d, d, d, .cell (.val .bool), d, d, d, d, .box 106700 [.own (.pair (.pair (.int .i64) (.sl (.int .i64))) .str) 106701 true, .val .bool], .cell (.val (.sl (.pair (.pair (.int .i64) (.sl (.int .i64))) .str))), d, d, d, .cell (.val (.int .i64)), .box 107300 [.val (.int .i64), .val (.sl (.int .i64)), .val .str], d, d, d, d, d, d, d, d, d, d, d, d, d, d, d, d, d, d, d, d, d, d, d, d, d, d, d, d, d, d, d, d, d, d, d, d, d, d, d, d, d, d, d, d, d, d, d, d, d, d, d, d, d, d, d, d, d, d, d, d, d, d, d, d, d, d, d, d, d, d, d, d, d, d, d, d, d, .cell (.val (.sl (.pair (.pair (.int .i64) (.sl (.int .i64))) .str))), .cell (.val (.int .i64)), .cell (.val (.int .i64)), d, d, d, d, d, d, d, d, d, d, d, d, d, d, d, d, d, d, d, d, d, d, d, d, d, d, d, d, d, d, d, d, d, d, d, d, d, d]), (.exit 0, [.box 100000 [.own (.pair (.pair (.int .i64) (.sl (.int .i64))) .str) 100001 true, .val .bool], d, .cell (.val .str), d, .box 100400 [.val (.int .i64), .own (.int .i64) 100402 false], d, d, d, d, d, d, d, d, d, d, d, d, d, d, d, d, d, d, d, d, d, d, d, d, d, d, d, d, d, d, d, d, d, d, d, d, d, d, d, d, d, d, d, d, d, d, d, d, d, d, d, d, d, d, d, d, d, .cell (.val .bool), d, d, d, d, .ali 100000 0, .cell (.val (.sl (.pair (.pair (.int .i64) (.sl (.int .i64))) .str))), d, d, d, .cell (.val (.int .i64)), .box 107300 [.val (.int .i64), .val (.sl (.int .i64)), .val .str], d, d, d, d, d, d, d, d, d, d, d, d, d, d, d, d, d, d, d, d, d, d, d, d, d, d, d, d, d, d, d, d, d, d, d, d, d, d, d, d, d, d, d, d, d, d, d, d, d, d, d, d, d, d, d, d, d, d, d, d, d, d, d, d, d, d, d, d, d, d, d, d, d, d, d, d, d, .cell (.val (.sl (.pair (.pair (.int .i64) (.sl (.int .i64))) .str))), .cell (.val (.int .i64)), .cell (.val (.int .i64)), d, d, d, d, d, d, d, d, d, d, d, d, d, d, d, d, d, d, d, d, d, d, d, d, d, d, d, d, d, d, d, d, d, d, d, d, d, d])]
noncomputable def spec_l8Elements_at120_l2 : (((List ((Int × (List Int)) × ByteArray)) × Bool × Unit) × ByteArray × (Int × (List Int) × Unit) × (List ((Int × (List Int)) × ByteArray)) × Int × Int × Bool × (List ((Int × (List Int)) × ByteArray)) × Int × (Int × (List Int) × ByteArray × Unit) × (List ((Int × (List Int)) × ByteArray)) × Int × Int × Unit) → Option ((((List ((Int × (List Int)) × ByteArray)) × Bool × Unit) × ByteArray × (Int × (List Int) × Unit) × (List ((Int × (List Int)) × ByteArray)) × Int × Int × Bool × (List ((Int × (List Int)) × ByteArray)) × Int × (Int × (List Int) × ByteArray × Unit) × (List ((Int × (List Int)) × ByteArray)) × Int × Int × Unit) ⊕ ((Bool × ((List ((Int × (List Int)) × ByteArray)) × Bool × Unit) × (List ((Int × (List Int)) × ByteArray)) × Int × (Int × (List Int) × ByteArray × Unit) × (List ((Int × (List Int)) × ByteArray)) × Int × Int × Unit) ⊕ (((List ((Int × (List Int)) × ByteArray)) × Bool × Unit) × ByteArray × (Int × (List Int) × Unit) × Bool × (List ((Int × (List Int)) × ByteArray)) × Int × (Int × (List Int) × ByteArray × Unit) × (List ((Int × (List Int)) × ByteArray)) × Int × Int × Unit))) := fun ((v0_0, v0_1, _), v2, (v4_0, v4_1, _), v11, v12, v13, v62, v68, v72, (v73_0, v73_1, v73_2, _), v151, v152, v153, _) =>
 bif (decide (v13 < v12)) then
  if (((0 : Int) ≤ v13) ∧ (v13 < (((List.length v11) : Nat) : Int))) then
   Option.bind (spec_l2Same (List.getD v11 (Int.toNat v13) (((0 : Int), []), (⟨Array.empty⟩ : ByteArray))).1.2 (List.take (List.length v4_1) (List.drop 0 v4_1))) fun r0 =>
    bif r0 then
     if ((0 + (List.length v0_0)) = (List.length v0_0)) then
      some (Sum.inr (Sum.inl (v62, ((List.drop 0 v0_0), v0_1, ()), v68, v72, (v73_0, v73_1, v73_2, ()), v151, v152, v153, ())))
     else
      none
    else
     if ((0 + (List.length v0_0)) = (List.length v0_0)) then
      some (Sum.inl (((List.drop 0 v0_0), v0_1, ()), v2, (v4_0, (List.take (List.length v4_1) (List.drop 0 v4_1)), ()), v11, v12, (IntKind.wrap .i64 (v13 + (1 : Int))), v62, v68, v72, (v73_0, v73_1, v73_2, ()), v151, v152, v153, ()))
     else
      none
  else
   none
 else
  if ((0 + (List.length v0_0)) = (List.length v0_0)) then
   some (Sum.inr (Sum.inr (((List.drop 0 v0_0), v0_1, ()), v2, (v4_0, (List.take (List.length v4_1) (List.drop 0 v4_1)), ()), v62, v68, v72, (v73_0, v73_1, v73_2, ()), v151, v152, v153, ())))
  else
   none
theorem spec_l8Elements_at120_l2_eq : loopStep 61 E103_at120 L103_at120_0 (loopOf f133 2) sh103_at120_2 xs103_at120_2 = spec_l8Elements_at120_l2 := by kernel_rfl
theorem loop103_at120_2 {L} (h : L 2 = some ⟨61, sh103_at120_2, xs103_at120_2, spec_l8Elements_at120_l2⟩) : LoopOk prog L (loopOf f133 2) := lo spec_l8Elements_at120_l2_eq E103_at120_ok allNil h
noncomputable def L103_at120_1 : Nat → Option LoopD := fun n => ifEq n 2 (some ⟨61, sh103_at120_2, xs103_at120_2, spec_l8Elements_at120_l2⟩) (L103_at120_0 n)
def shi103_at120 : List Fm := .box 100000 [.own (.pair (.pair (.int .i64) (.sl (.int .i64))) .str) 100001 true, .val .bool] :: .agg [.val (.int .i64), .own (.int .i64) 100102 false] :: .cell (.val .str) :: D 59 (.cell (.val .bool) :: D 4 (.ali 100000 0 :: .cell (.val (.sl (.pair (.pair (.int .i64) (.sl (.int .i64))) .str))) :: d :: d :: d :: .cell (.val (.int .i64)) :: .box 107300 [.val (.int .i64), .val (.sl (.int .i64)), .val .str] :: D 77 (.cell (.val (.sl (.pair (.pair (.int .i64) (.sl (.int .i64))) .str))) :: .cell (.val (.int .i64)) :: .cell (.val (.int .i64)) :: D 38 [])))
def sho103_at120 : List Fm := d :: .cell (.val .bool) :: D 4 (.box 100600 [.own (.pair (.pair (.int .i64) (.sl (.int .i64))) .str) 100601 true, .val .bool] :: .cell (.val (.sl (.pair (.pair (.int .i64) (.sl (.int .i64))) .str))) :: d :: d :: d :: .cell (.val (.int .i64)) :: .box 101200 [.val (.int .i64), .val (.sl (.int .i64)), .val .str] :: D 77 (.cell (.val (.sl (.pair (.pair (.int .i64) (.sl (.int .i64))) .str))) :: .cell (.val (.int .i64)) :: .cell (.val (.int .i64)) :: D 38 []))
noncomputable def spec_l8Elements_at120 : (((List ((Int × (List Int)) × ByteArray)) × Bool × Unit) × (Int × (List Int) × Unit) × ByteArray × Bool × (List ((Int × (List Int)) × ByteArray)) × Int × (Int × (List Int) × ByteArray × Unit) × (List ((Int × (List Int)) × ByteArray)) × Int × Int × Unit) → Option (Bool × ((List ((Int × (List Int)) × ByteArray)) × Bool × Unit) × (List ((Int × (List Int)) × ByteArray)) × Int × (Int × (List Int) × ByteArray × Unit) × (List ((Int × (List Int)) × ByteArray)) × Int × Int × Unit) := fun ((v0_0, v0_1, _), (v1_0, v1_1, _), v2, v62, v68, v72, (v73_0, v73_1, v73_2, _), v151, v152, v153, _) =>
 if ((0 + (List.length v0_0)) = (List.length v0_0)) then
  Option.bind (loopF spec_l8Elements_at120_l2 (((List.drop 0 v0_0), v0_1, ()), v2, (v1_0, (List.take (List.length v1_1) (List.drop 0 v1_1)), ()), (List.take (List.length v0_0) (List.drop 0 v0_0)), (((List.length v0_0) : Nat) : Int), (0 : Int), v62, v68, v72, (v73_0, v73_1, v73_2, ()), v151, v152, v153, ())) fun r0 =>
   (match r0 with
   | .inl (d1, (d2, d3, _), d4, d5, (d6, d7, d8, _), d9, d10, d11, _) =>
     if ((0 + (List.length d2)) = (List.length d2)) then
      some (d1, ((List.drop 0 d2), d3, ()), d4, d5, (d6, d7, d8, ()), d9, d10, d11, ())
     else
      none
   | .inr ((d12, d13, _), d14, (d15, d16, _), d17, d18, d19, (d20, d21, d22, _), d23, d24, d25, _) =>
     bif d13 then
      if ((0 + (List.length d12)) = (List.length d12)) then
       some (d17, ((List.drop 0 d12), true, ()), d18, d19, (d20, d21, d22, ()), d23, d24, d25, ())
      else
       none
     else
      bif (decide ((((List.length d12) : Nat) : Int) ≥ (120 : Int))) then
       if ((0 + (List.length d12)) = (List.length d12)) then
        some (d17, ((List.drop 0 d12), true, ()), d18, d19, (d20, d21, d22, ()), d23, d24, d25, ())
       else
        none
      else
       bif (!(decide ((((ByteArray.size d14) : Nat) : Int) > (120 : Int)))) then
        if (((0 + (List.length d12)) = (List.length d12)) ∧ ((((List.length d12) + (List.length (List.take 1 (List.drop 0 [((d15, (List.take (List.length d16) (List.drop 0 d16))), d14)])))) * 48) ≤ 140737488355328)) then
         if ((0 + ((List.length d12) + (List.length (List.take 1 (List.drop 0 [((d15, (List.take (List.length d16) (List.drop 0 d16))), d14)]))))) = (List.length ((List.drop 0 d12) ++ (List.take 1 (List.drop 0 [((d15, (List.take (List.length d16) (List.drop 0 d16))), d14)]))))) then
          some (d17, ((List.drop 0 ((List.drop 0 d12) ++ (List.take 1 (List.drop 0 [((d15, (List.take (List.length d16) (List.drop 0 d16))), d14)])))), (decide ((((ByteArray.size d14) : Nat) : Int) > (120 : Int))), ()), d18, d19, (d20, d21, d22, ()), d23, d24, d25, ())
         else
          none
        else
         none
       else
        if ((0 + (List.length d12)) = (List.length d12)) then
         some (d17, ((List.drop 0 d12), (decide ((((ByteArray.size d14) : Nat) : Int) > (120 : Int))), ()), d18, d19, (d20, d21, d22, ()), d23, d24, d25, ())
        else
         none)
 else
  none
theorem spec_l8Elements_at120_eq : inlStep f133.ntmps 131 120 E103_at120 L103_at120_1 f133.results.toList (codeOf f133) shi103_at120 sho103_at120 = spec_l8Elements_at120 := by kernel_rfl
noncomputable def I103_at120 : CallD := ⟨f133.ntmps, shi103_at120, 131, sho103_at120, spec_l8Elements_at120, 0⟩
theorem I103_at120_ok : InlOk prog 120 133 I103_at120 := inlOk_of (tysOk_of tyl_ok) E103_at120_ok (L := L103_at120_1) func133 (by kernel_rfl) (c := codeOf f133) (by kernel_rfl) (codeOk_in (L := L103_at120_1) (tysOk_of tyl_ok) E103_at120_ok mixed (c := codeOf f133) (bs := [loopOf f133 2]) (by kernel_rfl) (allCons (loop103_at120_2 rfl) allNil) (by kernel_rfl)) (by kernel_rfl) (by kernel_rfl) spec_l8Elements_at120_eq
noncomputable def E103 : Env := ⟨ty0, fun g => ifEq g 132 (some A132) (ifEq g 131 (some A131) (ifEq g 50 (some A50) (ifEq g 49 (some A49) (ifEq g 51 (some A51) (ifEq g 86 (some A86) (none)))))), fun _ => none, fun _ => none, fun d => ifI (Nat.beq d 39) (some (133, I103_at39)) (ifI (Nat.beq d 78) (some (133, I103_at78)) (ifI (Nat.beq d 107) (some (133, I103_at107)) (ifI (Nat.beq d 120) (some (133, I103_at120)) (none))))⟩
theorem E103_ok : FnsOk prog E103 := (oneIl (d0 := 39) (g0 := 133) I103_at39_ok (oneIl (d0 := 78) (g0 := 133) I103_at78_ok (oneIl (d0 := 107) (g0 := 133) I103_at107_ok (oneIl (d0 := 120) (g0 := 133) I103_at120_ok (oF A132_ok func132 (oF A131_ok func131 (oF A50_ok func50 (oF A49_ok func49 (oF A51_ok func51 (oF A86_ok func86 (noFns _ _)))))))))))
noncomputable def L103_0 : Nat → Option LoopD := fun _ => none
def sh103_4 : List Fm := d :: .cell (.val .bool) :: .box 100200 [.val (.int .i64), .val (.sl (.int .i64)), .val (.sl (.int .i64)), .val (.sl (.pair (.int .i64) (.pair .str (.pair (.int .i64) (.int .i64)))))] :: d :: d :: d :: .box 100600 [.own (.pair (.pair (.int .i64) (.sl (.int .i64))) .str) 100601 true, .val .bool] :: .cell (.own (.pair (.pair (.int .i64) (.sl (.int .i64))) .str) 100700 false) :: D 12 (.cell (.own .str 102000 false) :: .cell (.val (.int .i64)) :: .cell (.val (.int .i64)) :: D 108 [])
def xs103_4 : List (Ex × List Fm) := [(.exit 0, [d, .cell (.val .bool), d, d, d, d, .box 100600 [.own (.pair (.pair (.int .i64) (.sl (.int .i64))) .str) 100601 true, .val .bool], .cell (.own (.pair (.pair (.int .i64) (.sl (.int .i64))) .str) 100700 false), d, d, d, d, d, d, d, d, d, d, d, d, d, d, d, d, d, d, d, d, d, d, d, d, d, d, d, d, d, d, d, d, d, d, d, d, d, d, d, d, d, d, d, d, d, d, d, d, d, d, d, d, d, d, d, d, d, d, d, d, d, d, d, d, d, d, d, d, d, d, d, d, d, d, d, d, d, d, d, d, d, d, d, d, d, d, d, d, d, d, d, d, d, d, d, d, d, d, d, d, d, d, d, d, d, d, d, d, d, d, d, d, d, d, d, d, d, d, d, d, d, d, d])]
noncomputable def spec_l8Elements_l4 : (Bool × (Int × (List Int) × (List Int) × (List (Int × (ByteArray × (Int × Int)))) × Unit) × ((List ((Int × (List Int)) × ByteArray)) × Bool × Unit) × (List ((Int × (List Int)) × ByteArray)) × (List ByteArray) × Int × Int × Unit) → Option ((Bool × (Int × (List Int) × (List Int) × (List (Int × (ByteArray × (Int × Int)))) × Unit) × ((List ((Int × (List Int)) × ByteArray)) × Bool × Unit) × (List ((Int × (List Int)) × ByteArray)) × (List ByteArray) × Int × Int × Unit) ⊕ ((Bool × ((List ((Int × (List Int)) × ByteArray)) × Bool × Unit) × (List ((Int × (List Int)) × ByteArray)) × Unit))) := fun (v1, (v2_0, v2_1, v2_2, v2_3, _), (v6_0, v6_1, _), v7, v20, v21, v22, _) =>
 bif (decide (v22 < v21)) then
  if (((0 : Int) ≤ v22) ∧ (v22 < (((List.length v20) : Nat) : Int))) then
   Option.bind (spec_l3Matrix (v2_0, v2_1, v2_2, v2_3) (List.getD v20 (0 + (Int.toNat v22)) (⟨Array.empty⟩ : ByteArray))) fun (r0, r1) =>
    Option.bind (spec_l6Grades (r0, (List.take (List.length r1) (List.drop 0 r1)))) fun (r2, r3) =>
     if (((0 + (List.length v7)) = (List.length v7)) ∧ ((((List.length v7) + (List.length (List.take 1 (List.drop 0 [((r2, (List.take (List.length r3) (List.drop 0 r3))), (List.getD v20 (0 + (Int.toNat v22)) (⟨Array.empty⟩ : ByteArray)))])))) * 48) ≤ 140737488355328)) then
      if ((0 + (List.length v6_0)) = (List.length v6_0)) then
       Option.bind (spec_l8Elements_at39 (((List.drop 0 v6_0), v6_1, ()), (r2, (List.take (List.length r3) (List.drop 0 r3))), (List.getD v20 (0 + (Int.toNat v22)) (⟨Array.empty⟩ : ByteArray)), v1, (v2_0, v2_1, v2_2, v2_3, ()), (List.take ((List.length v7) + (List.length (List.take 1 (List.drop 0 [((r2, (List.take (List.length r3) (List.drop 0 r3))), (List.getD v20 (0 + (Int.toNat v22)) (⟨Array.empty⟩ : ByteArray)))])))) (List.drop 0 ((List.drop 0 v7) ++ (List.take 1 (List.drop 0 [((r2, (List.take (List.length r3) (List.drop 0 r3))), (List.getD v20 (0 + (Int.toNat v22)) (⟨Array.empty⟩ : ByteArray)))]))))), (List.take (List.length v20) (List.drop 0 v20)), v21, v22, ())) fun (r4, (r5, r6, r7, r8, _), (r9, r10, _), r11, r12, r13, r14, _) =>
        if ((0 + (List.length r9)) = (List.length r9)) then
         some (Sum.inl (r4, (r5, r6, r7, r8, ()), ((List.drop 0 r9), r10, ()), (List.take (List.length r11) (List.drop 0 r11)), (List.take (List.length r12) (List.drop 0 r12)), r13, (IntKind.wrap .i64 (r14 + (1 : Int))), ()))
        else
         none
      else
       none
     else
      none
  else
   none
 else
  if ((0 + (List.length v6_0)) = (List.length v6_0)) then
   some (Sum.inr (v1, ((List.drop 0 v6_0), v6_1, ()), (List.take (List.length v7) (List.drop 0 v7)), ()))
  else
   none
theorem spec_l8Elements_l4_eq : loopStep 131 E103 L103_0 (loopOf f103 4) sh103_4 xs103_4 = spec_l8Elements_l4 := by kernel_rfl
theorem loop103_4 {L} (h : L 4 = some ⟨131, sh103_4, xs103_4, spec_l8Elements_l4⟩) : LoopOk prog L (loopOf f103 4) := lo spec_l8Elements_l4_eq E103_ok allNil h
noncomputable def L103_1 : Nat → Option LoopD := fun n => ifEq n 4 (some ⟨131, sh103_4, xs103_4, spec_l8Elements_l4⟩) (L103_0 n)
def sh103_20 : List Fm := d :: .cell (.val .bool) :: D 4 (.box 100600 [.own (.pair (.pair (.int .i64) (.sl (.int .i64))) .str) 100601 true, .val .bool] :: .cell (.val (.sl (.pair (.pair (.int .i64) (.sl (.int .i64))) .str))) :: d :: d :: d :: .cell (.val (.int .i64)) :: .box 101200 [.val (.int .i64), .val (.sl (.int .i64)), .val .str] :: D 77 (.cell (.val (.sl (.pair (.pair (.int .i64) (.sl (.int .i64))) .str))) :: .cell (.val (.int .i64)) :: .cell (.val (.int .i64)) :: D 38 []))
def xs103_20 : List (Ex × List Fm) := [(.exit 4, [d, .cell (.val .bool), d, d, d, d, .box 100600 [.own (.pair (.pair (.int .i64) (.sl (.int .i64))) .str) 100601 true, .val .bool], .cell (.val (.sl (.pair (.pair (.int .i64) (.sl (.int .i64))) .str))), d, d, d, .cell (.val (.int .i64)), d, d, d, d, d, d, d, d, d, d, d, d, d, d, d, d, d, d, d, d, d, d, d, d, d, d, d, d, d, d, d, d, d, d, d, d, d, d, d, d, d, d, d, d, d, d, d, d, d, d, d, d, d, d, d, d, d, d, d, d, d, d, d, d, d, d, d, d, d, d, d, d, d, d, d, d, d, d, d, d, d, d, d, d, d, d, d, d, d, d, d, d, d, d, d, d, d, d, d, d, d, d, d, d, d, d, d, d, d, d, d, d, d, d, d, d, d, d, d])]
noncomputable def spec_l8Elements_l20 : (Bool × ((List ((Int × (List Int)) × ByteArray)) × Bool × Unit) × (List ((Int × (List Int)) × ByteArray)) × Int × (Int × (List Int) × ByteArray × Unit) × (List ((Int × (List Int)) × ByteArray)) × Int × Int × Unit) → Option ((Bool × ((List ((Int × (List Int)) × ByteArray)) × Bool × Unit) × (List ((Int × (List Int)) × ByteArray)) × Int × (Int × (List Int) × ByteArray × Unit) × (List ((Int × (List Int)) × ByteArray)) × Int × Int × Unit) ⊕ ((Bool × ((List ((Int × (List Int)) × ByteArray)) × Bool × Unit) × (List ((Int × (List Int)) × ByteArray)) × Int × Unit))) := fun (v1, (v6_0, v6_1, _), v7, v11, (v12_0, v12_1, v12_2, _), v90, v91, v92, _) =>
 bif (decide (v92 < v91)) then
  if (((0 : Int) ≤ v92) ∧ (v92 < (((List.length v90) : Nat) : Int))) then
   Option.bind (spec_l6Mul (v12_0, v12_1) ((List.getD v90 (Int.toNat v92) (((0 : Int), []), (⟨Array.empty⟩ : ByteArray))).1.1, (List.getD v90 (Int.toNat v92) (((0 : Int), []), (⟨Array.empty⟩ : ByteArray))).1.2)) fun (r0, r1) =>
    if (((ByteArray.size v12_2) + (ByteArray.size (List.getD v90 (Int.toNat v92) (((0 : Int), []), (⟨Array.empty⟩ : ByteArray))).2)) ≤ 9223372036854775807) then
     if ((0 + (List.length v6_0)) = (List.length v6_0)) then
      Option.bind (spec_l8Elements_at107 (((List.drop 0 v6_0), v6_1, ()), (r0, (List.take (List.length r1) (List.drop 0 r1)), ()), (v12_2 ++ (List.getD v90 (Int.toNat v92) (((0 : Int), []), (⟨Array.empty⟩ : ByteArray))).2), v1, v7, v11, (v12_0, v12_1, v12_2, ()), ((List.getD v90 (Int.toNat v92) (((0 : Int), []), (⟨Array.empty⟩ : ByteArray))).1.1, (List.getD v90 (Int.toNat v92) (((0 : Int), []), (⟨Array.empty⟩ : ByteArray))).1.2, (List.getD v90 (Int.toNat v92) (((0 : Int), []), (⟨Array.empty⟩ : ByteArray))).2, ()), v90, v91, v92, ())) fun (r2, (r3, r4, _), r5, r6, (r7, r8, r9, _), (r10, r11, r12, _), r13, r14, r15, _) =>
       bif r2 then
        Option.bind (spec_l6Mul (r10, r11) (r7, r8)) fun (r16, r17) =>
         if (((ByteArray.size r12) + (ByteArray.size r9)) ≤ 9223372036854775807) then
          if ((0 + (List.length r3)) = (List.length r3)) then
           Option.bind (spec_l8Elements_at120 (((List.drop 0 r3), r4, ()), (r16, (List.take (List.length r17) (List.drop 0 r17)), ()), (r12 ++ r9), r2, r5, r6, (r7, r8, r9, ()), r13, r14, r15, ())) fun (r18, (r19, r20, _), r21, r22, (r23, r24, r25, _), r26, r27, r28, _) =>
            if ((0 + (List.length r19)) = (List.length r19)) then
             some (Sum.inl (r18, ((List.drop 0 r19), r20, ()), r21, r22, (r23, r24, r25, ()), r26, r27, (IntKind.wrap .i64 (r28 + (1 : Int))), ()))
            else
             none
          else
           none
         else
          none
       else
        if ((0 + (List.length r3)) = (List.length r3)) then
         some (Sum.inl (r2, ((List.drop 0 r3), r4, ()), r5, r6, (r7, r8, r9, ()), r13, r14, (IntKind.wrap .i64 (r15 + (1 : Int))), ()))
        else
         none
     else
      none
    else
     none
  else
   none
 else
  if ((0 + (List.length v6_0)) = (List.length v6_0)) then
   some (Sum.inr (v1, ((List.drop 0 v6_0), v6_1, ()), v7, v11, ()))
  else
   none
theorem spec_l8Elements_l20_eq : loopStep 131 E103 L103_1 (loopOf f103 20) sh103_20 xs103_20 = spec_l8Elements_l20 := by kernel_rfl
theorem loop103_20 {L} (h : L 20 = some ⟨131, sh103_20, xs103_20, spec_l8Elements_l20⟩) : LoopOk prog L (loopOf f103 20) := lo spec_l8Elements_l20_eq E103_ok allNil h
noncomputable def L103_2 : Nat → Option LoopD := fun n => ifEq n 20 (some ⟨131, sh103_20, xs103_20, spec_l8Elements_l20⟩) (L103_1 n)
def sh103_11 : List Fm := d :: .cell (.val .bool) :: D 4 (.box 100600 [.own (.pair (.pair (.int .i64) (.sl (.int .i64))) .str) 100601 true, .val .bool] :: .cell (.val (.sl (.pair (.pair (.int .i64) (.sl (.int .i64))) .str))) :: d :: d :: d :: .cell (.val (.int .i64)) :: D 119 [])
def xs103_11 : List (Ex × List Fm) := [(.exit 2, [d, d, d, d, d, d, .box 100600 [.val (.sl (.pair (.pair (.int .i64) (.sl (.int .i64))) .str)), .val .bool], d, d, d, d, d, d, d, d, d, d, d, d, d, d, d, d, d, d, d, d, d, d, d, d, d, d, d, d, d, d, d, d, d, d, d, d, d, d, d, d, d, d, d, d, d, d, d, d, d, d, d, d, d, d, d, d, d, d, d, d, d, d, d, d, d, d, d, d, d, d, d, d, d, d, d, d, d, d, d, d, d, d, d, d, d, d, d, d, d, d, d, d, d, d, d, d, d, d, d, d, d, d, d, d, d, d, d, d, d, d, d, d, d, d, d, d, d, d, d, d, d, d, d, d])]
noncomputable def spec_l8Elements_l11 : (Bool × ((List ((Int × (List Int)) × ByteArray)) × Bool × Unit) × (List ((Int × (List Int)) × ByteArray)) × Int × Unit) → Option ((Bool × ((List ((Int × (List Int)) × ByteArray)) × Bool × Unit) × (List ((Int × (List Int)) × ByteArray)) × Int × Unit) ⊕ ((((List ((Int × (List Int)) × ByteArray)) × Bool × Unit) × Unit))) := fun (v1, (v6_0, v6_1, _), v7, v11, _) =>
 bif (decide (v11 < (((List.length v6_0) : Nat) : Int))) then
  bif (!v6_1) then
   if (((0 : Int) ≤ v11) ∧ (v11 < (((List.length v6_0) : Nat) : Int))) then
    bif v1 then
     Option.bind (spec_l6Idempotent ((List.getD v6_0 (0 + (Int.toNat v11)) (((0 : Int), []), (⟨Array.empty⟩ : ByteArray))).1.1, (List.getD v6_0 (0 + (Int.toNat v11)) (((0 : Int), []), (⟨Array.empty⟩ : ByteArray))).1.2)) fun r0 =>
      bif r0 then
       Option.bind (spec_l6Stable ((List.getD v6_0 (0 + (Int.toNat v11)) (((0 : Int), []), (⟨Array.empty⟩ : ByteArray))).1.1, (List.getD v6_0 (0 + (Int.toNat v11)) (((0 : Int), []), (⟨Array.empty⟩ : ByteArray))).1.2)) fun (r1, r2) =>
        if (((ByteArray.size (⟨#[(40 : UInt8)]⟩ : ByteArray)) + (ByteArray.size (List.getD v6_0 (0 + (Int.toNat v11)) (((0 : Int), []), (⟨Array.empty⟩ : ByteArray))).2)) ≤ 9223372036854775807) then
         if (((ByteArray.size ((⟨#[(40 : UInt8)]⟩ : ByteArray) ++ (List.getD v6_0 (0 + (Int.toNat v11)) (((0 : Int), []), (⟨Array.empty⟩ : ByteArray))).2)) + (ByteArray.size (⟨#[(41 : UInt8), (35 : UInt8)]⟩ : ByteArray))) ≤ 9223372036854775807) then
          if ((0 + (List.length v6_0)) = (List.length v6_0)) then
           Option.bind (spec_l8Elements_at78 (((List.drop 0 v6_0), v6_1, ()), (r1, (List.take (List.length r2) (List.drop 0 r2)), ()), (((⟨#[(40 : UInt8)]⟩ : ByteArray) ++ (List.getD v6_0 (0 + (Int.toNat v11)) (((0 : Int), []), (⟨Array.empty⟩ : ByteArray))).2) ++ (⟨#[(41 : UInt8), (35 : UInt8)]⟩ : ByteArray)), v1, v7, v11, ((List.getD v6_0 (0 + (Int.toNat v11)) (((0 : Int), []), (⟨Array.empty⟩ : ByteArray))).1.1, (List.getD v6_0 (0 + (Int.toNat v11)) (((0 : Int), []), (⟨Array.empty⟩ : ByteArray))).1.2, (List.getD v6_0 (0 + (Int.toNat v11)) (((0 : Int), []), (⟨Array.empty⟩ : ByteArray))).2, ()), ())) fun (r3, (r4, r5, _), r6, r7, (r8, r9, r10, _), _) =>
            bif r3 then
             if (((0 : Int) ≤ (IntKind.wrap .i64 (r7 + (1 : Int)))) ∧ ((IntKind.wrap .i64 (r7 + (1 : Int))) ≤ (((List.length r4) : Nat) : Int))) then
              if (((0 + 0) = (List.length ([] : List Unit))) ∧ (((0 + (List.length (List.take ((Int.toNat (IntKind.wrap .i64 (r7 + (1 : Int)))) - 0) (List.drop (0 + 0) r4)))) * 48) ≤ 140737488355328)) then
               if ((0 + (List.length r4)) = (List.length r4)) then
                Option.bind (loopF spec_l8Elements_l20 (r3, ((List.drop 0 r4), r5, ()), r6, r7, (r8, r9, r10, ()), (List.take (0 + (List.length (List.take ((Int.toNat (IntKind.wrap .i64 (r7 + (1 : Int)))) - 0) (List.drop (0 + 0) r4)))) (List.drop 0 ((List.drop 0 []) ++ (List.take ((Int.toNat (IntKind.wrap .i64 (r7 + (1 : Int)))) - 0) (List.drop (0 + 0) r4))))), (((0 + (List.length (List.take ((Int.toNat (IntKind.wrap .i64 (r7 + (1 : Int)))) - 0) (List.drop (0 + 0) r4)))) : Nat) : Int), (0 : Int), ())) fun (r11, (r12, r13, _), r14, r15, _) =>
                 if ((0 + (List.length r12)) = (List.length r12)) then
                  some (Sum.inl (r11, ((List.drop 0 r12), r13, ()), r14, (IntKind.wrap .i64 (r15 + (1 : Int))), ()))
                 else
                  none
               else
                none
              else
               none
             else
              none
            else
             if ((0 + (List.length r4)) = (List.length r4)) then
              Option.bind (loopF spec_l8Elements_l20 (r3, ((List.drop 0 r4), r5, ()), r6, r7, (r8, r9, r10, ()), r6, (((List.length r6) : Nat) : Int), (0 : Int), ())) fun (r16, (r17, r18, _), r19, r20, _) =>
               if ((0 + (List.length r17)) = (List.length r17)) then
                some (Sum.inl (r16, ((List.drop 0 r17), r18, ()), r19, (IntKind.wrap .i64 (r20 + (1 : Int))), ()))
               else
                none
             else
              none
          else
           none
         else
          none
        else
         none
      else
       bif v1 then
        if (((0 : Int) ≤ (IntKind.wrap .i64 (v11 + (1 : Int)))) ∧ ((IntKind.wrap .i64 (v11 + (1 : Int))) ≤ (((List.length v6_0) : Nat) : Int))) then
         if (((0 + 0) = (List.length ([] : List Unit))) ∧ (((0 + (List.length (List.take ((Int.toNat (IntKind.wrap .i64 (v11 + (1 : Int)))) - 0) (List.drop (0 + 0) v6_0)))) * 48) ≤ 140737488355328)) then
          if ((0 + (List.length v6_0)) = (List.length v6_0)) then
           Option.bind (loopF spec_l8Elements_l20 (v1, ((List.drop 0 v6_0), v6_1, ()), v7, v11, ((List.getD v6_0 (0 + (Int.toNat v11)) (((0 : Int), []), (⟨Array.empty⟩ : ByteArray))).1.1, (List.getD v6_0 (0 + (Int.toNat v11)) (((0 : Int), []), (⟨Array.empty⟩ : ByteArray))).1.2, (List.getD v6_0 (0 + (Int.toNat v11)) (((0 : Int), []), (⟨Array.empty⟩ : ByteArray))).2, ()), (List.take (0 + (List.length (List.take ((Int.toNat (IntKind.wrap .i64 (v11 + (1 : Int)))) - 0) (List.drop (0 + 0) v6_0)))) (List.drop 0 ((List.drop 0 []) ++ (List.take ((Int.toNat (IntKind.wrap .i64 (v11 + (1 : Int)))) - 0) (List.drop (0 + 0) v6_0))))), (((0 + (List.length (List.take ((Int.toNat (IntKind.wrap .i64 (v11 + (1 : Int)))) - 0) (List.drop (0 + 0) v6_0)))) : Nat) : Int), (0 : Int), ())) fun (r21, (r22, r23, _), r24, r25, _) =>
            if ((0 + (List.length r22)) = (List.length r22)) then
             some (Sum.inl (r21, ((List.drop 0 r22), r23, ()), r24, (IntKind.wrap .i64 (r25 + (1 : Int))), ()))
            else
             none
          else
           none
         else
          none
        else
         none
       else
        if ((0 + (List.length v6_0)) = (List.length v6_0)) then
         Option.bind (loopF spec_l8Elements_l20 (v1, ((List.drop 0 v6_0), v6_1, ()), v7, v11, ((List.getD v6_0 (0 + (Int.toNat v11)) (((0 : Int), []), (⟨Array.empty⟩ : ByteArray))).1.1, (List.getD v6_0 (0 + (Int.toNat v11)) (((0 : Int), []), (⟨Array.empty⟩ : ByteArray))).1.2, (List.getD v6_0 (0 + (Int.toNat v11)) (((0 : Int), []), (⟨Array.empty⟩ : ByteArray))).2, ()), v7, (((List.length v7) : Nat) : Int), (0 : Int), ())) fun (r26, (r27, r28, _), r29, r30, _) =>
          if ((0 + (List.length r27)) = (List.length r27)) then
           some (Sum.inl (r26, ((List.drop 0 r27), r28, ()), r29, (IntKind.wrap .i64 (r30 + (1 : Int))), ()))
          else
           none
        else
         none
    else
     bif v1 then
      if (((0 : Int) ≤ (IntKind.wrap .i64 (v11 + (1 : Int)))) ∧ ((IntKind.wrap .i64 (v11 + (1 : Int))) ≤ (((List.length v6_0) : Nat) : Int))) then
       if (((0 + 0) = (List.length ([] : List Unit))) ∧ (((0 + (List.length (List.take ((Int.toNat (IntKind.wrap .i64 (v11 + (1 : Int)))) - 0) (List.drop (0 + 0) v6_0)))) * 48) ≤ 140737488355328)) then
        if ((0 + (List.length v6_0)) = (List.length v6_0)) then
         Option.bind (loopF spec_l8Elements_l20 (v1, ((List.drop 0 v6_0), v6_1, ()), v7, v11, ((List.getD v6_0 (0 + (Int.toNat v11)) (((0 : Int), []), (⟨Array.empty⟩ : ByteArray))).1.1, (List.getD v6_0 (0 + (Int.toNat v11)) (((0 : Int), []), (⟨Array.empty⟩ : ByteArray))).1.2, (List.getD v6_0 (0 + (Int.toNat v11)) (((0 : Int), []), (⟨Array.empty⟩ : ByteArray))).2, ()), (List.take (0 + (List.length (List.take ((Int.toNat (IntKind.wrap .i64 (v11 + (1 : Int)))) - 0) (List.drop (0 + 0) v6_0)))) (List.drop 0 ((List.drop 0 []) ++ (List.take ((Int.toNat (IntKind.wrap .i64 (v11 + (1 : Int)))) - 0) (List.drop (0 + 0) v6_0))))), (((0 + (List.length (List.take ((Int.toNat (IntKind.wrap .i64 (v11 + (1 : Int)))) - 0) (List.drop (0 + 0) v6_0)))) : Nat) : Int), (0 : Int), ())) fun (r31, (r32, r33, _), r34, r35, _) =>
          if ((0 + (List.length r32)) = (List.length r32)) then
           some (Sum.inl (r31, ((List.drop 0 r32), r33, ()), r34, (IntKind.wrap .i64 (r35 + (1 : Int))), ()))
          else
           none
        else
         none
       else
        none
      else
       none
     else
      if ((0 + (List.length v6_0)) = (List.length v6_0)) then
       Option.bind (loopF spec_l8Elements_l20 (v1, ((List.drop 0 v6_0), v6_1, ()), v7, v11, ((List.getD v6_0 (0 + (Int.toNat v11)) (((0 : Int), []), (⟨Array.empty⟩ : ByteArray))).1.1, (List.getD v6_0 (0 + (Int.toNat v11)) (((0 : Int), []), (⟨Array.empty⟩ : ByteArray))).1.2, (List.getD v6_0 (0 + (Int.toNat v11)) (((0 : Int), []), (⟨Array.empty⟩ : ByteArray))).2, ()), v7, (((List.length v7) : Nat) : Int), (0 : Int), ())) fun (r36, (r37, r38, _), r39, r40, _) =>
        if ((0 + (List.length r37)) = (List.length r37)) then
         some (Sum.inl (r36, ((List.drop 0 r37), r38, ()), r39, (IntKind.wrap .i64 (r40 + (1 : Int))), ()))
        else
         none
      else
       none
   else
    none
  else
   some (Sum.inr (((List.take (List.length v6_0) (List.drop 0 v6_0)), v6_1, ()), ()))
 else
  some (Sum.inr (((List.take (List.length v6_0) (List.drop 0 v6_0)), v6_1, ()), ()))
theorem spec_l8Elements_l11_eq : loopStep 131 E103 L103_2 (loopOf f103 11) sh103_11 xs103_11 = spec_l8Elements_l11 := by kernel_rfl
theorem loop103_11 {L} (h : L 11 = some ⟨131, sh103_11, xs103_11, spec_l8Elements_l11⟩) : LoopOk prog L (loopOf f103 11) := lo spec_l8Elements_l11_eq E103_ok (allCons (loop103_20 rfl) allNil) h
noncomputable def L103_3 : Nat → Option LoopD := fun n => ifEq n 11 (some ⟨131, sh103_11, xs103_11, spec_l8Elements_l11⟩) (L103_2 n)
noncomputable def spec_l8Elements : (Int × ((List Int) × ((List Int) × (List (Int × (ByteArray × (Int × Int))))))) → Bool → Option ((List ((Int × (List Int)) × ByteArray)) × Bool) := fun (a0_0, a0_1, a0_2, a0_3) a1 =>
 if ((0 + 0) = (List.length ([] : List Unit))) then
  Option.bind (loopF spec_l8Elements_l4 (a1, (a0_0, a0_1, a0_2, a0_3, ()), ((List.drop 0 []), false, ()), (List.take 0 (List.drop 0 [])), (List.take 2 (List.drop 0 [(⟨#[(97 : UInt8)]⟩ : ByteArray), (⟨#[(98 : UInt8)]⟩ : ByteArray)])), ((2 : Nat) : Int), (0 : Int), ())) fun (r0, (r1, r2, _), r3, _) =>
   if ((0 + (List.length r1)) = (List.length r1)) then
    Option.bind (loopF spec_l8Elements_l11 (r0, ((List.drop 0 r1), r2, ()), (List.take (List.length r3) (List.drop 0 r3)), (0 : Int), ())) fun ((r4, r5, _), _) =>
     some (r4, (!r5))
   else
    none
 else
  none
noncomputable def A103 : FnA := ⟨[.v (.pair (.int .i64) (.pair (.sl (.int .i64)) (.pair (.sl (.int .i64)) (.sl (.pair (.int .i64) (.pair .str (.pair (.int .i64) (.int .i64)))))))), .v .bool], false, [.sl (.pair (.pair (.int .i64) (.sl (.int .i64))) .str), .bool], fun x => spec_l8Elements x.1 x.2.1⟩
theorem spec_l8Elements_eq : fnF E103 L103_3 [.v (.pair (.int .i64) (.pair (.sl (.int .i64)) (.pair (.sl (.int .i64)) (.sl (.pair (.int .i64) (.pair .str (.pair (.int .i64) (.int .i64)))))))), .v .bool] false [.sl (.pair (.pair (.int .i64) (.sl (.int .i64))) .str), .bool] f103.ntmps f103.results.toList (codeOf f103) = fun x => spec_l8Elements x.1 x.2.1 := by kernel_rfl
theorem A103_ok : FnOk prog 103 A103 := fo spec_l8Elements_eq func103 E103_ok (allCons (loop103_4 rfl) (allCons (loop103_11 rfl) allNil))
/-! spec.l8RawElementsOf -/
noncomputable def E75 : Env := ⟨ty0, fun g => ifEq g 62 (some A62) (ifEq g 103 (some A103) (none)), fun _ => none, fun _ => none, fun _ => none⟩
theorem E75_ok : FnsOk prog E75 := (oF A62_ok func62 (oF A103_ok func103 (noFns _ _)))
noncomputable def L75_0 : Nat → Option LoopD := fun _ => none
noncomputable def spec_l8RawElementsOf : (Int × ((List Int) × ((List Int) × (List (Int × (ByteArray × (Int × Int))))))) → Option ((List ((Int × (List Int)) × ByteArray)) × Bool) := fun (a0_0, a0_1, a0_2, a0_3) =>
 Option.bind (spec_AutomatonValid (a0_0, a0_1, a0_2, a0_3)) fun r0 =>
  bif (!r0) then
   some ((List.take 0 (List.drop 0 [])), false)
  else
   Option.bind (spec_l8Elements (a0_0, a0_1, a0_2, a0_3) true) fun (r1, r2) =>
    bif (!r2) then
     some ((List.take 0 (List.drop 0 [])), false)
    else
     some (r1, true)
noncomputable def A75 : FnA := ⟨[.v (.pair (.int .i64) (.pair (.sl (.int .i64)) (.pair (.sl (.int .i64)) (.sl (.pair (.int .i64) (.pair .str (.pair (.int .i64) (.int .i64))))))))], false, [.sl (.pair (.pair (.int .i64) (.sl (.int .i64))) .str), .bool], fun x => spec_l8RawElementsOf x.1⟩
theorem spec_l8RawElementsOf_eq : fnF E75 L75_0 [.v (.pair (.int .i64) (.pair (.sl (.int .i64)) (.pair (.sl (.int .i64)) (.sl (.pair (.int .i64) (.pair .str (.pair (.int .i64) (.int .i64))))))))] false [.sl (.pair (.pair (.int .i64) (.sl (.int .i64))) .str), .bool] f75.ntmps f75.results.toList (codeOf f75) = fun x => spec_l8RawElementsOf x.1 := by kernel_rfl
theorem A75_ok : FnOk prog 75 A75 := fo spec_l8RawElementsOf_eq func75 E75_ok allNil
/-! spec.l13OwnMatrix -/
noncomputable def E134 : Env := ⟨ty0, fun _ => none, fun _ => none, fun _ => none, fun _ => none⟩
theorem E134_ok : FnsOk prog E134 := (noFns _ _)
noncomputable def L134_0 : Nat → Option LoopD := fun _ => none
noncomputable def spec_l13OwnMatrix : (Int × (List Int)) → Option ((Int × (List Int))) := fun (a0_0, a0_1) =>
 if (((0 + 0) = (List.length ([] : List Unit))) ∧ (((0 + (List.length a0_1)) * 8) ≤ 140737488355328)) then
  some (a0_0, (List.take (0 + (List.length a0_1)) (List.drop 0 ((List.drop 0 []) ++ a0_1))))
 else
  none
noncomputable def A134 : FnA := ⟨[.v (.pair (.int .i64) (.sl (.int .i64)))], true, [.pair (.int .i64) (.sl (.int .i64))], fun x => spec_l13OwnMatrix x.1⟩
theorem spec_l13OwnMatrix_eq : fnF E134 L134_0 [.v (.pair (.int .i64) (.sl (.int .i64)))] true [.pair (.int .i64) (.sl (.int .i64))] f134.ntmps f134.results.toList (codeOf f134) = fun x => spec_l13OwnMatrix x.1 := by kernel_rfl
theorem A134_ok : FnOk prog 134 A134 := fo spec_l13OwnMatrix_eq func134 E134_ok allNil
/-! spec.l13OwnElement -/
noncomputable def E104 : Env := ⟨ty0, fun g => ifEq g 134 (some A134) (none), fun _ => none, fun _ => none, fun _ => none⟩
theorem E104_ok : FnsOk prog E104 := (oF A134_ok func134 (noFns _ _))
noncomputable def L104_0 : Nat → Option LoopD := fun _ => none
noncomputable def spec_l13OwnElement : ((Int × (List Int)) × ByteArray) → Option (((Int × (List Int)) × ByteArray)) := fun ((a0_0, a0_1), a0_2) =>
 Option.bind (spec_l13OwnMatrix (a0_0, a0_1)) fun (r0, r1) =>
  some ((r0, (List.take (List.length r1) (List.drop 0 r1))), a0_2)
noncomputable def A104 : FnA := ⟨[.v (.pair (.pair (.int .i64) (.sl (.int .i64))) .str)], true, [.pair (.pair (.int .i64) (.sl (.int .i64))) .str], fun x => spec_l13OwnElement x.1⟩
theorem spec_l13OwnElement_eq : fnF E104 L104_0 [.v (.pair (.pair (.int .i64) (.sl (.int .i64))) .str)] true [.pair (.pair (.int .i64) (.sl (.int .i64))) .str] f104.ntmps f104.results.toList (codeOf f104) = fun x => spec_l13OwnElement x.1 := by kernel_rfl
theorem A104_ok : FnOk prog 104 A104 := fo spec_l13OwnElement_eq func104 E104_ok allNil
/-! spec.l13OwnListElement -/
noncomputable def E76 : Env := ⟨ty0, fun g => ifEq g 104 (some A104) (none), fun _ => none, fun _ => none, fun _ => none⟩
theorem E76_ok : FnsOk prog E76 := (oF A104_ok func104 (noFns _ _))
noncomputable def L76_0 : Nat → Option LoopD := fun _ => none
def sh76_3 : List Fm := d :: d :: d :: .cell (.own (.pair (.pair (.int .i64) (.sl (.int .i64))) .str) 100300 false) :: d :: d :: d :: .cell (.val (.sl (.pair (.pair (.int .i64) (.sl (.int .i64))) .str))) :: .cell (.val (.int .i64)) :: .cell (.val (.int .i64)) :: D 10 []
def xs76_3 : List (Ex × List Fm) := [(.exit 0, (d :: d :: d :: .cell (.own (.pair (.pair (.int .i64) (.sl (.int .i64))) .str) 100300 false) :: D 16 []))]
noncomputable def spec_l13OwnListElement_l3 : ((List ((Int × (List Int)) × ByteArray)) × (List ((Int × (List Int)) × ByteArray)) × Int × Int × Unit) → Option (((List ((Int × (List Int)) × ByteArray)) × (List ((Int × (List Int)) × ByteArray)) × Int × Int × Unit) ⊕ (((List ((Int × (List Int)) × ByteArray)) × Unit))) := fun (v3, v7, v8, v9, _) =>
 bif (decide (v9 < v8)) then
  if (((0 : Int) ≤ v9) ∧ (v9 < (((List.length v7) : Nat) : Int))) then
   Option.bind (spec_l13OwnElement (((List.getD v7 (Int.toNat v9) (((0 : Int), []), (⟨Array.empty⟩ : ByteArray))).1.1, (List.getD v7 (Int.toNat v9) (((0 : Int), []), (⟨Array.empty⟩ : ByteArray))).1.2), (List.getD v7 (Int.toNat v9) (((0 : Int), []), (⟨Array.empty⟩ : ByteArray))).2)) fun ((r0, r1), r2) =>
    if (((0 + (List.length v3)) = (List.length v3)) ∧ ((((List.length v3) + (List.length (List.take 1 (List.drop 0 [((r0, (List.take (List.length r1) (List.drop 0 r1))), r2)])))) * 48) ≤ 140737488355328)) then
     some (Sum.inl ((List.take ((List.length v3) + (List.length (List.take 1 (List.drop 0 [((r0, (List.take (List.length r1) (List.drop 0 r1))), r2)])))) (List.drop 0 ((List.drop 0 v3) ++ (List.take 1 (List.drop 0 [((r0, (List.take (List.length r1) (List.drop 0 r1))), r2)]))))), v7, v8, (IntKind.wrap .i64 (v9 + (1 : Int))), ()))
    else
     none
  else
   none
 else
  some (Sum.inr ((List.take (List.length v3) (List.drop 0 v3)), ()))
theorem spec_l13OwnListElement_l3_eq : loopStep 20 E76 L76_0 (loopOf f76 3) sh76_3 xs76_3 = spec_l13OwnListElement_l3 := by kernel_rfl
theorem loop76_3 {L} (h : L 3 = some ⟨20, sh76_3, xs76_3, spec_l13OwnListElement_l3⟩) : LoopOk prog L (loopOf f76 3) := lo spec_l13OwnListElement_l3_eq E76_ok allNil h
noncomputable def L76_1 : Nat → Option LoopD := fun n => ifEq n 3 (some ⟨20, sh76_3, xs76_3, spec_l13OwnListElement_l3⟩) (L76_0 n)
noncomputable def spec_l13OwnListElement : (List ((Int × (List Int)) × ByteArray)) → Option ((List ((Int × (List Int)) × ByteArray))) := fun a0 =>
 Option.bind (loopF spec_l13OwnListElement_l3 ((List.take 0 (List.drop 0 [])), a0, (((List.length a0) : Nat) : Int), (0 : Int), ())) fun (r0, _) =>
  some (List.take (List.length r0) (List.drop 0 r0))
noncomputable def A76 : FnA := ⟨[.v (.sl (.pair (.pair (.int .i64) (.sl (.int .i64))) .str))], true, [.sl (.pair (.pair (.int .i64) (.sl (.int .i64))) .str)], fun x => spec_l13OwnListElement x.1⟩
theorem spec_l13OwnListElement_eq : fnF E76 L76_1 [.v (.sl (.pair (.pair (.int .i64) (.sl (.int .i64))) .str))] true [.sl (.pair (.pair (.int .i64) (.sl (.int .i64))) .str)] f76.ntmps f76.results.toList (codeOf f76) = fun x => spec_l13OwnListElement x.1 := by kernel_rfl
theorem A76_ok : FnOk prog 76 A76 := fo spec_l13OwnListElement_eq func76 E76_ok (allCons (loop76_3 rfl) allNil)
/-! spec.ElementsOf -/
noncomputable def E36 : Env := ⟨ty0, fun g => ifEq g 75 (some A75) (ifEq g 76 (some A76) (none)), fun _ => none, fun _ => none, fun _ => none⟩
theorem E36_ok : FnsOk prog E36 := (oF A75_ok func75 (oF A76_ok func76 (noFns _ _)))
noncomputable def L36_0 : Nat → Option LoopD := fun _ => none
noncomputable def spec_ElementsOf : (Int × ((List Int) × ((List Int) × (List (Int × (ByteArray × (Int × Int))))))) → Option ((List ((Int × (List Int)) × ByteArray)) × Bool) := fun (a0_0, a0_1, a0_2, a0_3) =>
 Option.bind (spec_l8RawElementsOf (a0_0, a0_1, a0_2, a0_3)) fun (r0, r1) =>
  Option.bind (spec_l13OwnListElement r0) fun r2 =>
   some ((List.take (List.length r2) (List.drop 0 r2)), r1)
noncomputable def A36 : FnA := ⟨[.v (.pair (.int .i64) (.pair (.sl (.int .i64)) (.pair (.sl (.int .i64)) (.sl (.pair (.int .i64) (.pair .str (.pair (.int .i64) (.int .i64))))))))], true, [.sl (.pair (.pair (.int .i64) (.sl (.int .i64))) .str), .bool], fun x => spec_ElementsOf x.1⟩
theorem spec_ElementsOf_eq : fnF E36 L36_0 [.v (.pair (.int .i64) (.pair (.sl (.int .i64)) (.pair (.sl (.int .i64)) (.sl (.pair (.int .i64) (.pair .str (.pair (.int .i64) (.int .i64))))))))] true [.sl (.pair (.pair (.int .i64) (.sl (.int .i64))) .str), .bool] f36.ntmps f36.results.toList (codeOf f36) = fun x => spec_ElementsOf x.1 := by kernel_rfl
theorem A36_ok : FnOk prog 36 A36 := fo spec_ElementsOf_eq func36 E36_ok allNil
end Go.Proofs.YtcmcjhdccnbmoaaGreat
