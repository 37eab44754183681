/- What Go functions that the laws reach compute, and that they do: written by a program of this session. -/
import Derived.Test.YtfdhmmnffahhgaaGreatG0
import Derived.KernelRfl
set_option linter.unusedVariables false
namespace Go.Proofs.YtfdhmmnffahhgaaGreat
open Go Go.Proofs.YtfdhmmnffahhgaaGreat.Am Go.Proofs.Tryz
set_option maxRecDepth 100000
/-! impl.ElementsOf -/
noncomputable def zi1 : Env := ⟨ty0, fun g => ifEq g 34 (some A34) (ifEq g 42 (some A42) (ifEq g 95 (some A95) (ifEq g 96 (some A96) (ifEq g 64 (some A64) (ifEq g 66 (some A66) (none)))))), fun _ => none, fun _ => none, fun _ => none⟩
theorem y5n : FnsOk prog zi1 := (oF y5j func34 (oF zs6 func42 (oF zs7 func95 (oF zs8 func96 (oF zi0 func64 (oF y9l func66 (yc1 _ _)))))))
noncomputable def y24 : Nat → Option LoopD := fun _ => none
def y68 : List Fm := .box 100000 [.own (.pair (.pair (.int .i64) (.sl (.int .i64))) .str) 100001 false, .val .bool] :: .agg [.val (.int .i64), .own (.int .i64) 100102 false] :: .cell (.val .str) :: D 36 (.fnv 63 [] :: .box 104000 [.val (.int .i64), .val (.sl (.int .i64)), .val (.sl (.int .i64)), .val (.sl (.pair (.int .i64) (.pair .str (.pair (.int .i64) (.int .i64)))))] :: d :: d :: d :: .ali 100000 0 :: D 10 (.cell (.own .str 105500 false) :: .cell (.val (.int .i64)) :: .cell (.val (.int .i64)) :: D 50 []))
def y69 : List Fm := d :: .fnv 63 [] :: .box 100200 [.val (.int .i64), .val (.sl (.int .i64)), .val (.sl (.int .i64)), .val (.sl (.pair (.int .i64) (.pair .str (.pair (.int .i64) (.int .i64)))))] :: d :: d :: d :: .box 100600 [.own (.pair (.pair (.int .i64) (.sl (.int .i64))) .str) 100601 false, .val .bool] :: D 10 (.cell (.own .str 101700 false) :: .cell (.val (.int .i64)) :: .cell (.val (.int .i64)) :: D 50 [])
noncomputable def yh4 : (((List ((Int × (List Int)) × ByteArray)) × Bool × Unit) × (Int × (List Int) × Unit) × ByteArray × (Int × (List Int) × (List Int) × (List (Int × (ByteArray × (Int × Int)))) × Unit) × (List ByteArray) × Int × Int × Unit) → Option ((Int × (List Int) × (List Int) × (List (Int × (ByteArray × (Int × Int)))) × Unit) × ((List ((Int × (List Int)) × ByteArray)) × Bool × Unit) × (List ByteArray) × Int × Int × Unit) := fun ((v0_0, v0_1, _), (v1_0, v1_1, _), v2, (v40_0, v40_1, v40_2, v40_3, _), v55, v56, v57, _) =>
 Option.bind (yb9 (List.take (List.length v0_0) (List.drop 0 v0_0)) (fun y0 => (yh0 y0.1 (v1_0, (List.take (List.length v1_1) (List.drop 0 v1_1)))))) fun r1 =>
  bif r1 then
   some ((v40_0, v40_1, v40_2, v40_3, ()), ((List.take (List.length v0_0) (List.drop 0 v0_0)), v0_1, ()), (List.take (List.length v55) (List.drop 0 v55)), v56, v57, ())
  else
   bif (decide ((((List.length v0_0) : Nat) : Int) ≥ (120 : Int))) then
    some ((v40_0, v40_1, v40_2, v40_3, ()), ((List.take (List.length v0_0) (List.drop 0 v0_0)), false, ()), (List.take (List.length v55) (List.drop 0 v55)), v56, v57, ())
   else
    bif (decide ((((ByteArray.size v2) : Nat) : Int) > (120 : Int))) then
     some ((v40_0, v40_1, v40_2, v40_3, ()), ((List.take (List.length v0_0) (List.drop 0 v0_0)), false, ()), (List.take (List.length v55) (List.drop 0 v55)), v56, v57, ())
    else
     if (((0 + (List.length v0_0)) = (List.length v0_0)) ∧ ((((List.length v0_0) + (List.length (List.take 1 (List.drop 0 [((v1_0, (List.take (List.length v1_1) (List.drop 0 v1_1))), v2)])))) * 48) ≤ 140737488355328)) then
      some ((v40_0, v40_1, v40_2, v40_3, ()), ((List.take ((List.length v0_0) + (List.length (List.take 1 (List.drop 0 [((v1_0, (List.take (List.length v1_1) (List.drop 0 v1_1))), v2)])))) (List.drop 0 ((List.drop 0 v0_0) ++ (List.take 1 (List.drop 0 [((v1_0, (List.take (List.length v1_1) (List.drop 0 v1_1))), v2)]))))), v0_1, ()), (List.take (List.length v55) (List.drop 0 v55)), v56, v57, ())
     else
      none
theorem y14 : y1v f65.ntmps 62 32 zi1 y24 f65.results.toList (ya2 f65) y68 y69 = yh4 := by kernel_rfl
noncomputable def zi2 : CallD := ⟨f65.ntmps, y68, 62, y69, yh4, 0⟩
theorem zs9 : y80 prog 32 65 zi2 := y0k (ya9 yd4) y5n (L := y24) func65 (by kernel_rfl) (c := ya2 f65) (by kernel_rfl) (yc6 (L := y24) (ya9 yd4) y5n mixed (c := ya2 f65) (bs := []) (by kernel_rfl) ya0 (by kernel_rfl)) (by kernel_rfl) (by kernel_rfl) y14
noncomputable def y3m : Env := ⟨ty0, fun g => ifEq g 34 (some A34) (ifEq g 42 (some A42) (ifEq g 95 (some A95) (ifEq g 96 (some A96) (ifEq g 64 (some A64) (ifEq g 66 (some A66) (none)))))), fun _ => none, fun _ => none, fun _ => none⟩
theorem y08 : FnsOk prog y3m := (oF y5j func34 (oF zs6 func42 (oF zs7 func95 (oF zs8 func96 (oF zi0 func64 (oF y9l func66 (yc1 _ _)))))))
noncomputable def yw0 : Nat → Option LoopD := fun _ => none
def y15 : List Fm := .box 100000 [.own (.pair (.pair (.int .i64) (.sl (.int .i64))) .str) 100001 false, .val .bool] :: .agg [.val (.int .i64), .own (.int .i64) 100102 false] :: .cell (.val .str) :: D 35 (.ali 100000 0 :: .cell (.val (.int .i64)) :: d :: d :: .box 104200 [.val (.int .i64), .val (.sl (.int .i64)), .val .str] :: D 78 (.fnv 63 [] :: D 4 (.ali 100000 0 :: D 4 (.cell (.val (.int .i64)) :: D 58 []))))
def y16 : List Fm := .box 100000 [.own (.pair (.pair (.int .i64) (.sl (.int .i64))) .str) 100001 false, .val .bool] :: .cell (.val (.int .i64)) :: d :: d :: .box 100400 [.val (.int .i64), .val (.sl (.int .i64)), .val .str] :: D 78 (.fnv 63 [] :: D 4 (.ali 100000 0 :: D 4 (.cell (.val (.int .i64)) :: D 58 [])))
noncomputable def yd2 : (((List ((Int × (List Int)) × ByteArray)) × Bool × Unit) × (Int × (List Int) × Unit) × ByteArray × Int × (Int × (List Int) × ByteArray × Unit) × Int × Unit) → Option (((List ((Int × (List Int)) × ByteArray)) × Bool × Unit) × Int × (Int × (List Int) × ByteArray × Unit) × Int × Unit) := fun ((v0_0, v0_1, _), (v1_0, v1_1, _), v2, v39, (v42_0, v42_1, v42_2, _), v131, _) =>
 Option.bind (yb9 (List.take (List.length v0_0) (List.drop 0 v0_0)) (fun y0 => (yh0 y0.1 (v1_0, (List.take (List.length v1_1) (List.drop 0 v1_1)))))) fun r1 =>
  bif r1 then
   some (((List.take (List.length v0_0) (List.drop 0 v0_0)), v0_1, ()), v39, (v42_0, v42_1, v42_2, ()), v131, ())
  else
   bif (decide ((((List.length v0_0) : Nat) : Int) ≥ (120 : Int))) then
    some (((List.take (List.length v0_0) (List.drop 0 v0_0)), false, ()), v39, (v42_0, v42_1, v42_2, ()), v131, ())
   else
    bif (decide ((((ByteArray.size v2) : Nat) : Int) > (120 : Int))) then
     some (((List.take (List.length v0_0) (List.drop 0 v0_0)), false, ()), v39, (v42_0, v42_1, v42_2, ()), v131, ())
    else
     if (((0 + (List.length v0_0)) = (List.length v0_0)) ∧ ((((List.length v0_0) + (List.length (List.take 1 (List.drop 0 [((v1_0, (List.take (List.length v1_1) (List.drop 0 v1_1))), v2)])))) * 48) ≤ 140737488355328)) then
      some (((List.take ((List.length v0_0) + (List.length (List.take 1 (List.drop 0 [((v1_0, (List.take (List.length v1_1) (List.drop 0 v1_1))), v2)])))) (List.drop 0 ((List.drop 0 v0_0) ++ (List.take 1 (List.drop 0 [((v1_0, (List.take (List.length v1_1) (List.drop 0 v1_1))), v2)]))))), v0_1, ()), v39, (v42_0, v42_1, v42_2, ()), v131, ())
     else
      none
theorem yy8 : y1v f65.ntmps 82 31 y3m yw0 f65.results.toList (ya2 f65) y15 y16 = yd2 := by kernel_rfl
noncomputable def y3n : CallD := ⟨f65.ntmps, y15, 82, y16, yd2, 0⟩
theorem y6r : y80 prog 31 65 y3n := y0k (ya9 yd4) y08 (L := yw0) func65 (by kernel_rfl) (c := ya2 f65) (by kernel_rfl) (yc6 (L := yw0) (ya9 yd4) y08 mixed (c := ya2 f65) (bs := []) (by kernel_rfl) ya0 (by kernel_rfl)) (by kernel_rfl) (by kernel_rfl) yy8
noncomputable def y3o : Env := ⟨ty0, fun g => ifEq g 34 (some A34) (ifEq g 42 (some A42) (ifEq g 95 (some A95) (ifEq g 96 (some A96) (ifEq g 64 (some A64) (ifEq g 66 (some A66) (none)))))), fun _ => none, fun _ => none, fun _ => none⟩
theorem y09 : FnsOk prog y3o := (oF y5j func34 (oF zs6 func42 (oF zs7 func95 (oF zs8 func96 (oF zi0 func64 (oF y9l func66 (yc1 _ _)))))))
noncomputable def yw1 : Nat → Option LoopD := fun _ => none
def y17 : List Fm := .box 100000 [.own (.pair (.pair (.int .i64) (.sl (.int .i64))) .str) 100001 false, .val .bool] :: .cell (.val (.pair (.int .i64) (.sl (.int .i64)))) :: .cell (.val .str) :: D 35 (.ali 100000 0 :: .cell (.val (.int .i64)) :: d :: d :: .box 104200 [.val (.int .i64), .val (.sl (.int .i64)), .val .str] :: d :: d :: .cell (.val (.int .i64)) :: .box 104600 [.val (.int .i64), .val (.sl (.int .i64)), .val .str] :: .box 104700 [.val (.int .i64), .val (.sl (.int .i64))] :: D 73 (.fnv 63 [] :: D 4 (.ali 100000 0 :: D 4 (.cell (.val (.int .i64)) :: D 58 []))))
def y18 : List Fm := .box 100000 [.own (.pair (.pair (.int .i64) (.sl (.int .i64))) .str) 100001 false, .val .bool] :: .cell (.val (.int .i64)) :: d :: d :: .box 100400 [.val (.int .i64), .val (.sl (.int .i64)), .val .str] :: d :: d :: .cell (.val (.int .i64)) :: .box 100800 [.val (.int .i64), .val (.sl (.int .i64)), .val .str] :: .box 100900 [.val (.int .i64), .val (.sl (.int .i64))] :: D 73 (.fnv 63 [] :: D 4 (.ali 100000 0 :: D 4 (.cell (.val (.int .i64)) :: D 58 [])))
noncomputable def yd3 : (((List ((Int × (List Int)) × ByteArray)) × Bool × Unit) × (Int × (List Int)) × ByteArray × Int × (Int × (List Int) × ByteArray × Unit) × Int × (Int × (List Int) × ByteArray × Unit) × (Int × (List Int) × Unit) × Int × Unit) → Option (((List ((Int × (List Int)) × ByteArray)) × Bool × Unit) × Int × (Int × (List Int) × ByteArray × Unit) × Int × (Int × (List Int) × ByteArray × Unit) × (Int × (List Int) × Unit) × Int × Unit) := fun ((v0_0, v0_1, _), (v1_0, v1_1), v2, v39, (v42_0, v42_1, v42_2, _), v45, (v46_0, v46_1, v46_2, _), (v47_0, v47_1, _), v131, _) =>
 Option.bind (yb9 (List.take (List.length v0_0) (List.drop 0 v0_0)) (fun y0 => (yh0 y0.1 (v1_0, v1_1)))) fun r1 =>
  bif r1 then
   some (((List.take (List.length v0_0) (List.drop 0 v0_0)), v0_1, ()), v39, (v42_0, v42_1, v42_2, ()), v45, (v46_0, v46_1, v46_2, ()), (v47_0, v47_1, ()), v131, ())
  else
   bif (decide ((((List.length v0_0) : Nat) : Int) ≥ (120 : Int))) then
    some (((List.take (List.length v0_0) (List.drop 0 v0_0)), false, ()), v39, (v42_0, v42_1, v42_2, ()), v45, (v46_0, v46_1, v46_2, ()), (v47_0, v47_1, ()), v131, ())
   else
    bif (decide ((((ByteArray.size v2) : Nat) : Int) > (120 : Int))) then
     some (((List.take (List.length v0_0) (List.drop 0 v0_0)), false, ()), v39, (v42_0, v42_1, v42_2, ()), v45, (v46_0, v46_1, v46_2, ()), (v47_0, v47_1, ()), v131, ())
    else
     if (((0 + (List.length v0_0)) = (List.length v0_0)) ∧ ((((List.length v0_0) + (List.length (List.take 1 (List.drop 0 [((v1_0, v1_1), v2)])))) * 48) ≤ 140737488355328)) then
      some (((List.take ((List.length v0_0) + (List.length (List.take 1 (List.drop 0 [((v1_0, v1_1), v2)])))) (List.drop 0 ((List.drop 0 v0_0) ++ (List.take 1 (List.drop 0 [((v1_0, v1_1), v2)]))))), v0_1, ()), v39, (v42_0, v42_1, v42_2, ()), v45, (v46_0, v46_1, v46_2, ()), (v47_0, v47_1, ()), v131, ())
     else
      none
theorem yy9 : y1v f65.ntmps 82 65 y3o yw1 f65.results.toList (ya2 f65) y17 y18 = yd3 := by kernel_rfl
noncomputable def y3p : CallD := ⟨f65.ntmps, y17, 82, y18, yd3, 0⟩
theorem y6s : y80 prog 65 65 y3p := y0k (ya9 yd4) y09 (L := yw1) func65 (by kernel_rfl) (c := ya2 f65) (by kernel_rfl) (yc6 (L := yw1) (ya9 yd4) y09 mixed (c := ya2 f65) (bs := []) (by kernel_rfl) ya0 (by kernel_rfl)) (by kernel_rfl) (by kernel_rfl) yy9
noncomputable def y3q : Env := ⟨ty0, fun g => ifEq g 34 (some A34) (ifEq g 42 (some A42) (ifEq g 95 (some A95) (ifEq g 96 (some A96) (ifEq g 64 (some A64) (ifEq g 66 (some A66) (none)))))), fun _ => none, fun _ => none, fun _ => none⟩
theorem y1a : FnsOk prog y3q := (oF y5j func34 (oF zs6 func42 (oF zs7 func95 (oF zs8 func96 (oF zi0 func64 (oF y9l func66 (yc1 _ _)))))))
noncomputable def yw2 : Nat → Option LoopD := fun _ => none
def y19 : List Fm := .box 100000 [.own (.pair (.pair (.int .i64) (.sl (.int .i64))) .str) 100001 false, .val .bool] :: .agg [.val (.int .i64), .own (.int .i64) 100102 false] :: .cell (.val .str) :: D 35 (.ali 100000 0 :: .cell (.val (.int .i64)) :: d :: d :: .box 104200 [.val (.int .i64), .val (.sl (.int .i64)), .val .str] :: d :: d :: .cell (.val (.int .i64)) :: D 75 (.fnv 63 [] :: D 4 (.ali 100000 0 :: D 4 (.cell (.val (.int .i64)) :: D 58 []))))
def y2a : List Fm := .box 100000 [.own (.pair (.pair (.int .i64) (.sl (.int .i64))) .str) 100001 false, .val .bool] :: .cell (.val (.int .i64)) :: d :: d :: .box 100400 [.val (.int .i64), .val (.sl (.int .i64)), .val .str] :: d :: d :: .cell (.val (.int .i64)) :: D 75 (.fnv 63 [] :: D 4 (.ali 100000 0 :: D 4 (.cell (.val (.int .i64)) :: D 58 [])))
noncomputable def ye7 : (((List ((Int × (List Int)) × ByteArray)) × Bool × Unit) × (Int × (List Int) × Unit) × ByteArray × Int × (Int × (List Int) × ByteArray × Unit) × Int × Int × Unit) → Option (((List ((Int × (List Int)) × ByteArray)) × Bool × Unit) × Int × (Int × (List Int) × ByteArray × Unit) × Int × Int × Unit) := fun ((v0_0, v0_1, _), (v1_0, v1_1, _), v2, v39, (v42_0, v42_1, v42_2, _), v45, v131, _) =>
 Option.bind (yb9 (List.take (List.length v0_0) (List.drop 0 v0_0)) (fun y0 => (yh0 y0.1 (v1_0, (List.take (List.length v1_1) (List.drop 0 v1_1)))))) fun r1 =>
  bif r1 then
   some (((List.take (List.length v0_0) (List.drop 0 v0_0)), v0_1, ()), v39, (v42_0, v42_1, v42_2, ()), v45, v131, ())
  else
   bif (decide ((((List.length v0_0) : Nat) : Int) ≥ (120 : Int))) then
    some (((List.take (List.length v0_0) (List.drop 0 v0_0)), false, ()), v39, (v42_0, v42_1, v42_2, ()), v45, v131, ())
   else
    bif (decide ((((ByteArray.size v2) : Nat) : Int) > (120 : Int))) then
     some (((List.take (List.length v0_0) (List.drop 0 v0_0)), false, ()), v39, (v42_0, v42_1, v42_2, ()), v45, v131, ())
    else
     if (((0 + (List.length v0_0)) = (List.length v0_0)) ∧ ((((List.length v0_0) + (List.length (List.take 1 (List.drop 0 [((v1_0, (List.take (List.length v1_1) (List.drop 0 v1_1))), v2)])))) * 48) ≤ 140737488355328)) then
      some (((List.take ((List.length v0_0) + (List.length (List.take 1 (List.drop 0 [((v1_0, (List.take (List.length v1_1) (List.drop 0 v1_1))), v2)])))) (List.drop 0 ((List.drop 0 v0_0) ++ (List.take 1 (List.drop 0 [((v1_0, (List.take (List.length v1_1) (List.drop 0 v1_1))), v2)]))))), v0_1, ()), v39, (v42_0, v42_1, v42_2, ()), v45, v131, ())
     else
      none
theorem yz0 : y1v f65.ntmps 82 81 y3q yw2 f65.results.toList (ya2 f65) y19 y2a = ye7 := by kernel_rfl
noncomputable def y3r : CallD := ⟨f65.ntmps, y19, 82, y2a, ye7, 0⟩
theorem y6t : y80 prog 81 65 y3r := y0k (ya9 yd4) y1a (L := yw2) func65 (by kernel_rfl) (c := ya2 f65) (by kernel_rfl) (yc6 (L := yw2) (ya9 yd4) y1a mixed (c := ya2 f65) (bs := []) (by kernel_rfl) ya0 (by kernel_rfl)) (by kernel_rfl) (by kernel_rfl) yz0
noncomputable def y5o : Env := ⟨ty0, fun g => ifEq g 34 (some A34) (ifEq g 42 (some A42) (ifEq g 95 (some A95) (ifEq g 96 (some A96) (ifEq g 64 (some A64) (ifEq g 66 (some A66) (none)))))), fun _ => none, fun _ => none, fun d => ifI (Nat.beq d 31) (some (65, y3n)) (ifI (Nat.beq d 65) (some (65, y3p)) (ifI (Nat.beq d 81) (some (65, y3r)) (none)))⟩
theorem y2b : FnsOk prog y5o := (zx0 (d0 := 31) (g0 := 65) y6r (zx0 (d0 := 65) (g0 := 65) y6s (zx0 (d0 := 81) (g0 := 65) y6t (oF y5j func34 (oF zs6 func42 (oF zs7 func95 (oF zs8 func96 (oF zi0 func64 (oF y9l func66 (yc1 _ _))))))))))
noncomputable def y7a : Nat → Option LoopD := fun _ => none
def y2c : List Fm := .box 100000 [.own (.pair (.pair (.int .i64) (.sl (.int .i64))) .str) 100001 false, .val .bool] :: .cell (.val (.int .i64)) :: d :: d :: .box 100400 [.val (.int .i64), .val (.sl (.int .i64)), .val .str] :: d :: d :: .cell (.val (.int .i64)) :: D 75 (.fnv 63 [] :: D 4 (.ali 100000 0 :: D 4 (.cell (.val (.int .i64)) :: D 58 [])))
def y2d : List (Ex × List Fm) := [(.exit 0, [d, d, d, d, d, d, d, d, d, d, d, d, d, d, d, d, d, d, d, d, d, d, d, d, d, d, d, d, d, d, d, d, d, d, d, d, d, d, d, d, d, d, d, d, d, d, d, d, d, d, d, d, d, d, d, d, d, d, d, d, d, d, d, d, d, d, d, d, d, d, d, d, d, d, d, d, d, d, d, d, d, d, d, .fnv 63 [], d, d, d, d, .box 108800 [.own (.pair (.pair (.int .i64) (.sl (.int .i64))) .str) 108801 false, .val .bool], d, d, d, d, .cell (.val (.int .i64)), d, d, d, d, d, d, d, d, d, d, d, d, d, d, d, d, d, d, d, d, d, d, d, d, d, d, d, d, d, d, d, d, d, d, d, d, d, d, d, d, d, d, d, d, d, d, d, d, d, d, d, d, d, d, d, d, d, d])]
noncomputable def ya8 : (((List ((Int × (List Int)) × ByteArray)) × Bool × Unit) × Int × (Int × (List Int) × ByteArray × Unit) × Int × Int × Unit) → Option ((((List ((Int × (List Int)) × ByteArray)) × Bool × Unit) × Int × (Int × (List Int) × ByteArray × Unit) × Int × Int × Unit) ⊕ ((((List ((Int × (List Int)) × ByteArray)) × Bool × Unit) × Int × Unit))) := fun ((v0_0, v0_1, _), v1, (v4_0, v4_1, v4_2, _), v7, v93, _) =>
 bif (decide (v7 ≤ v1)) then
  bif v0_1 then
   if (((0 : Int) ≤ v7) ∧ (v7 < (((List.length v0_0) : Nat) : Int))) then
    Option.bind (yi0 (v4_0, v4_1) ((List.getD v0_0 (0 + (Int.toNat v7)) (((0 : Int), []), (⟨Array.empty⟩ : ByteArray))).1.1, (List.getD v0_0 (0 + (Int.toNat v7)) (((0 : Int), []), (⟨Array.empty⟩ : ByteArray))).1.2)) fun ((r0, r1), r2) =>
     if (((ByteArray.size v4_2) + (ByteArray.size (List.getD v0_0 (0 + (Int.toNat v7)) (((0 : Int), []), (⟨Array.empty⟩ : ByteArray))).2)) ≤ 9223372036854775807) then
      Option.bind (yd3 (((List.take (List.length v0_0) (List.drop 0 v0_0)), v0_1, ()), (r0, (List.take (List.length r1) (List.drop 0 r1))), (v4_2 ++ (List.getD v0_0 (0 + (Int.toNat v7)) (((0 : Int), []), (⟨Array.empty⟩ : ByteArray))).2), v1, (v4_0, v4_1, v4_2, ()), v7, ((List.getD v0_0 (0 + (Int.toNat v7)) (((0 : Int), []), (⟨Array.empty⟩ : ByteArray))).1.1, (List.getD v0_0 (0 + (Int.toNat v7)) (((0 : Int), []), (⟨Array.empty⟩ : ByteArray))).1.2, (List.getD v0_0 (0 + (Int.toNat v7)) (((0 : Int), []), (⟨Array.empty⟩ : ByteArray))).2, ()), (r0, (List.take (List.length r1) (List.drop 0 r1)), ()), v93, ())) fun ((r3, r4, _), r5, (r6, r7, r8, _), r9, (r10, r11, r12, _), (r13, r14, _), r15, _) =>
       Option.bind (yi0 (r10, r11) (r6, r7)) fun ((r16, r17), r18) =>
        if (((ByteArray.size r12) + (ByteArray.size r8)) ≤ 9223372036854775807) then
         Option.bind (ye7 (((List.take (List.length r3) (List.drop 0 r3)), r4, ()), (r16, (List.take (List.length r17) (List.drop 0 r17)), ()), (r12 ++ r8), r5, (r6, r7, r8, ()), r9, r15, ())) fun ((r19, r20, _), r21, (r22, r23, r24, _), r25, r26, _) =>
          some (Sum.inl (((List.take (List.length r19) (List.drop 0 r19)), r20, ()), r21, (r22, r23, r24, ()), (IntKind.wrap .i64 (r25 + (1 : Int))), r26, ()))
        else
         none
     else
      none
   else
    none
  else
   some (Sum.inr (((List.take (List.length v0_0) (List.drop 0 v0_0)), v0_1, ()), v93, ()))
 else
  some (Sum.inr (((List.take (List.length v0_0) (List.drop 0 v0_0)), v0_1, ()), v93, ()))
theorem y0t : ya6 82 y5o y7a (ya1 f63 5) y2c y2d = ya8 := by kernel_rfl
theorem ze0 {L} (h : L 5 = some ⟨82, y2c, y2d, ya8⟩) : yc0 prog L (ya1 f63 5) := lo y0t y2b ya0 h
noncomputable def y25 : Nat → Option LoopD := fun n => ifEq n 5 (some ⟨82, y2c, y2d, ya8⟩) (y7a n)
def y7b : List Fm := .box 100000 [.own (.pair (.pair (.int .i64) (.sl (.int .i64))) .str) 100001 false, .val .bool] :: .cell (.val (.int .i64)) :: D 81 (.fnv 63 [] :: D 4 (.ali 100000 0 :: D 4 (.cell (.val (.int .i64)) :: D 58 [])))
def y7c : List Fm := d :: .fnv 63 [] :: D 4 (.box 100600 [.own (.pair (.pair (.int .i64) (.sl (.int .i64))) .str) 100601 false, .val .bool] :: D 4 (.cell (.val (.int .i64)) :: D 58 []))
noncomputable def yh5 : (((List ((Int × (List Int)) × ByteArray)) × Bool × Unit) × Int × Int × Unit) → Option (((List ((Int × (List Int)) × ByteArray)) × Bool × Unit) × Int × Unit) := fun ((v0_0, v0_1, _), v1, v93, _) =>
 if (((0 : Int) ≤ v1) ∧ (v1 < (((List.length v0_0) : Nat) : Int))) then
  Option.bind (yr7 ((List.getD v0_0 (0 + (Int.toNat v1)) (((0 : Int), []), (⟨Array.empty⟩ : ByteArray))).1.1, (List.getD v0_0 (0 + (Int.toNat v1)) (((0 : Int), []), (⟨Array.empty⟩ : ByteArray))).1.2)) fun ((r0, r1), r2) =>
   bif r2 then
    if (((ByteArray.size (⟨#[(40 : UInt8)]⟩ : ByteArray)) + (ByteArray.size (List.getD v0_0 (0 + (Int.toNat v1)) (((0 : Int), []), (⟨Array.empty⟩ : ByteArray))).2)) ≤ 9223372036854775807) then
     if (((ByteArray.size ((⟨#[(40 : UInt8)]⟩ : ByteArray) ++ (List.getD v0_0 (0 + (Int.toNat v1)) (((0 : Int), []), (⟨Array.empty⟩ : ByteArray))).2)) + (ByteArray.size (⟨#[(41 : UInt8), (35 : UInt8)]⟩ : ByteArray))) ≤ 9223372036854775807) then
      Option.bind (yd2 (((List.take (List.length v0_0) (List.drop 0 v0_0)), v0_1, ()), (r0, (List.take (List.length r1) (List.drop 0 r1)), ()), (((⟨#[(40 : UInt8)]⟩ : ByteArray) ++ (List.getD v0_0 (0 + (Int.toNat v1)) (((0 : Int), []), (⟨Array.empty⟩ : ByteArray))).2) ++ (⟨#[(41 : UInt8), (35 : UInt8)]⟩ : ByteArray)), v1, ((List.getD v0_0 (0 + (Int.toNat v1)) (((0 : Int), []), (⟨Array.empty⟩ : ByteArray))).1.1, (List.getD v0_0 (0 + (Int.toNat v1)) (((0 : Int), []), (⟨Array.empty⟩ : ByteArray))).1.2, (List.getD v0_0 (0 + (Int.toNat v1)) (((0 : Int), []), (⟨Array.empty⟩ : ByteArray))).2, ()), v93, ())) fun ((r3, r4, _), r5, (r6, r7, r8, _), r9, _) =>
       Option.bind (ya4 ya8 (((List.take (List.length r3) (List.drop 0 r3)), r4, ()), r5, (r6, r7, r8, ()), (0 : Int), r9, ())) fun ((r10, r11, _), r12, _) =>
        some (((List.take (List.length r10) (List.drop 0 r10)), r11, ()), r12, ())
     else
      none
    else
     none
   else
    Option.bind (ya4 ya8 (((List.take (List.length v0_0) (List.drop 0 v0_0)), v0_1, ()), v1, ((List.getD v0_0 (0 + (Int.toNat v1)) (((0 : Int), []), (⟨Array.empty⟩ : ByteArray))).1.1, (List.getD v0_0 (0 + (Int.toNat v1)) (((0 : Int), []), (⟨Array.empty⟩ : ByteArray))).1.2, (List.getD v0_0 (0 + (Int.toNat v1)) (((0 : Int), []), (⟨Array.empty⟩ : ByteArray))).2, ()), (0 : Int), v93, ())) fun ((r13, r14, _), r15, _) =>
     some (((List.take (List.length r13) (List.drop 0 r13)), r14, ()), r15, ())
 else
  none
theorem y2e : y1v f63.ntmps 62 52 y5o y25 f63.results.toList (ya2 f63) y7b y7c = yh5 := by kernel_rfl
noncomputable def zi3 : CallD := ⟨f63.ntmps, y7b, 62, y7c, yh5, 0⟩
theorem zt0 : y80 prog 52 63 zi3 := y0k (ya9 yd4) y2b (L := y25) func63 (by kernel_rfl) (c := ya2 f63) (by kernel_rfl) (yc6 (L := y25) (ya9 yd4) y2b mixed (c := ya2 f63) (bs := [ya1 f63 5]) (by kernel_rfl) (yb4 (ze0 rfl) ya0) (by kernel_rfl)) (by kernel_rfl) (by kernel_rfl) y2e
noncomputable def z15 : Env := ⟨ty0, fun g => ifEq g 34 (some A34) (ifEq g 42 (some A42) (ifEq g 95 (some A95) (ifEq g 96 (some A96) (ifEq g 64 (some A64) (ifEq g 66 (some A66) (none)))))), fun _ => none, fun _ => none, fun d => ifI (Nat.beq d 32) (some (65, zi2)) (ifI (Nat.beq d 52) (some (63, zi3)) (none))⟩
theorem y6j : FnsOk prog z15 := (zx0 (d0 := 32) (g0 := 65) zs9 (zx0 (d0 := 52) (g0 := 63) zt0 (oF y5j func34 (oF zs6 func42 (oF zs7 func95 (oF zs8 func96 (oF zi0 func64 (oF y9l func66 (yc1 _ _)))))))))
noncomputable def z30 : Nat → Option LoopD := fun _ => none
def ze1 : List Fm := d :: .fnv 63 [] :: .box 100200 [.val (.int .i64), .val (.sl (.int .i64)), .val (.sl (.int .i64)), .val (.sl (.pair (.int .i64) (.pair .str (.pair (.int .i64) (.int .i64)))))] :: d :: d :: d :: .box 100600 [.own (.pair (.pair (.int .i64) (.sl (.int .i64))) .str) 100601 false, .val .bool] :: D 10 (.cell (.own .str 101700 false) :: .cell (.val (.int .i64)) :: .cell (.val (.int .i64)) :: D 50 [])
def ze2 : List (Ex × List Fm) := [(.exit 0, [d, .fnv 63 [], d, d, d, d, .box 100600 [.own (.pair (.pair (.int .i64) (.sl (.int .i64))) .str) 100601 false, .val .bool], d, d, d, d, d, d, d, d, d, d, d, d, d, d, d, d, d, d, d, d, d, d, d, d, d, d, d, d, d, d, d, d, d, d, d, d, d, d, d, d, d, d, d, d, d, d, d, d, d, d, d, d, d, d, d, d, d, d, d, d, d, d, d])]
noncomputable def yc8 : ((Int × (List Int) × (List Int) × (List (Int × (ByteArray × (Int × Int)))) × Unit) × ((List ((Int × (List Int)) × ByteArray)) × Bool × Unit) × (List ByteArray) × Int × Int × Unit) → Option (((Int × (List Int) × (List Int) × (List (Int × (ByteArray × (Int × Int)))) × Unit) × ((List ((Int × (List Int)) × ByteArray)) × Bool × Unit) × (List ByteArray) × Int × Int × Unit) ⊕ ((((List ((Int × (List Int)) × ByteArray)) × Bool × Unit) × Unit))) := fun ((v2_0, v2_1, v2_2, v2_3, _), (v6_0, v6_1, _), v17, v18, v19, _) =>
 bif (decide (v19 < v18)) then
  if (((0 : Int) ≤ v19) ∧ (v19 < (((List.length v17) : Nat) : Int))) then
   Option.bind (yw9 (v2_0, v2_1, v2_2, v2_3) (List.getD v17 (0 + (Int.toNat v19)) (⟨Array.empty⟩ : ByteArray))) fun ((r0, r1), r2) =>
    Option.bind (yh4 (((List.take (List.length v6_0) (List.drop 0 v6_0)), v6_1, ()), (r0, (List.take (List.length r1) (List.drop 0 r1)), ()), (List.getD v17 (0 + (Int.toNat v19)) (⟨Array.empty⟩ : ByteArray)), (v2_0, v2_1, v2_2, v2_3, ()), (List.take (List.length v17) (List.drop 0 v17)), v18, v19, ())) fun ((r3, r4, r5, r6, _), (r7, r8, _), r9, r10, r11, _) =>
     some (Sum.inl ((r3, r4, r5, r6, ()), ((List.take (List.length r7) (List.drop 0 r7)), r8, ()), (List.take (List.length r9) (List.drop 0 r9)), r10, (IntKind.wrap .i64 (r11 + (1 : Int))), ()))
  else
   none
 else
  some (Sum.inr (((List.take (List.length v6_0) (List.drop 0 v6_0)), v6_1, ()), ()))
theorem y26 : ya6 62 z15 z30 (ya1 f62 5) ze1 ze2 = yc8 := by kernel_rfl
theorem z31 {L} (h : L 5 = some ⟨62, ze1, ze2, yc8⟩) : yc0 prog L (ya1 f62 5) := lo y26 y6j ya0 h
noncomputable def z32 : Nat → Option LoopD := fun n => ifEq n 5 (some ⟨62, ze1, ze2, yc8⟩) (z30 n)
def y7w : List Fm := d :: .fnv 63 [] :: D 4 (.box 100600 [.own (.pair (.pair (.int .i64) (.sl (.int .i64))) .str) 100601 false, .val .bool] :: D 4 (.cell (.val (.int .i64)) :: D 58 []))
def y7x : List (Ex × List Fm) := [(.exit 2, [d, d, d, d, d, d, .box 100600 [.own (.pair (.pair (.int .i64) (.sl (.int .i64))) .str) 100601 false, .val .bool], d, d, d, d, d, d, d, d, d, d, d, d, d, d, d, d, d, d, d, d, d, d, d, d, d, d, d, d, d, d, d, d, d, d, d, d, d, d, d, d, d, d, d, d, d, d, d, d, d, d, d, d, d, d, d, d, d, d, d, d, d, d, d])]
noncomputable def yb2 : (((List ((Int × (List Int)) × ByteArray)) × Bool × Unit) × Int × Unit) → Option ((((List ((Int × (List Int)) × ByteArray)) × Bool × Unit) × Int × Unit) ⊕ ((((List ((Int × (List Int)) × ByteArray)) × Bool × Unit) × Unit))) := fun ((v6_0, v6_1, _), v11, _) =>
 bif (decide (v11 < (((List.length v6_0) : Nat) : Int))) then
  bif v6_1 then
   Option.bind (yh5 (((List.take (List.length v6_0) (List.drop 0 v6_0)), v6_1, ()), v11, v11, ())) fun ((r0, r1, _), r2, _) =>
    some (Sum.inl (((List.take (List.length r0) (List.drop 0 r0)), r1, ()), (IntKind.wrap .i64 (r2 + (1 : Int))), ()))
  else
   some (Sum.inr (((List.take (List.length v6_0) (List.drop 0 v6_0)), v6_1, ()), ()))
 else
  some (Sum.inr (((List.take (List.length v6_0) (List.drop 0 v6_0)), v6_1, ()), ()))
theorem y2n : ya6 62 z15 z32 (ya1 f62 11) y7w y7x = yb2 := by kernel_rfl
theorem z16 {L} (h : L 11 = some ⟨62, y7w, y7x, yb2⟩) : yc0 prog L (ya1 f62 11) := lo y2n y6j ya0 h
noncomputable def zt1 : Nat → Option LoopD := fun n => ifEq n 11 (some ⟨62, y7w, y7x, yb2⟩) (z32 n)
def z33 : List Fm := .cell (.val (.pair (.int .i64) (.pair (.sl (.int .i64)) (.pair (.sl (.int .i64)) (.sl (.pair (.int .i64) (.pair .str (.pair (.int .i64) (.int .i64))))))))) :: .fnv 63 [] :: D 68 []
def z34 : List Fm := D 5 (.tup [.own (.pair (.pair (.int .i64) (.sl (.int .i64))) .str) 100501 false, .val .bool] :: d :: d :: [])
noncomputable def yj7 : ((Int × ((List Int) × ((List Int) × (List (Int × (ByteArray × (Int × Int))))))) × Unit) → Option (((List ((Int × (List Int)) × ByteArray)) × Bool × Unit) × Unit) := fun ((v0_0, v0_1, v0_2, v0_3), _) =>
 Option.bind (ye5 (v0_0, v0_1, v0_2, v0_3)) fun r0 =>
  bif (!r0) then
   some (([], false, ()), ())
  else
   Option.bind (ya4 yc8 ((v0_0, v0_1, v0_2, v0_3, ()), ([], true, ()), (List.take 2 (List.drop 0 [(⟨#[(97 : UInt8)]⟩ : ByteArray), (⟨#[(98 : UInt8)]⟩ : ByteArray)])), ((2 : Nat) : Int), (0 : Int), ())) fun ((r1, r2, _), _) =>
    Option.bind (ya4 yb2 (((List.take (List.length r1) (List.drop 0 r1)), r2, ()), (0 : Int), ())) fun ((r3, r4, _), _) =>
     bif (!r4) then
      some (([], false, ()), ())
     else
      some (((List.take (List.length r3) (List.drop 0 r3)), true, ()), ())
theorem y40 : y1v f62.ntmps 8 5 z15 zt1 f62.results.toList (ya2 f62) z33 z34 = yj7 := by kernel_rfl
noncomputable def kk5 : CallD := ⟨f62.ntmps, z33, 8, z34, yj7, 0⟩
theorem z9g : y80 prog 5 62 kk5 := y0k (ya9 yd4) y6j (L := zt1) func62 (by kernel_rfl) (c := ya2 f62) (by kernel_rfl) (yc6 (L := zt1) (ya9 yd4) y6j mixed (c := ya2 f62) (bs := [ya1 f62 5, ya1 f62 11]) (by kernel_rfl) (yb4 (z31 rfl) (yb4 (z16 rfl) ya0)) (by kernel_rfl)) (by kernel_rfl) (by kernel_rfl) y40
noncomputable def E41 : Env := ⟨ty0, fun g => ifEq g 34 (some A34) (ifEq g 42 (some A42) (ifEq g 95 (some A95) (ifEq g 96 (some A96) (ifEq g 64 (some A64) (ifEq g 66 (some A66) (none)))))), fun _ => none, fun _ => none, fun d => ifI (Nat.beq d 5) (some (62, kk5)) (none)⟩
theorem E41_ok : FnsOk prog E41 := (zx0 (d0 := 5) (g0 := 62) z9g (oF y5j func34 (oF zs6 func42 (oF zs7 func95 (oF zs8 func96 (oF zi0 func64 (oF y9l func66 (yc1 _ _))))))))
noncomputable def L41_0 : Nat → Option LoopD := fun _ => none
noncomputable def ye0 : (Int × ((List Int) × ((List Int) × (List (Int × (ByteArray × (Int × Int))))))) → Option ((List ((Int × (List Int)) × ByteArray)) × Bool) := fun (a0_0, a0_1, a0_2, a0_3) =>
 Option.bind (yj7 ((a0_0, a0_1, a0_2, a0_3), ())) fun ((r0, r1, _), _) =>
  some ((List.take (List.length r0) (List.drop 0 r0)), r1)
noncomputable def A41 : FnA := ⟨[.v (.pair (.int .i64) (.pair (.sl (.int .i64)) (.pair (.sl (.int .i64)) (.sl (.pair (.int .i64) (.pair .str (.pair (.int .i64) (.int .i64))))))))], true, [.sl (.pair (.pair (.int .i64) (.sl (.int .i64))) .str), .bool], fun x => ye0 x.1⟩
theorem y9q : fnF E41 L41_0 [.v (.pair (.int .i64) (.pair (.sl (.int .i64)) (.pair (.sl (.int .i64)) (.sl (.pair (.int .i64) (.pair .str (.pair (.int .i64) (.int .i64))))))))] true [.sl (.pair (.pair (.int .i64) (.sl (.int .i64))) .str), .bool] f41.ntmps f41.results.toList (ya2 f41) = fun x => ye0 x.1 := by kernel_rfl
theorem A41_ok : FnOk prog 41 A41 := fo y9q func41 E41_ok ya0
/-! impl.firstWith -/
noncomputable def E31 : Env := ⟨ty0, fun g => ifEq g 41 (some A41) (none), fun _ => none, fun _ => none, fun _ => none⟩
theorem E31_ok : FnsOk prog E31 := (oF A41_ok func41 (yc1 _ _))
noncomputable def L31_0 : Nat → Option LoopD := fun _ => none
def kk6 : List Fm := d :: .clo [.pair (.int .i64) (.sl (.int .i64))] .bool :: D 13 (.cell (.own (.pair (.pair (.int .i64) (.sl (.int .i64))) .str) 101500 false) :: .cell (.val (.int .i64)) :: .cell (.val (.int .i64)) :: D 10 [])
def kk7 : List (Ex × List Fm) := [(.ret, (D 4 (.cell (.val .str) :: .cell (.val .bool) :: D 22 []))), (.exit 0, (D 28 []))]
noncomputable def yh6 : ((((Int × (List Int)) × Unit) → Option (Bool)) × (List ((Int × (List Int)) × ByteArray)) × Int × Int × Unit) → Option (((((Int × (List Int)) × Unit) → Option (Bool)) × (List ((Int × (List Int)) × ByteArray)) × Int × Int × Unit) ⊕ ((ByteArray × Bool × Unit) ⊕ (Unit))) := fun (v1, v15, v16, v17, _) =>
 bif (decide (v17 < v16)) then
  if (((0 : Int) ≤ v17) ∧ (v17 < (((List.length v15) : Nat) : Int))) then
   Option.bind (v1 (((List.getD v15 (0 + (Int.toNat v17)) (((0 : Int), []), (⟨Array.empty⟩ : ByteArray))).1.1, (List.getD v15 (0 + (Int.toNat v17)) (((0 : Int), []), (⟨Array.empty⟩ : ByteArray))).1.2), ())) fun r0 =>
    bif r0 then
     some (Sum.inr (Sum.inl ((List.getD v15 (0 + (Int.toNat v17)) (((0 : Int), []), (⟨Array.empty⟩ : ByteArray))).2, true, ())))
    else
     some (Sum.inl (v1, (List.take (List.length v15) (List.drop 0 v15)), v16, (IntKind.wrap .i64 (v17 + (1 : Int))), ()))
  else
   none
 else
  some (Sum.inr (Sum.inr ()))
theorem y6u : ya6 28 E31 L31_0 (ya1 f31 3) kk6 kk7 = yh6 := by kernel_rfl
theorem ky2 {L} (h : L 3 = some ⟨28, kk6, kk7, yh6⟩) : yc0 prog L (ya1 f31 3) := lo y6u E31_ok ya0 h
noncomputable def L31_1 : Nat → Option LoopD := fun n => ifEq n 3 (some ⟨28, kk6, kk7, yh6⟩) (L31_0 n)
noncomputable def yv0 : (Int × ((List Int) × ((List Int) × (List (Int × (ByteArray × (Int × Int))))))) → (((Int × (List Int)) × Unit) → Option (Bool)) → Option (ByteArray × Bool) := fun (a0_0, a0_1, a0_2, a0_3) a1 =>
 Option.bind (ye0 (a0_0, a0_1, a0_2, a0_3)) fun (r0, r1) =>
  Option.bind (ya4 yh6 (a1, (List.take (List.length r0) (List.drop 0 r0)), (((List.length r0) : Nat) : Int), (0 : Int), ())) fun r2 =>
   (match r2 with
   | .inl (d3, d4, _) =>
     some (d3, d4)
   | .inr _ =>
     some ((⟨#[]⟩ : ByteArray), false))
noncomputable def A31 : FnA := ⟨[.v (.pair (.int .i64) (.pair (.sl (.int .i64)) (.pair (.sl (.int .i64)) (.sl (.pair (.int .i64) (.pair .str (.pair (.int .i64) (.int .i64)))))))), .clo [.pair (.int .i64) (.sl (.int .i64))] .bool], true, [.str, .bool], fun x => yv0 x.1 x.2.1⟩
theorem ze3 : fnF E31 L31_1 [.v (.pair (.int .i64) (.pair (.sl (.int .i64)) (.pair (.sl (.int .i64)) (.sl (.pair (.int .i64) (.pair .str (.pair (.int .i64) (.int .i64)))))))), .clo [.pair (.int .i64) (.sl (.int .i64))] .bool] true [.str, .bool] f31.ntmps f31.results.toList (ya2 f31) = fun x => yv0 x.1 x.2.1 := by kernel_rfl
theorem A31_ok : FnOk prog 31 A31 := fo ze3 func31 E31_ok (yb4 (ky2 rfl) ya0)
/-! impl.GradeBetween -/
noncomputable def E33 : Env := ⟨ty0, fun g => ifEq g 34 (some A34) (ifEq g 53 (some A53) (ifEq g 54 (some A54) (none))), fun _ => none, fun _ => none, fun _ => none⟩
theorem kk8 : FnsOk prog E33 := (oF y5j func34 (oF A53_ok func53 (oF z73 func54 (yc1 _ _))))
noncomputable def L33_0 : Nat → Option LoopD := fun _ => none
def kk9 : List Fm := d :: d :: .box 100200 [.val (.int .i64), .val (.sl (.int .i64)), .val (.sl (.int .i64)), .val (.sl (.pair (.int .i64) (.pair .str (.pair (.int .i64) (.int .i64)))))] :: .box 100300 [.val (.int .i64), .val (.sl (.int .i64))] :: d :: .cell (.val (.int .i64)) :: d :: .cell (.val (.int .i64)) :: D 18 (.cell (.val (.sl (.int .i64))) :: .cell (.val (.int .i64)) :: .cell (.val (.int .i64)) :: D 4 (.cell (.val (.sl (.int .i64))) :: .cell (.val (.int .i64)) :: .cell (.val (.int .i64)) :: D 12 []))
def kl0 : List (Ex × List Fm) := [(.exit 2, [d, d, .box 100200 [.val (.int .i64), .val (.sl (.int .i64)), .val (.sl (.int .i64)), .val (.sl (.pair (.int .i64) (.pair .str (.pair (.int .i64) (.int .i64)))))], .box 100300 [.val (.int .i64), .val (.sl (.int .i64))], d, .cell (.val (.int .i64)), d, d, d, d, d, d, d, d, d, d, d, d, d, d, d, d, d, d, d, d, .cell (.val (.sl (.int .i64))), .cell (.val (.int .i64)), .cell (.val (.int .i64)), d, d, d, d, d, d, d, d, d, d, d, d, d, d, d, d, d, d, d])]
noncomputable def yd9 : ((Int × (List Int) × (List Int) × (List (Int × (ByteArray × (Int × Int)))) × Unit) × (Int × (List Int) × Unit) × Int × Int × (List Int) × Int × Int × (List Int) × Int × Int × Unit) → Option (((Int × (List Int) × (List Int) × (List (Int × (ByteArray × (Int × Int)))) × Unit) × (Int × (List Int) × Unit) × Int × Int × (List Int) × Int × Int × (List Int) × Int × Int × Unit) ⊕ (((Int × (List Int) × (List Int) × (List (Int × (ByteArray × (Int × Int)))) × Unit) × (Int × (List Int) × Unit) × Int × (List Int) × Int × Int × Unit))) := fun ((v2_0, v2_1, v2_2, v2_3, _), (v3_0, v3_1, _), v5, v7, v26, v27, v28, v33, v34, v35, _) =>
 bif (decide (v35 < v34)) then
  if (((0 : Int) ≤ v35) ∧ (v35 < (((List.length v33) : Nat) : Int))) then
   Option.bind (ye3 (v3_0, v3_1) v7 (List.getD v33 (Int.toNat v35) (0 : Int))) fun r0 =>
    some (Sum.inl ((v2_0, v2_1, v2_2, v2_3, ()), (v3_0, v3_1, ()), (if (r0 < v5) then r0 else v5), v7, v26, v27, v28, v33, v34, (IntKind.wrap .i64 (v35 + (1 : Int))), ()))
  else
   none
 else
  some (Sum.inr ((v2_0, v2_1, v2_2, v2_3, ()), (v3_0, v3_1, ()), v5, v26, v27, v28, ()))
theorem y4d : ya6 48 E33 L33_0 (ya1 f33 8) kk9 kl0 = yd9 := by kernel_rfl
theorem ky3 {L} (h : L 8 = some ⟨48, kk9, kl0, yd9⟩) : yc0 prog L (ya1 f33 8) := lo y4d kk8 ya0 h
noncomputable def L33_1 : Nat → Option LoopD := fun n => ifEq n 8 (some ⟨48, kk9, kl0, yd9⟩) (L33_0 n)
def kl1 : List Fm := d :: d :: .box 100200 [.val (.int .i64), .val (.sl (.int .i64)), .val (.sl (.int .i64)), .val (.sl (.pair (.int .i64) (.pair .str (.pair (.int .i64) (.int .i64)))))] :: .box 100300 [.val (.int .i64), .val (.sl (.int .i64))] :: d :: .cell (.val (.int .i64)) :: D 20 (.cell (.val (.sl (.int .i64))) :: .cell (.val (.int .i64)) :: .cell (.val (.int .i64)) :: D 19 [])
def kl2 : List (Ex × List Fm) := [(.exit 0, (D 5 (.cell (.val (.int .i64)) :: D 42 [])))]
noncomputable def yf1 : ((Int × (List Int) × (List Int) × (List (Int × (ByteArray × (Int × Int)))) × Unit) × (Int × (List Int) × Unit) × Int × (List Int) × Int × Int × Unit) → Option (((Int × (List Int) × (List Int) × (List (Int × (ByteArray × (Int × Int)))) × Unit) × (Int × (List Int) × Unit) × Int × (List Int) × Int × Int × Unit) ⊕ ((Int × Unit))) := fun ((v2_0, v2_1, v2_2, v2_3, _), (v3_0, v3_1, _), v5, v26, v27, v28, _) =>
 bif (decide (v28 < v27)) then
  if (((0 : Int) ≤ v28) ∧ (v28 < (((List.length v26) : Nat) : Int))) then
   Option.bind (ya4 yd9 ((v2_0, v2_1, v2_2, v2_3, ()), (v3_0, v3_1, ()), v5, (List.getD v26 (Int.toNat v28) (0 : Int)), v26, v27, v28, v2_2, (((List.length v2_2) : Nat) : Int), (0 : Int), ())) fun ((r0, r1, r2, r3, _), (r4, r5, _), r6, r7, r8, r9, _) =>
    some (Sum.inl ((r0, r1, r2, r3, ()), (r4, r5, ()), r6, r7, r8, (IntKind.wrap .i64 (r9 + (1 : Int))), ()))
  else
   none
 else
  some (Sum.inr (v5, ()))
theorem y4e : ya6 48 E33 L33_1 (ya1 f33 5) kl1 kl2 = yf1 := by kernel_rfl
theorem ky4 {L} (h : L 5 = some ⟨48, kl1, kl2, yf1⟩) : yc0 prog L (ya1 f33 5) := lo y4e kk8 (yb4 (ky3 rfl) ya0) h
noncomputable def L33_2 : Nat → Option LoopD := fun n => ifEq n 5 (some ⟨48, kl1, kl2, yf1⟩) (L33_1 n)
noncomputable def yn1 : (Int × ((List Int) × ((List Int) × (List (Int × (ByteArray × (Int × Int))))))) → (Int × (List Int)) → Option (Int) := fun (a0_0, a0_1, a0_2, a0_3) (a1_0, a1_1) =>
 Option.bind (ye5 (a0_0, a0_1, a0_2, a0_3)) fun r0 =>
  bif (!r0) then
   some (-1 : Int)
  else
   Option.bind (yl7 (a1_0, a1_1)) fun r1 =>
    bif (!r1) then
     some (-1 : Int)
    else
     bif (a1_0 != a0_0) then
      some (-1 : Int)
     else
      Option.bind (ya4 yf1 ((a0_0, a0_1, a0_2, a0_3, ()), (a1_0, a1_1, ()), (3 : Int), a0_1, (((List.length a0_1) : Nat) : Int), (0 : Int), ())) fun (r2, _) =>
       some r2
noncomputable def A33 : FnA := ⟨[.v (.pair (.int .i64) (.pair (.sl (.int .i64)) (.pair (.sl (.int .i64)) (.sl (.pair (.int .i64) (.pair .str (.pair (.int .i64) (.int .i64)))))))), .v (.pair (.int .i64) (.sl (.int .i64)))], true, [.int .i64], fun x => yn1 x.1 x.2.1⟩
theorem y6v : fnF E33 L33_2 [.v (.pair (.int .i64) (.pair (.sl (.int .i64)) (.pair (.sl (.int .i64)) (.sl (.pair (.int .i64) (.pair .str (.pair (.int .i64) (.int .i64)))))))), .v (.pair (.int .i64) (.sl (.int .i64)))] true [.int .i64] f33.ntmps f33.results.toList (ya2 f33) = fun x => yn1 x.1 x.2.1 := by kernel_rfl
theorem A33_ok : FnOk prog 33 A33 := fo y6v func33 kk8 (yb4 (ky4 rfl) ya0)
/-! impl.GrowingOf$1 -/
noncomputable def E32 : Env := ⟨ty0, fun g => ifEq g 33 (some A33) (none), fun _ => none, fun _ => none, fun _ => none⟩
theorem E32_ok : FnsOk prog E32 := (oF A33_ok func33 (yc1 _ _))
noncomputable def L32_0 : Nat → Option LoopD := fun _ => none
noncomputable def yr1 : (Int × (List Int)) → (Int × ((List Int) × ((List Int) × (List (Int × (ByteArray × (Int × Int))))))) → Option (Bool) := fun (a0_0, a0_1) (a1_0, a1_1, a1_2, a1_3) =>
 Option.bind (yn1 (a1_0, a1_1, a1_2, a1_3) (a0_0, a0_1)) fun r0 =>
  some (r0 == (2 : Int))
noncomputable def A32 : FnA := ⟨[.v (.pair (.int .i64) (.sl (.int .i64))), .cap (.pair (.int .i64) (.pair (.sl (.int .i64)) (.pair (.sl (.int .i64)) (.sl (.pair (.int .i64) (.pair .str (.pair (.int .i64) (.int .i64))))))))], true, [.bool], fun x => yr1 x.1 x.2.1⟩
theorem y7y : fnF E32 L32_0 [.v (.pair (.int .i64) (.sl (.int .i64))), .cap (.pair (.int .i64) (.pair (.sl (.int .i64)) (.pair (.sl (.int .i64)) (.sl (.pair (.int .i64) (.pair .str (.pair (.int .i64) (.int .i64))))))))] true [.bool] f32.ntmps f32.results.toList (ya2 f32) = fun x => yr1 x.1 x.2.1 := by kernel_rfl
theorem A32_ok : FnOk prog 32 A32 := fo y7y func32 E32_ok ya0
/-! impl.GrowingOf -/
noncomputable def E12 : Env := ⟨ty0, fun g => ifEq g 31 (some A31) (ifEq g 32 (some A32) (none)), fun _ => none, fun _ => none, fun _ => none⟩
theorem E12_ok : FnsOk prog E12 := (oF A31_ok func31 (oF A32_ok func32 (yc1 _ _)))
noncomputable def L12_0 : Nat → Option LoopD := fun _ => none
noncomputable def yg7 : (Int × ((List Int) × ((List Int) × (List (Int × (ByteArray × (Int × Int))))))) → Option (ByteArray × Bool) := fun (a0_0, a0_1, a0_2, a0_3) =>
 Option.bind (yv0 (a0_0, a0_1, a0_2, a0_3) (fun y0 => (yr1 y0.1 (a0_0, a0_1, a0_2, a0_3)))) fun (r1, r2) =>
  some (r1, r2)
noncomputable def A12 : FnA := ⟨[.v (.pair (.int .i64) (.pair (.sl (.int .i64)) (.pair (.sl (.int .i64)) (.sl (.pair (.int .i64) (.pair .str (.pair (.int .i64) (.int .i64))))))))], true, [.str, .bool], fun x => yg7 x.1⟩
theorem ze4 : fnF E12 L12_0 [.v (.pair (.int .i64) (.pair (.sl (.int .i64)) (.pair (.sl (.int .i64)) (.sl (.pair (.int .i64) (.pair .str (.pair (.int .i64) (.int .i64))))))))] true [.str, .bool] f12.ntmps f12.results.toList (ya2 f12) = fun x => yg7 x.1 := by kernel_rfl
theorem A12_ok : FnOk prog 12 A12 := fo ze4 func12 E12_ok ya0
/-! impl.expand -/
noncomputable def R38 (impl_expand_rec : (List (ByteArray × PT)) → Int → Option (ByteArray × Bool)) : FnA := ⟨[.v (.sl (.pair .str .pt)), .v (.int .i64)], true, [.str, .bool], fun x => impl_expand_rec x.1 x.2.1⟩
noncomputable def E38 (impl_expand_rec : (List (ByteArray × PT)) → Int → Option (ByteArray × Bool)) : Env := ⟨ty0, fun g => ifEq g 38 (some (R38 impl_expand_rec)) (ifEq g 59 (some A59) (none)), fun _ => none, fun _ => none, fun _ => none⟩
theorem z77 (impl_expand_rec : (List (ByteArray × PT)) → Int → Option (ByteArray × Bool)) (hrec : FnOk prog 38 (R38 impl_expand_rec)) : FnsOk prog (E38 impl_expand_rec) := (oF hrec func38 (oF A59_ok func59 (yc1 _ _)))
noncomputable def L38_0 (impl_expand_rec : (List (ByteArray × PT)) → Int → Option (ByteArray × Bool)) : Nat → Option LoopD := fun _ => none
def kl3 : List Fm := d :: .cell (.val (.int .i64)) :: D 4 (.cell (.val .str) :: D 5 (.cell (.val (.sl (.pair .str .pt))) :: .cell (.val (.int .i64)) :: .cell (.val (.int .i64)) :: D 35 []))
def kl4 : List (Ex × List Fm) := [(.ret, (D 4 (.cell (.val .str) :: .cell (.val .bool) :: D 44 []))), (.exit 0, (D 6 (.cell (.val .str) :: D 43 [])))]
noncomputable def yk1 (impl_expand_rec : (List (ByteArray × PT)) → Int → Option (ByteArray × Bool)) : (Int × ByteArray × (List (ByteArray × PT)) × Int × Int × Unit) → Option ((Int × ByteArray × (List (ByteArray × PT)) × Int × Int × Unit) ⊕ ((ByteArray × Bool × Unit) ⊕ (ByteArray × Unit))) := fun (v1, v6, v12, v13, v14, _) =>
 bif (decide (v14 < v13)) then
  if (((0 : Int) ≤ v14) ∧ (v14 < (((List.length v12) : Nat) : Int))) then
   bif ((ByteArray.toList (List.getD v12 (Int.toNat v14) ((⟨Array.empty⟩ : ByteArray), (PT.mk []))).1) == (ByteArray.toList (⟨#[]⟩ : ByteArray))) then
    Option.bind (impl_expand_rec (PT.l (List.getD v12 (Int.toNat v14) ((⟨Array.empty⟩ : ByteArray), (PT.mk []))).2) v1) fun (r0, r1) =>
     bif (!r1) then
      some (Sum.inr (Sum.inl ((⟨#[]⟩ : ByteArray), false, ())))
     else
      if ((((ByteArray.size r0) : Nat) : Int) = (0 : Int)) then
       none
      else
       bif (decide (v1 > (IntKind.wrap .i64 (Int.tdiv (IntKind.wrap .i64 ((1000 : Int) - (((ByteArray.size v6) : Nat) : Int))) (((ByteArray.size r0) : Nat) : Int))))) then
        some (Sum.inr (Sum.inl ((⟨#[]⟩ : ByteArray), false, ())))
       else
        Option.bind (strings_Repeat r0 v1) fun r2 =>
         if (((ByteArray.size v6) + (ByteArray.size r2)) ≤ 9223372036854775807) then
          some (Sum.inl (v1, (v6 ++ r2), v12, v13, (IntKind.wrap .i64 (v14 + (1 : Int))), ()))
         else
          none
   else
    if ((((ByteArray.size (List.getD v12 (Int.toNat v14) ((⟨Array.empty⟩ : ByteArray), (PT.mk []))).1) : Nat) : Int) = (0 : Int)) then
     none
    else
     bif (decide ((1 : Int) > (IntKind.wrap .i64 (Int.tdiv (IntKind.wrap .i64 ((1000 : Int) - (((ByteArray.size v6) : Nat) : Int))) (((ByteArray.size (List.getD v12 (Int.toNat v14) ((⟨Array.empty⟩ : ByteArray), (PT.mk []))).1) : Nat) : Int))))) then
      some (Sum.inr (Sum.inl ((⟨#[]⟩ : ByteArray), false, ())))
     else
      Option.bind (strings_Repeat (List.getD v12 (Int.toNat v14) ((⟨Array.empty⟩ : ByteArray), (PT.mk []))).1 (1 : Int)) fun r3 =>
       if (((ByteArray.size v6) + (ByteArray.size r3)) ≤ 9223372036854775807) then
        some (Sum.inl (v1, (v6 ++ r3), v12, v13, (IntKind.wrap .i64 (v14 + (1 : Int))), ()))
       else
        none
  else
   none
 else
  some (Sum.inr (Sum.inr (v6, ())))
theorem ze5 (impl_expand_rec : (List (ByteArray × PT)) → Int → Option (ByteArray × Bool)) : ya6 50 (E38 impl_expand_rec) (L38_0 impl_expand_rec) (ya1 f38 3) kl3 kl4 = (yk1 impl_expand_rec) := by kernel_rfl
theorem ky5 (impl_expand_rec : (List (ByteArray × PT)) → Int → Option (ByteArray × Bool)) (hrec : FnOk prog 38 (R38 impl_expand_rec)) {L : Nat → Option LoopD} (h : L 3 = some ⟨50, kl3, kl4, (yk1 impl_expand_rec)⟩) : yc0 prog L (ya1 f38 3) :=
 zp7 (ya9 yd4) (z77 impl_expand_rec hrec) (yc6 (L := (L38_0 impl_expand_rec)) (ya9 yd4) (z77 impl_expand_rec hrec) mixed (c := ya1 f38 3) (bs := []) (by kernel_rfl) ya0 (by kernel_rfl)) (by kernel_rfl) (by kernel_rfl) (ze5 impl_expand_rec) (by rw [show yv9 (ya1 f38 3) = 3 from by kernel_rfl]; exact h)
noncomputable def L38_1 (impl_expand_rec : (List (ByteArray × PT)) → Int → Option (ByteArray × Bool)) : Nat → Option LoopD := fun n => ifEq n 3 (some ⟨50, kl3, kl4, (yk1 impl_expand_rec)⟩) ((L38_0 impl_expand_rec) n)
noncomputable def yr2 (impl_expand_rec : (List (ByteArray × PT)) → Int → Option (ByteArray × Bool)) : (List (ByteArray × PT)) → Int → Option (ByteArray × Bool) := fun a0 a1 =>
 Option.bind (ya4 (yk1 impl_expand_rec) (a1, (⟨#[]⟩ : ByteArray), a0, (((List.length a0) : Nat) : Int), (0 : Int), ())) fun r0 =>
  (match r0 with
  | .inl (d1, d2, _) =>
    some (d1, d2)
  | .inr (d3, _) =>
    some (d3, true))
theorem y7z (impl_expand_rec : (List (ByteArray × PT)) → Int → Option (ByteArray × Bool)) : fnF (E38 impl_expand_rec) (L38_1 impl_expand_rec) [.v (.sl (.pair .str .pt)), .v (.int .i64)] true [.str, .bool] f38.ntmps f38.results.toList (ya2 f38) = fun x => (yr2 impl_expand_rec) x.1 x.2.1 := by kernel_rfl
theorem y70 (impl_expand_rec : (List (ByteArray × PT)) → Int → Option (ByteArray × Bool)) (hrec : FnOk prog 38 (R38 impl_expand_rec)) : FnOk prog 38 ⟨[.v (.sl (.pair .str .pt)), .v (.int .i64)], true, [.str, .bool], fun x => (yr2 impl_expand_rec) x.1 x.2.1⟩ := by
 have h := yz8 (P := prog) (E := (E38 impl_expand_rec)) (ya9 yd4) (z77 impl_expand_rec hrec) (L := (L38_1 impl_expand_rec)) (ps := [.v (.sl (.pair .str .pt)), .v (.int .i64)]) (own := true) (outs := [.str, .bool]) func38 (c := ya2 f38) (by kernel_rfl) (yc6 (L := (L38_1 impl_expand_rec)) (ya9 yd4) (z77 impl_expand_rec hrec) mixed (c := ya2 f38) (bs := [ya1 f38 3]) (by kernel_rfl) (yb4 (ky5 impl_expand_rec hrec rfl) ya0) (by kernel_rfl))
 rw [(y7z impl_expand_rec)] at h
 exact h
/-- so many calls within each other -/
noncomputable def yi7 : Nat → (List (ByteArray × PT)) → Int → Option (ByteArray × Bool)
 | 0 => fun _ _ => none
 | n + 1 => yr2 (yi7 n)
theorem y2f : ∀ n, FnOk prog 38 (R38 (yi7 n))
 | 0 => fun xs r h => by cases h
 | n + 1 => y70 (yi7 n) (y2f n)
noncomputable def y71 : (List (ByteArray × PT)) → Int → Option (ByteArray × Bool) := yi7 200
noncomputable def A38 : FnA := R38 y71
theorem A38_ok : FnOk prog 38 A38 := y2f 200
/-! impl.ExpandExpression -/
noncomputable def E14 : Env := ⟨ty0, fun g => ifEq g 37 (some A37) (ifEq g 38 (some A38) (none)), fun _ => none, fun _ => none, fun _ => none⟩
theorem E14_ok : FnsOk prog E14 := (oF A37_ok func37 (oF A38_ok func38 (yc1 _ _)))
noncomputable def L14_0 : Nat → Option LoopD := fun _ => none
noncomputable def ye4 : ByteArray → Int → Option (ByteArray × Bool) := fun a0 a1 =>
 Option.bind (yw8 a0) fun (r0, r1) =>
  bif (!r1) then
   some ((⟨#[]⟩ : ByteArray), false)
  else
   bif (decide (a1 < (1 : Int))) then
    some ((⟨#[]⟩ : ByteArray), false)
   else
    Option.bind (y71 (List.take (List.length r0) (List.drop 0 r0)) a1) fun (r2, r3) =>
     some (r2, r3)
noncomputable def A14 : FnA := ⟨[.v .str, .v (.int .i64)], true, [.str, .bool], fun x => ye4 x.1 x.2.1⟩
theorem y3s : fnF E14 L14_0 [.v .str, .v (.int .i64)] true [.str, .bool] f14.ntmps f14.results.toList (ya2 f14) = fun x => ye4 x.1 x.2.1 := by kernel_rfl
theorem A14_ok : FnOk prog 14 A14 := fo y3s func14 E14_ok ya0
/-! impl.WordValid -/
noncomputable def E35 : Env := ⟨ty0, fun _ => none, fun _ => none, fun _ => none, fun _ => none⟩
theorem E35_ok : FnsOk prog E35 := (yc1 _ _)
noncomputable def L35_0 : Nat → Option LoopD := fun _ => none
def kl5 : List Fm := .cell (.val .str) :: D 4 (.cell (.val (.int .i64)) :: .cell (.val (.int .i64)) :: D 16 [])
def kl6 : List (Ex × List Fm) := [(.ret, (d :: d :: .cell (.val .bool) :: D 20 [])), (.exit 0, (.cell (.val .str) :: D 22 []))]
noncomputable def yj8 : (ByteArray × Int × Int × Unit) → Option ((ByteArray × Int × Int × Unit) ⊕ ((Bool × Unit) ⊕ (ByteArray × Unit))) := fun (v0, v5, v6, _) =>
 bif (decide (v6 < v5)) then
  if (((0 : Int) ≤ v6) ∧ (v6 < (((ByteArray.size v0) : Nat) : Int))) then
   bif ((((UInt8.toNat (Array.getD (ByteArray.data v0) (Int.toNat v6) (0 : UInt8))) : Nat) : Int) != (97 : Int)) then
    if (((0 : Int) ≤ v6) ∧ (v6 < (((ByteArray.size v0) : Nat) : Int))) then
     bif ((((UInt8.toNat (Array.getD (ByteArray.data v0) (Int.toNat v6) (0 : UInt8))) : Nat) : Int) != (98 : Int)) then
      some (Sum.inr (Sum.inl (false, ())))
     else
      some (Sum.inl (v0, v5, (IntKind.wrap .i64 (v6 + (1 : Int))), ()))
    else
     none
   else
    some (Sum.inl (v0, v5, (IntKind.wrap .i64 (v6 + (1 : Int))), ()))
  else
   none
 else
  some (Sum.inr (Sum.inr (v0, ())))
theorem y6w : ya6 23 E35 L35_0 (ya1 f35 2) kl5 kl6 = yj8 := by kernel_rfl
theorem ky6 {L} (h : L 2 = some ⟨23, kl5, kl6, yj8⟩) : yc0 prog L (ya1 f35 2) := lo y6w E35_ok ya0 h
noncomputable def L35_1 : Nat → Option LoopD := fun n => ifEq n 2 (some ⟨23, kl5, kl6, yj8⟩) (L35_0 n)
noncomputable def yv1 : ByteArray → Option (Bool) := fun a0 =>
 Option.bind (ya4 yj8 (a0, (((ByteArray.size a0) : Nat) : Int), (0 : Int), ())) fun r0 =>
  (match r0 with
  | .inl (d1, _) =>
    some d1
  | .inr (d2, _) =>
    some (decide ((((ByteArray.size d2) : Nat) : Int) ≤ (1000 : Int))))
noncomputable def A35 : FnA := ⟨[.v .str], true, [.bool], fun x => yv1 x.1⟩
theorem ze6 : fnF E35 L35_1 [.v .str] true [.bool] f35.ntmps f35.results.toList (ya2 f35) = fun x => yv1 x.1 := by kernel_rfl
theorem A35_ok : FnOk prog 35 A35 := fo ze6 func35 E35_ok (yb4 (ky6 rfl) ya0)
/-! math/bits.Mul64 -/
noncomputable def E110 : Env := ⟨ty0, fun _ => none, fun _ => none, fun _ => none, fun _ => none⟩
theorem E110_ok : FnsOk prog E110 := (yc1 _ _)
noncomputable def L110_0 : Nat → Option LoopD := fun _ => none
noncomputable def y3t : Int → Int → Option (Int × Int) := fun a0 a1 =>
 if ((32 : Int) < (0 : Int)) then
  none
 else
  if ((32 : Int) < (0 : Int)) then
   none
  else
   if ((32 : Int) < (0 : Int)) then
    none
   else
    if ((32 : Int) < (0 : Int)) then
     none
    else
     if ((32 : Int) < (0 : Int)) then
      none
     else
      some ((IntKind.wrap .u64 ((IntKind.wrap .u64 ((IntKind.wrap .u64 ((Int.fdiv a0 ((2 : Int) ^ (Min.min (Int.toNat (32 : Int)) (IntKind.bits .u64)))) * (Int.fdiv a1 ((2 : Int) ^ (Min.min (Int.toNat (32 : Int)) (IntKind.bits .u64)))))) + (Int.fdiv (IntKind.wrap .u64 ((IntKind.wrap .u64 ((Int.fdiv a0 ((2 : Int) ^ (Min.min (Int.toNat (32 : Int)) (IntKind.bits .u64)))) * ((((BitVec.toNat ((BitVec.ofInt (IntKind.bits .u64) a1) &&& (BitVec.ofInt (IntKind.bits .u64) (4294967295 : Int)))) % (Int.natAbs ((2 : Int) ^ (IntKind.bits .u64)))) : Nat) : Int))) + (Int.fdiv (IntKind.wrap .u64 (((((BitVec.toNat ((BitVec.ofInt (IntKind.bits .u64) a0) &&& (BitVec.ofInt (IntKind.bits .u64) (4294967295 : Int)))) % (Int.natAbs ((2 : Int) ^ (IntKind.bits .u64)))) : Nat) : Int) * ((((BitVec.toNat ((BitVec.ofInt (IntKind.bits .u64) a1) &&& (BitVec.ofInt (IntKind.bits .u64) (4294967295 : Int)))) % (Int.natAbs ((2 : Int) ^ (IntKind.bits .u64)))) : Nat) : Int))) ((2 : Int) ^ (Min.min (Int.toNat (32 : Int)) (IntKind.bits .u64)))))) ((2 : Int) ^ (Min.min (Int.toNat (32 : Int)) (IntKind.bits .u64)))))) + (Int.fdiv (IntKind.wrap .u64 (((((BitVec.toNat ((BitVec.ofInt (IntKind.bits .u64) (IntKind.wrap .u64 ((IntKind.wrap .u64 ((Int.fdiv a0 ((2 : Int) ^ (Min.min (Int.toNat (32 : Int)) (IntKind.bits .u64)))) * ((((BitVec.toNat ((BitVec.ofInt (IntKind.bits .u64) a1) &&& (BitVec.ofInt (IntKind.bits .u64) (4294967295 : Int)))) % (Int.natAbs ((2 : Int) ^ (IntKind.bits .u64)))) : Nat) : Int))) + (Int.fdiv (IntKind.wrap .u64 (((((BitVec.toNat ((BitVec.ofInt (IntKind.bits .u64) a0) &&& (BitVec.ofInt (IntKind.bits .u64) (4294967295 : Int)))) % (Int.natAbs ((2 : Int) ^ (IntKind.bits .u64)))) : Nat) : Int) * ((((BitVec.toNat ((BitVec.ofInt (IntKind.bits .u64) a1) &&& (BitVec.ofInt (IntKind.bits .u64) (4294967295 : Int)))) % (Int.natAbs ((2 : Int) ^ (IntKind.bits .u64)))) : Nat) : Int))) ((2 : Int) ^ (Min.min (Int.toNat (32 : Int)) (IntKind.bits .u64))))))) &&& (BitVec.ofInt (IntKind.bits .u64) (4294967295 : Int)))) % (Int.natAbs ((2 : Int) ^ (IntKind.bits .u64)))) : Nat) : Int) + (IntKind.wrap .u64 (((((BitVec.toNat ((BitVec.ofInt (IntKind.bits .u64) a0) &&& (BitVec.ofInt (IntKind.bits .u64) (4294967295 : Int)))) % (Int.natAbs ((2 : Int) ^ (IntKind.bits .u64)))) : Nat) : Int) * (Int.fdiv a1 ((2 : Int) ^ (Min.min (Int.toNat (32 : Int)) (IntKind.bits .u64)))))))) ((2 : Int) ^ (Min.min (Int.toNat (32 : Int)) (IntKind.bits .u64)))))), (IntKind.wrap .u64 (a0 * a1)))
noncomputable def A110 : FnA := ⟨[.v (.int .u64), .v (.int .u64)], true, [.int .u64, .int .u64], fun x => y3t x.1 x.2.1⟩
theorem z17 : fnF E110 L110_0 [.v (.int .u64), .v (.int .u64)] true [.int .u64, .int .u64] f110.ntmps f110.results.toList (ya2 f110) = fun x => y3t x.1 x.2.1 := by kernel_rfl
theorem A110_ok : FnOk prog 110 A110 := fo z17 func110 E110_ok ya0
/-! math/bits.Mul -/
noncomputable def E83 : Env := ⟨ty0, fun g => ifEq g 110 (some A110) (none), fun _ => none, fun _ => none, fun _ => none⟩
theorem E83_ok : FnsOk prog E83 := (oF A110_ok func110 (yc1 _ _))
noncomputable def L83_0 : Nat → Option LoopD := fun _ => none
noncomputable def zm6 : Int → Int → Option (Int × Int) := fun a0 a1 =>
 Option.bind (y3t a0 a1) fun (r0, r1) =>
  some (r0, r1)
noncomputable def A83 : FnA := ⟨[.v (.int .u64), .v (.int .u64)], true, [.int .u64, .int .u64], fun x => zm6 x.1 x.2.1⟩
theorem z5z : fnF E83 L83_0 [.v (.int .u64), .v (.int .u64)] true [.int .u64, .int .u64] f83.ntmps f83.results.toList (ya2 f83) = fun x => zm6 x.1 x.2.1 := by kernel_rfl
theorem A83_ok : FnOk prog 83 A83 := fo z5z func83 E83_ok ya0
/-! slices.Repeat[[]int,int] -/
noncomputable def E57 : Env := ⟨ty0, fun g => ifEq g 83 (some A83) (none), fun _ => none, fun _ => none, fun _ => none⟩
theorem E57_ok : FnsOk prog E57 := (oF A83_ok func83 (yc1 _ _))
noncomputable def L57_0 : Nat → Option LoopD := fun _ => none
def kl7 : List Fm := D 7 (.cell (.own (.int .i64) 100700 false) :: .cell (.val (.int .i64)) :: D 39 [])
def kl8 : List (Ex × List Fm) := [(.exit 0, (D 7 (.cell (.own (.int .i64) 100700 false) :: D 40 [])))]
noncomputable def yh1 : ((List Int) × Int × Unit) → Option (((List Int) × Int × Unit) ⊕ (((List Int) × Unit))) := fun (v7, v8, _) =>
 bif (decide (v8 < (((List.length v7) : Nat) : Int))) then
  if (((0 : Int) ≤ v8) ∧ (v8 ≤ (((List.length v7) : Nat) : Int))) then
   if (((0 : Int) ≤ v8) ∧ (v8 ≤ (((List.length v7) : Nat) : Int))) then
    some (Sum.inl ((List.take (List.length v7) (List.drop 0 ((List.take (0 + (Int.toNat v8)) v7) ++ ((List.take ((List.length v7) - (Int.toNat v8)) (List.take ((Int.toNat v8) - 0) (List.drop (0 + 0) v7))) ++ (List.drop ((0 + (Int.toNat v8)) + (List.length (List.take ((List.length v7) - (Int.toNat v8)) (List.take ((Int.toNat v8) - 0) (List.drop (0 + 0) v7))))) v7))))), (IntKind.wrap .i64 (v8 + (((List.length (List.take ((List.length v7) - (Int.toNat v8)) (List.take ((Int.toNat v8) - 0) (List.drop (0 + 0) v7)))) : Nat) : Int))), ()))
   else
    none
  else
   none
 else
  some (Sum.inr ((List.take (List.length v7) (List.drop 0 v7)), ()))
theorem y72 : ya6 48 E57 L57_0 (ya1 f57 8) kl7 kl8 = yh1 := by kernel_rfl
theorem ky7 {L} (h : L 8 = some ⟨48, kl7, kl8, yh1⟩) : yc0 prog L (ya1 f57 8) := lo y72 E57_ok ya0 h
noncomputable def L57_1 : Nat → Option LoopD := fun n => ifEq n 8 (some ⟨48, kl7, kl8, yh1⟩) (L57_0 n)
noncomputable def yt8 : (List Int) → Int → Option ((List Int)) := fun a0 a1 =>
 bif (decide (a1 < (0 : Int))) then
  none
 else
  Option.bind (zm6 (IntKind.wrap .u64 (((List.length a0) : Nat) : Int)) (IntKind.wrap .u64 a1)) fun (r0, r1) =>
   bif (decide (r0 > (0 : Int))) then
    none
   else
    bif (decide (r1 > (9223372036854775807 : Int))) then
     none
    else
     if (((0 : Int) ≤ (IntKind.wrap .i64 r1)) ∧ (((IntKind.wrap .i64 r1) = (IntKind.wrap .i64 r1)) ∧ (((IntKind.wrap .i64 r1) * ((8 : Nat) : Int)) ≤ (140737488355328 : Int)))) then
      Option.bind (ya4 yh1 ((List.take (Int.toNat (IntKind.wrap .i64 r1)) (List.drop 0 ((List.take 0 (List.replicate (Int.toNat (IntKind.wrap .i64 r1)) (0 : Int))) ++ ((List.take (Int.toNat (IntKind.wrap .i64 r1)) a0) ++ (List.drop (0 + (List.length (List.take (Int.toNat (IntKind.wrap .i64 r1)) a0))) (List.replicate (Int.toNat (IntKind.wrap .i64 r1)) (0 : Int))))))), (((List.length (List.take (Int.toNat (IntKind.wrap .i64 r1)) a0)) : Nat) : Int), ())) fun (r2, _) =>
       some (List.take (List.length r2) (List.drop 0 r2))
     else
      none
noncomputable def A57 : FnA := ⟨[.v (.sl (.int .i64)), .v (.int .i64)], true, [.sl (.int .i64)], fun x => yt8 x.1 x.2.1⟩
theorem zk3 : fnF E57 L57_1 [.v (.sl (.int .i64)), .v (.int .i64)] true [.sl (.int .i64)] f57.ntmps f57.results.toList (ya2 f57) = fun x => yt8 x.1 x.2.1 := by kernel_rfl
theorem A57_ok : FnOk prog 57 A57 := fo zk3 func57 E57_ok (yb4 (ky7 rfl) ya0)
/-! impl.toEnd -/
noncomputable def E36 : Env := ⟨ty0, fun g => ifEq g 57 (some A57) (none), fun _ => none, fun _ => none, fun _ => none⟩
theorem z78 : FnsOk prog E36 := (oF A57_ok func57 (yc1 _ _))
noncomputable def L36_0 : Nat → Option LoopD := fun _ => none
def kl9 : List Fm := d :: .cell (.val .str) :: .box 100200 [.val (.int .i64), .val (.sl (.int .i64)), .val (.sl (.int .i64)), .val (.sl (.pair (.int .i64) (.pair .str (.pair (.int .i64) (.int .i64)))))] :: d :: d :: .cell (.own (.int .i64) 100500 false) :: D 12 (.cell (.val (.sl (.int .i64))) :: .cell (.val (.int .i64)) :: .cell (.val (.int .i64)) :: D 60 [])
def km0 : List (Ex × List Fm) := [(.exit 0, [d, .cell (.val .str), .box 100200 [.val (.int .i64), .val (.sl (.int .i64)), .val (.sl (.int .i64)), .val (.sl (.pair (.int .i64) (.pair .str (.pair (.int .i64) (.int .i64)))))], d, d, .cell (.own (.int .i64) 100500 false), d, d, d, d, d, d, d, d, d, d, d, d, d, d, d, d, d, d, d, d, d, d, d, d, d, d, d, d, d, d, d, d, d, d, d, d, d, d, d, d, d, d, d, d, d, d, d, d, d, d, d, d, d, d, d, d, d, d, d, d, d, d, d, d, d, d, d, d, d, d, d, d, d, d, d])]
noncomputable def ym2 : (ByteArray × (Int × (List Int) × (List Int) × (List (Int × (ByteArray × (Int × Int)))) × Unit) × (List Int) × (List Int) × Int × Int × Unit) → Option ((ByteArray × (Int × (List Int) × (List Int) × (List (Int × (ByteArray × (Int × Int)))) × Unit) × (List Int) × (List Int) × Int × Int × Unit) ⊕ ((ByteArray × (Int × (List Int) × (List Int) × (List (Int × (ByteArray × (Int × Int)))) × Unit) × (List Int) × Unit))) := fun (v1, (v2_0, v2_1, v2_2, v2_3, _), v5, v18, v19, v20, _) =>
 bif (decide (v20 < v19)) then
  if (((0 : Int) ≤ v20) ∧ (v20 < (((List.length v18) : Nat) : Int))) then
   if (((0 : Int) ≤ (List.getD v18 (Int.toNat v20) (0 : Int))) ∧ ((List.getD v18 (Int.toNat v20) (0 : Int)) < (((List.length v5) : Nat) : Int))) then
    some (Sum.inl (v1, (v2_0, v2_1, v2_2, v2_3, ()), (List.take (List.length v5) (List.drop 0 (List.set v5 (0 + (Int.toNat (List.getD v18 (Int.toNat v20) (0 : Int)))) (0 : Int)))), v18, v19, (IntKind.wrap .i64 (v20 + (1 : Int))), ()))
   else
    none
  else
   none
 else
  some (Sum.inr (v1, (v2_0, v2_1, v2_2, v2_3, ()), (List.take (List.length v5) (List.drop 0 v5)), ()))
theorem zk4 : ya6 81 E36 L36_0 (ya1 f36 3) kl9 km0 = ym2 := by kernel_rfl
theorem ky8 {L} (h : L 3 = some ⟨81, kl9, km0, ym2⟩) : yc0 prog L (ya1 f36 3) := lo zk4 z78 ya0 h
noncomputable def L36_1 : Nat → Option LoopD := fun n => ifEq n 3 (some ⟨81, kl9, km0, ym2⟩) (L36_0 n)
def z50 : List Fm := d :: .cell (.val .str) :: .box 100200 [.val (.int .i64), .val (.sl (.int .i64)), .val (.sl (.int .i64)), .val (.sl (.pair (.int .i64) (.pair .str (.pair (.int .i64) (.int .i64)))))] :: d :: d :: .cell (.val (.sl (.int .i64))) :: d :: d :: .cell (.own (.sl (.int .i64)) 100800 false) :: .cell (.val (.int .i64)) :: .cell (.own (.int .i64) 101000 false) :: D 31 (.cell (.val (.sl (.pair (.int .i64) (.pair .str (.pair (.int .i64) (.int .i64)))))) :: .cell (.val (.int .i64)) :: .cell (.val (.int .i64)) :: D 36 [])
def z52 : List (Ex × List Fm) := [(.exit 4, [d, .cell (.val .str), .box 100200 [.val (.int .i64), .val (.sl (.int .i64)), .val (.sl (.int .i64)), .val (.sl (.pair (.int .i64) (.pair .str (.pair (.int .i64) (.int .i64)))))], d, d, d, d, d, .cell (.own (.sl (.int .i64)) 100800 false), .cell (.val (.int .i64)), .cell (.own (.int .i64) 101000 false), d, d, d, d, d, d, d, d, d, d, d, d, d, d, d, d, d, d, d, d, d, d, d, d, d, d, d, d, d, d, d, d, d, d, d, d, d, d, d, d, d, d, d, d, d, d, d, d, d, d, d, d, d, d, d, d, d, d, d, d, d, d, d, d, d, d, d, d, d, d])]
noncomputable def yi1 : (ByteArray × (Int × (List Int) × (List Int) × (List (Int × (ByteArray × (Int × Int)))) × Unit) × (List Int) × (List (List Int)) × Int × (List Int) × (List (Int × (ByteArray × (Int × Int)))) × Int × Int × Unit) → Option ((ByteArray × (Int × (List Int) × (List Int) × (List (Int × (ByteArray × (Int × Int)))) × Unit) × (List Int) × (List (List Int)) × Int × (List Int) × (List (Int × (ByteArray × (Int × Int)))) × Int × Int × Unit) ⊕ ((ByteArray × (Int × (List Int) × (List Int) × (List (Int × (ByteArray × (Int × Int)))) × Unit) × (List (List Int)) × Int × (List Int) × Unit))) := fun (v1, (v2_0, v2_1, v2_2, v2_3, _), v5, v8, v9, v10, v42, v43, v44, _) =>
 bif (decide (v44 < v43)) then
  if (((0 : Int) ≤ v44) ∧ (v44 < (((List.length v42) : Nat) : Int))) then
   if (((0 : Int) ≤ v9) ∧ ((v9 ≤ (IntKind.wrap .i64 (v9 + (1 : Int)))) ∧ ((IntKind.wrap .i64 (v9 + (1 : Int))) ≤ (((ByteArray.size v1) : Nat) : Int)))) then
    bif ((ByteArray.toList (List.getD v42 (Int.toNat v44) ((0 : Int), (⟨Array.empty⟩ : ByteArray), (0 : Int), (0 : Int))).2.1) == (ByteArray.toList (ByteArray.extract v1 (Int.toNat v9) (Int.toNat (IntKind.wrap .i64 (v9 + (1 : Int))))))) then
     if (((0 : Int) ≤ (List.getD v42 (Int.toNat v44) ((0 : Int), (⟨Array.empty⟩ : ByteArray), (0 : Int), (0 : Int))).1) ∧ ((List.getD v42 (Int.toNat v44) ((0 : Int), (⟨Array.empty⟩ : ByteArray), (0 : Int), (0 : Int))).1 < (((List.length v10) : Nat) : Int))) then
      if (((0 : Int) ≤ (List.getD v42 (Int.toNat v44) ((0 : Int), (⟨Array.empty⟩ : ByteArray), (0 : Int), (0 : Int))).2.2.1) ∧ ((List.getD v42 (Int.toNat v44) ((0 : Int), (⟨Array.empty⟩ : ByteArray), (0 : Int), (0 : Int))).2.2.1 < (((List.length v5) : Nat) : Int))) then
       if (((0 : Int) ≤ (List.getD v42 (Int.toNat v44) ((0 : Int), (⟨Array.empty⟩ : ByteArray), (0 : Int), (0 : Int))).1) ∧ ((List.getD v42 (Int.toNat v44) ((0 : Int), (⟨Array.empty⟩ : ByteArray), (0 : Int), (0 : Int))).1 < (((List.length v10) : Nat) : Int))) then
        some (Sum.inl (v1, (v2_0, v2_1, v2_2, v2_3, ()), v5, (List.take (List.length v8) (List.drop 0 v8)), v9, (List.take (List.length v10) (List.drop 0 (List.set v10 (0 + (Int.toNat (List.getD v42 (Int.toNat v44) ((0 : Int), (⟨Array.empty⟩ : ByteArray), (0 : Int), (0 : Int))).1)) (if ((IntKind.wrap .i64 ((List.getD v42 (Int.toNat v44) ((0 : Int), (⟨Array.empty⟩ : ByteArray), (0 : Int), (0 : Int))).2.2.2 + (List.getD v5 (Int.toNat (List.getD v42 (Int.toNat v44) ((0 : Int), (⟨Array.empty⟩ : ByteArray), (0 : Int), (0 : Int))).2.2.1) (0 : Int)))) < (List.getD v10 (0 + (Int.toNat (List.getD v42 (Int.toNat v44) ((0 : Int), (⟨Array.empty⟩ : ByteArray), (0 : Int), (0 : Int))).1)) (0 : Int))) then (IntKind.wrap .i64 ((List.getD v42 (Int.toNat v44) ((0 : Int), (⟨Array.empty⟩ : ByteArray), (0 : Int), (0 : Int))).2.2.2 + (List.getD v5 (Int.toNat (List.getD v42 (Int.toNat v44) ((0 : Int), (⟨Array.empty⟩ : ByteArray), (0 : Int), (0 : Int))).2.2.1) (0 : Int)))) else (List.getD v10 (0 + (Int.toNat (List.getD v42 (Int.toNat v44) ((0 : Int), (⟨Array.empty⟩ : ByteArray), (0 : Int), (0 : Int))).1)) (0 : Int)))))), v42, v43, (IntKind.wrap .i64 (v44 + (1 : Int))), ()))
       else
        none
      else
       none
     else
      none
    else
     some (Sum.inl (v1, (v2_0, v2_1, v2_2, v2_3, ()), v5, (List.take (List.length v8) (List.drop 0 v8)), v9, (List.take (List.length v10) (List.drop 0 v10)), v42, v43, (IntKind.wrap .i64 (v44 + (1 : Int))), ()))
   else
    none
  else
   none
 else
  some (Sum.inr (v1, (v2_0, v2_1, v2_2, v2_3, ()), (List.take (List.length v8) (List.drop 0 v8)), v9, (List.take (List.length v10) (List.drop 0 v10)), ()))
theorem ze7 : ya6 81 E36 L36_1 (ya1 f36 13) z50 z52 = yi1 := by kernel_rfl
theorem km1 {L} (h : L 13 = some ⟨81, z50, z52, yi1⟩) : yc0 prog L (ya1 f36 13) := lo ze7 z78 ya0 h
noncomputable def L36_2 : Nat → Option LoopD := fun n => ifEq n 13 (some ⟨81, z50, z52, yi1⟩) (L36_1 n)
def km2 : List Fm := d :: .cell (.val .str) :: .box 100200 [.val (.int .i64), .val (.sl (.int .i64)), .val (.sl (.int .i64)), .val (.sl (.pair (.int .i64) (.pair .str (.pair (.int .i64) (.int .i64)))))] :: d :: d :: .cell (.val (.sl (.int .i64))) :: d :: d :: .cell (.own (.sl (.int .i64)) 100800 false) :: .cell (.val (.int .i64)) :: D 71 []
def km3 : List (Ex × List Fm) := [(.exit 2, (D 8 (.cell (.own (.sl (.int .i64)) 100800 false) :: D 72 [])))]
noncomputable def yo5 : (ByteArray × (Int × (List Int) × (List Int) × (List (Int × (ByteArray × (Int × Int)))) × Unit) × (List Int) × (List (List Int)) × Int × Unit) → Option ((ByteArray × (Int × (List Int) × (List Int) × (List (Int × (ByteArray × (Int × Int)))) × Unit) × (List Int) × (List (List Int)) × Int × Unit) ⊕ (((List (List Int)) × Unit))) := fun (v1, (v2_0, v2_1, v2_2, v2_3, _), v5, v8, v9, _) =>
 bif (decide (v9 ≥ (0 : Int))) then
  Option.bind (yt8 (List.take 1 (List.drop 0 [(1000000 : Int)])) v2_0) fun r0 =>
   Option.bind (ya4 yi1 (v1, (v2_0, v2_1, v2_2, v2_3, ()), v5, (List.take (List.length v8) (List.drop 0 v8)), v9, (List.take (List.length r0) (List.drop 0 r0)), v2_3, (((List.length v2_3) : Nat) : Int), (0 : Int), ())) fun (r1, (r2, r3, r4, r5, _), r6, r7, r8, _) =>
    if (((0 + (List.length r6)) = (List.length r6)) ∧ ((((List.length r6) + (List.length (List.take 1 (List.drop 0 [(List.take (List.length r8) (List.drop 0 r8))])))) * 24) ≤ 140737488355328)) then
     some (Sum.inl (r1, (r2, r3, r4, r5, ()), (List.take (List.length r8) (List.drop 0 r8)), (List.take ((List.length r6) + (List.length (List.take 1 (List.drop 0 [(List.take (List.length r8) (List.drop 0 r8))])))) (List.drop 0 ((List.drop 0 r6) ++ (List.take 1 (List.drop 0 [(List.take (List.length r8) (List.drop 0 r8))]))))), (IntKind.wrap .i64 (r7 - (1 : Int))), ()))
    else
     none
 else
  some (Sum.inr ((List.take (List.length v8) (List.drop 0 v8)), ()))
theorem zk5 : ya6 81 E36 L36_2 (ya1 f36 9) km2 km3 = yo5 := by kernel_rfl
theorem ky9 {L} (h : L 9 = some ⟨81, km2, km3, yo5⟩) : yc0 prog L (ya1 f36 9) := lo zk5 z78 (yb4 (km1 rfl) ya0) h
noncomputable def L36_3 : Nat → Option LoopD := fun n => ifEq n 9 (some ⟨81, km2, km3, yo5⟩) (L36_2 n)
noncomputable def y3u : (Int × ((List Int) × ((List Int) × (List (Int × (ByteArray × (Int × Int))))))) → ByteArray → Option ((List (List Int))) := fun (a0_0, a0_1, a0_2, a0_3) a1 =>
 Option.bind (yt8 (List.take 1 (List.drop 0 [(1000000 : Int)])) a0_0) fun r0 =>
  Option.bind (ya4 ym2 (a1, (a0_0, a0_1, a0_2, a0_3, ()), (List.take (List.length r0) (List.drop 0 r0)), a0_2, (((List.length a0_2) : Nat) : Int), (0 : Int), ())) fun (r1, (r2, r3, r4, r5, _), r6, _) =>
   Option.bind (ya4 yo5 (r1, (r2, r3, r4, r5, ()), (List.take (List.length r6) (List.drop 0 r6)), (List.take 1 (List.drop 0 [(List.take (List.length r6) (List.drop 0 r6))])), (IntKind.wrap .i64 ((((ByteArray.size r1) : Nat) : Int) - (1 : Int))), ())) fun (r7, _) =>
    some (List.take (List.length r7) (List.drop 0 r7))
noncomputable def A36 : FnA := ⟨[.v (.pair (.int .i64) (.pair (.sl (.int .i64)) (.pair (.sl (.int .i64)) (.sl (.pair (.int .i64) (.pair .str (.pair (.int .i64) (.int .i64)))))))), .v .str], true, [.sl (.sl (.int .i64))], fun x => y3u x.1 x.2.1⟩
theorem z18 : fnF E36 L36_3 [.v (.pair (.int .i64) (.pair (.sl (.int .i64)) (.pair (.sl (.int .i64)) (.sl (.pair (.int .i64) (.pair .str (.pair (.int .i64) (.int .i64)))))))), .v .str] true [.sl (.sl (.int .i64))] f36.ntmps f36.results.toList (ya2 f36) = fun x => y3u x.1 x.2.1 := by kernel_rfl
theorem A36_ok : FnOk prog 36 A36 := fo z18 func36 z78 (yb4 (ky8 rfl) (yb4 (ky9 rfl) ya0))
/-! impl.CostOf -/
noncomputable def E13 : Env := ⟨ty0, fun g => ifEq g 34 (some A34) (ifEq g 35 (some A35) (ifEq g 36 (some A36) (none))), fun _ => none, fun _ => none, fun _ => none⟩
theorem E13_ok : FnsOk prog E13 := (oF y5j func34 (oF A35_ok func35 (oF A36_ok func36 (yc1 _ _))))
noncomputable def L13_0 : Nat → Option LoopD := fun _ => none
def km4 : List Fm := d :: .cell (.val .str) :: d :: d :: d :: .cell (.own (.sl (.int .i64)) 100500 false) :: .cell (.val (.int .i64)) :: D 14 (.cell (.val (.sl (.int .i64))) :: .cell (.val (.int .i64)) :: .cell (.val (.int .i64)) :: D 15 [])
def km5 : List (Ex × List Fm) := [(.exit 0, (D 6 (.cell (.val (.int .i64)) :: D 32 [])))]
noncomputable def ym6 : (ByteArray × (List (List Int)) × Int × (List Int) × Int × Int × Unit) → Option ((ByteArray × (List (List Int)) × Int × (List Int) × Int × Int × Unit) ⊕ ((Int × Unit))) := fun (v1, v5, v6, v21, v22, v23, _) =>
 bif (decide (v23 < v22)) then
  if (((0 : Int) ≤ v23) ∧ (v23 < (((List.length v21) : Nat) : Int))) then
   if (((0 : Int) ≤ (((ByteArray.size v1) : Nat) : Int)) ∧ ((((ByteArray.size v1) : Nat) : Int) < (((List.length v5) : Nat) : Int))) then
    if (((0 : Int) ≤ (List.getD v21 (Int.toNat v23) (0 : Int))) ∧ ((List.getD v21 (Int.toNat v23) (0 : Int)) < (((List.length (List.getD v5 (0 + (Int.toNat (((ByteArray.size v1) : Nat) : Int))) [])) : Nat) : Int))) then
     some (Sum.inl (v1, (List.take (List.length v5) (List.drop 0 v5)), (if ((List.getD (List.getD v5 (0 + (Int.toNat (((ByteArray.size v1) : Nat) : Int))) []) (Int.toNat (List.getD v21 (Int.toNat v23) (0 : Int))) (0 : Int)) < v6) then (List.getD (List.getD v5 (0 + (Int.toNat (((ByteArray.size v1) : Nat) : Int))) []) (Int.toNat (List.getD v21 (Int.toNat v23) (0 : Int))) (0 : Int)) else v6), v21, v22, (IntKind.wrap .i64 (v23 + (1 : Int))), ()))
    else
     none
   else
    none
  else
   none
 else
  some (Sum.inr (v6, ()))
theorem ze8 : ya6 39 E13 L13_0 (ya1 f13 6) km4 km5 = ym6 := by kernel_rfl
theorem kz0 {L} (h : L 6 = some ⟨39, km4, km5, ym6⟩) : yc0 prog L (ya1 f13 6) := lo ze8 E13_ok ya0 h
noncomputable def L13_1 : Nat → Option LoopD := fun n => ifEq n 6 (some ⟨39, km4, km5, ym6⟩) (L13_0 n)
noncomputable def yl8 : (Int × ((List Int) × ((List Int) × (List (Int × (ByteArray × (Int × Int))))))) → ByteArray → Option (Int) := fun (a0_0, a0_1, a0_2, a0_3) a1 =>
 Option.bind (ye5 (a0_0, a0_1, a0_2, a0_3)) fun r0 =>
  bif (!r0) then
   some (-1 : Int)
  else
   Option.bind (yv1 a1) fun r1 =>
    bif (!r1) then
     some (-1 : Int)
    else
     Option.bind (y3u (a0_0, a0_1, a0_2, a0_3) a1) fun r2 =>
      Option.bind (ya4 ym6 (a1, (List.take (List.length r2) (List.drop 0 r2)), (1000000 : Int), a0_1, (((List.length a0_1) : Nat) : Int), (0 : Int), ())) fun (r3, _) =>
       some r3
noncomputable def A13 : FnA := ⟨[.v (.pair (.int .i64) (.pair (.sl (.int .i64)) (.pair (.sl (.int .i64)) (.sl (.pair (.int .i64) (.pair .str (.pair (.int .i64) (.int .i64)))))))), .v .str], true, [.int .i64], fun x => yl8 x.1 x.2.1⟩
theorem zy1 : fnF E13 L13_1 [.v (.pair (.int .i64) (.pair (.sl (.int .i64)) (.pair (.sl (.int .i64)) (.sl (.pair (.int .i64) (.pair .str (.pair (.int .i64) (.int .i64)))))))), .v .str] true [.int .i64] f13.ntmps f13.results.toList (ya2 f13) = fun x => yl8 x.1 x.2.1 := by kernel_rfl
theorem A13_ok : FnOk prog 13 A13 := fo zy1 func13 E13_ok (yb4 (kz0 rfl) ya0)
/-! impl.WordOver -/
noncomputable def E9 : Env := ⟨ty0, fun g => ifEq g 12 (some A12) (ifEq g 14 (some A14) (ifEq g 13 (some A13) (none))), fun _ => none, fun _ => none, fun _ => none⟩
theorem E9_ok : FnsOk prog E9 := (oF A12_ok func12 (oF A14_ok func14 (oF A13_ok func13 (yc1 _ _))))
noncomputable def L9_0 : Nat → Option LoopD := fun _ => none
def sh9_5 : List Fm := d :: .cell (.val (.int .i64)) :: .box 100200 [.val (.int .i64), .val (.sl (.int .i64)), .val (.sl (.int .i64)), .val (.sl (.pair (.int .i64) (.pair .str (.pair (.int .i64) (.int .i64)))))] :: d :: d :: d :: .cell (.val .str) :: d :: .cell (.val (.int .i64)) :: D 31 []
def xs9_5 : List (Ex × List Fm) := [(.exit 0, (D 40 [])), (.ret, (D 4 (.cell (.val .str) :: .cell (.val .bool) :: D 34 [])))]
noncomputable def yi8 : (Int × (Int × (List Int) × (List Int) × (List (Int × (ByteArray × (Int × Int)))) × Unit) × ByteArray × Int × Unit) → Option ((Int × (Int × (List Int) × (List Int) × (List (Int × (ByteArray × (Int × Int)))) × Unit) × ByteArray × Int × Unit) ⊕ ((Unit) ⊕ (ByteArray × Bool × Unit))) := fun (v1, (v2_0, v2_1, v2_2, v2_3, _), v6, v8, _) =>
 bif (decide (v8 ≤ (60 : Int))) then
  Option.bind (ye4 v6 v8) fun (r0, r1) =>
   bif (!r1) then
    some (Sum.inr (Sum.inl ()))
   else
    Option.bind (yl8 (v2_0, v2_1, v2_2, v2_3) r0) fun r2 =>
     bif (decide (r2 ≥ v1)) then
      some (Sum.inr (Sum.inr (r0, true, ())))
     else
      some (Sum.inl (v1, (v2_0, v2_1, v2_2, v2_3, ()), v6, (IntKind.wrap .i64 (v8 + (1 : Int))), ()))
 else
  some (Sum.inr (Sum.inl ()))
theorem y73 : ya6 40 E9 L9_0 (ya1 f9 5) sh9_5 xs9_5 = yi8 := by kernel_rfl
theorem loop9_5 {L} (h : L 5 = some ⟨40, sh9_5, xs9_5, yi8⟩) : yc0 prog L (ya1 f9 5) := lo y73 E9_ok ya0 h
noncomputable def L9_1 : Nat → Option LoopD := fun n => ifEq n 5 (some ⟨40, sh9_5, xs9_5, yi8⟩) (L9_0 n)
noncomputable def yk2 : (Int × ((List Int) × ((List Int) × (List (Int × (ByteArray × (Int × Int))))))) → Int → Option (ByteArray × Bool) := fun (a0_0, a0_1, a0_2, a0_3) a1 =>
 Option.bind (yg7 (a0_0, a0_1, a0_2, a0_3)) fun (r0, r1) =>
  bif (!r1) then
   some ((⟨#[]⟩ : ByteArray), false)
  else
   bif (decide (a1 < (0 : Int))) then
    some ((⟨#[]⟩ : ByteArray), false)
   else
    Option.bind (ya4 yi8 (a1, (a0_0, a0_1, a0_2, a0_3, ()), r0, (1 : Int), ())) fun r2 =>
     (match r2 with
     | .inl _ =>
       some ((⟨#[]⟩ : ByteArray), false)
     | .inr (d3, d4, _) =>
       some (d3, d4))
noncomputable def A9 : FnA := ⟨[.v (.pair (.int .i64) (.pair (.sl (.int .i64)) (.pair (.sl (.int .i64)) (.sl (.pair (.int .i64) (.pair .str (.pair (.int .i64) (.int .i64)))))))), .v (.int .i64)], true, [.str, .bool], fun x => yk2 x.1 x.2.1⟩
theorem zk6 : fnF E9 L9_1 [.v (.pair (.int .i64) (.pair (.sl (.int .i64)) (.pair (.sl (.int .i64)) (.sl (.pair (.int .i64) (.pair .str (.pair (.int .i64) (.int .i64)))))))), .v (.int .i64)] true [.str, .bool] f9.ntmps f9.results.toList (ya2 f9) = fun x => yk2 x.1 x.2.1 := by kernel_rfl
theorem A9_ok : FnOk prog 9 A9 := fo zk6 func9 E9_ok (yb4 (loop9_5 rfl) ya0)
/-! spec.l3Matrix -/
noncomputable def E71 : Env := ⟨ty0, fun _ => none, fun _ => none, fun _ => none, fun _ => none⟩
theorem km6 : FnsOk prog E71 := (yc1 _ _)
noncomputable def L71_0 : Nat → Option LoopD := fun _ => none
def km7 : List Fm := d :: .cell (.val .str) :: .box 100200 [.val (.int .i64), .val (.sl (.int .i64)), .val (.sl (.int .i64)), .val (.sl (.pair (.int .i64) (.pair .str (.pair (.int .i64) (.int .i64)))))] :: d :: .box 100400 [.val (.int .i64), .own (.int .i64) 100402 false] :: .box 100500 [.val (.int .i64), .own (.int .i64) 100502 false] :: D 9 (.cell (.val (.int .i64)) :: .cell (.val (.int .i64)) :: D 33 [])
def km8 : List (Ex × List Fm) := [(.exit 0, [d, .cell (.val .str), .box 100200 [.val (.int .i64), .val (.sl (.int .i64)), .val (.sl (.int .i64)), .val (.sl (.pair (.int .i64) (.pair .str (.pair (.int .i64) (.int .i64)))))], d, .box 100400 [.val (.int .i64), .own (.int .i64) 100402 false], .box 100500 [.val (.int .i64), .own (.int .i64) 100502 false], d, d, d, d, d, d, d, d, d, d, d, d, d, d, d, d, d, d, d, d, d, d, d, d, d, d, d, d, d, d, d, d, d, d, d, d, d, d, d, d, d, d, d, d])]
noncomputable def ye8 : (ByteArray × (Int × (List Int) × (List Int) × (List (Int × (ByteArray × (Int × Int)))) × Unit) × (Int × (List Int) × Unit) × (Int × (List Int) × Unit) × Int × Int × Unit) → Option ((ByteArray × (Int × (List Int) × (List Int) × (List (Int × (ByteArray × (Int × Int)))) × Unit) × (Int × (List Int) × Unit) × (Int × (List Int) × Unit) × Int × Int × Unit) ⊕ ((ByteArray × (Int × (List Int) × (List Int) × (List (Int × (ByteArray × (Int × Int)))) × Unit) × (Int × (List Int) × Unit) × (Int × (List Int) × Unit) × Unit))) := fun (v1, (v2_0, v2_1, v2_2, v2_3, _), (v4_0, v4_1, _), (v5_0, v5_1, _), v15, v16, _) =>
 bif (decide (v16 < v15)) then
  if (((0 + (List.length v5_1)) = (List.length v5_1)) ∧ ((((List.length v5_1) + (List.length (List.take 1 (List.drop 0 [(1000000 : Int)])))) * 8) ≤ 140737488355328)) then
   some (Sum.inl (v1, (v2_0, v2_1, v2_2, v2_3, ()), (v4_0, (List.take (List.length v4_1) (List.drop 0 v4_1)), ()), (v5_0, (List.take ((List.length v5_1) + (List.length (List.take 1 (List.drop 0 [(1000000 : Int)])))) (List.drop 0 ((List.drop 0 v5_1) ++ (List.take 1 (List.drop 0 [(1000000 : Int)]))))), ()), v15, (IntKind.wrap .i64 (v16 + (1 : Int))), ()))
  else
   none
 else
  some (Sum.inr (v1, (v2_0, v2_1, v2_2, v2_3, ()), (v4_0, (List.take (List.length v4_1) (List.drop 0 v4_1)), ()), (v5_0, (List.take (List.length v5_1) (List.drop 0 v5_1)), ()), ()))
theorem y74 : ya6 50 E71 L71_0 (ya1 f71 3) km7 km8 = ye8 := by kernel_rfl
theorem kz1 {L} (h : L 3 = some ⟨50, km7, km8, ye8⟩) : yc0 prog L (ya1 f71 3) := lo y74 km6 ya0 h
noncomputable def L71_1 : Nat → Option LoopD := fun n => ifEq n 3 (some ⟨50, km7, km8, ye8⟩) (L71_0 n)
def km9 : List Fm := d :: .cell (.val .str) :: .box 100200 [.val (.int .i64), .val (.sl (.int .i64)), .val (.sl (.int .i64)), .val (.sl (.pair (.int .i64) (.pair .str (.pair (.int .i64) (.int .i64)))))] :: d :: .box 100400 [.val (.int .i64), .own (.int .i64) 100402 false] :: .box 100500 [.val (.int .i64), .own (.int .i64) 100502 false] :: D 19 (.cell (.val (.sl (.pair (.int .i64) (.pair .str (.pair (.int .i64) (.int .i64)))))) :: .cell (.val (.int .i64)) :: .cell (.val (.int .i64)) :: D 22 [])
def kn0 : List (Ex × List Fm) := [(.exit 2, [d, d, d, d, .box 100400 [.val (.int .i64), .own (.int .i64) 100402 false], .box 100500 [.val (.int .i64), .own (.int .i64) 100502 false], d, d, d, d, d, d, d, d, d, d, d, d, d, d, d, d, d, d, d, d, d, d, d, d, d, d, d, d, d, d, d, d, d, d, d, d, d, d, d, d, d, d, d, d])]
noncomputable def ye9 : (ByteArray × (Int × (List Int) × (List Int) × (List (Int × (ByteArray × (Int × Int)))) × Unit) × (Int × (List Int) × Unit) × (Int × (List Int) × Unit) × (List (Int × (ByteArray × (Int × Int)))) × Int × Int × Unit) → Option ((ByteArray × (Int × (List Int) × (List Int) × (List (Int × (ByteArray × (Int × Int)))) × Unit) × (Int × (List Int) × Unit) × (Int × (List Int) × Unit) × (List (Int × (ByteArray × (Int × Int)))) × Int × Int × Unit) ⊕ (((Int × (List Int) × Unit) × (Int × (List Int) × Unit) × Unit))) := fun (v1, (v2_0, v2_1, v2_2, v2_3, _), (v4_0, v4_1, _), (v5_0, v5_1, _), v25, v26, v27, _) =>
 bif (decide (v27 < v26)) then
  if (((0 : Int) ≤ v27) ∧ (v27 < (((List.length v25) : Nat) : Int))) then
   bif ((ByteArray.toList (List.getD v25 (Int.toNat v27) ((0 : Int), (⟨Array.empty⟩ : ByteArray), (0 : Int), (0 : Int))).2.1) == (ByteArray.toList v1)) then
    if (((0 : Int) ≤ (IntKind.wrap .i64 ((IntKind.wrap .i64 ((List.getD v25 (Int.toNat v27) ((0 : Int), (⟨Array.empty⟩ : ByteArray), (0 : Int), (0 : Int))).1 * v2_0)) + (List.getD v25 (Int.toNat v27) ((0 : Int), (⟨Array.empty⟩ : ByteArray), (0 : Int), (0 : Int))).2.2.1))) ∧ ((IntKind.wrap .i64 ((IntKind.wrap .i64 ((List.getD v25 (Int.toNat v27) ((0 : Int), (⟨Array.empty⟩ : ByteArray), (0 : Int), (0 : Int))).1 * v2_0)) + (List.getD v25 (Int.toNat v27) ((0 : Int), (⟨Array.empty⟩ : ByteArray), (0 : Int), (0 : Int))).2.2.1)) < (((List.length v5_1) : Nat) : Int))) then
     some (Sum.inl (v1, (v2_0, v2_1, v2_2, v2_3, ()), (v4_0, (List.take (List.length v4_1) (List.drop 0 v4_1)), ()), (v5_0, (List.take (List.length v5_1) (List.drop 0 (List.set v5_1 (0 + (Int.toNat (IntKind.wrap .i64 ((IntKind.wrap .i64 ((List.getD v25 (Int.toNat v27) ((0 : Int), (⟨Array.empty⟩ : ByteArray), (0 : Int), (0 : Int))).1 * v2_0)) + (List.getD v25 (Int.toNat v27) ((0 : Int), (⟨Array.empty⟩ : ByteArray), (0 : Int), (0 : Int))).2.2.1)))) (List.getD v25 (Int.toNat v27) ((0 : Int), (⟨Array.empty⟩ : ByteArray), (0 : Int), (0 : Int))).2.2.2))), ()), v25, v26, (IntKind.wrap .i64 (v27 + (1 : Int))), ()))
    else
     none
   else
    some (Sum.inl (v1, (v2_0, v2_1, v2_2, v2_3, ()), (v4_0, (List.take (List.length v4_1) (List.drop 0 v4_1)), ()), (v5_0, (List.take (List.length v5_1) (List.drop 0 v5_1)), ()), v25, v26, (IntKind.wrap .i64 (v27 + (1 : Int))), ()))
  else
   none
 else
  some (Sum.inr ((v4_0, (List.take (List.length v4_1) (List.drop 0 v4_1)), ()), (v5_0, (List.take (List.length v5_1) (List.drop 0 v5_1)), ()), ()))
theorem y75 : ya6 50 E71 L71_1 (ya1 f71 7) km9 kn0 = ye9 := by kernel_rfl
theorem kz2 {L} (h : L 7 = some ⟨50, km9, kn0, ye9⟩) : yc0 prog L (ya1 f71 7) := lo y75 km6 ya0 h
noncomputable def L71_2 : Nat → Option LoopD := fun n => ifEq n 7 (some ⟨50, km9, kn0, ye9⟩) (L71_1 n)
noncomputable def yi4 : (Int × ((List Int) × ((List Int) × (List (Int × (ByteArray × (Int × Int))))))) → ByteArray → Option ((Int × (List Int))) := fun (a0_0, a0_1, a0_2, a0_3) a1 =>
 Option.bind (ya4 ye8 (a1, (a0_0, a0_1, a0_2, a0_3, ()), ((0 : Int), [], ()), (a0_0, [], ()), (IntKind.wrap .i64 (a0_0 * a0_0)), (0 : Int), ())) fun (r0, (r1, r2, r3, r4, _), (r5, r6, _), (r7, r8, _), _) =>
  Option.bind (ya4 ye9 (r0, (r1, r2, r3, r4, ()), (r5, (List.take (List.length r6) (List.drop 0 r6)), ()), (r7, (List.take (List.length r8) (List.drop 0 r8)), ()), r4, (((List.length r4) : Nat) : Int), (0 : Int), ())) fun ((r9, r10, _), (r11, r12, _), _) =>
   some (r11, (List.take (List.length r12) (List.drop 0 r12)))
noncomputable def A71 : FnA := ⟨[.v (.pair (.int .i64) (.pair (.sl (.int .i64)) (.pair (.sl (.int .i64)) (.sl (.pair (.int .i64) (.pair .str (.pair (.int .i64) (.int .i64)))))))), .v .str], true, [.pair (.int .i64) (.sl (.int .i64))], fun x => yi4 x.1 x.2.1⟩
theorem zk7 : fnF E71 L71_2 [.v (.pair (.int .i64) (.pair (.sl (.int .i64)) (.pair (.sl (.int .i64)) (.sl (.pair (.int .i64) (.pair .str (.pair (.int .i64) (.int .i64)))))))), .v .str] true [.pair (.int .i64) (.sl (.int .i64))] f71.ntmps f71.results.toList (ya2 f71) = fun x => yi4 x.1 x.2.1 := by kernel_rfl
theorem z0s : FnOk prog 71 A71 := fo zk7 func71 km6 (yb4 (kz1 rfl) (yb4 (kz2 rfl) ya0))
/-! spec.l6Grades -/
noncomputable def E117 : Env := ⟨ty0, fun _ => none, fun _ => none, fun _ => none, fun _ => none⟩
theorem kn1 : FnsOk prog E117 := (yc1 _ _)
noncomputable def L117_0 : Nat → Option LoopD := fun _ => none
def z54 : List Fm := d :: d :: .box 100200 [.val (.int .i64), .own (.int .i64) 100202 false] :: .box 100300 [.val (.int .i64), .own (.int .i64) 100302 false] :: D 6 (.cell (.val (.sl (.int .i64))) :: .cell (.val (.int .i64)) :: .cell (.val (.int .i64)) :: D 25 [])
def z55 : List (Ex × List Fm) := [(.exit 0, [d, d, .box 100200 [.val (.int .i64), .own (.int .i64) 100202 false], .box 100300 [.val (.int .i64), .own (.int .i64) 100302 false], d, d, d, d, d, d, d, d, d, d, d, d, d, d, d, d, d, d, d, d, d, d, d, d, d, d, d, d, d, d, d, d, d, d])]
noncomputable def yi9 : ((Int × (List Int) × Unit) × (Int × (List Int) × Unit) × (List Int) × Int × Int × Unit) → Option (((Int × (List Int) × Unit) × (Int × (List Int) × Unit) × (List Int) × Int × Int × Unit) ⊕ (((Int × (List Int) × Unit) × (Int × (List Int) × Unit) × Unit))) := fun ((v2_0, v2_1, _), (v3_0, v3_1, _), v10, v11, v12, _) =>
 bif (decide (v12 < v11)) then
  if (((0 : Int) ≤ v12) ∧ (v12 < (((List.length v10) : Nat) : Int))) then
   bif ((List.getD v10 (Int.toNat v12) (0 : Int)) == (0 : Int)) then
    if (((0 + (List.length v3_1)) = (List.length v3_1)) ∧ ((((List.length v3_1) + (List.length (List.take 1 (List.drop 0 [(0 : Int)])))) * 8) ≤ 140737488355328)) then
     some (Sum.inl ((v2_0, (List.take (List.length v2_1) (List.drop 0 v2_1)), ()), (v3_0, (List.take ((List.length v3_1) + (List.length (List.take 1 (List.drop 0 [(0 : Int)])))) (List.drop 0 ((List.drop 0 v3_1) ++ (List.take 1 (List.drop 0 [(0 : Int)]))))), ()), v10, v11, (IntKind.wrap .i64 (v12 + (1 : Int))), ()))
    else
     none
   else
    bif ((List.getD v10 (Int.toNat v12) (0 : Int)) == (1000000 : Int)) then
     if (((0 + (List.length v3_1)) = (List.length v3_1)) ∧ ((((List.length v3_1) + (List.length (List.take 1 (List.drop 0 [(3 : Int)])))) * 8) ≤ 140737488355328)) then
      some (Sum.inl ((v2_0, (List.take (List.length v2_1) (List.drop 0 v2_1)), ()), (v3_0, (List.take ((List.length v3_1) + (List.length (List.take 1 (List.drop 0 [(3 : Int)])))) (List.drop 0 ((List.drop 0 v3_1) ++ (List.take 1 (List.drop 0 [(3 : Int)]))))), ()), v10, v11, (IntKind.wrap .i64 (v12 + (1 : Int))), ()))
     else
      none
    else
     if (((0 + (List.length v3_1)) = (List.length v3_1)) ∧ ((((List.length v3_1) + (List.length (List.take 1 (List.drop 0 [(1 : Int)])))) * 8) ≤ 140737488355328)) then
      some (Sum.inl ((v2_0, (List.take (List.length v2_1) (List.drop 0 v2_1)), ()), (v3_0, (List.take ((List.length v3_1) + (List.length (List.take 1 (List.drop 0 [(1 : Int)])))) (List.drop 0 ((List.drop 0 v3_1) ++ (List.take 1 (List.drop 0 [(1 : Int)]))))), ()), v10, v11, (IntKind.wrap .i64 (v12 + (1 : Int))), ()))
     else
      none
  else
   none
 else
  some (Sum.inr ((v2_0, (List.take (List.length v2_1) (List.drop 0 v2_1)), ()), (v3_0, (List.take (List.length v3_1) (List.drop 0 v3_1)), ()), ()))
theorem y76 : ya6 38 E117 L117_0 (ya1 f117 3) z54 z55 = yi9 := by kernel_rfl
theorem kn2 {L} (h : L 3 = some ⟨38, z54, z55, yi9⟩) : yc0 prog L (ya1 f117 3) := lo y76 kn1 ya0 h
noncomputable def L117_1 : Nat → Option LoopD := fun n => ifEq n 3 (some ⟨38, z54, z55, yi9⟩) (L117_0 n)
noncomputable def yt9 : (Int × (List Int)) → Option ((Int × (List Int))) := fun (a0_0, a0_1) =>
 Option.bind (ya4 yi9 (((0 : Int), [], ()), (a0_0, [], ()), a0_1, (((List.length a0_1) : Nat) : Int), (0 : Int), ())) fun ((r0, r1, _), (r2, r3, _), _) =>
  some (r2, (List.take (List.length r3) (List.drop 0 r3)))
noncomputable def A117 : FnA := ⟨[.v (.pair (.int .i64) (.sl (.int .i64)))], true, [.pair (.int .i64) (.sl (.int .i64))], fun x => yt9 x.1⟩
theorem zk8 : fnF E117 L117_1 [.v (.pair (.int .i64) (.sl (.int .i64)))] true [.pair (.int .i64) (.sl (.int .i64))] f117.ntmps f117.results.toList (ya2 f117) = fun x => yt9 x.1 := by kernel_rfl
theorem zt2 : FnOk prog 117 A117 := fo zk8 func117 kn1 (yb4 (kn2 rfl) ya0)
/-! spec.l2Same -/
noncomputable def E133 : Env := ⟨ty0, fun _ => none, fun _ => none, fun _ => none, fun _ => none⟩
theorem kn3 : FnsOk prog E133 := (yc1 _ _)
noncomputable def L133_0 : Nat → Option LoopD := fun _ => none
def z56 : List Fm := .cell (.val (.sl (.int .i64))) :: .cell (.val (.sl (.int .i64))) :: D 8 (.cell (.val (.int .i64)) :: .cell (.val (.int .i64)) :: D 17 [])
def z57 : List (Ex × List Fm) := [(.ret, (D 4 (.cell (.val .bool) :: D 24 []))), (.exit 0, (.cell (.val (.sl (.int .i64))) :: .cell (.val (.sl (.int .i64))) :: D 27 []))]
noncomputable def ym7 : ((List Int) × (List Int) × Int × Int × Unit) → Option (((List Int) × (List Int) × Int × Int × Unit) ⊕ ((Bool × Unit) ⊕ ((List Int) × (List Int) × Unit))) := fun (v0, v1, v10, v11, _) =>
 bif (decide (v11 < v10)) then
  if (((0 : Int) ≤ v11) ∧ (v11 < (((List.length v0) : Nat) : Int))) then
   if (((0 : Int) ≤ v11) ∧ (v11 < (((List.length v1) : Nat) : Int))) then
    bif ((List.getD v0 (Int.toNat v11) (0 : Int)) != (List.getD v1 (Int.toNat v11) (0 : Int))) then
     some (Sum.inr (Sum.inl (false, ())))
    else
     some (Sum.inl (v0, v1, v10, (IntKind.wrap .i64 (v11 + (1 : Int))), ()))
   else
    none
  else
   none
 else
  some (Sum.inr (Sum.inr (v0, v1, ())))
theorem ze9 : ya6 29 E133 L133_0 (ya1 f133 2) z56 z57 = ym7 := by kernel_rfl
theorem kn4 {L} (h : L 2 = some ⟨29, z56, z57, ym7⟩) : yc0 prog L (ya1 f133 2) := lo ze9 kn3 ya0 h
noncomputable def L133_1 : Nat → Option LoopD := fun n => ifEq n 2 (some ⟨29, z56, z57, ym7⟩) (L133_0 n)
noncomputable def yq9 : (List Int) → (List Int) → Option (Bool) := fun a0 a1 =>
 Option.bind (ya4 ym7 (a0, a1, (if ((((List.length a1) : Nat) : Int) < (((List.length a0) : Nat) : Int)) then (((List.length a1) : Nat) : Int) else (((List.length a0) : Nat) : Int)), (0 : Int), ())) fun r0 =>
  (match r0 with
  | .inl (d1, _) =>
    some d1
  | .inr (d2, d3, _) =>
    some ((((List.length d2) : Nat) : Int) == (((List.length d3) : Nat) : Int)))
noncomputable def A133 : FnA := ⟨[.v (.sl (.int .i64)), .v (.sl (.int .i64))], true, [.bool], fun x => yq9 x.1 x.2.1⟩
theorem zy2 : fnF E133 L133_1 [.v (.sl (.int .i64)), .v (.sl (.int .i64))] true [.bool] f133.ntmps f133.results.toList (ya2 f133) = fun x => yq9 x.1 x.2.1 := by kernel_rfl
theorem zf0 : FnOk prog 133 A133 := fo zy2 func133 kn3 (yb4 (kn4 rfl) ya0)
/-! spec.l6Mul -/
noncomputable def E121 : Env := ⟨ty0, fun _ => none, fun _ => none, fun _ => none, fun _ => none⟩
theorem z58 : FnsOk prog E121 := (yc1 _ _)
noncomputable def L121_0 : Nat → Option LoopD := fun _ => none
def z59 : List Fm := d :: d :: .box 100200 [.val (.int .i64), .val (.sl (.int .i64))] :: .box 100300 [.val (.int .i64), .val (.sl (.int .i64))] :: .box 100400 [.val (.int .i64), .own (.int .i64) 100402 false] :: .box 100500 [.val (.int .i64), .own (.int .i64) 100502 false] :: .cell (.val (.int .i64)) :: .cell (.val (.int .i64)) :: D 8 (.cell (.val (.int .i64)) :: .cell (.val (.int .i64)) :: d :: d :: d :: .cell (.val (.int .i64)) :: .cell (.val (.int .i64)) :: D 40 [])
def z6a : List (Ex × List Fm) := [(.exit 2, [d, d, .box 100200 [.val (.int .i64), .val (.sl (.int .i64))], .box 100300 [.val (.int .i64), .val (.sl (.int .i64))], .box 100400 [.val (.int .i64), .own (.int .i64) 100402 false], .box 100500 [.val (.int .i64), .own (.int .i64) 100502 false], d, .cell (.val (.int .i64)), d, d, d, d, d, d, d, d, .cell (.val (.int .i64)), .cell (.val (.int .i64)), d, d, d, d, d, d, d, d, d, d, d, d, d, d, d, d, d, d, d, d, d, d, d, d, d, d, d, d, d, d, d, d, d, d, d, d, d, d, d, d, d, d, d, d, d])]
noncomputable def yo6 : ((Int × (List Int) × Unit) × (Int × (List Int) × Unit) × (Int × (List Int) × Unit) × (Int × (List Int) × Unit) × Int × Int × Int × Int × Int × Int × Unit) → Option (((Int × (List Int) × Unit) × (Int × (List Int) × Unit) × (Int × (List Int) × Unit) × (Int × (List Int) × Unit) × Int × Int × Int × Int × Int × Int × Unit) ⊕ (((Int × (List Int) × Unit) × (Int × (List Int) × Unit) × (Int × (List Int) × Unit) × (Int × (List Int) × Unit) × Int × Int × Int × Unit))) := fun ((v2_0, v2_1, _), (v3_0, v3_1, _), (v4_0, v4_1, _), (v5_0, v5_1, _), v6, v7, v16, v17, v21, v22, _) =>
 bif (decide (v22 < v21)) then
  if (v2_0 = (0 : Int)) then
   none
  else
   if (((0 : Int) ≤ (IntKind.wrap .i64 ((IntKind.wrap .i64 ((IntKind.wrap .i64 (Int.tdiv v6 v2_0)) * v2_0)) + v22))) ∧ ((IntKind.wrap .i64 ((IntKind.wrap .i64 ((IntKind.wrap .i64 (Int.tdiv v6 v2_0)) * v2_0)) + v22)) < (((List.length v2_1) : Nat) : Int))) then
    if (v2_0 = (0 : Int)) then
     none
    else
     if (((0 : Int) ≤ (IntKind.wrap .i64 ((IntKind.wrap .i64 (v22 * v2_0)) + (Int.tmod v6 v2_0)))) ∧ ((IntKind.wrap .i64 ((IntKind.wrap .i64 (v22 * v2_0)) + (Int.tmod v6 v2_0))) < (((List.length v3_1) : Nat) : Int))) then
      some (Sum.inl ((v2_0, v2_1, ()), (v3_0, v3_1, ()), (v4_0, (List.take (List.length v4_1) (List.drop 0 v4_1)), ()), (v5_0, (List.take (List.length v5_1) (List.drop 0 v5_1)), ()), v6, (if ((if ((List.getD v3_1 (Int.toNat (IntKind.wrap .i64 ((IntKind.wrap .i64 (v22 * v2_0)) + (Int.tmod v6 v2_0)))) (0 : Int)) > (List.getD v2_1 (Int.toNat (IntKind.wrap .i64 ((IntKind.wrap .i64 ((IntKind.wrap .i64 (Int.tdiv v6 v2_0)) * v2_0)) + v22))) (0 : Int))) then (List.getD v3_1 (Int.toNat (IntKind.wrap .i64 ((IntKind.wrap .i64 (v22 * v2_0)) + (Int.tmod v6 v2_0)))) (0 : Int)) else (List.getD v2_1 (Int.toNat (IntKind.wrap .i64 ((IntKind.wrap .i64 ((IntKind.wrap .i64 (Int.tdiv v6 v2_0)) * v2_0)) + v22))) (0 : Int))) < v7) then (if ((List.getD v3_1 (Int.toNat (IntKind.wrap .i64 ((IntKind.wrap .i64 (v22 * v2_0)) + (Int.tmod v6 v2_0)))) (0 : Int)) > (List.getD v2_1 (Int.toNat (IntKind.wrap .i64 ((IntKind.wrap .i64 ((IntKind.wrap .i64 (Int.tdiv v6 v2_0)) * v2_0)) + v22))) (0 : Int))) then (List.getD v3_1 (Int.toNat (IntKind.wrap .i64 ((IntKind.wrap .i64 (v22 * v2_0)) + (Int.tmod v6 v2_0)))) (0 : Int)) else (List.getD v2_1 (Int.toNat (IntKind.wrap .i64 ((IntKind.wrap .i64 ((IntKind.wrap .i64 (Int.tdiv v6 v2_0)) * v2_0)) + v22))) (0 : Int))) else v7), v16, v17, v21, (IntKind.wrap .i64 (v22 + (1 : Int))), ()))
     else
      none
   else
    none
 else
  some (Sum.inr ((v2_0, v2_1, ()), (v3_0, v3_1, ()), (v4_0, (List.take (List.length v4_1) (List.drop 0 v4_1)), ()), (v5_0, (List.take (List.length v5_1) (List.drop 0 v5_1)), ()), v7, v16, v17, ()))
theorem zk9 : ya6 63 E121 L121_0 (ya1 f121 7) z59 z6a = yo6 := by kernel_rfl
theorem kn5 {L} (h : L 7 = some ⟨63, z59, z6a, yo6⟩) : yc0 prog L (ya1 f121 7) := lo zk9 z58 ya0 h
noncomputable def L121_1 : Nat → Option LoopD := fun n => ifEq n 7 (some ⟨63, z59, z6a, yo6⟩) (L121_0 n)
def z6b : List Fm := d :: d :: .box 100200 [.val (.int .i64), .val (.sl (.int .i64))] :: .box 100300 [.val (.int .i64), .val (.sl (.int .i64))] :: .box 100400 [.val (.int .i64), .own (.int .i64) 100402 false] :: .box 100500 [.val (.int .i64), .own (.int .i64) 100502 false] :: D 10 (.cell (.val (.int .i64)) :: .cell (.val (.int .i64)) :: D 45 [])
def z6c : List (Ex × List Fm) := [(.exit 0, [d, d, d, d, .box 100400 [.val (.int .i64), .own (.int .i64) 100402 false], .box 100500 [.val (.int .i64), .own (.int .i64) 100502 false], d, d, d, d, d, d, d, d, d, d, d, d, d, d, d, d, d, d, d, d, d, d, d, d, d, d, d, d, d, d, d, d, d, d, d, d, d, d, d, d, d, d, d, d, d, d, d, d, d, d, d, d, d, d, d, d, d])]
noncomputable def yo7 : ((Int × (List Int) × Unit) × (Int × (List Int) × Unit) × (Int × (List Int) × Unit) × (Int × (List Int) × Unit) × Int × Int × Unit) → Option (((Int × (List Int) × Unit) × (Int × (List Int) × Unit) × (Int × (List Int) × Unit) × (Int × (List Int) × Unit) × Int × Int × Unit) ⊕ (((Int × (List Int) × Unit) × (Int × (List Int) × Unit) × Unit))) := fun ((v2_0, v2_1, _), (v3_0, v3_1, _), (v4_0, v4_1, _), (v5_0, v5_1, _), v16, v17, _) =>
 bif (decide (v17 < v16)) then
  Option.bind (ya4 yo6 ((v2_0, v2_1, ()), (v3_0, v3_1, ()), (v4_0, (List.take (List.length v4_1) (List.drop 0 v4_1)), ()), (v5_0, (List.take (List.length v5_1) (List.drop 0 v5_1)), ()), v17, (3 : Int), v16, v17, v2_0, (0 : Int), ())) fun ((r0, r1, _), (r2, r3, _), (r4, r5, _), (r6, r7, _), r8, r9, r10, _) =>
   if (((0 + (List.length r7)) = (List.length r7)) ∧ ((((List.length r7) + (List.length (List.take 1 (List.drop 0 [r8])))) * 8) ≤ 140737488355328)) then
    some (Sum.inl ((r0, r1, ()), (r2, r3, ()), (r4, (List.take (List.length r5) (List.drop 0 r5)), ()), (r6, (List.take ((List.length r7) + (List.length (List.take 1 (List.drop 0 [r8])))) (List.drop 0 ((List.drop 0 r7) ++ (List.take 1 (List.drop 0 [r8]))))), ()), r9, (IntKind.wrap .i64 (r10 + (1 : Int))), ()))
   else
    none
 else
  some (Sum.inr ((v4_0, (List.take (List.length v4_1) (List.drop 0 v4_1)), ()), (v5_0, (List.take (List.length v5_1) (List.drop 0 v5_1)), ()), ()))
theorem zl0 : ya6 63 E121 L121_1 (ya1 f121 3) z6b z6c = yo7 := by kernel_rfl
theorem kn6 {L} (h : L 3 = some ⟨63, z6b, z6c, yo7⟩) : yc0 prog L (ya1 f121 3) := lo zl0 z58 (yb4 (kn5 rfl) ya0) h
noncomputable def L121_2 : Nat → Option LoopD := fun n => ifEq n 3 (some ⟨63, z6b, z6c, yo7⟩) (L121_1 n)
noncomputable def y0f : (Int × (List Int)) → (Int × (List Int)) → Option ((Int × (List Int))) := fun (a0_0, a0_1) (a1_0, a1_1) =>
 Option.bind (ya4 yo7 ((a0_0, a0_1, ()), (a1_0, a1_1, ()), ((0 : Int), [], ()), (a0_0, [], ()), (IntKind.wrap .i64 (a0_0 * a0_0)), (0 : Int), ())) fun ((r0, r1, _), (r2, r3, _), _) =>
  some (r2, (List.take (List.length r3) (List.drop 0 r3)))
noncomputable def A121 : FnA := ⟨[.v (.pair (.int .i64) (.sl (.int .i64))), .v (.pair (.int .i64) (.sl (.int .i64)))], true, [.pair (.int .i64) (.sl (.int .i64))], fun x => y0f x.1 x.2.1⟩
theorem z19 : fnF E121 L121_2 [.v (.pair (.int .i64) (.sl (.int .i64))), .v (.pair (.int .i64) (.sl (.int .i64)))] true [.pair (.int .i64) (.sl (.int .i64))] f121.ntmps f121.results.toList (ya2 f121) = fun x => y0f x.1 x.2.1 := by kernel_rfl
theorem zf1 : FnOk prog 121 A121 := fo z19 func121 z58 (yb4 (kn6 rfl) ya0)
/-! spec.l6Idempotent -/
noncomputable def E119 : Env := ⟨ty0, fun g => ifEq g 121 (some A121) (ifEq g 133 (some A133) (none)), fun _ => none, fun _ => none, fun _ => none⟩
theorem E119_ok : FnsOk prog E119 := (oF zf1 func121 (oF zf0 func133 (yc1 _ _)))
noncomputable def L119_0 : Nat → Option LoopD := fun _ => none
noncomputable def yq1 : (Int × (List Int)) → Option (Bool) := fun (a0_0, a0_1) =>
 Option.bind (y0f (a0_0, a0_1) (a0_0, a0_1)) fun (r0, r1) =>
  Option.bind (yq9 (List.take (List.length r1) (List.drop 0 r1)) a0_1) fun r2 =>
   some r2
noncomputable def A119 : FnA := ⟨[.v (.pair (.int .i64) (.sl (.int .i64)))], true, [.bool], fun x => yq1 x.1⟩
theorem y6x : fnF E119 L119_0 [.v (.pair (.int .i64) (.sl (.int .i64)))] true [.bool] f119.ntmps f119.results.toList (ya2 f119) = fun x => yq1 x.1 := by kernel_rfl
theorem zt3 : FnOk prog 119 A119 := fo y6x func119 E119_ok ya0
/-! spec.l6Again -/
noncomputable def E134 : Env := ⟨ty0, fun _ => none, fun _ => none, fun _ => none, fun _ => none⟩
theorem E134_ok : FnsOk prog E134 := (yc1 _ _)
noncomputable def L134_0 : Nat → Option LoopD := fun _ => none
noncomputable def y0u : Int → Option (Int) := fun a0 =>
 bif (a0 == (1 : Int)) then
  some (2 : Int)
 else
  some a0
noncomputable def A134 : FnA := ⟨[.v (.int .i64)], true, [.int .i64], fun x => y0u x.1⟩
theorem zt4 : fnF E134 L134_0 [.v (.int .i64)] true [.int .i64] f134.ntmps f134.results.toList (ya2 f134) = fun x => y0u x.1 := by kernel_rfl
theorem A134_ok : FnOk prog 134 A134 := fo zt4 func134 E134_ok ya0
/-! spec.l6Stable -/
noncomputable def E120 : Env := ⟨ty0, fun g => ifEq g 134 (some A134) (none), fun _ => none, fun _ => none, fun _ => none⟩
theorem z6d : FnsOk prog E120 := (oF A134_ok func134 (yc1 _ _))
noncomputable def L120_0 : Nat → Option LoopD := fun _ => none
def z6e : List Fm := d :: .box 100100 [.val (.int .i64), .val (.sl (.int .i64))] :: .box 100200 [.val (.int .i64), .own (.int .i64) 100202 false] :: .box 100300 [.val (.int .i64), .own (.int .i64) 100302 false] :: .cell (.val (.int .i64)) :: .cell (.val (.int .i64)) :: D 8 (.cell (.val (.int .i64)) :: .cell (.val (.int .i64)) :: d :: d :: d :: .cell (.val (.int .i64)) :: .cell (.val (.int .i64)) :: D 51 [])
def z6f : List (Ex × List Fm) := [(.exit 2, [d, .box 100100 [.val (.int .i64), .val (.sl (.int .i64))], .box 100200 [.val (.int .i64), .own (.int .i64) 100202 false], .box 100300 [.val (.int .i64), .own (.int .i64) 100302 false], d, .cell (.val (.int .i64)), d, d, d, d, d, d, d, d, .cell (.val (.int .i64)), .cell (.val (.int .i64)), d, d, d, d, d, d, d, d, d, d, d, d, d, d, d, d, d, d, d, d, d, d, d, d, d, d, d, d, d, d, d, d, d, d, d, d, d, d, d, d, d, d, d, d, d, d, d, d, d, d, d, d, d, d, d, d])]
noncomputable def yj0 : ((Int × (List Int) × Unit) × (Int × (List Int) × Unit) × (Int × (List Int) × Unit) × Int × Int × Int × Int × Int × Int × Unit) → Option (((Int × (List Int) × Unit) × (Int × (List Int) × Unit) × (Int × (List Int) × Unit) × Int × Int × Int × Int × Int × Int × Unit) ⊕ (((Int × (List Int) × Unit) × (Int × (List Int) × Unit) × (Int × (List Int) × Unit) × Int × Int × Int × Unit))) := fun ((v1_0, v1_1, _), (v2_0, v2_1, _), (v3_0, v3_1, _), v4, v5, v14, v15, v19, v20, _) =>
 bif (decide (v20 < v19)) then
  if (v1_0 = (0 : Int)) then
   none
  else
   if (((0 : Int) ≤ (IntKind.wrap .i64 ((IntKind.wrap .i64 ((IntKind.wrap .i64 (Int.tdiv v4 v1_0)) * v1_0)) + v20))) ∧ ((IntKind.wrap .i64 ((IntKind.wrap .i64 ((IntKind.wrap .i64 (Int.tdiv v4 v1_0)) * v1_0)) + v20)) < (((List.length v1_1) : Nat) : Int))) then
    if (((0 : Int) ≤ (IntKind.wrap .i64 ((IntKind.wrap .i64 (v20 * v1_0)) + v20))) ∧ ((IntKind.wrap .i64 ((IntKind.wrap .i64 (v20 * v1_0)) + v20)) < (((List.length v1_1) : Nat) : Int))) then
     Option.bind (y0u (List.getD v1_1 (Int.toNat (IntKind.wrap .i64 ((IntKind.wrap .i64 (v20 * v1_0)) + v20))) (0 : Int))) fun r0 =>
      if (v1_0 = (0 : Int)) then
       none
      else
       if (((0 : Int) ≤ (IntKind.wrap .i64 ((IntKind.wrap .i64 (v20 * v1_0)) + (Int.tmod v4 v1_0)))) ∧ ((IntKind.wrap .i64 ((IntKind.wrap .i64 (v20 * v1_0)) + (Int.tmod v4 v1_0))) < (((List.length v1_1) : Nat) : Int))) then
        some (Sum.inl ((v1_0, v1_1, ()), (v2_0, (List.take (List.length v2_1) (List.drop 0 v2_1)), ()), (v3_0, (List.take (List.length v3_1) (List.drop 0 v3_1)), ()), v4, (if ((if ((List.getD v1_1 (Int.toNat (IntKind.wrap .i64 ((IntKind.wrap .i64 (v20 * v1_0)) + (Int.tmod v4 v1_0)))) (0 : Int)) > (if (r0 > (List.getD v1_1 (Int.toNat (IntKind.wrap .i64 ((IntKind.wrap .i64 ((IntKind.wrap .i64 (Int.tdiv v4 v1_0)) * v1_0)) + v20))) (0 : Int))) then r0 else (List.getD v1_1 (Int.toNat (IntKind.wrap .i64 ((IntKind.wrap .i64 ((IntKind.wrap .i64 (Int.tdiv v4 v1_0)) * v1_0)) + v20))) (0 : Int)))) then (List.getD v1_1 (Int.toNat (IntKind.wrap .i64 ((IntKind.wrap .i64 (v20 * v1_0)) + (Int.tmod v4 v1_0)))) (0 : Int)) else (if (r0 > (List.getD v1_1 (Int.toNat (IntKind.wrap .i64 ((IntKind.wrap .i64 ((IntKind.wrap .i64 (Int.tdiv v4 v1_0)) * v1_0)) + v20))) (0 : Int))) then r0 else (List.getD v1_1 (Int.toNat (IntKind.wrap .i64 ((IntKind.wrap .i64 ((IntKind.wrap .i64 (Int.tdiv v4 v1_0)) * v1_0)) + v20))) (0 : Int)))) < v5) then (if ((List.getD v1_1 (Int.toNat (IntKind.wrap .i64 ((IntKind.wrap .i64 (v20 * v1_0)) + (Int.tmod v4 v1_0)))) (0 : Int)) > (if (r0 > (List.getD v1_1 (Int.toNat (IntKind.wrap .i64 ((IntKind.wrap .i64 ((IntKind.wrap .i64 (Int.tdiv v4 v1_0)) * v1_0)) + v20))) (0 : Int))) then r0 else (List.getD v1_1 (Int.toNat (IntKind.wrap .i64 ((IntKind.wrap .i64 ((IntKind.wrap .i64 (Int.tdiv v4 v1_0)) * v1_0)) + v20))) (0 : Int)))) then (List.getD v1_1 (Int.toNat (IntKind.wrap .i64 ((IntKind.wrap .i64 (v20 * v1_0)) + (Int.tmod v4 v1_0)))) (0 : Int)) else (if (r0 > (List.getD v1_1 (Int.toNat (IntKind.wrap .i64 ((IntKind.wrap .i64 ((IntKind.wrap .i64 (Int.tdiv v4 v1_0)) * v1_0)) + v20))) (0 : Int))) then r0 else (List.getD v1_1 (Int.toNat (IntKind.wrap .i64 ((IntKind.wrap .i64 ((IntKind.wrap .i64 (Int.tdiv v4 v1_0)) * v1_0)) + v20))) (0 : Int)))) else v5), v14, v15, v19, (IntKind.wrap .i64 (v20 + (1 : Int))), ()))
       else
        none
    else
     none
   else
    none
 else
  some (Sum.inr ((v1_0, v1_1, ()), (v2_0, (List.take (List.length v2_1) (List.drop 0 v2_1)), ()), (v3_0, (List.take (List.length v3_1) (List.drop 0 v3_1)), ()), v5, v14, v15, ()))
theorem y77 : ya6 72 E120 L120_0 (ya1 f120 7) z6e z6f = yj0 := by kernel_rfl
theorem kn7 {L} (h : L 7 = some ⟨72, z6e, z6f, yj0⟩) : yc0 prog L (ya1 f120 7) := lo y77 z6d ya0 h
noncomputable def L120_1 : Nat → Option LoopD := fun n => ifEq n 7 (some ⟨72, z6e, z6f, yj0⟩) (L120_0 n)
def z6g : List Fm := d :: .box 100100 [.val (.int .i64), .val (.sl (.int .i64))] :: .box 100200 [.val (.int .i64), .own (.int .i64) 100202 false] :: .box 100300 [.val (.int .i64), .own (.int .i64) 100302 false] :: D 10 (.cell (.val (.int .i64)) :: .cell (.val (.int .i64)) :: D 56 [])
def z6h : List (Ex × List Fm) := [(.exit 0, [d, d, .box 100200 [.val (.int .i64), .own (.int .i64) 100202 false], .box 100300 [.val (.int .i64), .own (.int .i64) 100302 false], d, d, d, d, d, d, d, d, d, d, d, d, d, d, d, d, d, d, d, d, d, d, d, d, d, d, d, d, d, d, d, d, d, d, d, d, d, d, d, d, d, d, d, d, d, d, d, d, d, d, d, d, d, d, d, d, d, d, d, d, d, d, d, d, d, d, d, d])]
noncomputable def yj1 : ((Int × (List Int) × Unit) × (Int × (List Int) × Unit) × (Int × (List Int) × Unit) × Int × Int × Unit) → Option (((Int × (List Int) × Unit) × (Int × (List Int) × Unit) × (Int × (List Int) × Unit) × Int × Int × Unit) ⊕ (((Int × (List Int) × Unit) × (Int × (List Int) × Unit) × Unit))) := fun ((v1_0, v1_1, _), (v2_0, v2_1, _), (v3_0, v3_1, _), v14, v15, _) =>
 bif (decide (v15 < v14)) then
  Option.bind (ya4 yj0 ((v1_0, v1_1, ()), (v2_0, (List.take (List.length v2_1) (List.drop 0 v2_1)), ()), (v3_0, (List.take (List.length v3_1) (List.drop 0 v3_1)), ()), v15, (3 : Int), v14, v15, v1_0, (0 : Int), ())) fun ((r0, r1, _), (r2, r3, _), (r4, r5, _), r6, r7, r8, _) =>
   if (((0 + (List.length r5)) = (List.length r5)) ∧ ((((List.length r5) + (List.length (List.take 1 (List.drop 0 [r6])))) * 8) ≤ 140737488355328)) then
    some (Sum.inl ((r0, r1, ()), (r2, (List.take (List.length r3) (List.drop 0 r3)), ()), (r4, (List.take ((List.length r5) + (List.length (List.take 1 (List.drop 0 [r6])))) (List.drop 0 ((List.drop 0 r5) ++ (List.take 1 (List.drop 0 [r6]))))), ()), r7, (IntKind.wrap .i64 (r8 + (1 : Int))), ()))
   else
    none
 else
  some (Sum.inr ((v2_0, (List.take (List.length v2_1) (List.drop 0 v2_1)), ()), (v3_0, (List.take (List.length v3_1) (List.drop 0 v3_1)), ()), ()))
theorem y78 : ya6 72 E120 L120_1 (ya1 f120 3) z6g z6h = yj1 := by kernel_rfl
theorem kn8 {L} (h : L 3 = some ⟨72, z6g, z6h, yj1⟩) : yc0 prog L (ya1 f120 3) := lo y78 z6d (yb4 (kn7 rfl) ya0) h
noncomputable def L120_2 : Nat → Option LoopD := fun n => ifEq n 3 (some ⟨72, z6g, z6h, yj1⟩) (L120_1 n)
noncomputable def yy4 : (Int × (List Int)) → Option ((Int × (List Int))) := fun (a0_0, a0_1) =>
 Option.bind (ya4 yj1 ((a0_0, a0_1, ()), ((0 : Int), [], ()), (a0_0, [], ()), (IntKind.wrap .i64 (a0_0 * a0_0)), (0 : Int), ())) fun ((r0, r1, _), (r2, r3, _), _) =>
  some (r2, (List.take (List.length r3) (List.drop 0 r3)))
noncomputable def A120 : FnA := ⟨[.v (.pair (.int .i64) (.sl (.int .i64)))], true, [.pair (.int .i64) (.sl (.int .i64))], fun x => yy4 x.1⟩
theorem zl1 : fnF E120 L120_2 [.v (.pair (.int .i64) (.sl (.int .i64)))] true [.pair (.int .i64) (.sl (.int .i64))] f120.ntmps f120.results.toList (ya2 f120) = fun x => yy4 x.1 := by kernel_rfl
theorem zt5 : FnOk prog 120 A120 := fo zl1 func120 z6d (yb4 (kn8 rfl) ya0)
/-! spec.l8Elements -/
noncomputable def z2a : Env := ⟨ty0, fun g => ifEq g 71 (some A71) (ifEq g 117 (some A117) (ifEq g 133 (some A133) (ifEq g 119 (some A119) (ifEq g 120 (some A120) (ifEq g 121 (some A121) (none)))))), fun _ => none, fun _ => none, fun _ => none⟩
theorem y79 : FnsOk prog z2a := (oF z0s func71 (oF zt2 func117 (oF zf0 func133 (oF zt3 func119 (oF zt5 func120 (oF zf1 func121 (yc1 _ _)))))))
noncomputable def z0t : Nat → Option LoopD := fun _ => none
def y8a : List Fm := .box 100000 [.own (.pair (.pair (.int .i64) (.sl (.int .i64))) .str) 100001 true, .val .bool] :: d :: .cell (.val .str) :: d :: .box 100400 [.val (.int .i64), .val (.sl (.int .i64))] :: D 6 (.cell (.val (.sl (.pair (.pair (.int .i64) (.sl (.int .i64))) .str))) :: .cell (.val (.int .i64)) :: .cell (.val (.int .i64)) :: D 48 (.cell (.val .bool) :: .box 106300 [.val (.int .i64), .val (.sl (.int .i64)), .val (.sl (.int .i64)), .val (.sl (.pair (.int .i64) (.pair .str (.pair (.int .i64) (.int .i64)))))] :: d :: d :: d :: .ali 100000 0 :: .cell (.own (.pair (.pair (.int .i64) (.sl (.int .i64))) .str) 106800 false) :: D 12 (.cell (.own .str 108100 false) :: .cell (.val (.int .i64)) :: .cell (.val (.int .i64)) :: D 108 [])))
def y8b : List (Ex × List Fm) := [(.ret, [d, d, d, d, d, d, d, d, d, d, d, d, d, d, d, d, d, d, d, d, d, d, d, d, d, d, d, d, d, d, d, d, d, d, d, d, d, d, d, d, d, d, d, d, d, d, d, d, d, d, d, d, d, d, d, d, d, d, d, d, d, d, .cell (.val .bool), .box 106300 [.val (.int .i64), .val (.sl (.int .i64)), .val (.sl (.int .i64)), .val (.sl (.pair (.int .i64) (.pair .str (.pair (.int .i64) (.int .i64)))))], d, d, d, .box 106700 [.own (.pair (.pair (.int .i64) (.sl (.int .i64))) .str) 106701 true, .val .bool], .cell (.own (.pair (.pair (.int .i64) (.sl (.int .i64))) .str) 106800 false), d, d, d, d, d, d, d, d, d, d, d, d, .cell (.own .str 108100 false), .cell (.val (.int .i64)), .cell (.val (.int .i64)), d, d, d, d, d, d, d, d, d, d, d, d, d, d, d, d, d, d, d, d, d, d, d, d, d, d, d, d, d, d, d, d, d, d, d, d, d, d, d, d, d, d, d, d, d, d, d, d, d, d, d, d, d, d, d, d, d, d, d, d, d, d, d, d, d, d, d, d, d, d, d, d, d, d, d, d, d, d, d, d, d, d, d, d, d, d, d, d, d, d, d, d, d, d, d, d, d, d, d, d, d, d, d, d, d, d, d, d]), (.exit 0, [.box 100000 [.own (.pair (.pair (.int .i64) (.sl (.int .i64))) .str) 100001 true, .val .bool], d, .cell (.val .str), d, .box 100400 [.val (.int .i64), .val (.sl (.int .i64))], d, d, d, d, d, d, d, d, d, d, d, d, d, d, d, d, d, d, d, d, d, d, d, d, d, d, d, d, d, d, d, d, d, d, d, d, d, d, d, d, d, d, d, d, d, d, d, d, d, d, d, d, d, d, d, d, d, .cell (.val .bool), .box 106300 [.val (.int .i64), .val (.sl (.int .i64)), .val (.sl (.int .i64)), .val (.sl (.pair (.int .i64) (.pair .str (.pair (.int .i64) (.int .i64)))))], d, d, d, .ali 100000 0, .cell (.own (.pair (.pair (.int .i64) (.sl (.int .i64))) .str) 106800 false), d, d, d, d, d, d, d, d, d, d, d, d, .cell (.own .str 108100 false), .cell (.val (.int .i64)), .cell (.val (.int .i64)), d, d, d, d, d, d, d, d, d, d, d, d, d, d, d, d, d, d, d, d, d, d, d, d, d, d, d, d, d, d, d, d, d, d, d, d, d, d, d, d, d, d, d, d, d, d, d, d, d, d, d, d, d, d, d, d, d, d, d, d, d, d, d, d, d, d, d, d, d, d, d, d, d, d, d, d, d, d, d, d, d, d, d, d, d, d, d, d, d, d, d, d, d, d, d, d, d, d, d, d, d, d, d, d, d, d, d, d])]
noncomputable def yd5 : (((List ((Int × (List Int)) × ByteArray)) × Bool × Unit) × ByteArray × (Int × (List Int) × Unit) × (List ((Int × (List Int)) × ByteArray)) × Int × Int × Bool × (Int × (List Int) × (List Int) × (List (Int × (ByteArray × (Int × Int)))) × Unit) × (List ((Int × (List Int)) × ByteArray)) × (List ByteArray) × Int × Int × Unit) → Option ((((List ((Int × (List Int)) × ByteArray)) × Bool × Unit) × ByteArray × (Int × (List Int) × Unit) × (List ((Int × (List Int)) × ByteArray)) × Int × Int × Bool × (Int × (List Int) × (List Int) × (List (Int × (ByteArray × (Int × Int)))) × Unit) × (List ((Int × (List Int)) × ByteArray)) × (List ByteArray) × Int × Int × Unit) ⊕ ((Bool × (Int × (List Int) × (List Int) × (List (Int × (ByteArray × (Int × Int)))) × Unit) × ((List ((Int × (List Int)) × ByteArray)) × Bool × Unit) × (List ((Int × (List Int)) × ByteArray)) × (List ByteArray) × Int × Int × Unit) ⊕ (((List ((Int × (List Int)) × ByteArray)) × Bool × Unit) × ByteArray × (Int × (List Int) × Unit) × Bool × (Int × (List Int) × (List Int) × (List (Int × (ByteArray × (Int × Int)))) × Unit) × (List ((Int × (List Int)) × ByteArray)) × (List ByteArray) × Int × Int × Unit))) := fun ((v0_0, v0_1, _), v2, (v4_0, v4_1, _), v11, v12, v13, v62, (v63_0, v63_1, v63_2, v63_3, _), v68, v81, v82, v83, _) =>
 bif (decide (v13 < v12)) then
  if (((0 : Int) ≤ v13) ∧ (v13 < (((List.length v11) : Nat) : Int))) then
   Option.bind (yq9 (List.getD v11 (Int.toNat v13) (((0 : Int), []), (⟨Array.empty⟩ : ByteArray))).1.2 v4_1) fun r0 =>
    bif r0 then
     if ((0 + (List.length v0_0)) = (List.length v0_0)) then
      some (Sum.inr (Sum.inl (v62, (v63_0, v63_1, v63_2, v63_3, ()), ((List.drop 0 v0_0), v0_1, ()), (List.take (List.length v68) (List.drop 0 v68)), (List.take (List.length v81) (List.drop 0 v81)), v82, v83, ())))
     else
      none
    else
     if ((0 + (List.length v0_0)) = (List.length v0_0)) then
      some (Sum.inl (((List.drop 0 v0_0), v0_1, ()), v2, (v4_0, v4_1, ()), v11, v12, (IntKind.wrap .i64 (v13 + (1 : Int))), v62, (v63_0, v63_1, v63_2, v63_3, ()), (List.take (List.length v68) (List.drop 0 v68)), (List.take (List.length v81) (List.drop 0 v81)), v82, v83, ()))
     else
      none
  else
   none
 else
  if ((0 + (List.length v0_0)) = (List.length v0_0)) then
   some (Sum.inr (Sum.inr (((List.drop 0 v0_0), v0_1, ()), v2, (v4_0, v4_1, ()), v62, (v63_0, v63_1, v63_2, v63_3, ()), (List.take (List.length v68) (List.drop 0 v68)), (List.take (List.length v81) (List.drop 0 v81)), v82, v83, ())))
  else
   none
theorem y2o : ya6 61 z2a z0t (ya1 f118 2) y8a y8b = yd5 := by kernel_rfl
theorem z2b {L} (h : L 2 = some ⟨61, y8a, y8b, yd5⟩) : yc0 prog L (ya1 f118 2) := lo y2o y79 ya0 h
noncomputable def zf2 : Nat → Option LoopD := fun n => ifEq n 2 (some ⟨61, y8a, y8b, yd5⟩) (z0t n)
def z0u : List Fm := .box 100000 [.own (.pair (.pair (.int .i64) (.sl (.int .i64))) .str) 100001 true, .val .bool] :: .cell (.val (.pair (.int .i64) (.sl (.int .i64)))) :: .cell (.val .str) :: D 59 (.cell (.val .bool) :: .box 106300 [.val (.int .i64), .val (.sl (.int .i64)), .val (.sl (.int .i64)), .val (.sl (.pair (.int .i64) (.pair .str (.pair (.int .i64) (.int .i64)))))] :: d :: d :: d :: .ali 100000 0 :: .cell (.own (.pair (.pair (.int .i64) (.sl (.int .i64))) .str) 106800 false) :: D 12 (.cell (.own .str 108100 false) :: .cell (.val (.int .i64)) :: .cell (.val (.int .i64)) :: D 108 []))
def z0v : List Fm := d :: .cell (.val .bool) :: .box 100200 [.val (.int .i64), .val (.sl (.int .i64)), .val (.sl (.int .i64)), .val (.sl (.pair (.int .i64) (.pair .str (.pair (.int .i64) (.int .i64)))))] :: d :: d :: d :: .box 100600 [.own (.pair (.pair (.int .i64) (.sl (.int .i64))) .str) 100601 true, .val .bool] :: .cell (.own (.pair (.pair (.int .i64) (.sl (.int .i64))) .str) 100700 false) :: D 12 (.cell (.own .str 102000 false) :: .cell (.val (.int .i64)) :: .cell (.val (.int .i64)) :: D 108 [])
noncomputable def yl9 : (((List ((Int × (List Int)) × ByteArray)) × Bool × Unit) × (Int × (List Int)) × ByteArray × Bool × (Int × (List Int) × (List Int) × (List (Int × (ByteArray × (Int × Int)))) × Unit) × (List ((Int × (List Int)) × ByteArray)) × (List ByteArray) × Int × Int × Unit) → Option (Bool × (Int × (List Int) × (List Int) × (List (Int × (ByteArray × (Int × Int)))) × Unit) × ((List ((Int × (List Int)) × ByteArray)) × Bool × Unit) × (List ((Int × (List Int)) × ByteArray)) × (List ByteArray) × Int × Int × Unit) := fun ((v0_0, v0_1, _), (v1_0, v1_1), v2, v62, (v63_0, v63_1, v63_2, v63_3, _), v68, v81, v82, v83, _) =>
 if ((0 + (List.length v0_0)) = (List.length v0_0)) then
  Option.bind (ya4 yd5 (((List.drop 0 v0_0), v0_1, ()), v2, (v1_0, v1_1, ()), (List.take (List.length v0_0) (List.drop 0 v0_0)), (((List.length v0_0) : Nat) : Int), (0 : Int), v62, (v63_0, v63_1, v63_2, v63_3, ()), (List.take (List.length v68) (List.drop 0 v68)), (List.take (List.length v81) (List.drop 0 v81)), v82, v83, ())) fun r0 =>
   (match r0 with
   | .inl (d1, (d2, d3, d4, d5, _), (d6, d7, _), d8, d9, d10, d11, _) =>
     if ((0 + (List.length d6)) = (List.length d6)) then
      some (d1, (d2, d3, d4, d5, ()), ((List.drop 0 d6), d7, ()), (List.take (List.length d8) (List.drop 0 d8)), (List.take (List.length d9) (List.drop 0 d9)), d10, d11, ())
     else
      none
   | .inr ((d12, d13, _), d14, (d15, d16, _), d17, (d18, d19, d20, d21, _), d22, d23, d24, d25, _) =>
     bif d13 then
      if ((0 + (List.length d12)) = (List.length d12)) then
       some (d17, (d18, d19, d20, d21, ()), ((List.drop 0 d12), true, ()), (List.take (List.length d22) (List.drop 0 d22)), (List.take (List.length d23) (List.drop 0 d23)), d24, d25, ())
      else
       none
     else
      bif (decide ((((List.length d12) : Nat) : Int) ≥ (120 : Int))) then
       if ((0 + (List.length d12)) = (List.length d12)) then
        some (d17, (d18, d19, d20, d21, ()), ((List.drop 0 d12), true, ()), (List.take (List.length d22) (List.drop 0 d22)), (List.take (List.length d23) (List.drop 0 d23)), d24, d25, ())
       else
        none
      else
       bif (!(decide ((((ByteArray.size d14) : Nat) : Int) > (120 : Int)))) then
        if (((0 + (List.length d12)) = (List.length d12)) ∧ ((((List.length d12) + (List.length (List.take 1 (List.drop 0 [((d15, d16), d14)])))) * 48) ≤ 140737488355328)) then
         if ((0 + ((List.length d12) + (List.length (List.take 1 (List.drop 0 [((d15, d16), d14)]))))) = (List.length ((List.drop 0 d12) ++ (List.take 1 (List.drop 0 [((d15, d16), d14)]))))) then
          some (d17, (d18, d19, d20, d21, ()), ((List.drop 0 ((List.drop 0 d12) ++ (List.take 1 (List.drop 0 [((d15, d16), d14)])))), (decide ((((ByteArray.size d14) : Nat) : Int) > (120 : Int))), ()), (List.take (List.length d22) (List.drop 0 d22)), (List.take (List.length d23) (List.drop 0 d23)), d24, d25, ())
         else
          none
        else
         none
       else
        if ((0 + (List.length d12)) = (List.length d12)) then
         some (d17, (d18, d19, d20, d21, ()), ((List.drop 0 d12), (decide ((((ByteArray.size d14) : Nat) : Int) > (120 : Int))), ()), (List.take (List.length d22) (List.drop 0 d22)), (List.take (List.length d23) (List.drop 0 d23)), d24, d25, ())
        else
         none)
 else
  none
theorem y4f : y1v f118.ntmps 131 39 z2a zf2 f118.results.toList (ya2 f118) z0u z0v = yl9 := by kernel_rfl
noncomputable def z79 : CallD := ⟨f118.ntmps, z0u, 131, z0v, yl9, 0⟩
theorem z6i : y80 prog 39 118 z79 := y0k (ya9 yd4) y79 (L := zf2) func118 (by kernel_rfl) (c := ya2 f118) (by kernel_rfl) (yc6 (L := zf2) (ya9 yd4) y79 mixed (c := ya2 f118) (bs := [ya1 f118 2]) (by kernel_rfl) (yb4 (z2b rfl) ya0) (by kernel_rfl)) (by kernel_rfl) (by kernel_rfl) y4f
noncomputable def z2c : Env := ⟨ty0, fun g => ifEq g 71 (some A71) (ifEq g 117 (some A117) (ifEq g 133 (some A133) (ifEq g 119 (some A119) (ifEq g 120 (some A120) (ifEq g 121 (some A121) (none)))))), fun _ => none, fun _ => none, fun _ => none⟩
theorem y8c : FnsOk prog z2c := (oF z0s func71 (oF zt2 func117 (oF zf0 func133 (oF zt3 func119 (oF zt5 func120 (oF zf1 func121 (yc1 _ _)))))))
noncomputable def z0w : Nat → Option LoopD := fun _ => none
def y8d : List Fm := .box 100000 [.own (.pair (.pair (.int .i64) (.sl (.int .i64))) .str) 100001 true, .val .bool] :: d :: .cell (.val .str) :: d :: .box 100400 [.val (.int .i64), .own (.int .i64) 100402 false] :: D 6 (.cell (.val (.sl (.pair (.pair (.int .i64) (.sl (.int .i64))) .str))) :: .cell (.val (.int .i64)) :: .cell (.val (.int .i64)) :: D 48 (.cell (.val .bool) :: D 4 (.ali 100000 0 :: .cell (.val (.sl (.pair (.pair (.int .i64) (.sl (.int .i64))) .str))) :: d :: d :: d :: .cell (.val (.int .i64)) :: .box 107300 [.val (.int .i64), .val (.sl (.int .i64)), .val .str] :: D 118 [])))
def y8e : List (Ex × List Fm) := [(.ret, [d, d, d, d, d, d, d, d, d, d, d, d, d, d, d, d, d, d, d, d, d, d, d, d, d, d, d, d, d, d, d, d, d, d, d, d, d, d, d, d, d, d, d, d, d, d, d, d, d, d, d, d, d, d, d, d, d, d, d, d, d, d, .cell (.val .bool), d, d, d, d, .box 106700 [.own (.pair (.pair (.int .i64) (.sl (.int .i64))) .str) 106701 true, .val .bool], .cell (.val (.sl (.pair (.pair (.int .i64) (.sl (.int .i64))) .str))), d, d, d, .cell (.val (.int .i64)), .box 107300 [.val (.int .i64), .val (.sl (.int .i64)), .val .str], d, d, d, d, d, d, d, d, d, d, d, d, d, d, d, d, d, d, d, d, d, d, d, d, d, d, d, d, d, d, d, d, d, d, d, d, d, d, d, d, d, d, d, d, d, d, d, d, d, d, d, d, d, d, d, d, d, d, d, d, d, d, d, d, d, d, d, d, d, d, d, d, d, d, d, d, d, d, d, d, d, d, d, d, d, d, d, d, d, d, d, d, d, d, d, d, d, d, d, d, d, d, d, d, d, d, d, d, d, d, d, d, d, d, d, d, d, d]), (.exit 0, [.box 100000 [.own (.pair (.pair (.int .i64) (.sl (.int .i64))) .str) 100001 true, .val .bool], d, .cell (.val .str), d, .box 100400 [.val (.int .i64), .own (.int .i64) 100402 false], d, d, d, d, d, d, d, d, d, d, d, d, d, d, d, d, d, d, d, d, d, d, d, d, d, d, d, d, d, d, d, d, d, d, d, d, d, d, d, d, d, d, d, d, d, d, d, d, d, d, d, d, d, d, d, d, d, .cell (.val .bool), d, d, d, d, .ali 100000 0, .cell (.val (.sl (.pair (.pair (.int .i64) (.sl (.int .i64))) .str))), d, d, d, .cell (.val (.int .i64)), .box 107300 [.val (.int .i64), .val (.sl (.int .i64)), .val .str], d, d, d, d, d, d, d, d, d, d, d, d, d, d, d, d, d, d, d, d, d, d, d, d, d, d, d, d, d, d, d, d, d, d, d, d, d, d, d, d, d, d, d, d, d, d, d, d, d, d, d, d, d, d, d, d, d, d, d, d, d, d, d, d, d, d, d, d, d, d, d, d, d, d, d, d, d, d, d, d, d, d, d, d, d, d, d, d, d, d, d, d, d, d, d, d, d, d, d, d, d, d, d, d, d, d, d, d, d, d, d, d, d, d, d, d, d, d])]
noncomputable def yd6 : (((List ((Int × (List Int)) × ByteArray)) × Bool × Unit) × ByteArray × (Int × (List Int) × Unit) × (List ((Int × (List Int)) × ByteArray)) × Int × Int × Bool × (List ((Int × (List Int)) × ByteArray)) × Int × (Int × (List Int) × ByteArray × Unit) × Unit) → Option ((((List ((Int × (List Int)) × ByteArray)) × Bool × Unit) × ByteArray × (Int × (List Int) × Unit) × (List ((Int × (List Int)) × ByteArray)) × Int × Int × Bool × (List ((Int × (List Int)) × ByteArray)) × Int × (Int × (List Int) × ByteArray × Unit) × Unit) ⊕ ((Bool × ((List ((Int × (List Int)) × ByteArray)) × Bool × Unit) × (List ((Int × (List Int)) × ByteArray)) × Int × (Int × (List Int) × ByteArray × Unit) × Unit) ⊕ (((List ((Int × (List Int)) × ByteArray)) × Bool × Unit) × ByteArray × (Int × (List Int) × Unit) × Bool × (List ((Int × (List Int)) × ByteArray)) × Int × (Int × (List Int) × ByteArray × Unit) × Unit))) := fun ((v0_0, v0_1, _), v2, (v4_0, v4_1, _), v11, v12, v13, v62, v68, v72, (v73_0, v73_1, v73_2, _), _) =>
 bif (decide (v13 < v12)) then
  if (((0 : Int) ≤ v13) ∧ (v13 < (((List.length v11) : Nat) : Int))) then
   Option.bind (yq9 (List.getD v11 (Int.toNat v13) (((0 : Int), []), (⟨Array.empty⟩ : ByteArray))).1.2 (List.take (List.length v4_1) (List.drop 0 v4_1))) fun r0 =>
    bif r0 then
     if ((0 + (List.length v0_0)) = (List.length v0_0)) then
      some (Sum.inr (Sum.inl (v62, ((List.drop 0 v0_0), v0_1, ()), v68, v72, (v73_0, v73_1, v73_2, ()), ())))
     else
      none
    else
     if ((0 + (List.length v0_0)) = (List.length v0_0)) then
      some (Sum.inl (((List.drop 0 v0_0), v0_1, ()), v2, (v4_0, (List.take (List.length v4_1) (List.drop 0 v4_1)), ()), v11, v12, (IntKind.wrap .i64 (v13 + (1 : Int))), v62, v68, v72, (v73_0, v73_1, v73_2, ()), ()))
     else
      none
  else
   none
 else
  if ((0 + (List.length v0_0)) = (List.length v0_0)) then
   some (Sum.inr (Sum.inr (((List.drop 0 v0_0), v0_1, ()), v2, (v4_0, (List.take (List.length v4_1) (List.drop 0 v4_1)), ()), v62, v68, v72, (v73_0, v73_1, v73_2, ()), ())))
  else
   none
theorem y2p : ya6 61 z2c z0w (ya1 f118 2) y8d y8e = yd6 := by kernel_rfl
theorem z2d {L} (h : L 2 = some ⟨61, y8d, y8e, yd6⟩) : yc0 prog L (ya1 f118 2) := lo y2p y8c ya0 h
noncomputable def zf3 : Nat → Option LoopD := fun n => ifEq n 2 (some ⟨61, y8d, y8e, yd6⟩) (z0w n)
def z0x : List Fm := .box 100000 [.own (.pair (.pair (.int .i64) (.sl (.int .i64))) .str) 100001 true, .val .bool] :: .agg [.val (.int .i64), .own (.int .i64) 100102 false] :: .cell (.val .str) :: D 59 (.cell (.val .bool) :: D 4 (.ali 100000 0 :: .cell (.val (.sl (.pair (.pair (.int .i64) (.sl (.int .i64))) .str))) :: d :: d :: d :: .cell (.val (.int .i64)) :: .box 107300 [.val (.int .i64), .val (.sl (.int .i64)), .val .str] :: D 118 []))
def z0y : List Fm := d :: .cell (.val .bool) :: D 4 (.box 100600 [.own (.pair (.pair (.int .i64) (.sl (.int .i64))) .str) 100601 true, .val .bool] :: .cell (.val (.sl (.pair (.pair (.int .i64) (.sl (.int .i64))) .str))) :: d :: d :: d :: .cell (.val (.int .i64)) :: .box 101200 [.val (.int .i64), .val (.sl (.int .i64)), .val .str] :: D 118 [])
noncomputable def yi5 : (((List ((Int × (List Int)) × ByteArray)) × Bool × Unit) × (Int × (List Int) × Unit) × ByteArray × Bool × (List ((Int × (List Int)) × ByteArray)) × Int × (Int × (List Int) × ByteArray × Unit) × Unit) → Option (Bool × ((List ((Int × (List Int)) × ByteArray)) × Bool × Unit) × (List ((Int × (List Int)) × ByteArray)) × Int × (Int × (List Int) × ByteArray × Unit) × Unit) := fun ((v0_0, v0_1, _), (v1_0, v1_1, _), v2, v62, v68, v72, (v73_0, v73_1, v73_2, _), _) =>
 if ((0 + (List.length v0_0)) = (List.length v0_0)) then
  Option.bind (ya4 yd6 (((List.drop 0 v0_0), v0_1, ()), v2, (v1_0, (List.take (List.length v1_1) (List.drop 0 v1_1)), ()), (List.take (List.length v0_0) (List.drop 0 v0_0)), (((List.length v0_0) : Nat) : Int), (0 : Int), v62, v68, v72, (v73_0, v73_1, v73_2, ()), ())) fun r0 =>
   (match r0 with
   | .inl (d1, (d2, d3, _), d4, d5, (d6, d7, d8, _), _) =>
     if ((0 + (List.length d2)) = (List.length d2)) then
      some (d1, ((List.drop 0 d2), d3, ()), d4, d5, (d6, d7, d8, ()), ())
     else
      none
   | .inr ((d9, d10, _), d11, (d12, d13, _), d14, d15, d16, (d17, d18, d19, _), _) =>
     bif d10 then
      if ((0 + (List.length d9)) = (List.length d9)) then
       some (d14, ((List.drop 0 d9), true, ()), d15, d16, (d17, d18, d19, ()), ())
      else
       none
     else
      bif (decide ((((List.length d9) : Nat) : Int) ≥ (120 : Int))) then
       if ((0 + (List.length d9)) = (List.length d9)) then
        some (d14, ((List.drop 0 d9), true, ()), d15, d16, (d17, d18, d19, ()), ())
       else
        none
      else
       bif (!(decide ((((ByteArray.size d11) : Nat) : Int) > (120 : Int)))) then
        if (((0 + (List.length d9)) = (List.length d9)) ∧ ((((List.length d9) + (List.length (List.take 1 (List.drop 0 [((d12, (List.take (List.length d13) (List.drop 0 d13))), d11)])))) * 48) ≤ 140737488355328)) then
         if ((0 + ((List.length d9) + (List.length (List.take 1 (List.drop 0 [((d12, (List.take (List.length d13) (List.drop 0 d13))), d11)]))))) = (List.length ((List.drop 0 d9) ++ (List.take 1 (List.drop 0 [((d12, (List.take (List.length d13) (List.drop 0 d13))), d11)]))))) then
          some (d14, ((List.drop 0 ((List.drop 0 d9) ++ (List.take 1 (List.drop 0 [((d12, (List.take (List.length d13) (List.drop 0 d13))), d11)])))), (decide ((((ByteArray.size d11) : Nat) : Int) > (120 : Int))), ()), d15, d16, (d17, d18, d19, ()), ())
         else
          none
        else
         none
       else
        if ((0 + (List.length d9)) = (List.length d9)) then
         some (d14, ((List.drop 0 d9), (decide ((((ByteArray.size d11) : Nat) : Int) > (120 : Int))), ()), d15, d16, (d17, d18, d19, ()), ())
        else
         none)
 else
  none
theorem y4g : y1v f118.ntmps 131 78 z2c zf3 f118.results.toList (ya2 f118) z0x z0y = yi5 := by kernel_rfl
noncomputable def z8a : CallD := ⟨f118.ntmps, z0x, 131, z0y, yi5, 0⟩
theorem z6j : y80 prog 78 118 z8a := y0k (ya9 yd4) y8c (L := zf3) func118 (by kernel_rfl) (c := ya2 f118) (by kernel_rfl) (yc6 (L := zf3) (ya9 yd4) y8c mixed (c := ya2 f118) (bs := [ya1 f118 2]) (by kernel_rfl) (yb4 (z2d rfl) ya0) (by kernel_rfl)) (by kernel_rfl) (by kernel_rfl) y4g
noncomputable def zt6 : Env := ⟨ty0, fun g => ifEq g 71 (some A71) (ifEq g 117 (some A117) (ifEq g 133 (some A133) (ifEq g 119 (some A119) (ifEq g 120 (some A120) (ifEq g 121 (some A121) (none)))))), fun _ => none, fun _ => none, fun _ => none⟩
theorem y5p : FnsOk prog zt6 := (oF z0s func71 (oF zt2 func117 (oF zf0 func133 (oF zt3 func119 (oF zt5 func120 (oF zf1 func121 (yc1 _ _)))))))
noncomputable def zt7 : Nat → Option LoopD := fun _ => none
def y5q : List Fm := .box 100000 [.own (.pair (.pair (.int .i64) (.sl (.int .i64))) .str) 100001 true, .val .bool] :: d :: .cell (.val .str) :: d :: .box 100400 [.val (.int .i64), .own (.int .i64) 100402 false] :: D 6 (.cell (.val (.sl (.pair (.pair (.int .i64) (.sl (.int .i64))) .str))) :: .cell (.val (.int .i64)) :: .cell (.val (.int .i64)) :: D 48 (.cell (.val .bool) :: D 4 (.ali 100000 0 :: .cell (.val (.sl (.pair (.pair (.int .i64) (.sl (.int .i64))) .str))) :: d :: d :: d :: .cell (.val (.int .i64)) :: .box 107300 [.val (.int .i64), .val (.sl (.int .i64)), .val .str] :: d :: d :: .box 107600 [.val (.int .i64), .val (.sl (.int .i64)), .val .str] :: D 74 (.cell (.val (.sl (.pair (.pair (.int .i64) (.sl (.int .i64))) .str))) :: .cell (.val (.int .i64)) :: .cell (.val (.int .i64)) :: D 38 []))))
def y5r : List (Ex × List Fm) := [(.ret, [d, d, d, d, d, d, d, d, d, d, d, d, d, d, d, d, d, d, d, d, d, d, d, d, d, d, d, d, d, d, d, d, d, d, d, d, d, d, d, d, d, d, d, d, d, d, d, d, d, d, d, d, d, d, d, d, d, d, d, d, d, d, .cell (.val .bool), d, d, d, d, .box 106700 [.own (.pair (.pair (.int .i64) (.sl (.int .i64))) .str) 106701 true, .val .bool], .cell (.val (.sl (.pair (.pair (.int .i64) (.sl (.int .i64))) .str))), d, d, d, .cell (.val (.int .i64)), .box 107300 [.val (.int .i64), .val (.sl (.int .i64)), .val .str], d, d, .box 107600 [.val (.int .i64), .val (.sl (.int .i64)), .val .str], d, d, d, d, d, d, d, d, d, d, d, d, d, d, d, d, d, d, d, d, d, d, d, d, d, d, d, d, d, d, d, d, d, d, d, d, d, d, d, d, d, d, d, d, d, d, d, d, d, d, d, d, d, d, d, d, d, d, d, d, d, d, d, d, d, d, d, d, d, d, d, d, d, d, .cell (.val (.sl (.pair (.pair (.int .i64) (.sl (.int .i64))) .str))), .cell (.val (.int .i64)), .cell (.val (.int .i64)), d, d, d, d, d, d, d, d, d, d, d, d, d, d, d, d, d, d, d, d, d, d, d, d, d, d, d, d, d, d, d, d, d, d, d, d, d, d]), (.exit 0, [.box 100000 [.own (.pair (.pair (.int .i64) (.sl (.int .i64))) .str) 100001 true, .val .bool], d, .cell (.val .str), d, .box 100400 [.val (.int .i64), .own (.int .i64) 100402 false], d, d, d, d, d, d, d, d, d, d, d, d, d, d, d, d, d, d, d, d, d, d, d, d, d, d, d, d, d, d, d, d, d, d, d, d, d, d, d, d, d, d, d, d, d, d, d, d, d, d, d, d, d, d, d, d, d, .cell (.val .bool), d, d, d, d, .ali 100000 0, .cell (.val (.sl (.pair (.pair (.int .i64) (.sl (.int .i64))) .str))), d, d, d, .cell (.val (.int .i64)), .box 107300 [.val (.int .i64), .val (.sl (.int .i64)), .val .str], d, d, .box 107600 [.val (.int .i64), .val (.sl (.int .i64)), .val .str], d, d, d, d, d, d, d, d, d, d, d, d, d, d, d, d, d, d, d, d, d, d, d, d, d, d, d, d, d, d, d, d, d, d, d, d, d, d, d, d, d, d, d, d, d, d, d, d, d, d, d, d, d, d, d, d, d, d, d, d, d, d, d, d, d, d, d, d, d, d, d, d, d, d, .cell (.val (.sl (.pair (.pair (.int .i64) (.sl (.int .i64))) .str))), .cell (.val (.int .i64)), .cell (.val (.int .i64)), d, d, d, d, d, d, d, d, d, d, d, d, d, d, d, d, d, d, d, d, d, d, d, d, d, d, d, d, d, d, d, d, d, d, d, d, d, d])]
noncomputable def yc9 : (((List ((Int × (List Int)) × ByteArray)) × Bool × Unit) × ByteArray × (Int × (List Int) × Unit) × (List ((Int × (List Int)) × ByteArray)) × Int × Int × Bool × (List ((Int × (List Int)) × ByteArray)) × Int × (Int × (List Int) × ByteArray × Unit) × (Int × (List Int) × ByteArray × Unit) × (List ((Int × (List Int)) × ByteArray)) × Int × Int × Unit) → Option ((((List ((Int × (List Int)) × ByteArray)) × Bool × Unit) × ByteArray × (Int × (List Int) × Unit) × (List ((Int × (List Int)) × ByteArray)) × Int × Int × Bool × (List ((Int × (List Int)) × ByteArray)) × Int × (Int × (List Int) × ByteArray × Unit) × (Int × (List Int) × ByteArray × Unit) × (List ((Int × (List Int)) × ByteArray)) × Int × Int × Unit) ⊕ ((Bool × ((List ((Int × (List Int)) × ByteArray)) × Bool × Unit) × (List ((Int × (List Int)) × ByteArray)) × Int × (Int × (List Int) × ByteArray × Unit) × (Int × (List Int) × ByteArray × Unit) × (List ((Int × (List Int)) × ByteArray)) × Int × Int × Unit) ⊕ (((List ((Int × (List Int)) × ByteArray)) × Bool × Unit) × ByteArray × (Int × (List Int) × Unit) × Bool × (List ((Int × (List Int)) × ByteArray)) × Int × (Int × (List Int) × ByteArray × Unit) × (Int × (List Int) × ByteArray × Unit) × (List ((Int × (List Int)) × ByteArray)) × Int × Int × Unit))) := fun ((v0_0, v0_1, _), v2, (v4_0, v4_1, _), v11, v12, v13, v62, v68, v72, (v73_0, v73_1, v73_2, _), (v76_0, v76_1, v76_2, _), v151, v152, v153, _) =>
 bif (decide (v13 < v12)) then
  if (((0 : Int) ≤ v13) ∧ (v13 < (((List.length v11) : Nat) : Int))) then
   Option.bind (yq9 (List.getD v11 (Int.toNat v13) (((0 : Int), []), (⟨Array.empty⟩ : ByteArray))).1.2 (List.take (List.length v4_1) (List.drop 0 v4_1))) fun r0 =>
    bif r0 then
     if ((0 + (List.length v0_0)) = (List.length v0_0)) then
      some (Sum.inr (Sum.inl (v62, ((List.drop 0 v0_0), v0_1, ()), v68, v72, (v73_0, v73_1, v73_2, ()), (v76_0, v76_1, v76_2, ()), v151, v152, v153, ())))
     else
      none
    else
     if ((0 + (List.length v0_0)) = (List.length v0_0)) then
      some (Sum.inl (((List.drop 0 v0_0), v0_1, ()), v2, (v4_0, (List.take (List.length v4_1) (List.drop 0 v4_1)), ()), v11, v12, (IntKind.wrap .i64 (v13 + (1 : Int))), v62, v68, v72, (v73_0, v73_1, v73_2, ()), (v76_0, v76_1, v76_2, ()), v151, v152, v153, ()))
     else
      none
  else
   none
 else
  if ((0 + (List.length v0_0)) = (List.length v0_0)) then
   some (Sum.inr (Sum.inr (((List.drop 0 v0_0), v0_1, ()), v2, (v4_0, (List.take (List.length v4_1) (List.drop 0 v4_1)), ()), v62, v68, v72, (v73_0, v73_1, v73_2, ()), (v76_0, v76_1, v76_2, ()), v151, v152, v153, ())))
  else
   none
theorem y2g : ya6 61 zt6 zt7 (ya1 f118 2) y5q y5r = yc9 := by kernel_rfl
theorem zy3 {L} (h : L 2 = some ⟨61, y5q, y5r, yc9⟩) : yc0 prog L (ya1 f118 2) := lo y2g y5p ya0 h
noncomputable def y8f : Nat → Option LoopD := fun n => ifEq n 2 (some ⟨61, y5q, y5r, yc9⟩) (zt7 n)
def zt8 : List Fm := .box 100000 [.own (.pair (.pair (.int .i64) (.sl (.int .i64))) .str) 100001 true, .val .bool] :: .agg [.val (.int .i64), .own (.int .i64) 100102 false] :: .cell (.val .str) :: D 59 (.cell (.val .bool) :: D 4 (.ali 100000 0 :: .cell (.val (.sl (.pair (.pair (.int .i64) (.sl (.int .i64))) .str))) :: d :: d :: d :: .cell (.val (.int .i64)) :: .box 107300 [.val (.int .i64), .val (.sl (.int .i64)), .val .str] :: d :: d :: .box 107600 [.val (.int .i64), .val (.sl (.int .i64)), .val .str] :: D 74 (.cell (.val (.sl (.pair (.pair (.int .i64) (.sl (.int .i64))) .str))) :: .cell (.val (.int .i64)) :: .cell (.val (.int .i64)) :: D 38 [])))
def zt9 : List Fm := d :: .cell (.val .bool) :: D 4 (.box 100600 [.own (.pair (.pair (.int .i64) (.sl (.int .i64))) .str) 100601 true, .val .bool] :: .cell (.val (.sl (.pair (.pair (.int .i64) (.sl (.int .i64))) .str))) :: d :: d :: d :: .cell (.val (.int .i64)) :: .box 101200 [.val (.int .i64), .val (.sl (.int .i64)), .val .str] :: d :: d :: .box 101500 [.val (.int .i64), .val (.sl (.int .i64)), .val .str] :: D 74 (.cell (.val (.sl (.pair (.pair (.int .i64) (.sl (.int .i64))) .str))) :: .cell (.val (.int .i64)) :: .cell (.val (.int .i64)) :: D 38 []))
noncomputable def yk7 : (((List ((Int × (List Int)) × ByteArray)) × Bool × Unit) × (Int × (List Int) × Unit) × ByteArray × Bool × (List ((Int × (List Int)) × ByteArray)) × Int × (Int × (List Int) × ByteArray × Unit) × (Int × (List Int) × ByteArray × Unit) × (List ((Int × (List Int)) × ByteArray)) × Int × Int × Unit) → Option (Bool × ((List ((Int × (List Int)) × ByteArray)) × Bool × Unit) × (List ((Int × (List Int)) × ByteArray)) × Int × (Int × (List Int) × ByteArray × Unit) × (Int × (List Int) × ByteArray × Unit) × (List ((Int × (List Int)) × ByteArray)) × Int × Int × Unit) := fun ((v0_0, v0_1, _), (v1_0, v1_1, _), v2, v62, v68, v72, (v73_0, v73_1, v73_2, _), (v76_0, v76_1, v76_2, _), v151, v152, v153, _) =>
 if ((0 + (List.length v0_0)) = (List.length v0_0)) then
  Option.bind (ya4 yc9 (((List.drop 0 v0_0), v0_1, ()), v2, (v1_0, (List.take (List.length v1_1) (List.drop 0 v1_1)), ()), (List.take (List.length v0_0) (List.drop 0 v0_0)), (((List.length v0_0) : Nat) : Int), (0 : Int), v62, v68, v72, (v73_0, v73_1, v73_2, ()), (v76_0, v76_1, v76_2, ()), v151, v152, v153, ())) fun r0 =>
   (match r0 with
   | .inl (d1, (d2, d3, _), d4, d5, (d6, d7, d8, _), (d9, d10, d11, _), d12, d13, d14, _) =>
     if ((0 + (List.length d2)) = (List.length d2)) then
      some (d1, ((List.drop 0 d2), d3, ()), d4, d5, (d6, d7, d8, ()), (d9, d10, d11, ()), d12, d13, d14, ())
     else
      none
   | .inr ((d15, d16, _), d17, (d18, d19, _), d20, d21, d22, (d23, d24, d25, _), (d26, d27, d28, _), d29, d30, d31, _) =>
     bif d16 then
      if ((0 + (List.length d15)) = (List.length d15)) then
       some (d20, ((List.drop 0 d15), true, ()), d21, d22, (d23, d24, d25, ()), (d26, d27, d28, ()), d29, d30, d31, ())
      else
       none
     else
      bif (decide ((((List.length d15) : Nat) : Int) ≥ (120 : Int))) then
       if ((0 + (List.length d15)) = (List.length d15)) then
        some (d20, ((List.drop 0 d15), true, ()), d21, d22, (d23, d24, d25, ()), (d26, d27, d28, ()), d29, d30, d31, ())
       else
        none
      else
       bif (!(decide ((((ByteArray.size d17) : Nat) : Int) > (120 : Int)))) then
        if (((0 + (List.length d15)) = (List.length d15)) ∧ ((((List.length d15) + (List.length (List.take 1 (List.drop 0 [((d18, (List.take (List.length d19) (List.drop 0 d19))), d17)])))) * 48) ≤ 140737488355328)) then
         if ((0 + ((List.length d15) + (List.length (List.take 1 (List.drop 0 [((d18, (List.take (List.length d19) (List.drop 0 d19))), d17)]))))) = (List.length ((List.drop 0 d15) ++ (List.take 1 (List.drop 0 [((d18, (List.take (List.length d19) (List.drop 0 d19))), d17)]))))) then
          some (d20, ((List.drop 0 ((List.drop 0 d15) ++ (List.take 1 (List.drop 0 [((d18, (List.take (List.length d19) (List.drop 0 d19))), d17)])))), (decide ((((ByteArray.size d17) : Nat) : Int) > (120 : Int))), ()), d21, d22, (d23, d24, d25, ()), (d26, d27, d28, ()), d29, d30, d31, ())
         else
          none
        else
         none
       else
        if ((0 + (List.length d15)) = (List.length d15)) then
         some (d20, ((List.drop 0 d15), (decide ((((ByteArray.size d17) : Nat) : Int) > (120 : Int))), ()), d21, d22, (d23, d24, d25, ()), (d26, d27, d28, ()), d29, d30, d31, ())
        else
         none)
 else
  none
theorem y3v : y1v f118.ntmps 131 107 zt6 y8f f118.results.toList (ya2 f118) zt8 zt9 = yk7 := by kernel_rfl
noncomputable def z35 : CallD := ⟨f118.ntmps, zt8, 131, zt9, yk7, 0⟩
theorem z36 : y80 prog 107 118 z35 := y0k (ya9 yd4) y5p (L := y8f) func118 (by kernel_rfl) (c := ya2 f118) (by kernel_rfl) (yc6 (L := y8f) (ya9 yd4) y5p mixed (c := ya2 f118) (bs := [ya1 f118 2]) (by kernel_rfl) (yb4 (zy3 rfl) ya0) (by kernel_rfl)) (by kernel_rfl) (by kernel_rfl) y3v
noncomputable def zu0 : Env := ⟨ty0, fun g => ifEq g 71 (some A71) (ifEq g 117 (some A117) (ifEq g 133 (some A133) (ifEq g 119 (some A119) (ifEq g 120 (some A120) (ifEq g 121 (some A121) (none)))))), fun _ => none, fun _ => none, fun _ => none⟩
theorem y5s : FnsOk prog zu0 := (oF z0s func71 (oF zt2 func117 (oF zf0 func133 (oF zt3 func119 (oF zt5 func120 (oF zf1 func121 (yc1 _ _)))))))
noncomputable def zu1 : Nat → Option LoopD := fun _ => none
def y5t : List Fm := .box 100000 [.own (.pair (.pair (.int .i64) (.sl (.int .i64))) .str) 100001 true, .val .bool] :: d :: .cell (.val .str) :: d :: .box 100400 [.val (.int .i64), .own (.int .i64) 100402 false] :: D 6 (.cell (.val (.sl (.pair (.pair (.int .i64) (.sl (.int .i64))) .str))) :: .cell (.val (.int .i64)) :: .cell (.val (.int .i64)) :: D 48 (.cell (.val .bool) :: D 4 (.ali 100000 0 :: .cell (.val (.sl (.pair (.pair (.int .i64) (.sl (.int .i64))) .str))) :: d :: d :: d :: .cell (.val (.int .i64)) :: .box 107300 [.val (.int .i64), .val (.sl (.int .i64)), .val .str] :: D 77 (.cell (.val (.sl (.pair (.pair (.int .i64) (.sl (.int .i64))) .str))) :: .cell (.val (.int .i64)) :: .cell (.val (.int .i64)) :: D 38 []))))
def y5u : List (Ex × List Fm) := [(.ret, [d, d, d, d, d, d, d, d, d, d, d, d, d, d, d, d, d, d, d, d, d, d, d, d, d, d, d, d, d, d, d, d, d, d, d, d, d, d, d, d, d, d, d, d, d, d, d, d, d, d, d, d, d, d, d, d, d, d, d, d, d, d, .cell (.val .bool), d, d, d, d, .box 106700 [.own (.pair (.pair (.int .i64) (.sl (.int .i64))) .str) 106701 true, .val .bool], .cell (.val (.sl (.pair (.pair (.int .i64) (.sl (.int .i64))) .str))), d, d, d, .cell (.val (.int .i64)), .box 107300 [.val (.int .i64), .val (.sl (.int .i64)), .val .str], d, d, d, d, d, d, d, d, d, d, d, d, d, d, d, d, d, d, d, d, d, d, d, d, d, d, d, d, d, d, d, d, d, d, d, d, d, d, d, d, d, d, d, d, d, d, d, d, d, d, d, d, d, d, d, d, d, d, d, d, d, d, d, d, d, d, d, d, d, d, d, d, d, d, d, d, d, .cell (.val (.sl (.pair (.pair (.int .i64) (.sl (.int .i64))) .str))), .cell (.val (.int .i64)), .cell (.val (.int .i64)), d, d, d, d, d, d, d, d, d, d, d, d, d, d, d, d, d, d, d, d, d, d, d, d, d, d, d, d, d, d, d, d, d, d, d, d, d, d]), (.exit 0, [.box 100000 [.own (.pair (.pair (.int .i64) (.sl (.int .i64))) .str) 100001 true, .val .bool], d, .cell (.val .str), d, .box 100400 [.val (.int .i64), .own (.int .i64) 100402 false], d, d, d, d, d, d, d, d, d, d, d, d, d, d, d, d, d, d, d, d, d, d, d, d, d, d, d, d, d, d, d, d, d, d, d, d, d, d, d, d, d, d, d, d, d, d, d, d, d, d, d, d, d, d, d, d, d, .cell (.val .bool), d, d, d, d, .ali 100000 0, .cell (.val (.sl (.pair (.pair (.int .i64) (.sl (.int .i64))) .str))), d, d, d, .cell (.val (.int .i64)), .box 107300 [.val (.int .i64), .val (.sl (.int .i64)), .val .str], d, d, d, d, d, d, d, d, d, d, d, d, d, d, d, d, d, d, d, d, d, d, d, d, d, d, d, d, d, d, d, d, d, d, d, d, d, d, d, d, d, d, d, d, d, d, d, d, d, d, d, d, d, d, d, d, d, d, d, d, d, d, d, d, d, d, d, d, d, d, d, d, d, d, d, d, d, .cell (.val (.sl (.pair (.pair (.int .i64) (.sl (.int .i64))) .str))), .cell (.val (.int .i64)), .cell (.val (.int .i64)), d, d, d, d, d, d, d, d, d, d, d, d, d, d, d, d, d, d, d, d, d, d, d, d, d, d, d, d, d, d, d, d, d, d, d, d, d, d])]
noncomputable def yd0 : (((List ((Int × (List Int)) × ByteArray)) × Bool × Unit) × ByteArray × (Int × (List Int) × Unit) × (List ((Int × (List Int)) × ByteArray)) × Int × Int × Bool × (List ((Int × (List Int)) × ByteArray)) × Int × (Int × (List Int) × ByteArray × Unit) × (List ((Int × (List Int)) × ByteArray)) × Int × Int × Unit) → Option ((((List ((Int × (List Int)) × ByteArray)) × Bool × Unit) × ByteArray × (Int × (List Int) × Unit) × (List ((Int × (List Int)) × ByteArray)) × Int × Int × Bool × (List ((Int × (List Int)) × ByteArray)) × Int × (Int × (List Int) × ByteArray × Unit) × (List ((Int × (List Int)) × ByteArray)) × Int × Int × Unit) ⊕ ((Bool × ((List ((Int × (List Int)) × ByteArray)) × Bool × Unit) × (List ((Int × (List Int)) × ByteArray)) × Int × (Int × (List Int) × ByteArray × Unit) × (List ((Int × (List Int)) × ByteArray)) × Int × Int × Unit) ⊕ (((List ((Int × (List Int)) × ByteArray)) × Bool × Unit) × ByteArray × (Int × (List Int) × Unit) × Bool × (List ((Int × (List Int)) × ByteArray)) × Int × (Int × (List Int) × ByteArray × Unit) × (List ((Int × (List Int)) × ByteArray)) × Int × Int × Unit))) := fun ((v0_0, v0_1, _), v2, (v4_0, v4_1, _), v11, v12, v13, v62, v68, v72, (v73_0, v73_1, v73_2, _), v151, v152, v153, _) =>
 bif (decide (v13 < v12)) then
  if (((0 : Int) ≤ v13) ∧ (v13 < (((List.length v11) : Nat) : Int))) then
   Option.bind (yq9 (List.getD v11 (Int.toNat v13) (((0 : Int), []), (⟨Array.empty⟩ : ByteArray))).1.2 (List.take (List.length v4_1) (List.drop 0 v4_1))) fun r0 =>
    bif r0 then
     if ((0 + (List.length v0_0)) = (List.length v0_0)) then
      some (Sum.inr (Sum.inl (v62, ((List.drop 0 v0_0), v0_1, ()), v68, v72, (v73_0, v73_1, v73_2, ()), v151, v152, v153, ())))
     else
      none
    else
     if ((0 + (List.length v0_0)) = (List.length v0_0)) then
      some (Sum.inl (((List.drop 0 v0_0), v0_1, ()), v2, (v4_0, (List.take (List.length v4_1) (List.drop 0 v4_1)), ()), v11, v12, (IntKind.wrap .i64 (v13 + (1 : Int))), v62, v68, v72, (v73_0, v73_1, v73_2, ()), v151, v152, v153, ()))
     else
      none
  else
   none
 else
  if ((0 + (List.length v0_0)) = (List.length v0_0)) then
   some (Sum.inr (Sum.inr (((List.drop 0 v0_0), v0_1, ()), v2, (v4_0, (List.take (List.length v4_1) (List.drop 0 v4_1)), ()), v62, v68, v72, (v73_0, v73_1, v73_2, ()), v151, v152, v153, ())))
  else
   none
theorem y2h : ya6 61 zu0 zu1 (ya1 f118 2) y5t y5u = yd0 := by kernel_rfl
theorem zy4 {L} (h : L 2 = some ⟨61, y5t, y5u, yd0⟩) : yc0 prog L (ya1 f118 2) := lo y2h y5s ya0 h
noncomputable def y8g : Nat → Option LoopD := fun n => ifEq n 2 (some ⟨61, y5t, y5u, yd0⟩) (zu1 n)
def zu2 : List Fm := .box 100000 [.own (.pair (.pair (.int .i64) (.sl (.int .i64))) .str) 100001 true, .val .bool] :: .agg [.val (.int .i64), .own (.int .i64) 100102 false] :: .cell (.val .str) :: D 59 (.cell (.val .bool) :: D 4 (.ali 100000 0 :: .cell (.val (.sl (.pair (.pair (.int .i64) (.sl (.int .i64))) .str))) :: d :: d :: d :: .cell (.val (.int .i64)) :: .box 107300 [.val (.int .i64), .val (.sl (.int .i64)), .val .str] :: D 77 (.cell (.val (.sl (.pair (.pair (.int .i64) (.sl (.int .i64))) .str))) :: .cell (.val (.int .i64)) :: .cell (.val (.int .i64)) :: D 38 [])))
def zu3 : List Fm := d :: .cell (.val .bool) :: D 4 (.box 100600 [.own (.pair (.pair (.int .i64) (.sl (.int .i64))) .str) 100601 true, .val .bool] :: .cell (.val (.sl (.pair (.pair (.int .i64) (.sl (.int .i64))) .str))) :: d :: d :: d :: .cell (.val (.int .i64)) :: .box 101200 [.val (.int .i64), .val (.sl (.int .i64)), .val .str] :: D 77 (.cell (.val (.sl (.pair (.pair (.int .i64) (.sl (.int .i64))) .str))) :: .cell (.val (.int .i64)) :: .cell (.val (.int .i64)) :: D 38 []))
noncomputable def yk8 : (((List ((Int × (List Int)) × ByteArray)) × Bool × Unit) × (Int × (List Int) × Unit) × ByteArray × Bool × (List ((Int × (List Int)) × ByteArray)) × Int × (Int × (List Int) × ByteArray × Unit) × (List ((Int × (List Int)) × ByteArray)) × Int × Int × Unit) → Option (Bool × ((List ((Int × (List Int)) × ByteArray)) × Bool × Unit) × (List ((Int × (List Int)) × ByteArray)) × Int × (Int × (List Int) × ByteArray × Unit) × (List ((Int × (List Int)) × ByteArray)) × Int × Int × Unit) := fun ((v0_0, v0_1, _), (v1_0, v1_1, _), v2, v62, v68, v72, (v73_0, v73_1, v73_2, _), v151, v152, v153, _) =>
 if ((0 + (List.length v0_0)) = (List.length v0_0)) then
  Option.bind (ya4 yd0 (((List.drop 0 v0_0), v0_1, ()), v2, (v1_0, (List.take (List.length v1_1) (List.drop 0 v1_1)), ()), (List.take (List.length v0_0) (List.drop 0 v0_0)), (((List.length v0_0) : Nat) : Int), (0 : Int), v62, v68, v72, (v73_0, v73_1, v73_2, ()), v151, v152, v153, ())) fun r0 =>
   (match r0 with
   | .inl (d1, (d2, d3, _), d4, d5, (d6, d7, d8, _), d9, d10, d11, _) =>
     if ((0 + (List.length d2)) = (List.length d2)) then
      some (d1, ((List.drop 0 d2), d3, ()), d4, d5, (d6, d7, d8, ()), d9, d10, d11, ())
     else
      none
   | .inr ((d12, d13, _), d14, (d15, d16, _), d17, d18, d19, (d20, d21, d22, _), d23, d24, d25, _) =>
     bif d13 then
      if ((0 + (List.length d12)) = (List.length d12)) then
       some (d17, ((List.drop 0 d12), true, ()), d18, d19, (d20, d21, d22, ()), d23, d24, d25, ())
      else
       none
     else
      bif (decide ((((List.length d12) : Nat) : Int) ≥ (120 : Int))) then
       if ((0 + (List.length d12)) = (List.length d12)) then
        some (d17, ((List.drop 0 d12), true, ()), d18, d19, (d20, d21, d22, ()), d23, d24, d25, ())
       else
        none
      else
       bif (!(decide ((((ByteArray.size d14) : Nat) : Int) > (120 : Int)))) then
        if (((0 + (List.length d12)) = (List.length d12)) ∧ ((((List.length d12) + (List.length (List.take 1 (List.drop 0 [((d15, (List.take (List.length d16) (List.drop 0 d16))), d14)])))) * 48) ≤ 140737488355328)) then
         if ((0 + ((List.length d12) + (List.length (List.take 1 (List.drop 0 [((d15, (List.take (List.length d16) (List.drop 0 d16))), d14)]))))) = (List.length ((List.drop 0 d12) ++ (List.take 1 (List.drop 0 [((d15, (List.take (List.length d16) (List.drop 0 d16))), d14)]))))) then
          some (d17, ((List.drop 0 ((List.drop 0 d12) ++ (List.take 1 (List.drop 0 [((d15, (List.take (List.length d16) (List.drop 0 d16))), d14)])))), (decide ((((ByteArray.size d14) : Nat) : Int) > (120 : Int))), ()), d18, d19, (d20, d21, d22, ()), d23, d24, d25, ())
         else
          none
        else
         none
       else
        if ((0 + (List.length d12)) = (List.length d12)) then
         some (d17, ((List.drop 0 d12), (decide ((((ByteArray.size d14) : Nat) : Int) > (120 : Int))), ()), d18, d19, (d20, d21, d22, ()), d23, d24, d25, ())
        else
         none)
 else
  none
theorem y3w : y1v f118.ntmps 131 120 zu0 y8g f118.results.toList (ya2 f118) zu2 zu3 = yk8 := by kernel_rfl
noncomputable def z38 : CallD := ⟨f118.ntmps, zu2, 131, zu3, yk8, 0⟩
theorem z39 : y80 prog 120 118 z38 := y0k (ya9 yd4) y5s (L := y8g) func118 (by kernel_rfl) (c := ya2 f118) (by kernel_rfl) (yc6 (L := y8g) (ya9 yd4) y5s mixed (c := ya2 f118) (bs := [ya1 f118 2]) (by kernel_rfl) (yb4 (zy4 rfl) ya0) (by kernel_rfl)) (by kernel_rfl) (by kernel_rfl) y3w
noncomputable def E90 : Env := ⟨ty0, fun g => ifEq g 71 (some A71) (ifEq g 117 (some A117) (ifEq g 133 (some A133) (ifEq g 119 (some A119) (ifEq g 120 (some A120) (ifEq g 121 (some A121) (none)))))), fun _ => none, fun _ => none, fun d => ifI (Nat.beq d 39) (some (118, z79)) (ifI (Nat.beq d 78) (some (118, z8a)) (ifI (Nat.beq d 107) (some (118, z35)) (ifI (Nat.beq d 120) (some (118, z38)) (none))))⟩
theorem z8b : FnsOk prog E90 := (zx0 (d0 := 39) (g0 := 118) z6i (zx0 (d0 := 78) (g0 := 118) z6j (zx0 (d0 := 107) (g0 := 118) z36 (zx0 (d0 := 120) (g0 := 118) z39 (oF z0s func71 (oF zt2 func117 (oF zf0 func133 (oF zt3 func119 (oF zt5 func120 (oF zf1 func121 (yc1 _ _)))))))))))
noncomputable def L90_0 : Nat → Option LoopD := fun _ => none
def kn9 : List Fm := d :: .cell (.val .bool) :: .box 100200 [.val (.int .i64), .val (.sl (.int .i64)), .val (.sl (.int .i64)), .val (.sl (.pair (.int .i64) (.pair .str (.pair (.int .i64) (.int .i64)))))] :: d :: d :: d :: .box 100600 [.own (.pair (.pair (.int .i64) (.sl (.int .i64))) .str) 100601 true, .val .bool] :: .cell (.own (.pair (.pair (.int .i64) (.sl (.int .i64))) .str) 100700 false) :: D 12 (.cell (.own .str 102000 false) :: .cell (.val (.int .i64)) :: .cell (.val (.int .i64)) :: D 108 [])
def ko0 : List (Ex × List Fm) := [(.exit 0, [d, .cell (.val .bool), d, d, d, d, .box 100600 [.own (.pair (.pair (.int .i64) (.sl (.int .i64))) .str) 100601 true, .val .bool], .cell (.own (.pair (.pair (.int .i64) (.sl (.int .i64))) .str) 100700 false), d, d, d, d, d, d, d, d, d, d, d, d, d, d, d, d, d, d, d, d, d, d, d, d, d, d, d, d, d, d, d, d, d, d, d, d, d, d, d, d, d, d, d, d, d, d, d, d, d, d, d, d, d, d, d, d, d, d, d, d, d, d, d, d, d, d, d, d, d, d, d, d, d, d, d, d, d, d, d, d, d, d, d, d, d, d, d, d, d, d, d, d, d, d, d, d, d, d, d, d, d, d, d, d, d, d, d, d, d, d, d, d, d, d, d, d, d, d, d, d, d, d, d])]
noncomputable def yf4 : (Bool × (Int × (List Int) × (List Int) × (List (Int × (ByteArray × (Int × Int)))) × Unit) × ((List ((Int × (List Int)) × ByteArray)) × Bool × Unit) × (List ((Int × (List Int)) × ByteArray)) × (List ByteArray) × Int × Int × Unit) → Option ((Bool × (Int × (List Int) × (List Int) × (List (Int × (ByteArray × (Int × Int)))) × Unit) × ((List ((Int × (List Int)) × ByteArray)) × Bool × Unit) × (List ((Int × (List Int)) × ByteArray)) × (List ByteArray) × Int × Int × Unit) ⊕ ((Bool × ((List ((Int × (List Int)) × ByteArray)) × Bool × Unit) × (List ((Int × (List Int)) × ByteArray)) × Unit))) := fun (v1, (v2_0, v2_1, v2_2, v2_3, _), (v6_0, v6_1, _), v7, v20, v21, v22, _) =>
 bif (decide (v22 < v21)) then
  if (((0 : Int) ≤ v22) ∧ (v22 < (((List.length v20) : Nat) : Int))) then
   Option.bind (yi4 (v2_0, v2_1, v2_2, v2_3) (List.getD v20 (0 + (Int.toNat v22)) (⟨Array.empty⟩ : ByteArray))) fun (r0, r1) =>
    Option.bind (yt9 (r0, (List.take (List.length r1) (List.drop 0 r1)))) fun (r2, r3) =>
     if (((0 + (List.length v7)) = (List.length v7)) ∧ ((((List.length v7) + (List.length (List.take 1 (List.drop 0 [((r2, (List.take (List.length r3) (List.drop 0 r3))), (List.getD v20 (0 + (Int.toNat v22)) (⟨Array.empty⟩ : ByteArray)))])))) * 48) ≤ 140737488355328)) then
      if ((0 + (List.length v6_0)) = (List.length v6_0)) then
       Option.bind (yl9 (((List.drop 0 v6_0), v6_1, ()), (r2, (List.take (List.length r3) (List.drop 0 r3))), (List.getD v20 (0 + (Int.toNat v22)) (⟨Array.empty⟩ : ByteArray)), v1, (v2_0, v2_1, v2_2, v2_3, ()), (List.take ((List.length v7) + (List.length (List.take 1 (List.drop 0 [((r2, (List.take (List.length r3) (List.drop 0 r3))), (List.getD v20 (0 + (Int.toNat v22)) (⟨Array.empty⟩ : ByteArray)))])))) (List.drop 0 ((List.drop 0 v7) ++ (List.take 1 (List.drop 0 [((r2, (List.take (List.length r3) (List.drop 0 r3))), (List.getD v20 (0 + (Int.toNat v22)) (⟨Array.empty⟩ : ByteArray)))]))))), (List.take (List.length v20) (List.drop 0 v20)), v21, v22, ())) fun (r4, (r5, r6, r7, r8, _), (r9, r10, _), r11, r12, r13, r14, _) =>
        if ((0 + (List.length r9)) = (List.length r9)) then
         some (Sum.inl (r4, (r5, r6, r7, r8, ()), ((List.drop 0 r9), r10, ()), (List.take (List.length r11) (List.drop 0 r11)), (List.take (List.length r12) (List.drop 0 r12)), r13, (IntKind.wrap .i64 (r14 + (1 : Int))), ()))
        else
         none
      else
       none
     else
      none
  else
   none
 else
  if ((0 + (List.length v6_0)) = (List.length v6_0)) then
   some (Sum.inr (v1, ((List.drop 0 v6_0), v6_1, ()), (List.take (List.length v7) (List.drop 0 v7)), ()))
  else
   none
theorem y5v : ya6 131 E90 L90_0 (ya1 f90 4) kn9 ko0 = yf4 := by kernel_rfl
theorem kz3 {L} (h : L 4 = some ⟨131, kn9, ko0, yf4⟩) : yc0 prog L (ya1 f90 4) := lo y5v z8b ya0 h
noncomputable def L90_1 : Nat → Option LoopD := fun n => ifEq n 4 (some ⟨131, kn9, ko0, yf4⟩) (L90_0 n)
def z6k : List Fm := d :: .cell (.val .bool) :: D 4 (.box 100600 [.own (.pair (.pair (.int .i64) (.sl (.int .i64))) .str) 100601 true, .val .bool] :: .cell (.val (.sl (.pair (.pair (.int .i64) (.sl (.int .i64))) .str))) :: d :: d :: d :: .cell (.val (.int .i64)) :: .box 101200 [.val (.int .i64), .val (.sl (.int .i64)), .val .str] :: D 77 (.cell (.val (.sl (.pair (.pair (.int .i64) (.sl (.int .i64))) .str))) :: .cell (.val (.int .i64)) :: .cell (.val (.int .i64)) :: D 38 []))
def z6l : List (Ex × List Fm) := [(.exit 4, [d, .cell (.val .bool), d, d, d, d, .box 100600 [.own (.pair (.pair (.int .i64) (.sl (.int .i64))) .str) 100601 true, .val .bool], .cell (.val (.sl (.pair (.pair (.int .i64) (.sl (.int .i64))) .str))), d, d, d, .cell (.val (.int .i64)), d, d, d, d, d, d, d, d, d, d, d, d, d, d, d, d, d, d, d, d, d, d, d, d, d, d, d, d, d, d, d, d, d, d, d, d, d, d, d, d, d, d, d, d, d, d, d, d, d, d, d, d, d, d, d, d, d, d, d, d, d, d, d, d, d, d, d, d, d, d, d, d, d, d, d, d, d, d, d, d, d, d, d, d, d, d, d, d, d, d, d, d, d, d, d, d, d, d, d, d, d, d, d, d, d, d, d, d, d, d, d, d, d, d, d, d, d, d, d])]
noncomputable def yb6 : (Bool × ((List ((Int × (List Int)) × ByteArray)) × Bool × Unit) × (List ((Int × (List Int)) × ByteArray)) × Int × (Int × (List Int) × ByteArray × Unit) × (List ((Int × (List Int)) × ByteArray)) × Int × Int × Unit) → Option ((Bool × ((List ((Int × (List Int)) × ByteArray)) × Bool × Unit) × (List ((Int × (List Int)) × ByteArray)) × Int × (Int × (List Int) × ByteArray × Unit) × (List ((Int × (List Int)) × ByteArray)) × Int × Int × Unit) ⊕ ((Bool × ((List ((Int × (List Int)) × ByteArray)) × Bool × Unit) × (List ((Int × (List Int)) × ByteArray)) × Int × Unit))) := fun (v1, (v6_0, v6_1, _), v7, v11, (v12_0, v12_1, v12_2, _), v90, v91, v92, _) =>
 bif (decide (v92 < v91)) then
  if (((0 : Int) ≤ v92) ∧ (v92 < (((List.length v90) : Nat) : Int))) then
   Option.bind (y0f (v12_0, v12_1) ((List.getD v90 (Int.toNat v92) (((0 : Int), []), (⟨Array.empty⟩ : ByteArray))).1.1, (List.getD v90 (Int.toNat v92) (((0 : Int), []), (⟨Array.empty⟩ : ByteArray))).1.2)) fun (r0, r1) =>
    if (((ByteArray.size v12_2) + (ByteArray.size (List.getD v90 (Int.toNat v92) (((0 : Int), []), (⟨Array.empty⟩ : ByteArray))).2)) ≤ 9223372036854775807) then
     if ((0 + (List.length v6_0)) = (List.length v6_0)) then
      Option.bind (yk7 (((List.drop 0 v6_0), v6_1, ()), (r0, (List.take (List.length r1) (List.drop 0 r1)), ()), (v12_2 ++ (List.getD v90 (Int.toNat v92) (((0 : Int), []), (⟨Array.empty⟩ : ByteArray))).2), v1, v7, v11, (v12_0, v12_1, v12_2, ()), ((List.getD v90 (Int.toNat v92) (((0 : Int), []), (⟨Array.empty⟩ : ByteArray))).1.1, (List.getD v90 (Int.toNat v92) (((0 : Int), []), (⟨Array.empty⟩ : ByteArray))).1.2, (List.getD v90 (Int.toNat v92) (((0 : Int), []), (⟨Array.empty⟩ : ByteArray))).2, ()), v90, v91, v92, ())) fun (r2, (r3, r4, _), r5, r6, (r7, r8, r9, _), (r10, r11, r12, _), r13, r14, r15, _) =>
       bif r2 then
        Option.bind (y0f (r10, r11) (r7, r8)) fun (r16, r17) =>
         if (((ByteArray.size r12) + (ByteArray.size r9)) ≤ 9223372036854775807) then
          if ((0 + (List.length r3)) = (List.length r3)) then
           Option.bind (yk8 (((List.drop 0 r3), r4, ()), (r16, (List.take (List.length r17) (List.drop 0 r17)), ()), (r12 ++ r9), r2, r5, r6, (r7, r8, r9, ()), r13, r14, r15, ())) fun (r18, (r19, r20, _), r21, r22, (r23, r24, r25, _), r26, r27, r28, _) =>
            if ((0 + (List.length r19)) = (List.length r19)) then
             some (Sum.inl (r18, ((List.drop 0 r19), r20, ()), r21, r22, (r23, r24, r25, ()), r26, r27, (IntKind.wrap .i64 (r28 + (1 : Int))), ()))
            else
             none
          else
           none
         else
          none
       else
        if ((0 + (List.length r3)) = (List.length r3)) then
         some (Sum.inl (r2, ((List.drop 0 r3), r4, ()), r5, r6, (r7, r8, r9, ()), r13, r14, (IntKind.wrap .i64 (r15 + (1 : Int))), ()))
        else
         none
     else
      none
    else
     none
  else
   none
 else
  if ((0 + (List.length v6_0)) = (List.length v6_0)) then
   some (Sum.inr (v1, ((List.drop 0 v6_0), v6_1, ()), v7, v11, ()))
  else
   none
theorem y41 : ya6 131 E90 L90_1 (ya1 f90 20) z6k z6l = yb6 := by kernel_rfl
theorem ko1 {L} (h : L 20 = some ⟨131, z6k, z6l, yb6⟩) : yc0 prog L (ya1 f90 20) := lo y41 z8b ya0 h
noncomputable def L90_2 : Nat → Option LoopD := fun n => ifEq n 20 (some ⟨131, z6k, z6l, yb6⟩) (L90_1 n)
def z6m : List Fm := d :: .cell (.val .bool) :: D 4 (.box 100600 [.own (.pair (.pair (.int .i64) (.sl (.int .i64))) .str) 100601 true, .val .bool] :: .cell (.val (.sl (.pair (.pair (.int .i64) (.sl (.int .i64))) .str))) :: d :: d :: d :: .cell (.val (.int .i64)) :: D 119 [])
def z6n : List (Ex × List Fm) := [(.exit 2, [d, d, d, d, d, d, .box 100600 [.val (.sl (.pair (.pair (.int .i64) (.sl (.int .i64))) .str)), .val .bool], d, d, d, d, d, d, d, d, d, d, d, d, d, d, d, d, d, d, d, d, d, d, d, d, d, d, d, d, d, d, d, d, d, d, d, d, d, d, d, d, d, d, d, d, d, d, d, d, d, d, d, d, d, d, d, d, d, d, d, d, d, d, d, d, d, d, d, d, d, d, d, d, d, d, d, d, d, d, d, d, d, d, d, d, d, d, d, d, d, d, d, d, d, d, d, d, d, d, d, d, d, d, d, d, d, d, d, d, d, d, d, d, d, d, d, d, d, d, d, d, d, d, d, d])]
noncomputable def yb7 : (Bool × ((List ((Int × (List Int)) × ByteArray)) × Bool × Unit) × (List ((Int × (List Int)) × ByteArray)) × Int × Unit) → Option ((Bool × ((List ((Int × (List Int)) × ByteArray)) × Bool × Unit) × (List ((Int × (List Int)) × ByteArray)) × Int × Unit) ⊕ ((((List ((Int × (List Int)) × ByteArray)) × Bool × Unit) × Unit))) := fun (v1, (v6_0, v6_1, _), v7, v11, _) =>
 bif (decide (v11 < (((List.length v6_0) : Nat) : Int))) then
  bif (!v6_1) then
   if (((0 : Int) ≤ v11) ∧ (v11 < (((List.length v6_0) : Nat) : Int))) then
    bif v1 then
     Option.bind (yq1 ((List.getD v6_0 (0 + (Int.toNat v11)) (((0 : Int), []), (⟨Array.empty⟩ : ByteArray))).1.1, (List.getD v6_0 (0 + (Int.toNat v11)) (((0 : Int), []), (⟨Array.empty⟩ : ByteArray))).1.2)) fun r0 =>
      bif r0 then
       Option.bind (yy4 ((List.getD v6_0 (0 + (Int.toNat v11)) (((0 : Int), []), (⟨Array.empty⟩ : ByteArray))).1.1, (List.getD v6_0 (0 + (Int.toNat v11)) (((0 : Int), []), (⟨Array.empty⟩ : ByteArray))).1.2)) fun (r1, r2) =>
        if (((ByteArray.size (⟨#[(40 : UInt8)]⟩ : ByteArray)) + (ByteArray.size (List.getD v6_0 (0 + (Int.toNat v11)) (((0 : Int), []), (⟨Array.empty⟩ : ByteArray))).2)) ≤ 9223372036854775807) then
         if (((ByteArray.size ((⟨#[(40 : UInt8)]⟩ : ByteArray) ++ (List.getD v6_0 (0 + (Int.toNat v11)) (((0 : Int), []), (⟨Array.empty⟩ : ByteArray))).2)) + (ByteArray.size (⟨#[(41 : UInt8), (35 : UInt8)]⟩ : ByteArray))) ≤ 9223372036854775807) then
          if ((0 + (List.length v6_0)) = (List.length v6_0)) then
           Option.bind (yi5 (((List.drop 0 v6_0), v6_1, ()), (r1, (List.take (List.length r2) (List.drop 0 r2)), ()), (((⟨#[(40 : UInt8)]⟩ : ByteArray) ++ (List.getD v6_0 (0 + (Int.toNat v11)) (((0 : Int), []), (⟨Array.empty⟩ : ByteArray))).2) ++ (⟨#[(41 : UInt8), (35 : UInt8)]⟩ : ByteArray)), v1, v7, v11, ((List.getD v6_0 (0 + (Int.toNat v11)) (((0 : Int), []), (⟨Array.empty⟩ : ByteArray))).1.1, (List.getD v6_0 (0 + (Int.toNat v11)) (((0 : Int), []), (⟨Array.empty⟩ : ByteArray))).1.2, (List.getD v6_0 (0 + (Int.toNat v11)) (((0 : Int), []), (⟨Array.empty⟩ : ByteArray))).2, ()), ())) fun (r3, (r4, r5, _), r6, r7, (r8, r9, r10, _), _) =>
            bif r3 then
             if (((0 : Int) ≤ (IntKind.wrap .i64 (r7 + (1 : Int)))) ∧ ((IntKind.wrap .i64 (r7 + (1 : Int))) ≤ (((List.length r4) : Nat) : Int))) then
              if (((0 + 0) = (List.length ([] : List Unit))) ∧ (((0 + (List.length (List.take ((Int.toNat (IntKind.wrap .i64 (r7 + (1 : Int)))) - 0) (List.drop (0 + 0) r4)))) * 48) ≤ 140737488355328)) then
               if ((0 + (List.length r4)) = (List.length r4)) then
                Option.bind (ya4 yb6 (r3, ((List.drop 0 r4), r5, ()), r6, r7, (r8, r9, r10, ()), (List.take (0 + (List.length (List.take ((Int.toNat (IntKind.wrap .i64 (r7 + (1 : Int)))) - 0) (List.drop (0 + 0) r4)))) (List.drop 0 ((List.drop 0 []) ++ (List.take ((Int.toNat (IntKind.wrap .i64 (r7 + (1 : Int)))) - 0) (List.drop (0 + 0) r4))))), (((0 + (List.length (List.take ((Int.toNat (IntKind.wrap .i64 (r7 + (1 : Int)))) - 0) (List.drop (0 + 0) r4)))) : Nat) : Int), (0 : Int), ())) fun (r11, (r12, r13, _), r14, r15, _) =>
                 if ((0 + (List.length r12)) = (List.length r12)) then
                  some (Sum.inl (r11, ((List.drop 0 r12), r13, ()), r14, (IntKind.wrap .i64 (r15 + (1 : Int))), ()))
                 else
                  none
               else
                none
              else
               none
             else
              none
            else
             if ((0 + (List.length r4)) = (List.length r4)) then
              Option.bind (ya4 yb6 (r3, ((List.drop 0 r4), r5, ()), r6, r7, (r8, r9, r10, ()), r6, (((List.length r6) : Nat) : Int), (0 : Int), ())) fun (r16, (r17, r18, _), r19, r20, _) =>
               if ((0 + (List.length r17)) = (List.length r17)) then
                some (Sum.inl (r16, ((List.drop 0 r17), r18, ()), r19, (IntKind.wrap .i64 (r20 + (1 : Int))), ()))
               else
                none
             else
              none
          else
           none
         else
          none
        else
         none
      else
       bif v1 then
        if (((0 : Int) ≤ (IntKind.wrap .i64 (v11 + (1 : Int)))) ∧ ((IntKind.wrap .i64 (v11 + (1 : Int))) ≤ (((List.length v6_0) : Nat) : Int))) then
         if (((0 + 0) = (List.length ([] : List Unit))) ∧ (((0 + (List.length (List.take ((Int.toNat (IntKind.wrap .i64 (v11 + (1 : Int)))) - 0) (List.drop (0 + 0) v6_0)))) * 48) ≤ 140737488355328)) then
          if ((0 + (List.length v6_0)) = (List.length v6_0)) then
           Option.bind (ya4 yb6 (v1, ((List.drop 0 v6_0), v6_1, ()), v7, v11, ((List.getD v6_0 (0 + (Int.toNat v11)) (((0 : Int), []), (⟨Array.empty⟩ : ByteArray))).1.1, (List.getD v6_0 (0 + (Int.toNat v11)) (((0 : Int), []), (⟨Array.empty⟩ : ByteArray))).1.2, (List.getD v6_0 (0 + (Int.toNat v11)) (((0 : Int), []), (⟨Array.empty⟩ : ByteArray))).2, ()), (List.take (0 + (List.length (List.take ((Int.toNat (IntKind.wrap .i64 (v11 + (1 : Int)))) - 0) (List.drop (0 + 0) v6_0)))) (List.drop 0 ((List.drop 0 []) ++ (List.take ((Int.toNat (IntKind.wrap .i64 (v11 + (1 : Int)))) - 0) (List.drop (0 + 0) v6_0))))), (((0 + (List.length (List.take ((Int.toNat (IntKind.wrap .i64 (v11 + (1 : Int)))) - 0) (List.drop (0 + 0) v6_0)))) : Nat) : Int), (0 : Int), ())) fun (r21, (r22, r23, _), r24, r25, _) =>
            if ((0 + (List.length r22)) = (List.length r22)) then
             some (Sum.inl (r21, ((List.drop 0 r22), r23, ()), r24, (IntKind.wrap .i64 (r25 + (1 : Int))), ()))
            else
             none
          else
           none
         else
          none
        else
         none
       else
        if ((0 + (List.length v6_0)) = (List.length v6_0)) then
         Option.bind (ya4 yb6 (v1, ((List.drop 0 v6_0), v6_1, ()), v7, v11, ((List.getD v6_0 (0 + (Int.toNat v11)) (((0 : Int), []), (⟨Array.empty⟩ : ByteArray))).1.1, (List.getD v6_0 (0 + (Int.toNat v11)) (((0 : Int), []), (⟨Array.empty⟩ : ByteArray))).1.2, (List.getD v6_0 (0 + (Int.toNat v11)) (((0 : Int), []), (⟨Array.empty⟩ : ByteArray))).2, ()), v7, (((List.length v7) : Nat) : Int), (0 : Int), ())) fun (r26, (r27, r28, _), r29, r30, _) =>
          if ((0 + (List.length r27)) = (List.length r27)) then
           some (Sum.inl (r26, ((List.drop 0 r27), r28, ()), r29, (IntKind.wrap .i64 (r30 + (1 : Int))), ()))
          else
           none
        else
         none
    else
     bif v1 then
      if (((0 : Int) ≤ (IntKind.wrap .i64 (v11 + (1 : Int)))) ∧ ((IntKind.wrap .i64 (v11 + (1 : Int))) ≤ (((List.length v6_0) : Nat) : Int))) then
       if (((0 + 0) = (List.length ([] : List Unit))) ∧ (((0 + (List.length (List.take ((Int.toNat (IntKind.wrap .i64 (v11 + (1 : Int)))) - 0) (List.drop (0 + 0) v6_0)))) * 48) ≤ 140737488355328)) then
        if ((0 + (List.length v6_0)) = (List.length v6_0)) then
         Option.bind (ya4 yb6 (v1, ((List.drop 0 v6_0), v6_1, ()), v7, v11, ((List.getD v6_0 (0 + (Int.toNat v11)) (((0 : Int), []), (⟨Array.empty⟩ : ByteArray))).1.1, (List.getD v6_0 (0 + (Int.toNat v11)) (((0 : Int), []), (⟨Array.empty⟩ : ByteArray))).1.2, (List.getD v6_0 (0 + (Int.toNat v11)) (((0 : Int), []), (⟨Array.empty⟩ : ByteArray))).2, ()), (List.take (0 + (List.length (List.take ((Int.toNat (IntKind.wrap .i64 (v11 + (1 : Int)))) - 0) (List.drop (0 + 0) v6_0)))) (List.drop 0 ((List.drop 0 []) ++ (List.take ((Int.toNat (IntKind.wrap .i64 (v11 + (1 : Int)))) - 0) (List.drop (0 + 0) v6_0))))), (((0 + (List.length (List.take ((Int.toNat (IntKind.wrap .i64 (v11 + (1 : Int)))) - 0) (List.drop (0 + 0) v6_0)))) : Nat) : Int), (0 : Int), ())) fun (r31, (r32, r33, _), r34, r35, _) =>
          if ((0 + (List.length r32)) = (List.length r32)) then
           some (Sum.inl (r31, ((List.drop 0 r32), r33, ()), r34, (IntKind.wrap .i64 (r35 + (1 : Int))), ()))
          else
           none
        else
         none
       else
        none
      else
       none
     else
      if ((0 + (List.length v6_0)) = (List.length v6_0)) then
       Option.bind (ya4 yb6 (v1, ((List.drop 0 v6_0), v6_1, ()), v7, v11, ((List.getD v6_0 (0 + (Int.toNat v11)) (((0 : Int), []), (⟨Array.empty⟩ : ByteArray))).1.1, (List.getD v6_0 (0 + (Int.toNat v11)) (((0 : Int), []), (⟨Array.empty⟩ : ByteArray))).1.2, (List.getD v6_0 (0 + (Int.toNat v11)) (((0 : Int), []), (⟨Array.empty⟩ : ByteArray))).2, ()), v7, (((List.length v7) : Nat) : Int), (0 : Int), ())) fun (r36, (r37, r38, _), r39, r40, _) =>
        if ((0 + (List.length r37)) = (List.length r37)) then
         some (Sum.inl (r36, ((List.drop 0 r37), r38, ()), r39, (IntKind.wrap .i64 (r40 + (1 : Int))), ()))
        else
         none
      else
       none
   else
    none
  else
   some (Sum.inr (((List.take (List.length v6_0) (List.drop 0 v6_0)), v6_1, ()), ()))
 else
  some (Sum.inr (((List.take (List.length v6_0) (List.drop 0 v6_0)), v6_1, ()), ()))
theorem y42 : ya6 131 E90 L90_2 (ya1 f90 11) z6m z6n = yb7 := by kernel_rfl
theorem ko2 {L} (h : L 11 = some ⟨131, z6m, z6n, yb7⟩) : yc0 prog L (ya1 f90 11) := lo y42 z8b (yb4 (ko1 rfl) ya0) h
noncomputable def L90_3 : Nat → Option LoopD := fun n => ifEq n 11 (some ⟨131, z6m, z6n, yb7⟩) (L90_2 n)
noncomputable def yt2 : (Int × ((List Int) × ((List Int) × (List (Int × (ByteArray × (Int × Int))))))) → Bool → Option ((List ((Int × (List Int)) × ByteArray)) × Bool) := fun (a0_0, a0_1, a0_2, a0_3) a1 =>
 if ((0 + 0) = (List.length ([] : List Unit))) then
  Option.bind (ya4 yf4 (a1, (a0_0, a0_1, a0_2, a0_3, ()), ((List.drop 0 []), false, ()), (List.take 0 (List.drop 0 [])), (List.take 2 (List.drop 0 [(⟨#[(97 : UInt8)]⟩ : ByteArray), (⟨#[(98 : UInt8)]⟩ : ByteArray)])), ((2 : Nat) : Int), (0 : Int), ())) fun (r0, (r1, r2, _), r3, _) =>
   if ((0 + (List.length r1)) = (List.length r1)) then
    Option.bind (ya4 yb7 (r0, ((List.drop 0 r1), r2, ()), (List.take (List.length r3) (List.drop 0 r3)), (0 : Int), ())) fun ((r4, r5, _), _) =>
     some (r4, (!r5))
   else
    none
 else
  none
noncomputable def A90 : FnA := ⟨[.v (.pair (.int .i64) (.pair (.sl (.int .i64)) (.pair (.sl (.int .i64)) (.sl (.pair (.int .i64) (.pair .str (.pair (.int .i64) (.int .i64)))))))), .v .bool], false, [.sl (.pair (.pair (.int .i64) (.sl (.int .i64))) .str), .bool], fun x => yt2 x.1 x.2.1⟩
theorem y9r : fnF E90 L90_3 [.v (.pair (.int .i64) (.pair (.sl (.int .i64)) (.pair (.sl (.int .i64)) (.sl (.pair (.int .i64) (.pair .str (.pair (.int .i64) (.int .i64)))))))), .v .bool] false [.sl (.pair (.pair (.int .i64) (.sl (.int .i64))) .str), .bool] f90.ntmps f90.results.toList (ya2 f90) = fun x => yt2 x.1 x.2.1 := by kernel_rfl
theorem A90_ok : FnOk prog 90 A90 := fo y9r func90 z8b (yb4 (kz3 rfl) (yb4 (ko2 rfl) ya0))
/-! spec.l8RawElementsOf -/
noncomputable def E60 : Env := ⟨ty0, fun g => ifEq g 89 (some A89) (ifEq g 90 (some A90) (none)), fun _ => none, fun _ => none, fun _ => none⟩
theorem E60_ok : FnsOk prog E60 := (oF A89_ok func89 (oF A90_ok func90 (yc1 _ _)))
noncomputable def L60_0 : Nat → Option LoopD := fun _ => none
noncomputable def yi6 : (Int × ((List Int) × ((List Int) × (List (Int × (ByteArray × (Int × Int))))))) → Option ((List ((Int × (List Int)) × ByteArray)) × Bool) := fun (a0_0, a0_1, a0_2, a0_3) =>
 Option.bind (yc7 (a0_0, a0_1, a0_2, a0_3)) fun r0 =>
  bif (!r0) then
   some ((List.take 0 (List.drop 0 [])), false)
  else
   Option.bind (yt2 (a0_0, a0_1, a0_2, a0_3) true) fun (r1, r2) =>
    bif (!r2) then
     some ((List.take 0 (List.drop 0 [])), false)
    else
     some (r1, true)
noncomputable def A60 : FnA := ⟨[.v (.pair (.int .i64) (.pair (.sl (.int .i64)) (.pair (.sl (.int .i64)) (.sl (.pair (.int .i64) (.pair .str (.pair (.int .i64) (.int .i64))))))))], false, [.sl (.pair (.pair (.int .i64) (.sl (.int .i64))) .str), .bool], fun x => yi6 x.1⟩
theorem y4h : fnF E60 L60_0 [.v (.pair (.int .i64) (.pair (.sl (.int .i64)) (.pair (.sl (.int .i64)) (.sl (.pair (.int .i64) (.pair .str (.pair (.int .i64) (.int .i64))))))))] false [.sl (.pair (.pair (.int .i64) (.sl (.int .i64))) .str), .bool] f60.ntmps f60.results.toList (ya2 f60) = fun x => yi6 x.1 := by kernel_rfl
theorem A60_ok : FnOk prog 60 A60 := fo y4h func60 E60_ok ya0
/-! spec.l13OwnMatrix -/
noncomputable def E122 : Env := ⟨ty0, fun _ => none, fun _ => none, fun _ => none, fun _ => none⟩
theorem E122_ok : FnsOk prog E122 := (yc1 _ _)
noncomputable def L122_0 : Nat → Option LoopD := fun _ => none
noncomputable def yu0 : (Int × (List Int)) → Option ((Int × (List Int))) := fun (a0_0, a0_1) =>
 if (((0 + 0) = (List.length ([] : List Unit))) ∧ (((0 + (List.length a0_1)) * 8) ≤ 140737488355328)) then
  some (a0_0, (List.take (0 + (List.length a0_1)) (List.drop 0 ((List.drop 0 []) ++ a0_1))))
 else
  none
noncomputable def A122 : FnA := ⟨[.v (.pair (.int .i64) (.sl (.int .i64)))], true, [.pair (.int .i64) (.sl (.int .i64))], fun x => yu0 x.1⟩
theorem y6y : fnF E122 L122_0 [.v (.pair (.int .i64) (.sl (.int .i64)))] true [.pair (.int .i64) (.sl (.int .i64))] f122.ntmps f122.results.toList (ya2 f122) = fun x => yu0 x.1 := by kernel_rfl
theorem A122_ok : FnOk prog 122 A122 := fo y6y func122 E122_ok ya0
/-! spec.l13OwnElement -/
noncomputable def E91 : Env := ⟨ty0, fun g => ifEq g 122 (some A122) (none), fun _ => none, fun _ => none, fun _ => none⟩
theorem E91_ok : FnsOk prog E91 := (oF A122_ok func122 (yc1 _ _))
noncomputable def L91_0 : Nat → Option LoopD := fun _ => none
noncomputable def yo8 : ((Int × (List Int)) × ByteArray) → Option (((Int × (List Int)) × ByteArray)) := fun ((a0_0, a0_1), a0_2) =>
 Option.bind (yu0 (a0_0, a0_1)) fun (r0, r1) =>
  some ((r0, (List.take (List.length r1) (List.drop 0 r1))), a0_2)
noncomputable def A91 : FnA := ⟨[.v (.pair (.pair (.int .i64) (.sl (.int .i64))) .str)], true, [.pair (.pair (.int .i64) (.sl (.int .i64))) .str], fun x => yo8 x.1⟩
theorem y5w : fnF E91 L91_0 [.v (.pair (.pair (.int .i64) (.sl (.int .i64))) .str)] true [.pair (.pair (.int .i64) (.sl (.int .i64))) .str] f91.ntmps f91.results.toList (ya2 f91) = fun x => yo8 x.1 := by kernel_rfl
theorem A91_ok : FnOk prog 91 A91 := fo y5w func91 E91_ok ya0
end Go.Proofs.YtfdhmmnffahhgaaGreat
