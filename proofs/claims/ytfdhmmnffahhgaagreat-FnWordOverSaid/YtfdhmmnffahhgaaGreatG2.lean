/- What Go functions that the laws reach compute, and that they do: written by a program of this session. -/
import Derived.Test.YtfdhmmnffahhgaaGreatG1
import Derived.KernelRfl
set_option linter.unusedVariables false
namespace Go.Proofs.YtfdhmmnffahhgaaGreat
open Go Go.Proofs.YtfdhmmnffahhgaaGreat.Am Go.Proofs.Tryz
set_option maxRecDepth 100000
/-! spec.l13OwnListElement -/
noncomputable def E61 : Env := ⟨ty0, fun g => ifEq g 91 (some A91) (none), fun _ => none, fun _ => none, fun _ => none⟩
theorem E61_ok : FnsOk prog E61 := (oF A91_ok func91 (yc1 _ _))
noncomputable def L61_0 : Nat → Option LoopD := fun _ => none
def ko3 : List Fm := d :: d :: d :: .cell (.own (.pair (.pair (.int .i64) (.sl (.int .i64))) .str) 100300 false) :: d :: d :: d :: .cell (.val (.sl (.pair (.pair (.int .i64) (.sl (.int .i64))) .str))) :: .cell (.val (.int .i64)) :: .cell (.val (.int .i64)) :: D 10 []
def ko4 : List (Ex × List Fm) := [(.exit 0, (d :: d :: d :: .cell (.own (.pair (.pair (.int .i64) (.sl (.int .i64))) .str) 100300 false) :: D 16 []))]
noncomputable def yc5 : ((List ((Int × (List Int)) × ByteArray)) × (List ((Int × (List Int)) × ByteArray)) × Int × Int × Unit) → Option (((List ((Int × (List Int)) × ByteArray)) × (List ((Int × (List Int)) × ByteArray)) × Int × Int × Unit) ⊕ (((List ((Int × (List Int)) × ByteArray)) × Unit))) := fun (v3, v7, v8, v9, _) =>
 bif (decide (v9 < v8)) then
  if (((0 : Int) ≤ v9) ∧ (v9 < (((List.length v7) : Nat) : Int))) then
   Option.bind (yo8 (((List.getD v7 (Int.toNat v9) (((0 : Int), []), (⟨Array.empty⟩ : ByteArray))).1.1, (List.getD v7 (Int.toNat v9) (((0 : Int), []), (⟨Array.empty⟩ : ByteArray))).1.2), (List.getD v7 (Int.toNat v9) (((0 : Int), []), (⟨Array.empty⟩ : ByteArray))).2)) fun ((r0, r1), r2) =>
    if (((0 + (List.length v3)) = (List.length v3)) ∧ ((((List.length v3) + (List.length (List.take 1 (List.drop 0 [((r0, (List.take (List.length r1) (List.drop 0 r1))), r2)])))) * 48) ≤ 140737488355328)) then
     some (Sum.inl ((List.take ((List.length v3) + (List.length (List.take 1 (List.drop 0 [((r0, (List.take (List.length r1) (List.drop 0 r1))), r2)])))) (List.drop 0 ((List.drop 0 v3) ++ (List.take 1 (List.drop 0 [((r0, (List.take (List.length r1) (List.drop 0 r1))), r2)]))))), v7, v8, (IntKind.wrap .i64 (v9 + (1 : Int))), ()))
    else
     none
  else
   none
 else
  some (Sum.inr ((List.take (List.length v3) (List.drop 0 v3)), ()))
theorem y1e : ya6 20 E61 L61_0 (ya1 f61 3) ko3 ko4 = yc5 := by kernel_rfl
theorem kz4 {L} (h : L 3 = some ⟨20, ko3, ko4, yc5⟩) : yc0 prog L (ya1 f61 3) := lo y1e E61_ok ya0 h
noncomputable def L61_1 : Nat → Option LoopD := fun n => ifEq n 3 (some ⟨20, ko3, ko4, yc5⟩) (L61_0 n)
noncomputable def yj4 : (List ((Int × (List Int)) × ByteArray)) → Option ((List ((Int × (List Int)) × ByteArray))) := fun a0 =>
 Option.bind (ya4 yc5 ((List.take 0 (List.drop 0 [])), a0, (((List.length a0) : Nat) : Int), (0 : Int), ())) fun (r0, _) =>
  some (List.take (List.length r0) (List.drop 0 r0))
noncomputable def A61 : FnA := ⟨[.v (.sl (.pair (.pair (.int .i64) (.sl (.int .i64))) .str))], true, [.sl (.pair (.pair (.int .i64) (.sl (.int .i64))) .str)], fun x => yj4 x.1⟩
theorem y27 : fnF E61 L61_1 [.v (.sl (.pair (.pair (.int .i64) (.sl (.int .i64))) .str))] true [.sl (.pair (.pair (.int .i64) (.sl (.int .i64))) .str)] f61.ntmps f61.results.toList (ya2 f61) = fun x => yj4 x.1 := by kernel_rfl
theorem A61_ok : FnOk prog 61 A61 := fo y27 func61 E61_ok (yb4 (kz4 rfl) ya0)
/-! spec.ElementsOf -/
noncomputable def E39 : Env := ⟨ty0, fun g => ifEq g 60 (some A60) (ifEq g 61 (some A61) (none)), fun _ => none, fun _ => none, fun _ => none⟩
theorem E39_ok : FnsOk prog E39 := (oF A60_ok func60 (oF A61_ok func61 (yc1 _ _)))
noncomputable def L39_0 : Nat → Option LoopD := fun _ => none
noncomputable def yg8 : (Int × ((List Int) × ((List Int) × (List (Int × (ByteArray × (Int × Int))))))) → Option ((List ((Int × (List Int)) × ByteArray)) × Bool) := fun (a0_0, a0_1, a0_2, a0_3) =>
 Option.bind (yi6 (a0_0, a0_1, a0_2, a0_3)) fun (r0, r1) =>
  Option.bind (yj4 r0) fun r2 =>
   some ((List.take (List.length r2) (List.drop 0 r2)), r1)
noncomputable def A39 : FnA := ⟨[.v (.pair (.int .i64) (.pair (.sl (.int .i64)) (.pair (.sl (.int .i64)) (.sl (.pair (.int .i64) (.pair .str (.pair (.int .i64) (.int .i64))))))))], true, [.sl (.pair (.pair (.int .i64) (.sl (.int .i64))) .str), .bool], fun x => yg8 x.1⟩
theorem y9s : fnF E39 L39_0 [.v (.pair (.int .i64) (.pair (.sl (.int .i64)) (.pair (.sl (.int .i64)) (.sl (.pair (.int .i64) (.pair .str (.pair (.int .i64) (.int .i64))))))))] true [.sl (.pair (.pair (.int .i64) (.sl (.int .i64))) .str), .bool] f39.ntmps f39.results.toList (ya2 f39) = fun x => yg8 x.1 := by kernel_rfl
theorem A39_ok : FnOk prog 39 A39 := fo y9s func39 E39_ok ya0
/-! spec.l6Between -/
noncomputable def E40 : Env := ⟨ty0, fun _ => none, fun _ => none, fun _ => none, fun _ => none⟩
theorem ko5 : FnsOk prog E40 := (yc1 _ _)
noncomputable def L40_0 : Nat → Option LoopD := fun _ => none
def ko6 : List Fm := d :: d :: .box 100200 [.val (.int .i64), .val (.sl (.int .i64)), .val (.sl (.int .i64)), .val (.sl (.pair (.int .i64) (.pair .str (.pair (.int .i64) (.int .i64)))))] :: .box 100300 [.val (.int .i64), .val (.sl (.int .i64))] :: d :: .cell (.val (.int .i64)) :: d :: .cell (.val (.int .i64)) :: d :: d :: d :: .cell (.val (.sl (.int .i64))) :: .cell (.val (.int .i64)) :: .cell (.val (.int .i64)) :: D 4 (.cell (.val (.sl (.int .i64))) :: .cell (.val (.int .i64)) :: .cell (.val (.int .i64)) :: D 18 [])
def ko7 : List (Ex × List Fm) := [(.exit 2, [d, d, .box 100200 [.val (.int .i64), .val (.sl (.int .i64)), .val (.sl (.int .i64)), .val (.sl (.pair (.int .i64) (.pair .str (.pair (.int .i64) (.int .i64)))))], .box 100300 [.val (.int .i64), .val (.sl (.int .i64))], d, .cell (.val (.int .i64)), d, d, d, d, d, .cell (.val (.sl (.int .i64))), .cell (.val (.int .i64)), .cell (.val (.int .i64)), d, d, d, d, d, d, d, d, d, d, d, d, d, d, d, d, d, d, d, d, d, d, d, d, d])]
noncomputable def yf9 : ((Int × (List Int) × (List Int) × (List (Int × (ByteArray × (Int × Int)))) × Unit) × (Int × (List Int) × Unit) × Int × Int × (List Int) × Int × Int × (List Int) × Int × Int × Unit) → Option (((Int × (List Int) × (List Int) × (List (Int × (ByteArray × (Int × Int)))) × Unit) × (Int × (List Int) × Unit) × Int × Int × (List Int) × Int × Int × (List Int) × Int × Int × Unit) ⊕ (((Int × (List Int) × (List Int) × (List (Int × (ByteArray × (Int × Int)))) × Unit) × (Int × (List Int) × Unit) × Int × (List Int) × Int × Int × Unit))) := fun ((v2_0, v2_1, v2_2, v2_3, _), (v3_0, v3_1, _), v5, v7, v11, v12, v13, v18, v19, v20, _) =>
 bif (decide (v20 < v19)) then
  if (((0 : Int) ≤ v20) ∧ (v20 < (((List.length v18) : Nat) : Int))) then
   if (((0 : Int) ≤ (IntKind.wrap .i64 ((IntKind.wrap .i64 (v7 * v2_0)) + (List.getD v18 (Int.toNat v20) (0 : Int))))) ∧ ((IntKind.wrap .i64 ((IntKind.wrap .i64 (v7 * v2_0)) + (List.getD v18 (Int.toNat v20) (0 : Int)))) < (((List.length v3_1) : Nat) : Int))) then
    some (Sum.inl ((v2_0, v2_1, v2_2, v2_3, ()), (v3_0, v3_1, ()), (if ((List.getD v3_1 (Int.toNat (IntKind.wrap .i64 ((IntKind.wrap .i64 (v7 * v2_0)) + (List.getD v18 (Int.toNat v20) (0 : Int))))) (0 : Int)) < v5) then (List.getD v3_1 (Int.toNat (IntKind.wrap .i64 ((IntKind.wrap .i64 (v7 * v2_0)) + (List.getD v18 (Int.toNat v20) (0 : Int))))) (0 : Int)) else v5), v7, v11, v12, v13, v18, v19, (IntKind.wrap .i64 (v20 + (1 : Int))), ()))
   else
    none
  else
   none
 else
  some (Sum.inr ((v2_0, v2_1, v2_2, v2_3, ()), (v3_0, v3_1, ()), v5, v11, v12, v13, ()))
theorem y6z : ya6 39 E40 L40_0 (ya1 f40 6) ko6 ko7 = yf9 := by kernel_rfl
theorem kz5 {L} (h : L 6 = some ⟨39, ko6, ko7, yf9⟩) : yc0 prog L (ya1 f40 6) := lo y6z ko5 ya0 h
noncomputable def L40_1 : Nat → Option LoopD := fun n => ifEq n 6 (some ⟨39, ko6, ko7, yf9⟩) (L40_0 n)
def ko8 : List Fm := d :: d :: .box 100200 [.val (.int .i64), .val (.sl (.int .i64)), .val (.sl (.int .i64)), .val (.sl (.pair (.int .i64) (.pair .str (.pair (.int .i64) (.int .i64)))))] :: .box 100300 [.val (.int .i64), .val (.sl (.int .i64))] :: d :: .cell (.val (.int .i64)) :: D 5 (.cell (.val (.sl (.int .i64))) :: .cell (.val (.int .i64)) :: .cell (.val (.int .i64)) :: D 25 [])
def ko9 : List (Ex × List Fm) := [(.exit 0, (D 5 (.cell (.val (.int .i64)) :: D 33 [])))]
noncomputable def yh7 : ((Int × (List Int) × (List Int) × (List (Int × (ByteArray × (Int × Int)))) × Unit) × (Int × (List Int) × Unit) × Int × (List Int) × Int × Int × Unit) → Option (((Int × (List Int) × (List Int) × (List (Int × (ByteArray × (Int × Int)))) × Unit) × (Int × (List Int) × Unit) × Int × (List Int) × Int × Int × Unit) ⊕ ((Int × Unit))) := fun ((v2_0, v2_1, v2_2, v2_3, _), (v3_0, v3_1, _), v5, v11, v12, v13, _) =>
 bif (decide (v13 < v12)) then
  if (((0 : Int) ≤ v13) ∧ (v13 < (((List.length v11) : Nat) : Int))) then
   Option.bind (ya4 yf9 ((v2_0, v2_1, v2_2, v2_3, ()), (v3_0, v3_1, ()), v5, (List.getD v11 (Int.toNat v13) (0 : Int)), v11, v12, v13, v2_2, (((List.length v2_2) : Nat) : Int), (0 : Int), ())) fun ((r0, r1, r2, r3, _), (r4, r5, _), r6, r7, r8, r9, _) =>
    some (Sum.inl ((r0, r1, r2, r3, ()), (r4, r5, ()), r6, r7, r8, (IntKind.wrap .i64 (r9 + (1 : Int))), ()))
  else
   none
 else
  some (Sum.inr (v5, ()))
theorem y60 : ya6 39 E40 L40_1 (ya1 f40 3) ko8 ko9 = yh7 := by kernel_rfl
theorem kz6 {L} (h : L 3 = some ⟨39, ko8, ko9, yh7⟩) : yc0 prog L (ya1 f40 3) := lo y60 ko5 (yb4 (kz5 rfl) ya0) h
noncomputable def L40_2 : Nat → Option LoopD := fun n => ifEq n 3 (some ⟨39, ko8, ko9, yh7⟩) (L40_1 n)
noncomputable def yv2 : (Int × ((List Int) × ((List Int) × (List (Int × (ByteArray × (Int × Int))))))) → (Int × (List Int)) → Option (Int) := fun (a0_0, a0_1, a0_2, a0_3) (a1_0, a1_1) =>
 Option.bind (ya4 yh7 ((a0_0, a0_1, a0_2, a0_3, ()), (a1_0, a1_1, ()), (3 : Int), a0_1, (((List.length a0_1) : Nat) : Int), (0 : Int), ())) fun (r0, _) =>
  some r0
noncomputable def A40 : FnA := ⟨[.v (.pair (.int .i64) (.pair (.sl (.int .i64)) (.pair (.sl (.int .i64)) (.sl (.pair (.int .i64) (.pair .str (.pair (.int .i64) (.int .i64)))))))), .v (.pair (.int .i64) (.sl (.int .i64)))], true, [.int .i64], fun x => yv2 x.1 x.2.1⟩
theorem zf4 : fnF E40 L40_2 [.v (.pair (.int .i64) (.pair (.sl (.int .i64)) (.pair (.sl (.int .i64)) (.sl (.pair (.int .i64) (.pair .str (.pair (.int .i64) (.int .i64)))))))), .v (.pair (.int .i64) (.sl (.int .i64)))] true [.int .i64] f40.ntmps f40.results.toList (ya2 f40) = fun x => yv2 x.1 x.2.1 := by kernel_rfl
theorem A40_ok : FnOk prog 40 A40 := fo zf4 func40 ko5 (yb4 (kz6 rfl) ya0)
/-! spec.GrowingOf -/
noncomputable def E16 : Env := ⟨ty0, fun g => ifEq g 39 (some A39) (ifEq g 40 (some A40) (none)), fun _ => none, fun _ => none, fun _ => none⟩
theorem E16_ok : FnsOk prog E16 := (oF A39_ok func39 (oF A40_ok func40 (yc1 _ _)))
noncomputable def L16_0 : Nat → Option LoopD := fun _ => none
def kp0 : List Fm := d :: .box 100100 [.val (.int .i64), .val (.sl (.int .i64)), .val (.sl (.int .i64)), .val (.sl (.pair (.int .i64) (.pair .str (.pair (.int .i64) (.int .i64)))))] :: D 11 (.cell (.own (.pair (.pair (.int .i64) (.sl (.int .i64))) .str) 101300 false) :: .cell (.val (.int .i64)) :: .cell (.val (.int .i64)) :: D 11 [])
def kp1 : List (Ex × List Fm) := [(.ret, (d :: d :: .cell (.val .str) :: .cell (.val .bool) :: D 23 [])), (.exit 0, (D 27 []))]
noncomputable def yg0 : ((Int × (List Int) × (List Int) × (List (Int × (ByteArray × (Int × Int)))) × Unit) × (List ((Int × (List Int)) × ByteArray)) × Int × Int × Unit) → Option (((Int × (List Int) × (List Int) × (List (Int × (ByteArray × (Int × Int)))) × Unit) × (List ((Int × (List Int)) × ByteArray)) × Int × Int × Unit) ⊕ ((ByteArray × Bool × Unit) ⊕ (Unit))) := fun ((v1_0, v1_1, v1_2, v1_3, _), v13, v14, v15, _) =>
 bif (decide (v15 < v14)) then
  if (((0 : Int) ≤ v15) ∧ (v15 < (((List.length v13) : Nat) : Int))) then
   Option.bind (yv2 (v1_0, v1_1, v1_2, v1_3) ((List.getD v13 (0 + (Int.toNat v15)) (((0 : Int), []), (⟨Array.empty⟩ : ByteArray))).1.1, (List.getD v13 (0 + (Int.toNat v15)) (((0 : Int), []), (⟨Array.empty⟩ : ByteArray))).1.2)) fun r0 =>
    bif (r0 == (2 : Int)) then
     some (Sum.inr (Sum.inl ((List.getD v13 (0 + (Int.toNat v15)) (((0 : Int), []), (⟨Array.empty⟩ : ByteArray))).2, true, ())))
    else
     some (Sum.inl ((v1_0, v1_1, v1_2, v1_3, ()), (List.take (List.length v13) (List.drop 0 v13)), v14, (IntKind.wrap .i64 (v15 + (1 : Int))), ()))
  else
   none
 else
  some (Sum.inr (Sum.inr ()))
theorem y61 : ya6 27 E16 L16_0 (ya1 f16 3) kp0 kp1 = yg0 := by kernel_rfl
theorem kz7 {L} (h : L 3 = some ⟨27, kp0, kp1, yg0⟩) : yc0 prog L (ya1 f16 3) := lo y61 E16_ok ya0 h
noncomputable def L16_1 : Nat → Option LoopD := fun n => ifEq n 3 (some ⟨27, kp0, kp1, yg0⟩) (L16_0 n)
noncomputable def yr8 : (Int × ((List Int) × ((List Int) × (List (Int × (ByteArray × (Int × Int))))))) → Option (ByteArray × Bool) := fun (a0_0, a0_1, a0_2, a0_3) =>
 Option.bind (yg8 (a0_0, a0_1, a0_2, a0_3)) fun (r0, r1) =>
  Option.bind (ya4 yg0 ((a0_0, a0_1, a0_2, a0_3, ()), (List.take (List.length r0) (List.drop 0 r0)), (((List.length r0) : Nat) : Int), (0 : Int), ())) fun r2 =>
   (match r2 with
   | .inl (d3, d4, _) =>
     some (d3, d4)
   | .inr _ =>
     some ((⟨#[]⟩ : ByteArray), false))
noncomputable def A16 : FnA := ⟨[.v (.pair (.int .i64) (.pair (.sl (.int .i64)) (.pair (.sl (.int .i64)) (.sl (.pair (.int .i64) (.pair .str (.pair (.int .i64) (.int .i64))))))))], true, [.str, .bool], fun x => yr8 x.1⟩
theorem zf5 : fnF E16 L16_1 [.v (.pair (.int .i64) (.pair (.sl (.int .i64)) (.pair (.sl (.int .i64)) (.sl (.pair (.int .i64) (.pair .str (.pair (.int .i64) (.int .i64))))))))] true [.str, .bool] f16.ntmps f16.results.toList (ya2 f16) = fun x => yr8 x.1 := by kernel_rfl
theorem A16_ok : FnOk prog 16 A16 := fo zf5 func16 E16_ok (yb4 (kz7 rfl) ya0)
/-! spec.l7End -/
noncomputable def R68 (spec_l7End_rec : ByteArray → Int → Option (Int)) : FnA := ⟨[.v .str, .v (.int .i64)], true, [.int .i64], fun x => spec_l7End_rec x.1 x.2.1⟩
noncomputable def E68 (spec_l7End_rec : ByteArray → Int → Option (Int)) : Env := ⟨ty0, fun g => ifEq g 68 (some (R68 spec_l7End_rec)) (none), fun _ => none, fun _ => none, fun _ => none⟩
theorem z8c (spec_l7End_rec : ByteArray → Int → Option (Int)) (hrec : FnOk prog 68 (R68 spec_l7End_rec)) : FnsOk prog (E68 spec_l7End_rec) := (oF hrec func68 (yc1 _ _))
noncomputable def L68_0 (spec_l7End_rec : ByteArray → Int → Option (Int)) : Nat → Option LoopD := fun _ => none
def kp2 : List Fm := .cell (.val .str) :: .cell (.val (.int .i64)) :: d :: d :: d :: .cell (.val (.int .i64)) :: D 61 []
def kp3 : List (Ex × List Fm) := [(.ret, (D 4 (.cell (.val (.int .i64)) :: D 62 []))), (.exit 0, (d :: .cell (.val (.int .i64)) :: d :: d :: d :: .cell (.val (.int .i64)) :: D 61 []))]
noncomputable def yg1 (spec_l7End_rec : ByteArray → Int → Option (Int)) : (ByteArray × Int × Int × Unit) → Option ((ByteArray × Int × Int × Unit) ⊕ ((Int × Unit) ⊕ (Int × Int × Unit))) := fun (v0, v1, v5, _) =>
 bif (decide (v1 < (((ByteArray.size v0) : Nat) : Int))) then
  if (((0 : Int) ≤ v1) ∧ (v1 < (((ByteArray.size v0) : Nat) : Int))) then
   bif ((((UInt8.toNat (Array.getD (ByteArray.data v0) (Int.toNat v1) (0 : UInt8))) : Nat) : Int) != (41 : Int)) then
    if (((0 : Int) ≤ v1) ∧ (v1 < (((ByteArray.size v0) : Nat) : Int))) then
     bif ((((UInt8.toNat (Array.getD (ByteArray.data v0) (Int.toNat v1) (0 : UInt8))) : Nat) : Int) == (97 : Int)) then
      some (Sum.inl (v0, (IntKind.wrap .i64 (v1 + (1 : Int))), v5, ()))
     else
      if (((0 : Int) ≤ v1) ∧ (v1 < (((ByteArray.size v0) : Nat) : Int))) then
       bif ((((UInt8.toNat (Array.getD (ByteArray.data v0) (Int.toNat v1) (0 : UInt8))) : Nat) : Int) == (98 : Int)) then
        some (Sum.inl (v0, (IntKind.wrap .i64 (v1 + (1 : Int))), v5, ()))
       else
        if (((0 : Int) ≤ v1) ∧ (v1 < (((ByteArray.size v0) : Nat) : Int))) then
         bif ((((UInt8.toNat (Array.getD (ByteArray.data v0) (Int.toNat v1) (0 : UInt8))) : Nat) : Int) == (40 : Int)) then
          Option.bind (spec_l7End_rec v0 (IntKind.wrap .i64 (v1 + (1 : Int)))) fun r0 =>
           bif (decide (r0 < (0 : Int))) then
            some (Sum.inr (Sum.inl ((-1 : Int), ())))
           else
            bif (decide ((IntKind.wrap .i64 (r0 + (1 : Int))) ≥ (((ByteArray.size v0) : Nat) : Int))) then
             some (Sum.inr (Sum.inl ((-1 : Int), ())))
            else
             if (((0 : Int) ≤ r0) ∧ (r0 < (((ByteArray.size v0) : Nat) : Int))) then
              bif ((((UInt8.toNat (Array.getD (ByteArray.data v0) (Int.toNat r0) (0 : UInt8))) : Nat) : Int) != (41 : Int)) then
               some (Sum.inr (Sum.inl ((-1 : Int), ())))
              else
               if (((0 : Int) ≤ (IntKind.wrap .i64 (r0 + (1 : Int)))) ∧ ((IntKind.wrap .i64 (r0 + (1 : Int))) < (((ByteArray.size v0) : Nat) : Int))) then
                bif ((((UInt8.toNat (Array.getD (ByteArray.data v0) (Int.toNat (IntKind.wrap .i64 (r0 + (1 : Int)))) (0 : UInt8))) : Nat) : Int) != (35 : Int)) then
                 some (Sum.inr (Sum.inl ((-1 : Int), ())))
                else
                 some (Sum.inl (v0, (IntKind.wrap .i64 (r0 + (2 : Int))), v5, ()))
               else
                none
             else
              none
         else
          some (Sum.inr (Sum.inl ((-1 : Int), ())))
        else
         none
      else
       none
    else
     none
   else
    some (Sum.inr (Sum.inr (v1, v5, ())))
  else
   none
 else
  some (Sum.inr (Sum.inr (v1, v5, ())))
theorem zl2 (spec_l7End_rec : ByteArray → Int → Option (Int)) : ya6 67 (E68 spec_l7End_rec) (L68_0 spec_l7End_rec) (ya1 f68 2) kp2 kp3 = (yg1 spec_l7End_rec) := by kernel_rfl
theorem kz8 (spec_l7End_rec : ByteArray → Int → Option (Int)) (hrec : FnOk prog 68 (R68 spec_l7End_rec)) {L : Nat → Option LoopD} (h : L 2 = some ⟨67, kp2, kp3, (yg1 spec_l7End_rec)⟩) : yc0 prog L (ya1 f68 2) :=
 zp7 (ya9 yd4) (z8c spec_l7End_rec hrec) (yc6 (L := (L68_0 spec_l7End_rec)) (ya9 yd4) (z8c spec_l7End_rec hrec) mixed (c := ya1 f68 2) (bs := []) (by kernel_rfl) ya0 (by kernel_rfl)) (by kernel_rfl) (by kernel_rfl) (zl2 spec_l7End_rec) (by rw [show yv9 (ya1 f68 2) = 2 from by kernel_rfl]; exact h)
noncomputable def L68_1 (spec_l7End_rec : ByteArray → Int → Option (Int)) : Nat → Option LoopD := fun n => ifEq n 2 (some ⟨67, kp2, kp3, (yg1 spec_l7End_rec)⟩) ((L68_0 spec_l7End_rec) n)
noncomputable def yt3 (spec_l7End_rec : ByteArray → Int → Option (Int)) : ByteArray → Int → Option (Int) := fun a0 a1 =>
 Option.bind (ya4 (yg1 spec_l7End_rec) (a0, a1, a1, ())) fun r0 =>
  (match r0 with
  | .inl (d1, _) =>
    some d1
  | .inr (d2, d3, _) =>
    bif (d2 == d3) then
     some (-1 : Int)
    else
     some d2)
theorem y9t (spec_l7End_rec : ByteArray → Int → Option (Int)) : fnF (E68 spec_l7End_rec) (L68_1 spec_l7End_rec) [.v .str, .v (.int .i64)] true [.int .i64] f68.ntmps f68.results.toList (ya2 f68) = fun x => (yt3 spec_l7End_rec) x.1 x.2.1 := by kernel_rfl
theorem y9u (spec_l7End_rec : ByteArray → Int → Option (Int)) (hrec : FnOk prog 68 (R68 spec_l7End_rec)) : FnOk prog 68 ⟨[.v .str, .v (.int .i64)], true, [.int .i64], fun x => (yt3 spec_l7End_rec) x.1 x.2.1⟩ := by
 have h := yz8 (P := prog) (E := (E68 spec_l7End_rec)) (ya9 yd4) (z8c spec_l7End_rec hrec) (L := (L68_1 spec_l7End_rec)) (ps := [.v .str, .v (.int .i64)]) (own := true) (outs := [.int .i64]) func68 (c := ya2 f68) (by kernel_rfl) (yc6 (L := (L68_1 spec_l7End_rec)) (ya9 yd4) (z8c spec_l7End_rec hrec) mixed (c := ya2 f68) (bs := [ya1 f68 2]) (by kernel_rfl) (yb4 (kz8 spec_l7End_rec hrec rfl) ya0) (by kernel_rfl))
 rw [(y9t spec_l7End_rec)] at h
 exact h
/-- so many calls within each other -/
noncomputable def yn6 : Nat → ByteArray → Int → Option (Int)
 | 0 => fun _ _ => none
 | n + 1 => yt3 (yn6 n)
theorem y2u : ∀ n, FnOk prog 68 (R68 (yn6 n))
 | 0 => fun xs r h => by cases h
 | n + 1 => y9u (yn6 n) (y2u n)
noncomputable def y3x : ByteArray → Int → Option (Int) := yn6 200
noncomputable def A68 : FnA := R68 y3x
theorem A68_ok : FnOk prog 68 A68 := y2u 200
/-! spec.ExpressionValid -/
noncomputable def E44 : Env := ⟨ty0, fun g => ifEq g 68 (some A68) (none), fun _ => none, fun _ => none, fun _ => none⟩
theorem E44_ok : FnsOk prog E44 := (oF A68_ok func68 (yc1 _ _))
noncomputable def L44_0 : Nat → Option LoopD := fun _ => none
noncomputable def ym0 : ByteArray → Option (Bool) := fun a0 =>
 bif (decide ((((ByteArray.size a0) : Nat) : Int) ≤ (120 : Int))) then
  Option.bind (y3x a0 (0 : Int)) fun r0 =>
   bif (r0 == (((ByteArray.size a0) : Nat) : Int)) then
    some (decide ((((ByteArray.size a0) : Nat) : Int) > (0 : Int)))
   else
    some false
 else
  some false
noncomputable def A44 : FnA := ⟨[.v .str], true, [.bool], fun x => ym0 x.1⟩
theorem y4i : fnF E44 L44_0 [.v .str] true [.bool] f44.ntmps f44.results.toList (ya2 f44) = fun x => ym0 x.1 := by kernel_rfl
theorem A44_ok : FnOk prog 44 A44 := fo y4i func44 E44_ok ya0
/-! spec.l7Next -/
noncomputable def E69 : Env := ⟨ty0, fun g => ifEq g 68 (some A68) (none), fun _ => none, fun _ => none, fun _ => none⟩
theorem E69_ok : FnsOk prog E69 := (oF A68_ok func68 (yc1 _ _))
noncomputable def L69_0 : Nat → Option LoopD := fun _ => none
noncomputable def yw3 : ByteArray → Option (ByteArray × Bool × ByteArray) := fun a0 =>
 if (((0 : Int) ≤ (0 : Int)) ∧ ((0 : Int) < (((ByteArray.size a0) : Nat) : Int))) then
  bif ((((UInt8.toNat (Array.getD (ByteArray.data a0) (Int.toNat (0 : Int)) (0 : UInt8))) : Nat) : Int) != (40 : Int)) then
   if (((0 : Int) ≤ (1 : Int)) ∧ ((1 : Int) ≤ (((ByteArray.size a0) : Nat) : Int))) then
    if (((0 : Int) ≤ (1 : Int)) ∧ ((1 : Int) ≤ (((ByteArray.size a0) : Nat) : Int))) then
     some ((ByteArray.extract a0 0 (Int.toNat (1 : Int))), false, (ByteArray.extract a0 (Int.toNat (1 : Int)) (ByteArray.size a0)))
    else
     none
   else
    none
  else
   Option.bind (y3x a0 (1 : Int)) fun r0 =>
    if (((0 : Int) ≤ (1 : Int)) ∧ (((1 : Int) ≤ r0) ∧ (r0 ≤ (((ByteArray.size a0) : Nat) : Int)))) then
     if (((0 : Int) ≤ (IntKind.wrap .i64 (r0 + (2 : Int)))) ∧ ((IntKind.wrap .i64 (r0 + (2 : Int))) ≤ (((ByteArray.size a0) : Nat) : Int))) then
      some ((ByteArray.extract a0 (Int.toNat (1 : Int)) (Int.toNat r0)), true, (ByteArray.extract a0 (Int.toNat (IntKind.wrap .i64 (r0 + (2 : Int)))) (ByteArray.size a0)))
     else
      none
    else
     none
 else
  none
noncomputable def A69 : FnA := ⟨[.v .str], true, [.str, .bool, .str], fun x => yw3 x.1⟩
theorem zy5 : fnF E69 L69_0 [.v .str] true [.str, .bool, .str] f69.ntmps f69.results.toList (ya2 f69) = fun x => yw3 x.1 := by kernel_rfl
theorem A69_ok : FnOk prog 69 A69 := fo zy5 func69 E69_ok ya0
/-! spec.l7Expand -/
noncomputable def R45 (spec_l7Expand_rec : ByteArray → Int → Option (ByteArray)) : FnA := ⟨[.v .str, .v (.int .i64)], true, [.str], fun x => spec_l7Expand_rec x.1 x.2.1⟩
noncomputable def E45 (spec_l7Expand_rec : ByteArray → Int → Option (ByteArray)) : Env := ⟨ty0, fun g => ifEq g 69 (some A69) (ifEq g 45 (some (R45 spec_l7Expand_rec)) (none)), fun _ => none, fun _ => none, fun _ => none⟩
theorem z0z (spec_l7Expand_rec : ByteArray → Int → Option (ByteArray)) (hrec : FnOk prog 45 (R45 spec_l7Expand_rec)) : FnsOk prog (E45 spec_l7Expand_rec) := (oF A69_ok func69 (oF hrec func45 (yc1 _ _)))
noncomputable def L45_0 (spec_l7Expand_rec : ByteArray → Int → Option (ByteArray)) : Nat → Option LoopD := fun _ => none
def z6o : List Fm := d :: .cell (.val (.int .i64)) :: d :: d :: d :: .cell (.val .str) :: d :: d :: .cell (.val .str) :: .cell (.val .str) :: .cell (.val (.int .i64)) :: .cell (.val (.int .i64)) :: D 34 []
def z6p : List (Ex × List Fm) := [(.exit 2, (d :: .cell (.val (.int .i64)) :: d :: d :: d :: .cell (.val .str) :: d :: d :: .cell (.val .str) :: D 37 []))]
noncomputable def ye1 (spec_l7Expand_rec : ByteArray → Int → Option (ByteArray)) : (Int × ByteArray × ByteArray × ByteArray × Int × Int × Unit) → Option ((Int × ByteArray × ByteArray × ByteArray × Int × Int × Unit) ⊕ ((Int × ByteArray × ByteArray × Unit))) := fun (v1, v5, v8, v9, v10, v11, _) =>
 bif (decide (v11 < v10)) then
  bif (decide ((((ByteArray.size v5) : Nat) : Int) ≤ (1000 : Int))) then
   if (((ByteArray.size v5) + (ByteArray.size v9)) ≤ 9223372036854775807) then
    some (Sum.inl (v1, (v5 ++ v9), v8, v9, v10, (IntKind.wrap .i64 (v11 + (1 : Int))), ()))
   else
    none
  else
   some (Sum.inr (v1, v5, v8, ()))
 else
  some (Sum.inr (v1, v5, v8, ()))
theorem y62 (spec_l7Expand_rec : ByteArray → Int → Option (ByteArray)) : ya6 46 (E45 spec_l7Expand_rec) (L45_0 spec_l7Expand_rec) (ya1 f45 10) z6o z6p = (ye1 spec_l7Expand_rec) := by kernel_rfl
theorem kp4 (spec_l7Expand_rec : ByteArray → Int → Option (ByteArray)) (hrec : FnOk prog 45 (R45 spec_l7Expand_rec)) {L : Nat → Option LoopD} (h : L 10 = some ⟨46, z6o, z6p, (ye1 spec_l7Expand_rec)⟩) : yc0 prog L (ya1 f45 10) :=
 zp7 (ya9 yd4) (z0z spec_l7Expand_rec hrec) (yc6 (L := (L45_0 spec_l7Expand_rec)) (ya9 yd4) (z0z spec_l7Expand_rec hrec) mixed (c := ya1 f45 10) (bs := []) (by kernel_rfl) ya0 (by kernel_rfl)) (by kernel_rfl) (by kernel_rfl) (y62 spec_l7Expand_rec) (by rw [show yv9 (ya1 f45 10) = 10 from by kernel_rfl]; exact h)
noncomputable def L45_1 (spec_l7Expand_rec : ByteArray → Int → Option (ByteArray)) : Nat → Option LoopD := fun n => ifEq n 10 (some ⟨46, z6o, z6p, (ye1 spec_l7Expand_rec)⟩) ((L45_0 spec_l7Expand_rec) n)
def kp5 : List Fm := .cell (.val .str) :: .cell (.val (.int .i64)) :: d :: d :: d :: .cell (.val .str) :: D 40 []
def kp6 : List (Ex × List Fm) := [(.exit 0, (D 5 (.cell (.val .str) :: D 40 [])))]
noncomputable def yf0 (spec_l7Expand_rec : ByteArray → Int → Option (ByteArray)) : (ByteArray × Int × ByteArray × Unit) → Option ((ByteArray × Int × ByteArray × Unit) ⊕ ((ByteArray × Unit))) := fun (v0, v1, v5, _) =>
 bif (!((ByteArray.toList v0) == (ByteArray.toList (⟨#[]⟩ : ByteArray)))) then
  bif (decide ((((ByteArray.size v5) : Nat) : Int) ≤ (1000 : Int))) then
   Option.bind (yw3 v0) fun (r0, r1, r2) =>
    bif r1 then
     Option.bind (spec_l7Expand_rec r0 v1) fun r3 =>
      Option.bind (ya4 (ye1 spec_l7Expand_rec) (v1, v5, r2, r3, v1, (0 : Int), ())) fun (r4, r5, r6, _) =>
       some (Sum.inl (r6, r4, r5, ()))
    else
     Option.bind (ya4 (ye1 spec_l7Expand_rec) (v1, v5, r2, r0, (1 : Int), (0 : Int), ())) fun (r7, r8, r9, _) =>
      some (Sum.inl (r9, r7, r8, ()))
  else
   some (Sum.inr (v5, ()))
 else
  some (Sum.inr (v5, ()))
theorem y8h (spec_l7Expand_rec : ByteArray → Int → Option (ByteArray)) : ya6 46 (E45 spec_l7Expand_rec) (L45_1 spec_l7Expand_rec) (ya1 f45 2) kp5 kp6 = (yf0 spec_l7Expand_rec) := by kernel_rfl
theorem kz9 (spec_l7Expand_rec : ByteArray → Int → Option (ByteArray)) (hrec : FnOk prog 45 (R45 spec_l7Expand_rec)) {L : Nat → Option LoopD} (h : L 2 = some ⟨46, kp5, kp6, (yf0 spec_l7Expand_rec)⟩) : yc0 prog L (ya1 f45 2) :=
 zp7 (ya9 yd4) (z0z spec_l7Expand_rec hrec) (yc6 (L := (L45_1 spec_l7Expand_rec)) (ya9 yd4) (z0z spec_l7Expand_rec hrec) mixed (c := ya1 f45 2) (bs := [ya1 f45 10]) (by kernel_rfl) (yb4 (kp4 spec_l7Expand_rec hrec rfl) ya0) (by kernel_rfl)) (by kernel_rfl) (by kernel_rfl) (y8h spec_l7Expand_rec) (by rw [show yv9 (ya1 f45 2) = 2 from by kernel_rfl]; exact h)
noncomputable def L45_2 (spec_l7Expand_rec : ByteArray → Int → Option (ByteArray)) : Nat → Option LoopD := fun n => ifEq n 2 (some ⟨46, kp5, kp6, (yf0 spec_l7Expand_rec)⟩) ((L45_1 spec_l7Expand_rec) n)
noncomputable def yo9 (spec_l7Expand_rec : ByteArray → Int → Option (ByteArray)) : ByteArray → Int → Option (ByteArray) := fun a0 a1 =>
 Option.bind (ya4 (yf0 spec_l7Expand_rec) (a0, a1, (⟨#[]⟩ : ByteArray), ())) fun (r0, _) =>
  some r0
theorem y5x (spec_l7Expand_rec : ByteArray → Int → Option (ByteArray)) : fnF (E45 spec_l7Expand_rec) (L45_2 spec_l7Expand_rec) [.v .str, .v (.int .i64)] true [.str] f45.ntmps f45.results.toList (ya2 f45) = fun x => (yo9 spec_l7Expand_rec) x.1 x.2.1 := by kernel_rfl
theorem y5y (spec_l7Expand_rec : ByteArray → Int → Option (ByteArray)) (hrec : FnOk prog 45 (R45 spec_l7Expand_rec)) : FnOk prog 45 ⟨[.v .str, .v (.int .i64)], true, [.str], fun x => (yo9 spec_l7Expand_rec) x.1 x.2.1⟩ := by
 have h := yz8 (P := prog) (E := (E45 spec_l7Expand_rec)) (ya9 yd4) (z0z spec_l7Expand_rec hrec) (L := (L45_2 spec_l7Expand_rec)) (ps := [.v .str, .v (.int .i64)]) (own := true) (outs := [.str]) func45 (c := ya2 f45) (by kernel_rfl) (yc6 (L := (L45_2 spec_l7Expand_rec)) (ya9 yd4) (z0z spec_l7Expand_rec hrec) mixed (c := ya2 f45) (bs := [ya1 f45 2]) (by kernel_rfl) (yb4 (kz9 spec_l7Expand_rec hrec rfl) ya0) (by kernel_rfl))
 rw [(y5x spec_l7Expand_rec)] at h
 exact h
/-- so many calls within each other -/
noncomputable def yg4 : Nat → ByteArray → Int → Option (ByteArray)
 | 0 => fun _ _ => none
 | n + 1 => yo9 (yg4 n)
theorem y0v : ∀ n, FnOk prog 45 (R45 (yg4 n))
 | 0 => fun xs r h => by cases h
 | n + 1 => y5y (yg4 n) (y0v n)
noncomputable def y4j : ByteArray → Int → Option (ByteArray) := yg4 200
noncomputable def A45 : FnA := R45 y4j
theorem A45_ok : FnOk prog 45 A45 := y0v 200
/-! spec.ExpandExpression -/
noncomputable def E22 : Env := ⟨ty0, fun g => ifEq g 44 (some A44) (ifEq g 45 (some A45) (none)), fun _ => none, fun _ => none, fun _ => none⟩
theorem E22_ok : FnsOk prog E22 := (oF A44_ok func44 (oF A45_ok func45 (yc1 _ _)))
noncomputable def L22_0 : Nat → Option LoopD := fun _ => none
noncomputable def yh8 : ByteArray → Int → Option (ByteArray × Bool) := fun a0 a1 =>
 Option.bind (ym0 a0) fun r0 =>
  bif (!r0) then
   some ((⟨#[]⟩ : ByteArray), false)
  else
   bif (decide (a1 < (1 : Int))) then
    some ((⟨#[]⟩ : ByteArray), false)
   else
    Option.bind (y4j a0 a1) fun r1 =>
     bif (decide ((((ByteArray.size r1) : Nat) : Int) > (1000 : Int))) then
      some ((⟨#[]⟩ : ByteArray), false)
     else
      some (r1, true)
noncomputable def A22 : FnA := ⟨[.v .str, .v (.int .i64)], true, [.str, .bool], fun x => yh8 x.1 x.2.1⟩
theorem y3y : fnF E22 L22_0 [.v .str, .v (.int .i64)] true [.str, .bool] f22.ntmps f22.results.toList (ya2 f22) = fun x => yh8 x.1 x.2.1 := by kernel_rfl
theorem A22_ok : FnOk prog 22 A22 := fo y3y func22 E22_ok ya0
/-! spec.l2Unit -/
noncomputable def E70 : Env := ⟨ty0, fun _ => none, fun _ => none, fun _ => none, fun _ => none⟩
theorem E70_ok : FnsOk prog E70 := (yc1 _ _)
noncomputable def L70_0 : Nat → Option LoopD := fun _ => none
def kp7 : List Fm := .cell (.val (.int .i64)) :: d :: .box 100200 [.val (.int .i64), .own (.int .i64) 100202 false] :: .box 100300 [.val (.int .i64), .own (.int .i64) 100302 false] :: D 5 (.cell (.val (.int .i64)) :: .cell (.val (.int .i64)) :: D 21 [])
def kp8 : List (Ex × List Fm) := [(.exit 0, [d, d, .box 100200 [.val (.int .i64), .own (.int .i64) 100202 false], .box 100300 [.val (.int .i64), .own (.int .i64) 100302 false], d, d, d, d, d, d, d, d, d, d, d, d, d, d, d, d, d, d, d, d, d, d, d, d, d, d, d, d])]
noncomputable def ym8 : (Int × (Int × (List Int) × Unit) × (Int × (List Int) × Unit) × Int × Int × Unit) → Option ((Int × (Int × (List Int) × Unit) × (Int × (List Int) × Unit) × Int × Int × Unit) ⊕ (((Int × (List Int) × Unit) × (Int × (List Int) × Unit) × Unit))) := fun (v0, (v2_0, v2_1, _), (v3_0, v3_1, _), v9, v10, _) =>
 bif (decide (v10 < v9)) then
  if (v0 = (0 : Int)) then
   none
  else
   if (v0 = (0 : Int)) then
    none
   else
    bif ((IntKind.wrap .i64 (Int.tdiv v10 v0)) == (Int.tmod v10 v0)) then
     if (((0 + (List.length v3_1)) = (List.length v3_1)) ∧ ((((List.length v3_1) + (List.length (List.take 1 (List.drop 0 [(0 : Int)])))) * 8) ≤ 140737488355328)) then
      some (Sum.inl (v0, (v2_0, (List.take (List.length v2_1) (List.drop 0 v2_1)), ()), (v3_0, (List.take ((List.length v3_1) + (List.length (List.take 1 (List.drop 0 [(0 : Int)])))) (List.drop 0 ((List.drop 0 v3_1) ++ (List.take 1 (List.drop 0 [(0 : Int)]))))), ()), v9, (IntKind.wrap .i64 (v10 + (1 : Int))), ()))
     else
      none
    else
     if (((0 + (List.length v3_1)) = (List.length v3_1)) ∧ ((((List.length v3_1) + (List.length (List.take 1 (List.drop 0 [(1000000 : Int)])))) * 8) ≤ 140737488355328)) then
      some (Sum.inl (v0, (v2_0, (List.take (List.length v2_1) (List.drop 0 v2_1)), ()), (v3_0, (List.take ((List.length v3_1) + (List.length (List.take 1 (List.drop 0 [(1000000 : Int)])))) (List.drop 0 ((List.drop 0 v3_1) ++ (List.take 1 (List.drop 0 [(1000000 : Int)]))))), ()), v9, (IntKind.wrap .i64 (v10 + (1 : Int))), ()))
     else
      none
 else
  some (Sum.inr ((v2_0, (List.take (List.length v2_1) (List.drop 0 v2_1)), ()), (v3_0, (List.take (List.length v3_1) (List.drop 0 v3_1)), ()), ()))
theorem zf6 : ya6 32 E70 L70_0 (ya1 f70 3) kp7 kp8 = ym8 := by kernel_rfl
theorem k0a {L} (h : L 3 = some ⟨32, kp7, kp8, ym8⟩) : yc0 prog L (ya1 f70 3) := lo zf6 E70_ok ya0 h
noncomputable def L70_1 : Nat → Option LoopD := fun n => ifEq n 3 (some ⟨32, kp7, kp8, ym8⟩) (L70_0 n)
noncomputable def y2i : Int → Option ((Int × (List Int))) := fun a0 =>
 Option.bind (ya4 ym8 (a0, ((0 : Int), [], ()), (a0, [], ()), (IntKind.wrap .i64 (a0 * a0)), (0 : Int), ())) fun ((r0, r1, _), (r2, r3, _), _) =>
  some (r2, (List.take (List.length r3) (List.drop 0 r3)))
noncomputable def A70 : FnA := ⟨[.v (.int .i64)], true, [.pair (.int .i64) (.sl (.int .i64))], fun x => y2i x.1⟩
theorem zy6 : fnF E70 L70_1 [.v (.int .i64)] true [.pair (.int .i64) (.sl (.int .i64))] f70.ntmps f70.results.toList (ya2 f70) = fun x => y2i x.1 := by kernel_rfl
theorem A70_ok : FnOk prog 70 A70 := fo zy6 func70 E70_ok (yb4 (k0a rfl) ya0)
/-! spec.l1Add -/
noncomputable def E101 : Env := ⟨ty0, fun _ => none, fun _ => none, fun _ => none, fun _ => none⟩
theorem E101_ok : FnsOk prog E101 := (yc1 _ _)
noncomputable def L101_0 : Nat → Option LoopD := fun _ => none
noncomputable def y3z : Int → Int → Option (Int) := fun a0 a1 =>
 some (if ((1000000 : Int) < (IntKind.wrap .i64 (a0 + a1))) then (1000000 : Int) else (IntKind.wrap .i64 (a0 + a1)))
noncomputable def A101 : FnA := ⟨[.v (.int .i64), .v (.int .i64)], true, [.int .i64], fun x => y3z x.1 x.2.1⟩
theorem z2e : fnF E101 L101_0 [.v (.int .i64), .v (.int .i64)] true [.int .i64] f101.ntmps f101.results.toList (ya2 f101) = fun x => y3z x.1 x.2.1 := by kernel_rfl
theorem A101_ok : FnOk prog 101 A101 := fo z2e func101 E101_ok ya0
/-! spec.l2Mul -/
noncomputable def E72 : Env := ⟨ty0, fun g => ifEq g 101 (some A101) (none), fun _ => none, fun _ => none, fun _ => none⟩
theorem kp9 : FnsOk prog E72 := (oF A101_ok func101 (yc1 _ _))
noncomputable def L72_0 : Nat → Option LoopD := fun _ => none
def kq0 : List Fm := d :: d :: .box 100200 [.val (.int .i64), .val (.sl (.int .i64))] :: .box 100300 [.val (.int .i64), .val (.sl (.int .i64))] :: .box 100400 [.val (.int .i64), .own (.int .i64) 100402 false] :: .box 100500 [.val (.int .i64), .own (.int .i64) 100502 false] :: d :: .cell (.val (.int .i64)) :: .cell (.val (.int .i64)) :: .cell (.val (.int .i64)) :: D 8 (.cell (.val (.int .i64)) :: .cell (.val (.int .i64)) :: D 11 (.cell (.val (.int .i64)) :: .cell (.val (.int .i64)) :: D 34 []))
def kq1 : List (Ex × List Fm) := [(.exit 2, [d, d, .box 100200 [.val (.int .i64), .val (.sl (.int .i64))], .box 100300 [.val (.int .i64), .val (.sl (.int .i64))], .box 100400 [.val (.int .i64), .own (.int .i64) 100402 false], .box 100500 [.val (.int .i64), .own (.int .i64) 100502 false], d, d, d, .cell (.val (.int .i64)), d, d, d, d, d, d, d, d, .cell (.val (.int .i64)), .cell (.val (.int .i64)), d, d, d, d, d, d, d, d, d, d, d, d, d, d, d, d, d, d, d, d, d, d, d, d, d, d, d, d, d, d, d, d, d, d, d, d, d, d, d, d, d, d, d, d, d, d, d])]
noncomputable def yp0 : ((Int × (List Int) × Unit) × (Int × (List Int) × Unit) × (Int × (List Int) × Unit) × (Int × (List Int) × Unit) × Int × Int × Int × Int × Int × Int × Int × Unit) → Option (((Int × (List Int) × Unit) × (Int × (List Int) × Unit) × (Int × (List Int) × Unit) × (Int × (List Int) × Unit) × Int × Int × Int × Int × Int × Int × Int × Unit) ⊕ (((Int × (List Int) × Unit) × (Int × (List Int) × Unit) × (Int × (List Int) × Unit) × (Int × (List Int) × Unit) × Int × Int × Int × Unit))) := fun ((v2_0, v2_1, _), (v3_0, v3_1, _), (v4_0, v4_1, _), (v5_0, v5_1, _), v7, v8, v9, v18, v19, v31, v32, _) =>
 bif (decide (v32 < v31)) then
  if (((0 : Int) ≤ (IntKind.wrap .i64 ((IntKind.wrap .i64 (v7 * v2_0)) + v32))) ∧ ((IntKind.wrap .i64 ((IntKind.wrap .i64 (v7 * v2_0)) + v32)) < (((List.length v2_1) : Nat) : Int))) then
   if (((0 : Int) ≤ (IntKind.wrap .i64 ((IntKind.wrap .i64 (v32 * v2_0)) + v8))) ∧ ((IntKind.wrap .i64 ((IntKind.wrap .i64 (v32 * v2_0)) + v8)) < (((List.length v3_1) : Nat) : Int))) then
    Option.bind (y3z (List.getD v2_1 (Int.toNat (IntKind.wrap .i64 ((IntKind.wrap .i64 (v7 * v2_0)) + v32))) (0 : Int)) (List.getD v3_1 (Int.toNat (IntKind.wrap .i64 ((IntKind.wrap .i64 (v32 * v2_0)) + v8))) (0 : Int))) fun r0 =>
     some (Sum.inl ((v2_0, v2_1, ()), (v3_0, v3_1, ()), (v4_0, (List.take (List.length v4_1) (List.drop 0 v4_1)), ()), (v5_0, (List.take (List.length v5_1) (List.drop 0 v5_1)), ()), v7, v8, (if (r0 < v9) then r0 else v9), v18, v19, v31, (IntKind.wrap .i64 (v32 + (1 : Int))), ()))
   else
    none
  else
   none
 else
  some (Sum.inr ((v2_0, v2_1, ()), (v3_0, v3_1, ()), (v4_0, (List.take (List.length v4_1) (List.drop 0 v4_1)), ()), (v5_0, (List.take (List.length v5_1) (List.drop 0 v5_1)), ()), v9, v18, v19, ()))
theorem zl3 : ya6 67 E72 L72_0 (ya1 f72 8) kq0 kq1 = yp0 := by kernel_rfl
theorem k0b {L} (h : L 8 = some ⟨67, kq0, kq1, yp0⟩) : yc0 prog L (ya1 f72 8) := lo zl3 kp9 ya0 h
noncomputable def L72_1 : Nat → Option LoopD := fun n => ifEq n 8 (some ⟨67, kq0, kq1, yp0⟩) (L72_0 n)
def kq2 : List Fm := d :: d :: .box 100200 [.val (.int .i64), .val (.sl (.int .i64))] :: .box 100300 [.val (.int .i64), .val (.sl (.int .i64))] :: .box 100400 [.val (.int .i64), .own (.int .i64) 100402 false] :: .box 100500 [.val (.int .i64), .own (.int .i64) 100502 false] :: D 12 (.cell (.val (.int .i64)) :: .cell (.val (.int .i64)) :: D 47 [])
def kq3 : List (Ex × List Fm) := [(.exit 0, [d, d, d, d, .box 100400 [.val (.int .i64), .own (.int .i64) 100402 false], .box 100500 [.val (.int .i64), .own (.int .i64) 100502 false], d, d, d, d, d, d, d, d, d, d, d, d, d, d, d, d, d, d, d, d, d, d, d, d, d, d, d, d, d, d, d, d, d, d, d, d, d, d, d, d, d, d, d, d, d, d, d, d, d, d, d, d, d, d, d, d, d, d, d, d, d])]
noncomputable def yp1 : ((Int × (List Int) × Unit) × (Int × (List Int) × Unit) × (Int × (List Int) × Unit) × (Int × (List Int) × Unit) × Int × Int × Unit) → Option (((Int × (List Int) × Unit) × (Int × (List Int) × Unit) × (Int × (List Int) × Unit) × (Int × (List Int) × Unit) × Int × Int × Unit) ⊕ (((Int × (List Int) × Unit) × (Int × (List Int) × Unit) × Unit))) := fun ((v2_0, v2_1, _), (v3_0, v3_1, _), (v4_0, v4_1, _), (v5_0, v5_1, _), v18, v19, _) =>
 bif (decide (v19 < v18)) then
  if (v2_0 = (0 : Int)) then
   none
  else
   if (v2_0 = (0 : Int)) then
    none
   else
    Option.bind (ya4 yp0 ((v2_0, v2_1, ()), (v3_0, v3_1, ()), (v4_0, (List.take (List.length v4_1) (List.drop 0 v4_1)), ()), (v5_0, (List.take (List.length v5_1) (List.drop 0 v5_1)), ()), (IntKind.wrap .i64 (Int.tdiv v19 v2_0)), (Int.tmod v19 v2_0), (1000000 : Int), v18, v19, v2_0, (0 : Int), ())) fun ((r0, r1, _), (r2, r3, _), (r4, r5, _), (r6, r7, _), r8, r9, r10, _) =>
     if (((0 + (List.length r7)) = (List.length r7)) ∧ ((((List.length r7) + (List.length (List.take 1 (List.drop 0 [r8])))) * 8) ≤ 140737488355328)) then
      some (Sum.inl ((r0, r1, ()), (r2, r3, ()), (r4, (List.take (List.length r5) (List.drop 0 r5)), ()), (r6, (List.take ((List.length r7) + (List.length (List.take 1 (List.drop 0 [r8])))) (List.drop 0 ((List.drop 0 r7) ++ (List.take 1 (List.drop 0 [r8]))))), ()), r9, (IntKind.wrap .i64 (r10 + (1 : Int))), ()))
     else
      none
 else
  some (Sum.inr ((v4_0, (List.take (List.length v4_1) (List.drop 0 v4_1)), ()), (v5_0, (List.take (List.length v5_1) (List.drop 0 v5_1)), ()), ()))
theorem zl4 : ya6 67 E72 L72_1 (ya1 f72 3) kq2 kq3 = yp1 := by kernel_rfl
theorem k0c {L} (h : L 3 = some ⟨67, kq2, kq3, yp1⟩) : yc0 prog L (ya1 f72 3) := lo zl4 kp9 (yb4 (k0b rfl) ya0) h
noncomputable def L72_2 : Nat → Option LoopD := fun n => ifEq n 3 (some ⟨67, kq2, kq3, yp1⟩) (L72_1 n)
noncomputable def y1j : (Int × (List Int)) → (Int × (List Int)) → Option ((Int × (List Int))) := fun (a0_0, a0_1) (a1_0, a1_1) =>
 Option.bind (ya4 yp1 ((a0_0, a0_1, ()), (a1_0, a1_1, ()), ((0 : Int), [], ()), (a0_0, [], ()), (IntKind.wrap .i64 (a0_0 * a0_0)), (0 : Int), ())) fun ((r0, r1, _), (r2, r3, _), _) =>
  some (r2, (List.take (List.length r3) (List.drop 0 r3)))
noncomputable def A72 : FnA := ⟨[.v (.pair (.int .i64) (.sl (.int .i64))), .v (.pair (.int .i64) (.sl (.int .i64)))], true, [.pair (.int .i64) (.sl (.int .i64))], fun x => y1j x.1 x.2.1⟩
theorem z2f : fnF E72 L72_2 [.v (.pair (.int .i64) (.sl (.int .i64))), .v (.pair (.int .i64) (.sl (.int .i64)))] true [.pair (.int .i64) (.sl (.int .i64))] f72.ntmps f72.results.toList (ya2 f72) = fun x => y1j x.1 x.2.1 := by kernel_rfl
theorem A72_ok : FnOk prog 72 A72 := fo z2f func72 kp9 (yb4 (k0c rfl) ya0)
/-! spec.l4Matrix -/
noncomputable def E47 : Env := ⟨ty0, fun g => ifEq g 70 (some A70) (ifEq g 71 (some A71) (ifEq g 72 (some A72) (none))), fun _ => none, fun _ => none, fun _ => none⟩
theorem E47_ok : FnsOk prog E47 := (oF A70_ok func70 (oF z0s func71 (oF A72_ok func72 (yc1 _ _))))
noncomputable def L47_0 : Nat → Option LoopD := fun _ => none
def kq4 : List Fm := d :: .cell (.val .str) :: d :: d :: .box 100400 [.val (.int .i64), .own (.int .i64) 100402 false] :: .box 100500 [.val (.int .i64), .own (.int .i64) 100502 false] :: .box 100600 [.val (.int .i64), .own (.int .i64) 100602 false] :: .box 100700 [.val (.int .i64), .own (.int .i64) 100702 false] :: D 9 (.cell (.val (.int .i64)) :: .cell (.val (.int .i64)) :: D 14 [])
def kq5 : List (Ex × List Fm) := [(.exit 0, [d, d, d, d, .box 100400 [.val (.int .i64), .own (.int .i64) 100402 false], .box 100500 [.val (.int .i64), .own (.int .i64) 100502 false], d, d, d, d, d, d, d, d, d, d, d, d, d, d, d, d, d, d, d, d, d, d, d, d, d, d, d])]
noncomputable def yj2 : (ByteArray × (Int × (List Int) × Unit) × (Int × (List Int) × Unit) × (Int × (List Int) × Unit) × (Int × (List Int) × Unit) × Int × Int × Unit) → Option ((ByteArray × (Int × (List Int) × Unit) × (Int × (List Int) × Unit) × (Int × (List Int) × Unit) × (Int × (List Int) × Unit) × Int × Int × Unit) ⊕ (((Int × (List Int) × Unit) × (Int × (List Int) × Unit) × Unit))) := fun (v1, (v4_0, v4_1, _), (v5_0, v5_1, _), (v6_0, v6_1, _), (v7_0, v7_1, _), v17, v18, _) =>
 bif (decide (v18 < v17)) then
  if (((0 : Int) ≤ v18) ∧ (v18 < (((ByteArray.size v1) : Nat) : Int))) then
   bif ((((UInt8.toNat (Array.getD (ByteArray.data v1) (Int.toNat v18) (0 : UInt8))) : Nat) : Int) == (97 : Int)) then
    Option.bind (y1j (v5_0, (List.take (List.length v5_1) (List.drop 0 v5_1))) (v6_0, (List.take (List.length v6_1) (List.drop 0 v6_1)))) fun (r0, r1) =>
     some (Sum.inl (v1, (v4_0, (List.take (List.length v4_1) (List.drop 0 v4_1)), ()), (r0, (List.take (List.length r1) (List.drop 0 r1)), ()), (v6_0, (List.take (List.length v6_1) (List.drop 0 v6_1)), ()), (v7_0, (List.take (List.length v7_1) (List.drop 0 v7_1)), ()), v17, (IntKind.wrap .i64 (v18 + (1 : Int))), ()))
   else
    Option.bind (y1j (v5_0, (List.take (List.length v5_1) (List.drop 0 v5_1))) (v7_0, (List.take (List.length v7_1) (List.drop 0 v7_1)))) fun (r2, r3) =>
     some (Sum.inl (v1, (v4_0, (List.take (List.length v4_1) (List.drop 0 v4_1)), ()), (r2, (List.take (List.length r3) (List.drop 0 r3)), ()), (v6_0, (List.take (List.length v6_1) (List.drop 0 v6_1)), ()), (v7_0, (List.take (List.length v7_1) (List.drop 0 v7_1)), ()), v17, (IntKind.wrap .i64 (v18 + (1 : Int))), ()))
  else
   none
 else
  some (Sum.inr ((v4_0, (List.take (List.length v4_1) (List.drop 0 v4_1)), ()), (v5_0, (List.take (List.length v5_1) (List.drop 0 v5_1)), ()), ()))
theorem y8i : ya6 33 E47 L47_0 (ya1 f47 4) kq4 kq5 = yj2 := by kernel_rfl
theorem k0d {L} (h : L 4 = some ⟨33, kq4, kq5, yj2⟩) : yc0 prog L (ya1 f47 4) := lo y8i E47_ok ya0 h
noncomputable def L47_1 : Nat → Option LoopD := fun n => ifEq n 4 (some ⟨33, kq4, kq5, yj2⟩) (L47_0 n)
noncomputable def yy5 : (Int × ((List Int) × ((List Int) × (List (Int × (ByteArray × (Int × Int))))))) → ByteArray → Option ((Int × (List Int))) := fun (a0_0, a0_1, a0_2, a0_3) a1 =>
 Option.bind (y2i a0_0) fun (r0, r1) =>
  Option.bind (yi4 (a0_0, a0_1, a0_2, a0_3) (⟨#[(97 : UInt8)]⟩ : ByteArray)) fun (r2, r3) =>
   Option.bind (yi4 (a0_0, a0_1, a0_2, a0_3) (⟨#[(98 : UInt8)]⟩ : ByteArray)) fun (r4, r5) =>
    Option.bind (ya4 yj2 (a1, ((0 : Int), [], ()), (r0, (List.take (List.length r1) (List.drop 0 r1)), ()), (r2, (List.take (List.length r3) (List.drop 0 r3)), ()), (r4, (List.take (List.length r5) (List.drop 0 r5)), ()), (((ByteArray.size a1) : Nat) : Int), (0 : Int), ())) fun ((r6, r7, _), (r8, r9, _), _) =>
     some (r8, (List.take (List.length r9) (List.drop 0 r9)))
noncomputable def A47 : FnA := ⟨[.v (.pair (.int .i64) (.pair (.sl (.int .i64)) (.pair (.sl (.int .i64)) (.sl (.pair (.int .i64) (.pair .str (.pair (.int .i64) (.int .i64)))))))), .v .str], true, [.pair (.int .i64) (.sl (.int .i64))], fun x => yy5 x.1 x.2.1⟩
theorem zl5 : fnF E47 L47_1 [.v (.pair (.int .i64) (.pair (.sl (.int .i64)) (.pair (.sl (.int .i64)) (.sl (.pair (.int .i64) (.pair .str (.pair (.int .i64) (.int .i64)))))))), .v .str] true [.pair (.int .i64) (.sl (.int .i64))] f47.ntmps f47.results.toList (ya2 f47) = fun x => yy5 x.1 x.2.1 := by kernel_rfl
theorem A47_ok : FnOk prog 47 A47 := fo zl5 func47 E47_ok (yb4 (k0d rfl) ya0)
/-! spec.l4Least -/
noncomputable def E46 : Env := ⟨ty0, fun _ => none, fun _ => none, fun _ => none, fun _ => none⟩
theorem kq6 : FnsOk prog E46 := (yc1 _ _)
noncomputable def L46_0 : Nat → Option LoopD := fun _ => none
def kq7 : List Fm := d :: d :: .box 100200 [.val (.int .i64), .val (.sl (.int .i64)), .val (.sl (.int .i64)), .val (.sl (.pair (.int .i64) (.pair .str (.pair (.int .i64) (.int .i64)))))] :: .box 100300 [.val (.int .i64), .val (.sl (.int .i64))] :: d :: .cell (.val (.int .i64)) :: d :: .cell (.val (.int .i64)) :: d :: d :: d :: .cell (.val (.sl (.int .i64))) :: .cell (.val (.int .i64)) :: .cell (.val (.int .i64)) :: D 4 (.cell (.val (.sl (.int .i64))) :: .cell (.val (.int .i64)) :: .cell (.val (.int .i64)) :: D 18 [])
def kq8 : List (Ex × List Fm) := [(.exit 2, [d, d, .box 100200 [.val (.int .i64), .val (.sl (.int .i64)), .val (.sl (.int .i64)), .val (.sl (.pair (.int .i64) (.pair .str (.pair (.int .i64) (.int .i64)))))], .box 100300 [.val (.int .i64), .val (.sl (.int .i64))], d, .cell (.val (.int .i64)), d, d, d, d, d, .cell (.val (.sl (.int .i64))), .cell (.val (.int .i64)), .cell (.val (.int .i64)), d, d, d, d, d, d, d, d, d, d, d, d, d, d, d, d, d, d, d, d, d, d, d, d, d])]
noncomputable def yk9 : ((Int × (List Int) × (List Int) × (List (Int × (ByteArray × (Int × Int)))) × Unit) × (Int × (List Int) × Unit) × Int × Int × (List Int) × Int × Int × (List Int) × Int × Int × Unit) → Option (((Int × (List Int) × (List Int) × (List (Int × (ByteArray × (Int × Int)))) × Unit) × (Int × (List Int) × Unit) × Int × Int × (List Int) × Int × Int × (List Int) × Int × Int × Unit) ⊕ (((Int × (List Int) × (List Int) × (List (Int × (ByteArray × (Int × Int)))) × Unit) × (Int × (List Int) × Unit) × Int × (List Int) × Int × Int × Unit))) := fun ((v2_0, v2_1, v2_2, v2_3, _), (v3_0, v3_1, _), v5, v7, v11, v12, v13, v18, v19, v20, _) =>
 bif (decide (v20 < v19)) then
  if (((0 : Int) ≤ v20) ∧ (v20 < (((List.length v18) : Nat) : Int))) then
   if (((0 : Int) ≤ (IntKind.wrap .i64 ((IntKind.wrap .i64 (v7 * v2_0)) + (List.getD v18 (Int.toNat v20) (0 : Int))))) ∧ ((IntKind.wrap .i64 ((IntKind.wrap .i64 (v7 * v2_0)) + (List.getD v18 (Int.toNat v20) (0 : Int)))) < (((List.length v3_1) : Nat) : Int))) then
    some (Sum.inl ((v2_0, v2_1, v2_2, v2_3, ()), (v3_0, v3_1, ()), (if ((List.getD v3_1 (Int.toNat (IntKind.wrap .i64 ((IntKind.wrap .i64 (v7 * v2_0)) + (List.getD v18 (Int.toNat v20) (0 : Int))))) (0 : Int)) < v5) then (List.getD v3_1 (Int.toNat (IntKind.wrap .i64 ((IntKind.wrap .i64 (v7 * v2_0)) + (List.getD v18 (Int.toNat v20) (0 : Int))))) (0 : Int)) else v5), v7, v11, v12, v13, v18, v19, (IntKind.wrap .i64 (v20 + (1 : Int))), ()))
   else
    none
  else
   none
 else
  some (Sum.inr ((v2_0, v2_1, v2_2, v2_3, ()), (v3_0, v3_1, ()), v5, v11, v12, v13, ()))
theorem y9v : ya6 39 E46 L46_0 (ya1 f46 6) kq7 kq8 = yk9 := by kernel_rfl
theorem k0e {L} (h : L 6 = some ⟨39, kq7, kq8, yk9⟩) : yc0 prog L (ya1 f46 6) := lo y9v kq6 ya0 h
noncomputable def L46_1 : Nat → Option LoopD := fun n => ifEq n 6 (some ⟨39, kq7, kq8, yk9⟩) (L46_0 n)
def kq9 : List Fm := d :: d :: .box 100200 [.val (.int .i64), .val (.sl (.int .i64)), .val (.sl (.int .i64)), .val (.sl (.pair (.int .i64) (.pair .str (.pair (.int .i64) (.int .i64)))))] :: .box 100300 [.val (.int .i64), .val (.sl (.int .i64))] :: d :: .cell (.val (.int .i64)) :: D 5 (.cell (.val (.sl (.int .i64))) :: .cell (.val (.int .i64)) :: .cell (.val (.int .i64)) :: D 25 [])
def kr0 : List (Ex × List Fm) := [(.exit 0, (D 5 (.cell (.val (.int .i64)) :: D 33 [])))]
noncomputable def yl0 : ((Int × (List Int) × (List Int) × (List (Int × (ByteArray × (Int × Int)))) × Unit) × (Int × (List Int) × Unit) × Int × (List Int) × Int × Int × Unit) → Option (((Int × (List Int) × (List Int) × (List (Int × (ByteArray × (Int × Int)))) × Unit) × (Int × (List Int) × Unit) × Int × (List Int) × Int × Int × Unit) ⊕ ((Int × Unit))) := fun ((v2_0, v2_1, v2_2, v2_3, _), (v3_0, v3_1, _), v5, v11, v12, v13, _) =>
 bif (decide (v13 < v12)) then
  if (((0 : Int) ≤ v13) ∧ (v13 < (((List.length v11) : Nat) : Int))) then
   Option.bind (ya4 yk9 ((v2_0, v2_1, v2_2, v2_3, ()), (v3_0, v3_1, ()), v5, (List.getD v11 (Int.toNat v13) (0 : Int)), v11, v12, v13, v2_2, (((List.length v2_2) : Nat) : Int), (0 : Int), ())) fun ((r0, r1, r2, r3, _), (r4, r5, _), r6, r7, r8, r9, _) =>
    some (Sum.inl ((r0, r1, r2, r3, ()), (r4, r5, ()), r6, r7, r8, (IntKind.wrap .i64 (r9 + (1 : Int))), ()))
  else
   none
 else
  some (Sum.inr (v5, ()))
theorem y9w : ya6 39 E46 L46_1 (ya1 f46 3) kq9 kr0 = yl0 := by kernel_rfl
theorem k0f {L} (h : L 3 = some ⟨39, kq9, kr0, yl0⟩) : yc0 prog L (ya1 f46 3) := lo y9w kq6 (yb4 (k0e rfl) ya0) h
noncomputable def L46_2 : Nat → Option LoopD := fun n => ifEq n 3 (some ⟨39, kq9, kr0, yl0⟩) (L46_1 n)
noncomputable def yx0 : (Int × ((List Int) × ((List Int) × (List (Int × (ByteArray × (Int × Int))))))) → (Int × (List Int)) → Option (Int) := fun (a0_0, a0_1, a0_2, a0_3) (a1_0, a1_1) =>
 Option.bind (ya4 yl0 ((a0_0, a0_1, a0_2, a0_3, ()), (a1_0, a1_1, ()), (1000000 : Int), a0_1, (((List.length a0_1) : Nat) : Int), (0 : Int), ())) fun (r0, _) =>
  some r0
noncomputable def A46 : FnA := ⟨[.v (.pair (.int .i64) (.pair (.sl (.int .i64)) (.pair (.sl (.int .i64)) (.sl (.pair (.int .i64) (.pair .str (.pair (.int .i64) (.int .i64)))))))), .v (.pair (.int .i64) (.sl (.int .i64)))], true, [.int .i64], fun x => yx0 x.1 x.2.1⟩
theorem zu4 : fnF E46 L46_2 [.v (.pair (.int .i64) (.pair (.sl (.int .i64)) (.pair (.sl (.int .i64)) (.sl (.pair (.int .i64) (.pair .str (.pair (.int .i64) (.int .i64)))))))), .v (.pair (.int .i64) (.sl (.int .i64)))] true [.int .i64] f46.ntmps f46.results.toList (ya2 f46) = fun x => yx0 x.1 x.2.1 := by kernel_rfl
theorem A46_ok : FnOk prog 46 A46 := fo zu4 func46 kq6 (yb4 (k0f rfl) ya0)
/-! spec.l4Cost -/
noncomputable def E23 : Env := ⟨ty0, fun g => ifEq g 47 (some A47) (ifEq g 46 (some A46) (none)), fun _ => none, fun _ => none, fun _ => none⟩
theorem E23_ok : FnsOk prog E23 := (oF A47_ok func47 (oF A46_ok func46 (yc1 _ _)))
noncomputable def L23_0 : Nat → Option LoopD := fun _ => none
noncomputable def yt4 : (Int × ((List Int) × ((List Int) × (List (Int × (ByteArray × (Int × Int))))))) → ByteArray → Option (Int) := fun (a0_0, a0_1, a0_2, a0_3) a1 =>
 Option.bind (yy5 (a0_0, a0_1, a0_2, a0_3) a1) fun (r0, r1) =>
  Option.bind (yx0 (a0_0, a0_1, a0_2, a0_3) (r0, (List.take (List.length r1) (List.drop 0 r1)))) fun r2 =>
   some r2
noncomputable def A23 : FnA := ⟨[.v (.pair (.int .i64) (.pair (.sl (.int .i64)) (.pair (.sl (.int .i64)) (.sl (.pair (.int .i64) (.pair .str (.pair (.int .i64) (.int .i64)))))))), .v .str], true, [.int .i64], fun x => yt4 x.1 x.2.1⟩
theorem zy7 : fnF E23 L23_0 [.v (.pair (.int .i64) (.pair (.sl (.int .i64)) (.pair (.sl (.int .i64)) (.sl (.pair (.int .i64) (.pair .str (.pair (.int .i64) (.int .i64)))))))), .v .str] true [.int .i64] f23.ntmps f23.results.toList (ya2 f23) = fun x => yt4 x.1 x.2.1 := by kernel_rfl
theorem A23_ok : FnOk prog 23 A23 := fo zy7 func23 E23_ok ya0
/-! spec.WordOver -/
noncomputable def E7 : Env := ⟨ty0, fun g => ifEq g 16 (some A16) (ifEq g 22 (some A22) (ifEq g 23 (some A23) (none))), fun _ => none, fun _ => none, fun _ => none⟩
theorem E7_ok : FnsOk prog E7 := (oF A16_ok func16 (oF A22_ok func22 (oF A23_ok func23 (yc1 _ _))))
noncomputable def L7_0 : Nat → Option LoopD := fun _ => none
def sh7_5 : List Fm := d :: .cell (.val (.int .i64)) :: .box 100200 [.val (.int .i64), .val (.sl (.int .i64)), .val (.sl (.int .i64)), .val (.sl (.pair (.int .i64) (.pair .str (.pair (.int .i64) (.int .i64)))))] :: d :: d :: d :: .cell (.val .str) :: d :: .cell (.val (.int .i64)) :: D 31 []
def xs7_5 : List (Ex × List Fm) := [(.ret, (D 4 (.cell (.val .str) :: .cell (.val .bool) :: D 34 []))), (.exit 0, (D 40 []))]
noncomputable def yj3 : (Int × (Int × (List Int) × (List Int) × (List (Int × (ByteArray × (Int × Int)))) × Unit) × ByteArray × Int × Unit) → Option ((Int × (Int × (List Int) × (List Int) × (List (Int × (ByteArray × (Int × Int)))) × Unit) × ByteArray × Int × Unit) ⊕ ((ByteArray × Bool × Unit) ⊕ (Unit))) := fun (v1, (v2_0, v2_1, v2_2, v2_3, _), v6, v8, _) =>
 bif (decide (v8 ≤ (60 : Int))) then
  Option.bind (yh8 v6 v8) fun (r0, r1) =>
   bif (!r1) then
    some (Sum.inr (Sum.inl ((⟨#[]⟩ : ByteArray), false, ())))
   else
    Option.bind (yt4 (v2_0, v2_1, v2_2, v2_3) r0) fun r2 =>
     bif (decide (r2 ≥ v1)) then
      some (Sum.inr (Sum.inl (r0, true, ())))
     else
      some (Sum.inl (v1, (v2_0, v2_1, v2_2, v2_3, ()), v6, (IntKind.wrap .i64 (v8 + (1 : Int))), ()))
 else
  some (Sum.inr (Sum.inr ()))
theorem y8j : ya6 40 E7 L7_0 (ya1 f7 5) sh7_5 xs7_5 = yj3 := by kernel_rfl
theorem loop7_5 {L} (h : L 5 = some ⟨40, sh7_5, xs7_5, yj3⟩) : yc0 prog L (ya1 f7 5) := lo y8j E7_ok ya0 h
noncomputable def L7_1 : Nat → Option LoopD := fun n => ifEq n 5 (some ⟨40, sh7_5, xs7_5, yj3⟩) (L7_0 n)
noncomputable def yk3 : (Int × ((List Int) × ((List Int) × (List (Int × (ByteArray × (Int × Int))))))) → Int → Option (ByteArray × Bool) := fun (a0_0, a0_1, a0_2, a0_3) a1 =>
 Option.bind (yr8 (a0_0, a0_1, a0_2, a0_3)) fun (r0, r1) =>
  bif (!r1) then
   some ((⟨#[]⟩ : ByteArray), false)
  else
   bif (decide (a1 < (0 : Int))) then
    some ((⟨#[]⟩ : ByteArray), false)
   else
    Option.bind (ya4 yj3 (a1, (a0_0, a0_1, a0_2, a0_3, ()), r0, (1 : Int), ())) fun r2 =>
     (match r2 with
     | .inl (d3, d4, _) =>
       some (d3, d4)
     | .inr _ =>
       some ((⟨#[]⟩ : ByteArray), false))
noncomputable def A7 : FnA := ⟨[.v (.pair (.int .i64) (.pair (.sl (.int .i64)) (.pair (.sl (.int .i64)) (.sl (.pair (.int .i64) (.pair .str (.pair (.int .i64) (.int .i64)))))))), .v (.int .i64)], true, [.str, .bool], fun x => yk3 x.1 x.2.1⟩
theorem zl6 : fnF E7 L7_1 [.v (.pair (.int .i64) (.pair (.sl (.int .i64)) (.pair (.sl (.int .i64)) (.sl (.pair (.int .i64) (.pair .str (.pair (.int .i64) (.int .i64)))))))), .v (.int .i64)] true [.str, .bool] f7.ntmps f7.results.toList (ya2 f7) = fun x => yk3 x.1 x.2.1 := by kernel_rfl
theorem A7_ok : FnOk prog 7 A7 := fo zl6 func7 E7_ok (yb4 (loop7_5 rfl) ya0)
/-! laws.FnWordOver -/
noncomputable def E4 : Env := ⟨ty0, fun g => ifEq g 11 (some A11) (ifEq g 9 (some A9) (ifEq g 7 (some A7) (ifEq g 12 (some A12) (ifEq g 13 (some A13) (ifEq g 14 (some A14) (none)))))), fun _ => none, fun _ => none, fun _ => none⟩
theorem E4_ok : FnsOk prog E4 := (oF A11_ok func11 (oF A9_ok func9 (oF A7_ok func7 (oF A12_ok func12 (oF A13_ok func13 (oF A14_ok func14 (yc1 _ _)))))))
noncomputable def L4_0 : Nat → Option LoopD := fun _ => none
def kr1 : List Fm := d :: d :: d :: .box 100300 [.val (.int .i64), .val (.sl (.int .i64)), .val (.sl (.int .i64)), .val (.sl (.pair (.int .i64) (.pair .str (.pair (.int .i64) (.int .i64)))))] :: .cell (.val (.int .i64)) :: .cell (.val .str) :: d :: d :: d :: .cell (.val .str) :: .cell (.val .bool) :: .cell (.val (.int .i64)) :: .cell (.val (.int .i64)) :: D 86 []
def kr2 : List (Ex × List Fm) := [(.exit 0, (D 4 (.cell (.val (.int .i64)) :: D 5 (.cell (.val .bool) :: .cell (.val (.int .i64)) :: D 87 [])))), (.ret, (d :: d :: .cell (.val .bool) :: D 96 []))]
noncomputable def yd7 : ((Int × (List Int) × (List Int) × (List (Int × (ByteArray × (Int × Int)))) × Unit) × Int × ByteArray × ByteArray × Bool × Int × Int × Unit) → Option (((Int × (List Int) × (List Int) × (List (Int × (ByteArray × (Int × Int)))) × Unit) × Int × ByteArray × ByteArray × Bool × Int × Int × Unit) ⊕ ((Int × Bool × Int × Unit) ⊕ (Bool × Unit))) := fun ((v3_0, v3_1, v3_2, v3_3, _), v4, v5, v9, v10, v11, v12, _) =>
 bif (decide (v12 ≤ (6 : Int))) then
  Option.bind (ye4 v9 v12) fun (r0, r1) =>
   bif (!r1) then
    some (Sum.inr (Sum.inl (v4, v10, v11, ())))
   else
    bif ((ByteArray.toList r0) == (ByteArray.toList v5)) then
     some (Sum.inr (Sum.inl (v4, v10, v11, ())))
    else
     Option.bind (yl8 (v3_0, v3_1, v3_2, v3_3) r0) fun r2 =>
      bif (decide (r2 ≥ v4)) then
       some (Sum.inr (Sum.inr (false, ())))
      else
       some (Sum.inl ((v3_0, v3_1, v3_2, v3_3, ()), v4, v5, v9, v10, v11, (IntKind.wrap .i64 (v12 + (1 : Int))), ()))
 else
  some (Sum.inr (Sum.inl (v4, v10, v11, ())))
theorem y43 : ya6 99 E4 L4_0 (ya1 f4 11) kr1 kr2 = yd7 := by kernel_rfl
theorem k0g {L} (h : L 11 = some ⟨99, kr1, kr2, yd7⟩) : yc0 prog L (ya1 f4 11) := lo y43 E4_ok ya0 h
noncomputable def L4_1 : Nat → Option LoopD := fun n => ifEq n 11 (some ⟨99, kr1, kr2, yd7⟩) (L4_0 n)
noncomputable def yq2 : (List Int) → Option (Bool) := fun a0 =>
 bif (decide ((((List.length a0) : Nat) : Int) > (1048576 : Int))) then
  some true
 else
  Option.bind (yp6 a0) fun ((r0, r1, r2, r3), r4) =>
   Option.bind (yk2 (r0, r1, r2, r3) r4) fun (r5, r6) =>
    Option.bind (yk3 (r0, r1, r2, r3) r4) fun (r7, r8) =>
     bif (!((ByteArray.toList r5) == (ByteArray.toList r7))) then
      bif ((ByteArray.toList r5) == (ByteArray.toList r7)) then
       bif (r6 == r8) then
        some ((ByteArray.toList r5) == (ByteArray.toList (⟨#[]⟩ : ByteArray)))
       else
        some false
      else
       some false
     else
      bif (!(r6 == r8)) then
       bif ((ByteArray.toList r5) == (ByteArray.toList r7)) then
        bif (r6 == r8) then
         some ((ByteArray.toList r5) == (ByteArray.toList (⟨#[]⟩ : ByteArray)))
        else
         some false
       else
        some false
      else
       bif (!r6) then
        bif ((ByteArray.toList r5) == (ByteArray.toList r7)) then
         bif (r6 == r8) then
          some ((ByteArray.toList r5) == (ByteArray.toList (⟨#[]⟩ : ByteArray)))
         else
          some false
        else
         some false
       else
        Option.bind (yg7 (r0, r1, r2, r3)) fun (r9, r10) =>
         Option.bind (yl8 (r0, r1, r2, r3) r5) fun r11 =>
          Option.bind (ya4 yd7 ((r0, r1, r2, r3, ()), r4, r5, r9, r10, r11, (1 : Int), ())) fun r12 =>
           (match r12 with
           | .inl (d13, d14, d15, _) =>
             bif d14 then
              bif (decide (d15 ≥ d13)) then
               some (decide (d15 < (1000000 : Int)))
              else
               some false
             else
              some false
           | .inr (d16, _) =>
             some d16)
noncomputable def A4 : FnA := ⟨[.v (.sl (.int .u8))], true, [.bool], fun x => yq2 x.1⟩
theorem y9x : fnF E4 L4_1 [.v (.sl (.int .u8))] true [.bool] f4.ntmps f4.results.toList (ya2 f4) = fun x => yq2 x.1 := by kernel_rfl
theorem A4_ok : FnOk prog 4 A4 := fo y9x func4 E4_ok (yb4 (k0g rfl) ya0)
end Go.Proofs.YtfdhmmnffahhgaaGreat
