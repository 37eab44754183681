/- What Go functions that the laws reach compute, and that they do: written by a program of this session. -/
import Derived.Test.YtogigagfgkfkhaaGreatG1
import Derived.KernelRfl
set_option linter.unusedVariables false
namespace Go.Proofs.YtogigagfgkfkhaaGreat
open Go Go.Proofs.YtogigagfgkfkhaaGreat.Am Go.Proofs.Tryz
set_option maxRecDepth 100000
noncomputable section
def R120 (impl_value_rec : TA → (List (ByteArray × PT)) → Option (TM × Bool)) : FnA := ⟨[.v kA, .v (.sl (.pair .str .pt))], true, [.pair i6 sI, .bool], fun x => impl_value_rec x.1 x.2.1⟩
def E120 (impl_value_rec : TA → (List (ByteArray × PT)) → Option (TM × Bool)) : Env := ev fun g => ifEq g 149 (some A149) (ifEq g 150 (some A150) (ifEq g 120 (some (R120 impl_value_rec)) (ifEq g 54 (some A54) (ifEq g 56 (some A56) (none)))))
theorem zs8 (impl_value_rec : TA → (List (ByteArray × PT)) → Option (TM × Bool)) (hrec : FnOk prog 120 (R120 impl_value_rec)) : FnsOk prog (E120 impl_value_rec) := (oF A149_ok func149 (oF A150_ok func150 (oF hrec func120 (oF y9r func54 (oF y7t func56 (ye2 _ _))))))
def z9c (impl_value_rec : TA → (List (ByteArray × PT)) → Option (TM × Bool)) : Nat → Option LoopD := fun _ => none
def z2c : List Fm := d :: d :: .box 100200 [.val i6, .val sI, .val sI, .val sS] :: d :: .box 100400 [.val i6, .own i6 100402 false] :: d :: .box 100600 [.val i6, .own i6 100602 false] :: D 6 (.cell (.val (.sl (.pair .str .pt))) :: .cell (.val i6) :: .cell (.val i6) :: D 46 [])
def z2d : List (Ex × List Fm) := [(.ret, [d, d, d, d, .box 100400 [.val i6, .own i6 100402 false], .cell (.val .bool), d, d, d, d, d, d, d, d, d, d, d, d, d, d, d, d, d, d, d, d, d, d, d, d, d, d, d, d, d, d, d, d, d, d, d, d, d, d, d, d, d, d, d, d, d, d, d, d, d, d, d, d, d, d, d, d]), (.exit 0, [d, d, d, d, .box 100400 [.val i6, .own i6 100402 false], d, .box 100600 [.val i6, .own i6 100602 false], d, d, d, d, d, d, d, d, d, d, d, d, d, d, d, d, d, d, d, d, d, d, d, d, d, d, d, d, d, d, d, d, d, d, d, d, d, d, d, d, d, d, d, d, d, d, d, d, d, d, d, d, d, d, d])]
def yo1 (impl_value_rec : TA → (List (ByteArray × PT)) → Option (TM × Bool)) : ((Int × LI × LI × LS × Unit) × (Int × LI × Unit) × (Int × LI × Unit) × (List (ByteArray × PT)) × Int × Int × Unit) → Option (((Int × LI × LI × LS × Unit) × (Int × LI × Unit) × (Int × LI × Unit) × (List (ByteArray × PT)) × Int × Int × Unit) ⊕ (((Int × LI × Unit) × Bool × Unit) ⊕ ((Int × LI × Unit) × (Int × LI × Unit) × Unit))) := fun ((v2_0, v2_1, v2_2, v2_3, _), (v4_0, v4_1, _), (v6_0, v6_1, _), v13, v14, v15, _) =>
 bif (decide (v15 < v14)) then
  if (((0 : Int) ≤ v15) ∧ (v15 < (((List.length v13) : Nat) : Int))) then
   bif (!((ByteArray.toList (List.getD v13 (Int.toNat v15) (⟨Array.empty⟩, (PT.mk []))).1) == (ByteArray.toList (⟨#[]⟩ : ByteArray)))) then
    Option.bind (yx7 (v2_0, v2_1, v2_2, v2_3) (List.getD v13 (Int.toNat v15) (⟨Array.empty⟩, (PT.mk []))).1) fun ((r0, r1), r2) =>
     Option.bind (y08 (r0, (List.take (List.length r1) (List.drop 0 r1)))) fun ((r3, r4), r5) =>
      bif (decide (v15 > 0)) then
       Option.bind (yj4 (v6_0, (List.take (List.length v6_1) (List.drop 0 v6_1))) (r3, (List.take (List.length r4) (List.drop 0 r4)))) fun ((r6, r7), r8) =>
        some (Sum.inl ((v2_0, v2_1, v2_2, v2_3, ()), (v4_0, (List.take (List.length v4_1) (List.drop 0 v4_1)), ()), (r6, (List.take (List.length r7) (List.drop 0 r7)), ()), v13, v14, (IntKind.wrap .i64 (v15 + 1)), ()))
      else
       some (Sum.inl ((v2_0, v2_1, v2_2, v2_3, ()), (v4_0, (List.take (List.length v4_1) (List.drop 0 v4_1)), ()), (r3, (List.take (List.length r4) (List.drop 0 r4)), ()), v13, v14, (IntKind.wrap .i64 (v15 + 1)), ()))
   else
    Option.bind (impl_value_rec (v2_0, v2_1, v2_2, v2_3) (PT.l (List.getD v13 (Int.toNat v15) (⟨Array.empty⟩, (PT.mk []))).2)) fun ((r9, r10), r11) =>
     bif r11 then
      Option.bind (yu9 (r9, (List.take (List.length r10) (List.drop 0 r10)))) fun ((r12, r13), r14) =>
       bif (!r14) then
        some (Sum.inr (Sum.inl (((0 : Int), [], ()), false, ())))
       else
        bif (decide (v15 > 0)) then
         Option.bind (yj4 (v6_0, (List.take (List.length v6_1) (List.drop 0 v6_1))) (r12, (List.take (List.length r13) (List.drop 0 r13)))) fun ((r15, r16), r17) =>
          some (Sum.inl ((v2_0, v2_1, v2_2, v2_3, ()), (v4_0, (List.take (List.length v4_1) (List.drop 0 v4_1)), ()), (r15, (List.take (List.length r16) (List.drop 0 r16)), ()), v13, v14, (IntKind.wrap .i64 (v15 + 1)), ()))
        else
         some (Sum.inl ((v2_0, v2_1, v2_2, v2_3, ()), (v4_0, (List.take (List.length v4_1) (List.drop 0 v4_1)), ()), (r12, (List.take (List.length r13) (List.drop 0 r13)), ()), v13, v14, (IntKind.wrap .i64 (v15 + 1)), ()))
     else
      bif (!r11) then
       some (Sum.inr (Sum.inl (((0 : Int), [], ()), false, ())))
      else
       bif (decide (v15 > 0)) then
        Option.bind (yj4 (v6_0, (List.take (List.length v6_1) (List.drop 0 v6_1))) (r9, (List.take (List.length r10) (List.drop 0 r10)))) fun ((r18, r19), r20) =>
         some (Sum.inl ((v2_0, v2_1, v2_2, v2_3, ()), (v4_0, (List.take (List.length v4_1) (List.drop 0 v4_1)), ()), (r18, (List.take (List.length r19) (List.drop 0 r19)), ()), v13, v14, (IntKind.wrap .i64 (v15 + 1)), ()))
       else
        some (Sum.inl ((v2_0, v2_1, v2_2, v2_3, ()), (v4_0, (List.take (List.length v4_1) (List.drop 0 v4_1)), ()), (r9, (List.take (List.length r10) (List.drop 0 r10)), ()), v13, v14, (IntKind.wrap .i64 (v15 + 1)), ()))
  else
   none
 else
  some (Sum.inr (Sum.inr ((v4_0, (List.take (List.length v4_1) (List.drop 0 v4_1)), ()), (v6_0, (List.take (List.length v6_1) (List.drop 0 v6_1)), ()), ())))
theorem za0 (impl_value_rec : TA → (List (ByteArray × PT)) → Option (TM × Bool)) : y5j 62 (E120 impl_value_rec) (z9c impl_value_rec) (ya8 f120 3) z2c z2d = (yo1 impl_value_rec) := by kernel_rfl
theorem z9d (impl_value_rec : TA → (List (ByteArray × PT)) → Option (TM × Bool)) (hrec : FnOk prog 120 (R120 impl_value_rec)) {L : Nat → Option LoopD} (h : L 3 = some ⟨62, z2c, z2d, (yo1 impl_value_rec)⟩) : yc0 prog L (ya8 f120 3) :=
 zx7 (yb8 yg0) (zs8 impl_value_rec hrec) (ye8 (L := (z9c impl_value_rec)) (yb8 yg0) (zs8 impl_value_rec hrec) mixed (c := ya8 f120 3) (bs := []) (by kernel_rfl) ya0 (by kernel_rfl)) (by kernel_rfl) (by kernel_rfl) (za0 impl_value_rec) (by rw [show yz0 (ya8 f120 3) = 3 from by kernel_rfl]; exact h)
def z9e (impl_value_rec : TA → (List (ByteArray × PT)) → Option (TM × Bool)) : Nat → Option LoopD := fun n => ifEq n 3 (some ⟨62, z2c, z2d, (yo1 impl_value_rec)⟩) ((z9c impl_value_rec) n)
def ys7 (impl_value_rec : TA → (List (ByteArray × PT)) → Option (TM × Bool)) : TA → (List (ByteArray × PT)) → Option (TM × Bool) := fun (a0_0, a0_1, a0_2, a0_3) a1 =>
 Option.bind (ya2 (yo1 impl_value_rec) ((a0_0, a0_1, a0_2, a0_3, ()), ((0 : Int), [], ()), ((0 : Int), [], ()), a1, (((List.length a1) : Nat) : Int), 0, ())) fun r0 =>
  (match r0 with
  | .inl ((d1, d2, _), d3, _) =>
    some ((d1, (List.take (List.length d2) (List.drop 0 d2))), d3)
  | .inr ((d4, d5, _), (d6, d7, _), _) =>
    some ((d6, (List.take (List.length d7) (List.drop 0 d7))), true))
theorem y7u (impl_value_rec : TA → (List (ByteArray × PT)) → Option (TM × Bool)) : fnF (E120 impl_value_rec) (z9e impl_value_rec) [.v kA, .v (.sl (.pair .str .pt))] true [.pair i6 sI, .bool] f120.ntmps f120.results.toList (yc4 f120) = fun x => (ys7 impl_value_rec) x.1 x.2.1 := by kernel_rfl
theorem y7v (impl_value_rec : TA → (List (ByteArray × PT)) → Option (TM × Bool)) (hrec : FnOk prog 120 (R120 impl_value_rec)) : FnOk prog 120 ⟨[.v kA, .v (.sl (.pair .str .pt))], true, [.pair i6 sI, .bool], fun x => (ys7 impl_value_rec) x.1 x.2.1⟩ := by
 have h := yr9 (P := prog) (E := (E120 impl_value_rec)) (yb8 yg0) (zs8 impl_value_rec hrec) (L := (z9e impl_value_rec)) (ps := [.v kA, .v (.sl (.pair .str .pt))]) (own := true) (outs := [.pair i6 sI, .bool]) func120 (c := yc4 f120) (by kernel_rfl) (ye8 (L := (z9e impl_value_rec)) (yb8 yg0) (zs8 impl_value_rec hrec) mixed (c := yc4 f120) (bs := [ya8 f120 3]) (by kernel_rfl) (ya9 (z9d impl_value_rec hrec rfl) ya0) (by kernel_rfl))
 rw [(y7u impl_value_rec)] at h
 exact h
/-- so many calls within each other -/
def yp4 : Nat → TA → (List (ByteArray × PT)) → Option (TM × Bool)
 | 0 => fun _ _ => none
 | n + 1 => ys7 (yp4 n)
theorem y2l : ∀ n, FnOk prog 120 (R120 (yp4 n))
 | 0 => fun xs r h => by cases h
 | n + 1 => y7v (yp4 n) (y2l n)
def y80 : TA → (List (ByteArray × PT)) → Option (TM × Bool) := yp4 200
def A120 : FnA := R120 y80
theorem A120_ok : FnOk prog 120 A120 := y2l 200
def E77 : Env := ev fun g => ifEq g 28 (some A28) (ifEq g 16 (some A16) (ifEq g 120 (some A120) (none)))
theorem E77_ok : FnsOk prog E77 := (oF A28_ok func28 (oF y2i func16 (oF A120_ok func120 (ye2 _ _))))
def y0l : TA → ByteArray → Option (TM × Bool) := fun (a0_0, a0_1, a0_2, a0_3) a1 =>
 Option.bind (yz9 a1) fun (r0, r1) =>
  bif (!r1) then
   some (((0 : Int), []), false)
  else
   Option.bind (yc5 (a0_0, a0_1, a0_2, a0_3)) fun r2 =>
    bif (!r2) then
     some (((0 : Int), []), false)
    else
     Option.bind (y80 (a0_0, a0_1, a0_2, a0_3) (List.take (List.length r0) (List.drop 0 r0))) fun ((r3, r4), r5) =>
      some ((r3, (List.take (List.length r4) (List.drop 0 r4))), r5)
def A77 : FnA := ⟨[.v kA, .v .str], true, [.pair i6 sI, .bool], fun x => y0l x.1 x.2.1⟩
theorem zg8 : FnOk prog 77 A77 := fo (L := L0) (by kernel_rfl) func77 E77_ok ya0
def z9f : List Fm := .cell (.val sE) :: .clo [.pair kM .str] .bool :: D 5 (.cell (.val i6) :: .cell (.val i6) :: D 10 [])
def z9g : List (Ex × List Fm) := [(.ret, (D 4 (.cell (.val i6) :: D 14 []))), (.exit 0, (D 19 []))]
def yc7 : (LE × ((TE × Unit) → Option (Bool)) × Int × Int × Unit) → Option ((LE × ((TE × Unit) → Option (Bool)) × Int × Int × Unit) ⊕ ((Int × Unit) ⊕ (Unit))) := fun (v0, v1, v7, v8, _) =>
 bif (decide (v8 < v7)) then
  if (((0 : Int) ≤ v8) ∧ (v8 < (((List.length v0) : Nat) : Int))) then
   Option.bind (v1 ((List.getD v0 (Int.toNat v8) (((0 : Int), []), ⟨Array.empty⟩)), ())) fun r0 =>
    bif r0 then
     some (Sum.inr (Sum.inl (v8, ())))
    else
     some (Sum.inl (v0, v1, v7, (IntKind.wrap .i64 (v8 + 1)), ()))
  else
   none
 else
  some (Sum.inr (Sum.inr ()))
theorem z9h {L} (h : L 2 = some ⟨19, z9f, z9g, yc7⟩) : yc0 prog L (ya8 f121 2) := lo (L' := L0) (by kernel_rfl) yh7 ya0 h
def L121_1 : Nat → Option LoopD := fun n => ifEq n 2 (some ⟨19, z9f, z9g, yc7⟩) (L0 n)
def yp5 : LE → ((TE × Unit) → Option (Bool)) → Option (Int) := fun a0 a1 =>
 Option.bind (ya2 yc7 (a0, a1, (((List.length a0) : Nat) : Int), 0, ())) fun r0 =>
  (match r0 with
  | .inl (d1, _) =>
    some d1
  | .inr _ =>
    some (-1))
def A121 : FnA := ⟨[.v sE, .clo [.pair kM .str] .bool], true, [.int .i64], fun x => yp5 x.1 x.2.1⟩
theorem A121_ok : FnOk prog 121 A121 := fo (L := L121_1) (by kernel_rfl) func121 yh7 (ya9 (z9h rfl) ya0)
def E81 : Env := ev fun g => ifEq g 121 (some A121) (none)
theorem E81_ok : FnsOk prog E81 := (oF A121_ok func121 (ye2 _ _))
def yc1 : LE → ((TE × Unit) → Option (Bool)) → Option (Bool) := fun a0 a1 =>
 Option.bind (yp5 a0 a1) fun r0 =>
  some (decide (r0 ≥ 0))
def A81 : FnA := ⟨[.v sE, .clo [.pair kM .str] .bool], true, [.bool], fun x => yc1 x.1 x.2.1⟩
theorem zg9 : FnOk prog 81 A81 := fo (L := L0) (by kernel_rfl) func81 E81_ok ya0
def E82 : Env := ev fun g => ifEq g 83 (some A83) (none)
theorem E82_ok : FnsOk prog E82 := (oF A83_ok func83 (ye2 _ _))
def yi4 : TE → TM → Option (Bool) := fun ((a0_0, a0_1), a0_2) (a1_0, a1_1) =>
 Option.bind (ys6 (a0_0, a0_1) (a1_0, a1_1)) fun r0 =>
  some r0
def A82 : FnA := ⟨[.v kE, .cap kM], true, [.bool], fun x => yi4 x.1 x.2.1⟩
theorem zh0 : FnOk prog 82 A82 := fo (L := L0) (by kernel_rfl) func82 E82_ok ya0
def y9s : Env := ev fun g => ifEq g 16 (some A16) (ifEq g 77 (some A77) (ifEq g 81 (some A81) (ifEq g 82 (some A82) (ifEq g 54 (some A54) (ifEq g 56 (some A56) (none))))))
theorem y4x : FnsOk prog y9s := (oF y2i func16 (oF zg8 func77 (oF zg9 func81 (oF zh0 func82 (oF y9r func54 (oF y7t func56 (ye2 _ _)))))))
def y55 : List Fm := .box 100000 [.own kE 100001 false, .val .bool] :: .agg [.val i6, .own i6 100102 false] :: .cell (.val .str) :: D 36 (.fnv 53 [] :: .box 104000 [.val i6, .val sI, .val sI, .val sS] :: d :: d :: d :: .ali 100000 0 :: D 10 (.cell (.own .str 105500 false) :: .cell (.val i6) :: .cell (.val i6) :: D 50 []))
def y56 : List Fm := d :: .fnv 53 [] :: .box 100200 [.val i6, .val sI, .val sI, .val sS] :: d :: d :: d :: .box 100600 [.own kE 100601 false, .val .bool] :: D 10 (.cell (.own .str 101700 false) :: .cell (.val i6) :: .cell (.val i6) :: D 50 [])
def yh4 : ((LE × Bool × Unit) × (Int × LI × Unit) × ByteArray × (Int × LI × LI × LS × Unit) × (List ByteArray) × Int × Int × Unit) → Option ((Int × LI × LI × LS × Unit) × (LE × Bool × Unit) × (List ByteArray) × Int × Int × Unit) := fun ((v0_0, v0_1, _), (v1_0, v1_1, _), v2, (v40_0, v40_1, v40_2, v40_3, _), v55, v56, v57, _) =>
 Option.bind (yc1 (List.take (List.length v0_0) (List.drop 0 v0_0)) (fun y0 => (yi4 y0.1 (v1_0, (List.take (List.length v1_1) (List.drop 0 v1_1)))))) fun r1 =>
  bif r1 then
   some ((v40_0, v40_1, v40_2, v40_3, ()), ((List.take (List.length v0_0) (List.drop 0 v0_0)), v0_1, ()), (List.take (List.length v55) (List.drop 0 v55)), v56, v57, ())
  else
   bif (decide ((((List.length v0_0) : Nat) : Int) ≥ 120)) then
    some ((v40_0, v40_1, v40_2, v40_3, ()), ((List.take (List.length v0_0) (List.drop 0 v0_0)), false, ()), (List.take (List.length v55) (List.drop 0 v55)), v56, v57, ())
   else
    bif (decide ((((ByteArray.size v2) : Nat) : Int) > 120)) then
     some ((v40_0, v40_1, v40_2, v40_3, ()), ((List.take (List.length v0_0) (List.drop 0 v0_0)), false, ()), (List.take (List.length v55) (List.drop 0 v55)), v56, v57, ())
    else
     if (((0 + (List.length v0_0)) = (List.length v0_0)) ∧ ((((List.length v0_0) + (List.length (List.take 1 (List.drop 0 [((v1_0, (List.take (List.length v1_1) (List.drop 0 v1_1))), v2)])))) * 48) ≤ 140737488355328)) then
      some ((v40_0, v40_1, v40_2, v40_3, ()), ((List.take ((List.length v0_0) + (List.length (List.take 1 (List.drop 0 [((v1_0, (List.take (List.length v1_1) (List.drop 0 v1_1))), v2)])))) (List.drop 0 ((List.drop 0 v0_0) ++ (List.take 1 (List.drop 0 [((v1_0, (List.take (List.length v1_1) (List.drop 0 v1_1))), v2)]))))), v0_1, ()), (List.take (List.length v55) (List.drop 0 v55)), v56, v57, ())
     else
      none
theorem y10 : y1r f55.ntmps 62 32 y9s L0 f55.results.toList (yc4 f55) y55 y56 = yh4 := by kernel_rfl
def y9t : CallD := ⟨f55.ntmps, y55, 62, y56, yh4, 0⟩
theorem zh1 : y7a prog 32 55 y9t := y0e (yb8 yg0) y4x (L := L0) func55 (by kernel_rfl) (c := yc4 f55) (by kernel_rfl) (ye8 (L := L0) (yb8 yg0) y4x mixed (c := yc4 f55) (bs := []) (by kernel_rfl) ya0 (by kernel_rfl)) (by kernel_rfl) (by kernel_rfl) y10
def y3f : Env := ev fun g => ifEq g 16 (some A16) (ifEq g 77 (some A77) (ifEq g 81 (some A81) (ifEq g 82 (some A82) (ifEq g 54 (some A54) (ifEq g 56 (some A56) (none))))))
theorem y02 : FnsOk prog y3f := (oF y2i func16 (oF zg8 func77 (oF zg9 func81 (oF zh0 func82 (oF y9r func54 (oF y7t func56 (ye2 _ _)))))))
def y11 : List Fm := .box 100000 [.own kE 100001 false, .val .bool] :: .agg [.val i6, .own i6 100102 false] :: .cell (.val .str) :: D 35 (.ali 100000 0 :: .cell (.val i6) :: d :: d :: .box 104200 [.val i6, .val sI, .val .str] :: D 78 (.fnv 53 [] :: D 4 (.ali 100000 0 :: D 4 (.cell (.val i6) :: D 58 []))))
def y12 : List Fm := .box 100000 [.own kE 100001 false, .val .bool] :: .cell (.val i6) :: d :: d :: .box 100400 [.val i6, .val sI, .val .str] :: D 78 (.fnv 53 [] :: D 4 (.ali 100000 0 :: D 4 (.cell (.val i6) :: D 58 [])))
def yc9 : ((LE × Bool × Unit) × (Int × LI × Unit) × ByteArray × Int × (Int × LI × ByteArray × Unit) × Int × Unit) → Option ((LE × Bool × Unit) × Int × (Int × LI × ByteArray × Unit) × Int × Unit) := fun ((v0_0, v0_1, _), (v1_0, v1_1, _), v2, v39, (v42_0, v42_1, v42_2, _), v131, _) =>
 Option.bind (yc1 (List.take (List.length v0_0) (List.drop 0 v0_0)) (fun y0 => (yi4 y0.1 (v1_0, (List.take (List.length v1_1) (List.drop 0 v1_1)))))) fun r1 =>
  bif r1 then
   some (((List.take (List.length v0_0) (List.drop 0 v0_0)), v0_1, ()), v39, (v42_0, v42_1, v42_2, ()), v131, ())
  else
   bif (decide ((((List.length v0_0) : Nat) : Int) ≥ 120)) then
    some (((List.take (List.length v0_0) (List.drop 0 v0_0)), false, ()), v39, (v42_0, v42_1, v42_2, ()), v131, ())
   else
    bif (decide ((((ByteArray.size v2) : Nat) : Int) > 120)) then
     some (((List.take (List.length v0_0) (List.drop 0 v0_0)), false, ()), v39, (v42_0, v42_1, v42_2, ()), v131, ())
    else
     if (((0 + (List.length v0_0)) = (List.length v0_0)) ∧ ((((List.length v0_0) + (List.length (List.take 1 (List.drop 0 [((v1_0, (List.take (List.length v1_1) (List.drop 0 v1_1))), v2)])))) * 48) ≤ 140737488355328)) then
      some (((List.take ((List.length v0_0) + (List.length (List.take 1 (List.drop 0 [((v1_0, (List.take (List.length v1_1) (List.drop 0 v1_1))), v2)])))) (List.drop 0 ((List.drop 0 v0_0) ++ (List.take 1 (List.drop 0 [((v1_0, (List.take (List.length v1_1) (List.drop 0 v1_1))), v2)]))))), v0_1, ()), v39, (v42_0, v42_1, v42_2, ()), v131, ())
     else
      none
theorem yy4 : y1r f55.ntmps 82 31 y3f L0 f55.results.toList (yc4 f55) y11 y12 = yc9 := by kernel_rfl
def y3g : CallD := ⟨f55.ntmps, y11, 82, y12, yc9, 0⟩
theorem y5x : y7a prog 31 55 y3g := y0e (yb8 yg0) y02 (L := L0) func55 (by kernel_rfl) (c := yc4 f55) (by kernel_rfl) (ye8 (L := L0) (yb8 yg0) y02 mixed (c := yc4 f55) (bs := []) (by kernel_rfl) ya0 (by kernel_rfl)) (by kernel_rfl) (by kernel_rfl) yy4
def y3h : Env := ev fun g => ifEq g 16 (some A16) (ifEq g 77 (some A77) (ifEq g 81 (some A81) (ifEq g 82 (some A82) (ifEq g 54 (some A54) (ifEq g 56 (some A56) (none))))))
theorem y03 : FnsOk prog y3h := (oF y2i func16 (oF zg8 func77 (oF zg9 func81 (oF zh0 func82 (oF y9r func54 (oF y7t func56 (ye2 _ _)))))))
def y13 : List Fm := .box 100000 [.own kE 100001 false, .val .bool] :: .cell (.val kM) :: .cell (.val .str) :: D 35 (.ali 100000 0 :: .cell (.val i6) :: d :: d :: .box 104200 [.val i6, .val sI, .val .str] :: d :: d :: .cell (.val i6) :: .box 104600 [.val i6, .val sI, .val .str] :: .box 104700 [.val i6, .val sI] :: D 73 (.fnv 53 [] :: D 4 (.ali 100000 0 :: D 4 (.cell (.val i6) :: D 58 []))))
def y14 : List Fm := .box 100000 [.own kE 100001 false, .val .bool] :: .cell (.val i6) :: d :: d :: .box 100400 [.val i6, .val sI, .val .str] :: d :: d :: .cell (.val i6) :: .box 100800 [.val i6, .val sI, .val .str] :: .box 100900 [.val i6, .val sI] :: D 73 (.fnv 53 [] :: D 4 (.ali 100000 0 :: D 4 (.cell (.val i6) :: D 58 [])))
def yd0 : ((LE × Bool × Unit) × TM × ByteArray × Int × (Int × LI × ByteArray × Unit) × Int × (Int × LI × ByteArray × Unit) × (Int × LI × Unit) × Int × Unit) → Option ((LE × Bool × Unit) × Int × (Int × LI × ByteArray × Unit) × Int × (Int × LI × ByteArray × Unit) × (Int × LI × Unit) × Int × Unit) := fun ((v0_0, v0_1, _), (v1_0, v1_1), v2, v39, (v42_0, v42_1, v42_2, _), v45, (v46_0, v46_1, v46_2, _), (v47_0, v47_1, _), v131, _) =>
 Option.bind (yc1 (List.take (List.length v0_0) (List.drop 0 v0_0)) (fun y0 => (yi4 y0.1 (v1_0, v1_1)))) fun r1 =>
  bif r1 then
   some (((List.take (List.length v0_0) (List.drop 0 v0_0)), v0_1, ()), v39, (v42_0, v42_1, v42_2, ()), v45, (v46_0, v46_1, v46_2, ()), (v47_0, v47_1, ()), v131, ())
  else
   bif (decide ((((List.length v0_0) : Nat) : Int) ≥ 120)) then
    some (((List.take (List.length v0_0) (List.drop 0 v0_0)), false, ()), v39, (v42_0, v42_1, v42_2, ()), v45, (v46_0, v46_1, v46_2, ()), (v47_0, v47_1, ()), v131, ())
   else
    bif (decide ((((ByteArray.size v2) : Nat) : Int) > 120)) then
     some (((List.take (List.length v0_0) (List.drop 0 v0_0)), false, ()), v39, (v42_0, v42_1, v42_2, ()), v45, (v46_0, v46_1, v46_2, ()), (v47_0, v47_1, ()), v131, ())
    else
     if (((0 + (List.length v0_0)) = (List.length v0_0)) ∧ ((((List.length v0_0) + (List.length (List.take 1 (List.drop 0 [((v1_0, v1_1), v2)])))) * 48) ≤ 140737488355328)) then
      some (((List.take ((List.length v0_0) + (List.length (List.take 1 (List.drop 0 [((v1_0, v1_1), v2)])))) (List.drop 0 ((List.drop 0 v0_0) ++ (List.take 1 (List.drop 0 [((v1_0, v1_1), v2)]))))), v0_1, ()), v39, (v42_0, v42_1, v42_2, ()), v45, (v46_0, v46_1, v46_2, ()), (v47_0, v47_1, ()), v131, ())
     else
      none
theorem yy5 : y1r f55.ntmps 82 65 y3h L0 f55.results.toList (yc4 f55) y13 y14 = yd0 := by kernel_rfl
def y3i : CallD := ⟨f55.ntmps, y13, 82, y14, yd0, 0⟩
theorem y5y : y7a prog 65 55 y3i := y0e (yb8 yg0) y03 (L := L0) func55 (by kernel_rfl) (c := yc4 f55) (by kernel_rfl) (ye8 (L := L0) (yb8 yg0) y03 mixed (c := yc4 f55) (bs := []) (by kernel_rfl) ya0 (by kernel_rfl)) (by kernel_rfl) (by kernel_rfl) yy5
def y3j : Env := ev fun g => ifEq g 16 (some A16) (ifEq g 77 (some A77) (ifEq g 81 (some A81) (ifEq g 82 (some A82) (ifEq g 54 (some A54) (ifEq g 56 (some A56) (none))))))
theorem y04 : FnsOk prog y3j := (oF y2i func16 (oF zg8 func77 (oF zg9 func81 (oF zh0 func82 (oF y9r func54 (oF y7t func56 (ye2 _ _)))))))
def y15 : List Fm := .box 100000 [.own kE 100001 false, .val .bool] :: .agg [.val i6, .own i6 100102 false] :: .cell (.val .str) :: D 35 (.ali 100000 0 :: .cell (.val i6) :: d :: d :: .box 104200 [.val i6, .val sI, .val .str] :: d :: d :: .cell (.val i6) :: D 75 (.fnv 53 [] :: D 4 (.ali 100000 0 :: D 4 (.cell (.val i6) :: D 58 []))))
def y16 : List Fm := .box 100000 [.own kE 100001 false, .val .bool] :: .cell (.val i6) :: d :: d :: .box 100400 [.val i6, .val sI, .val .str] :: d :: d :: .cell (.val i6) :: D 75 (.fnv 53 [] :: D 4 (.ali 100000 0 :: D 4 (.cell (.val i6) :: D 58 [])))
def ye9 : ((LE × Bool × Unit) × (Int × LI × Unit) × ByteArray × Int × (Int × LI × ByteArray × Unit) × Int × Int × Unit) → Option ((LE × Bool × Unit) × Int × (Int × LI × ByteArray × Unit) × Int × Int × Unit) := fun ((v0_0, v0_1, _), (v1_0, v1_1, _), v2, v39, (v42_0, v42_1, v42_2, _), v45, v131, _) =>
 Option.bind (yc1 (List.take (List.length v0_0) (List.drop 0 v0_0)) (fun y0 => (yi4 y0.1 (v1_0, (List.take (List.length v1_1) (List.drop 0 v1_1)))))) fun r1 =>
  bif r1 then
   some (((List.take (List.length v0_0) (List.drop 0 v0_0)), v0_1, ()), v39, (v42_0, v42_1, v42_2, ()), v45, v131, ())
  else
   bif (decide ((((List.length v0_0) : Nat) : Int) ≥ 120)) then
    some (((List.take (List.length v0_0) (List.drop 0 v0_0)), false, ()), v39, (v42_0, v42_1, v42_2, ()), v45, v131, ())
   else
    bif (decide ((((ByteArray.size v2) : Nat) : Int) > 120)) then
     some (((List.take (List.length v0_0) (List.drop 0 v0_0)), false, ()), v39, (v42_0, v42_1, v42_2, ()), v45, v131, ())
    else
     if (((0 + (List.length v0_0)) = (List.length v0_0)) ∧ ((((List.length v0_0) + (List.length (List.take 1 (List.drop 0 [((v1_0, (List.take (List.length v1_1) (List.drop 0 v1_1))), v2)])))) * 48) ≤ 140737488355328)) then
      some (((List.take ((List.length v0_0) + (List.length (List.take 1 (List.drop 0 [((v1_0, (List.take (List.length v1_1) (List.drop 0 v1_1))), v2)])))) (List.drop 0 ((List.drop 0 v0_0) ++ (List.take 1 (List.drop 0 [((v1_0, (List.take (List.length v1_1) (List.drop 0 v1_1))), v2)]))))), v0_1, ()), v39, (v42_0, v42_1, v42_2, ()), v45, v131, ())
     else
      none
theorem yy6 : y1r f55.ntmps 82 81 y3j L0 f55.results.toList (yc4 f55) y15 y16 = ye9 := by kernel_rfl
def y3k : CallD := ⟨f55.ntmps, y15, 82, y16, ye9, 0⟩
theorem y5z : y7a prog 81 55 y3k := y0e (yb8 yg0) y04 (L := L0) func55 (by kernel_rfl) (c := yc4 f55) (by kernel_rfl) (ye8 (L := L0) (yb8 yg0) y04 mixed (c := yc4 f55) (bs := []) (by kernel_rfl) ya0 (by kernel_rfl)) (by kernel_rfl) (by kernel_rfl) yy6
def y9u : Env := ⟨ty0, fun g => ifEq g 16 (some A16) (ifEq g 77 (some A77) (ifEq g 81 (some A81) (ifEq g 82 (some A82) (ifEq g 54 (some A54) (ifEq g 56 (some A56) (none)))))), fun _ => none, fun _ => none, fun d => ifI (Nat.beq d 31) (some (55, y3g)) (ifI (Nat.beq d 65) (some (55, y3i)) (ifI (Nat.beq d 81) (some (55, y3k)) (none)))⟩
theorem y17 : FnsOk prog y9u := (zk8 (d0 := 31) (g0 := 55) y5x (zk8 (d0 := 65) (g0 := 55) y5y (zk8 (d0 := 81) (g0 := 55) y5z (oF y2i func16 (oF zg8 func77 (oF zg9 func81 (oF zh0 func82 (oF y9r func54 (oF y7t func56 (ye2 _ _))))))))))
def y4y : List Fm := .box 100000 [.own kE 100001 false, .val .bool] :: .cell (.val i6) :: d :: d :: .box 100400 [.val i6, .val sI, .val .str] :: d :: d :: .cell (.val i6) :: D 75 (.fnv 53 [] :: D 4 (.ali 100000 0 :: D 4 (.cell (.val i6) :: D 58 [])))
def y4z : List (Ex × List Fm) := [(.exit 0, [d, d, d, d, d, d, d, d, d, d, d, d, d, d, d, d, d, d, d, d, d, d, d, d, d, d, d, d, d, d, d, d, d, d, d, d, d, d, d, d, d, d, d, d, d, d, d, d, d, d, d, d, d, d, d, d, d, d, d, d, d, d, d, d, d, d, d, d, d, d, d, d, d, d, d, d, d, d, d, d, d, d, d, .fnv 53 [], d, d, d, d, .box 108800 [.own kE 108801 false, .val .bool], d, d, d, d, .cell (.val i6), d, d, d, d, d, d, d, d, d, d, d, d, d, d, d, d, d, d, d, d, d, d, d, d, d, d, d, d, d, d, d, d, d, d, d, d, d, d, d, d, d, d, d, d, d, d, d, d, d, d, d, d, d, d, d, d, d, d])]
def ya5 : ((LE × Bool × Unit) × Int × (Int × LI × ByteArray × Unit) × Int × Int × Unit) → Option (((LE × Bool × Unit) × Int × (Int × LI × ByteArray × Unit) × Int × Int × Unit) ⊕ (((LE × Bool × Unit) × Int × Unit))) := fun ((v0_0, v0_1, _), v1, (v4_0, v4_1, v4_2, _), v7, v93, _) =>
 bif (decide (v7 ≤ v1)) then
  bif v0_1 then
   if (((0 : Int) ≤ v7) ∧ (v7 < (((List.length v0_0) : Nat) : Int))) then
    Option.bind (yj4 (v4_0, v4_1) ((List.getD v0_0 (0 + (Int.toNat v7)) (((0 : Int), []), ⟨Array.empty⟩)).1.1, (List.getD v0_0 (0 + (Int.toNat v7)) (((0 : Int), []), ⟨Array.empty⟩)).1.2)) fun ((r0, r1), r2) =>
     if (((ByteArray.size v4_2) + (ByteArray.size (List.getD v0_0 (0 + (Int.toNat v7)) (((0 : Int), []), ⟨Array.empty⟩)).2)) ≤ 9223372036854775807) then
      Option.bind (yd0 (((List.take (List.length v0_0) (List.drop 0 v0_0)), v0_1, ()), (r0, (List.take (List.length r1) (List.drop 0 r1))), (v4_2 ++ (List.getD v0_0 (0 + (Int.toNat v7)) (((0 : Int), []), ⟨Array.empty⟩)).2), v1, (v4_0, v4_1, v4_2, ()), v7, ((List.getD v0_0 (0 + (Int.toNat v7)) (((0 : Int), []), ⟨Array.empty⟩)).1.1, (List.getD v0_0 (0 + (Int.toNat v7)) (((0 : Int), []), ⟨Array.empty⟩)).1.2, (List.getD v0_0 (0 + (Int.toNat v7)) (((0 : Int), []), ⟨Array.empty⟩)).2, ()), (r0, (List.take (List.length r1) (List.drop 0 r1)), ()), v93, ())) fun ((r3, r4, _), r5, (r6, r7, r8, _), r9, (r10, r11, r12, _), (r13, r14, _), r15, _) =>
       Option.bind (yj4 (r10, r11) (r6, r7)) fun ((r16, r17), r18) =>
        if (((ByteArray.size r12) + (ByteArray.size r8)) ≤ 9223372036854775807) then
         Option.bind (ye9 (((List.take (List.length r3) (List.drop 0 r3)), r4, ()), (r16, (List.take (List.length r17) (List.drop 0 r17)), ()), (r12 ++ r8), r5, (r6, r7, r8, ()), r9, r15, ())) fun ((r19, r20, _), r21, (r22, r23, r24, _), r25, r26, _) =>
          some (Sum.inl (((List.take (List.length r19) (List.drop 0 r19)), r20, ()), r21, (r22, r23, r24, ()), (IntKind.wrap .i64 (r25 + 1)), r26, ()))
        else
         none
     else
      none
   else
    none
  else
   some (Sum.inr (((List.take (List.length v0_0) (List.drop 0 v0_0)), v0_1, ()), v93, ()))
 else
  some (Sum.inr (((List.take (List.length v0_0) (List.drop 0 v0_0)), v0_1, ()), v93, ()))
theorem y81 {L} (h : L 5 = some ⟨82, y4y, y4z, ya5⟩) : yc0 prog L (ya8 f53 5) := lo (L' := L0) (by kernel_rfl) y17 ya0 h
def y2y : Nat → Option LoopD := fun n => ifEq n 5 (some ⟨82, y4y, y4z, ya5⟩) (L0 n)
def y57 : List Fm := .box 100000 [.own kE 100001 false, .val .bool] :: .cell (.val i6) :: D 81 (.fnv 53 [] :: D 4 (.ali 100000 0 :: D 4 (.cell (.val i6) :: D 58 [])))
def y58 : List Fm := d :: .fnv 53 [] :: D 4 (.box 100600 [.own kE 100601 false, .val .bool] :: D 4 (.cell (.val i6) :: D 58 []))
def yh5 : ((LE × Bool × Unit) × Int × Int × Unit) → Option ((LE × Bool × Unit) × Int × Unit) := fun ((v0_0, v0_1, _), v1, v93, _) =>
 if (((0 : Int) ≤ v1) ∧ (v1 < (((List.length v0_0) : Nat) : Int))) then
  Option.bind (yu9 ((List.getD v0_0 (0 + (Int.toNat v1)) (((0 : Int), []), ⟨Array.empty⟩)).1.1, (List.getD v0_0 (0 + (Int.toNat v1)) (((0 : Int), []), ⟨Array.empty⟩)).1.2)) fun ((r0, r1), r2) =>
   bif r2 then
    if (((ByteArray.size (⟨#[(40 : UInt8)]⟩ : ByteArray)) + (ByteArray.size (List.getD v0_0 (0 + (Int.toNat v1)) (((0 : Int), []), ⟨Array.empty⟩)).2)) ≤ 9223372036854775807) then
     if (((ByteArray.size ((⟨#[(40 : UInt8)]⟩ : ByteArray) ++ (List.getD v0_0 (0 + (Int.toNat v1)) (((0 : Int), []), ⟨Array.empty⟩)).2)) + (ByteArray.size (⟨#[(41 : UInt8), (35 : UInt8)]⟩ : ByteArray))) ≤ 9223372036854775807) then
      Option.bind (yc9 (((List.take (List.length v0_0) (List.drop 0 v0_0)), v0_1, ()), (r0, (List.take (List.length r1) (List.drop 0 r1)), ()), (((⟨#[(40 : UInt8)]⟩ : ByteArray) ++ (List.getD v0_0 (0 + (Int.toNat v1)) (((0 : Int), []), ⟨Array.empty⟩)).2) ++ (⟨#[(41 : UInt8), (35 : UInt8)]⟩ : ByteArray)), v1, ((List.getD v0_0 (0 + (Int.toNat v1)) (((0 : Int), []), ⟨Array.empty⟩)).1.1, (List.getD v0_0 (0 + (Int.toNat v1)) (((0 : Int), []), ⟨Array.empty⟩)).1.2, (List.getD v0_0 (0 + (Int.toNat v1)) (((0 : Int), []), ⟨Array.empty⟩)).2, ()), v93, ())) fun ((r3, r4, _), r5, (r6, r7, r8, _), r9, _) =>
       Option.bind (ya2 ya5 (((List.take (List.length r3) (List.drop 0 r3)), r4, ()), r5, (r6, r7, r8, ()), 0, r9, ())) fun ((r10, r11, _), r12, _) =>
        some (((List.take (List.length r10) (List.drop 0 r10)), r11, ()), r12, ())
     else
      none
    else
     none
   else
    Option.bind (ya2 ya5 (((List.take (List.length v0_0) (List.drop 0 v0_0)), v0_1, ()), v1, ((List.getD v0_0 (0 + (Int.toNat v1)) (((0 : Int), []), ⟨Array.empty⟩)).1.1, (List.getD v0_0 (0 + (Int.toNat v1)) (((0 : Int), []), ⟨Array.empty⟩)).1.2, (List.getD v0_0 (0 + (Int.toNat v1)) (((0 : Int), []), ⟨Array.empty⟩)).2, ()), 0, v93, ())) fun ((r13, r14, _), r15, _) =>
     some (((List.take (List.length r13) (List.drop 0 r13)), r14, ()), r15, ())
 else
  none
theorem y18 : y1r f53.ntmps 62 52 y9u y2y f53.results.toList (yc4 f53) y57 y58 = yh5 := by kernel_rfl
def y9v : CallD := ⟨f53.ntmps, y57, 62, y58, yh5, 0⟩
theorem zh2 : y7a prog 52 53 y9v := y0e (yb8 yg0) y17 (L := y2y) func53 (by kernel_rfl) (c := yc4 f53) (by kernel_rfl) (ye8 (L := y2y) (yb8 yg0) y17 mixed (c := yc4 f53) (bs := [ya8 f53 5]) (by kernel_rfl) (ya9 (y81 rfl) ya0) (by kernel_rfl)) (by kernel_rfl) (by kernel_rfl) y18
def z9i : Env := ⟨ty0, fun g => ifEq g 16 (some A16) (ifEq g 77 (some A77) (ifEq g 81 (some A81) (ifEq g 82 (some A82) (ifEq g 54 (some A54) (ifEq g 56 (some A56) (none)))))), fun _ => none, fun _ => none, fun d => ifI (Nat.beq d 32) (some (55, y9t)) (ifI (Nat.beq d 52) (some (53, y9v)) (none))⟩
theorem y5p : FnsOk prog z9i := (zk8 (d0 := 32) (g0 := 55) zh1 (zk8 (d0 := 52) (g0 := 53) zh2 (oF y2i func16 (oF zg8 func77 (oF zg9 func81 (oF zh0 func82 (oF y9r func54 (oF y7t func56 (ye2 _ _)))))))))
def zo3 : List Fm := d :: .fnv 53 [] :: .box 100200 [.val i6, .val sI, .val sI, .val sS] :: d :: d :: d :: .box 100600 [.own kE 100601 false, .val .bool] :: D 10 (.cell (.own .str 101700 false) :: .cell (.val i6) :: .cell (.val i6) :: D 50 [])
def zo4 : List (Ex × List Fm) := [(.exit 0, [d, .fnv 53 [], d, d, d, d, .box 100600 [.own kE 100601 false, .val .bool], d, d, d, d, d, d, d, d, d, d, d, d, d, d, d, d, d, d, d, d, d, d, d, d, d, d, d, d, d, d, d, d, d, d, d, d, d, d, d, d, d, d, d, d, d, d, d, d, d, d, d, d, d, d, d, d, d, d, d, d, d, d, d])]
def yd6 : ((Int × LI × LI × LS × Unit) × (LE × Bool × Unit) × (List ByteArray) × Int × Int × Unit) → Option (((Int × LI × LI × LS × Unit) × (LE × Bool × Unit) × (List ByteArray) × Int × Int × Unit) ⊕ (((LE × Bool × Unit) × Unit))) := fun ((v2_0, v2_1, v2_2, v2_3, _), (v6_0, v6_1, _), v17, v18, v19, _) =>
 bif (decide (v19 < v18)) then
  if (((0 : Int) ≤ v19) ∧ (v19 < (((List.length v17) : Nat) : Int))) then
   Option.bind (y0l (v2_0, v2_1, v2_2, v2_3) (List.getD v17 (0 + (Int.toNat v19)) ⟨Array.empty⟩)) fun ((r0, r1), r2) =>
    Option.bind (yh4 (((List.take (List.length v6_0) (List.drop 0 v6_0)), v6_1, ()), (r0, (List.take (List.length r1) (List.drop 0 r1)), ()), (List.getD v17 (0 + (Int.toNat v19)) ⟨Array.empty⟩), (v2_0, v2_1, v2_2, v2_3, ()), (List.take (List.length v17) (List.drop 0 v17)), v18, v19, ())) fun ((r3, r4, r5, r6, _), (r7, r8, _), r9, r10, r11, _) =>
     some (Sum.inl ((r3, r4, r5, r6, ()), ((List.take (List.length r7) (List.drop 0 r7)), r8, ()), (List.take (List.length r9) (List.drop 0 r9)), r10, (IntKind.wrap .i64 (r11 + 1)), ()))
  else
   none
 else
  some (Sum.inr (((List.take (List.length v6_0) (List.drop 0 v6_0)), v6_1, ()), ()))
theorem z0c {L} (h : L 5 = some ⟨62, zo3, zo4, yd6⟩) : yc0 prog L (ya8 f52 5) := lo (L' := L0) (by kernel_rfl) y5p ya0 h
def z0d : Nat → Option LoopD := fun n => ifEq n 5 (some ⟨62, zo3, zo4, yd6⟩) (L0 n)
def zh3 : List Fm := d :: .fnv 53 [] :: D 4 (.box 100600 [.own kE 100601 false, .val .bool] :: D 4 (.cell (.val i6) :: D 58 []))
def zh4 : List (Ex × List Fm) := [(.exit 2, [d, d, d, d, d, d, .box 100600 [.own kE 100601 false, .val .bool], d, d, d, d, d, d, d, d, d, d, d, d, d, d, d, d, d, d, d, d, d, d, d, d, d, d, d, d, d, d, d, d, d, d, d, d, d, d, d, d, d, d, d, d, d, d, d, d, d, d, d, d, d, d, d, d, d, d, d, d, d, d, d])]
def yb0 : ((LE × Bool × Unit) × Int × Unit) → Option (((LE × Bool × Unit) × Int × Unit) ⊕ (((LE × Bool × Unit) × Unit))) := fun ((v6_0, v6_1, _), v11, _) =>
 bif (decide (v11 < (((List.length v6_0) : Nat) : Int))) then
  bif v6_1 then
   Option.bind (yh5 (((List.take (List.length v6_0) (List.drop 0 v6_0)), v6_1, ()), v11, v11, ())) fun ((r0, r1, _), r2, _) =>
    some (Sum.inl (((List.take (List.length r0) (List.drop 0 r0)), r1, ()), (IntKind.wrap .i64 (r2 + 1)), ()))
  else
   some (Sum.inr (((List.take (List.length v6_0) (List.drop 0 v6_0)), v6_1, ()), ()))
 else
  some (Sum.inr (((List.take (List.length v6_0) (List.drop 0 v6_0)), v6_1, ()), ()))
theorem zs9 {L} (h : L 11 = some ⟨62, zh3, zh4, yb0⟩) : yc0 prog L (ya8 f52 11) := lo (L' := z0d) (by kernel_rfl) y5p ya0 h
def zh5 : Nat → Option LoopD := fun n => ifEq n 11 (some ⟨62, zh3, zh4, yb0⟩) (z0d n)
def z0e : List Fm := .cell (.val kA) :: .fnv 53 [] :: D 68 []
def z0f : List Fm := D 5 (.tup [.own kE 100501 false, .val .bool] :: d :: d :: [])
def yi9 : (TA × Unit) → Option ((LE × Bool × Unit) × Unit) := fun ((v0_0, v0_1, v0_2, v0_3), _) =>
 Option.bind (yc5 (v0_0, v0_1, v0_2, v0_3)) fun r0 =>
  bif (!r0) then
   some (([], false, ()), ())
  else
   Option.bind (ya2 yd6 ((v0_0, v0_1, v0_2, v0_3, ()), ([], true, ()), (List.take 2 (List.drop 0 [(⟨#[(97 : UInt8)]⟩ : ByteArray), (⟨#[(98 : UInt8)]⟩ : ByteArray)])), ((2 : Nat) : Int), 0, ())) fun ((r1, r2, _), _) =>
    Option.bind (ya2 yb0 (((List.take (List.length r1) (List.drop 0 r1)), r2, ()), 0, ())) fun ((r3, r4, _), _) =>
     bif (!r4) then
      some (([], false, ()), ())
     else
      some (((List.take (List.length r3) (List.drop 0 r3)), true, ()), ())
theorem y4h : y1r f52.ntmps 8 5 z9i zh5 f52.results.toList (yc4 f52) z0e z0f = yi9 := by kernel_rfl
def z9j : CallD := ⟨f52.ntmps, z0e, 8, z0f, yi9, 0⟩
theorem z5m : y7a prog 5 52 z9j := y0e (yb8 yg0) y5p (L := zh5) func52 (by kernel_rfl) (c := yc4 f52) (by kernel_rfl) (ye8 (L := zh5) (yb8 yg0) y5p mixed (c := yc4 f52) (bs := [ya8 f52 5, ya8 f52 11]) (by kernel_rfl) (ya9 (z0c rfl) (ya9 (zs9 rfl) ya0)) (by kernel_rfl)) (by kernel_rfl) (by kernel_rfl) y4h
def E24 : Env := ⟨ty0, fun g => ifEq g 16 (some A16) (ifEq g 77 (some A77) (ifEq g 81 (some A81) (ifEq g 82 (some A82) (ifEq g 54 (some A54) (ifEq g 56 (some A56) (none)))))), fun _ => none, fun _ => none, fun d => ifI (Nat.beq d 5) (some (52, z9j)) (none)⟩
theorem E24_ok : FnsOk prog E24 := (zk8 (d0 := 5) (g0 := 52) z5m (oF y2i func16 (oF zg8 func77 (oF zg9 func81 (oF zh0 func82 (oF y9r func54 (oF y7t func56 (ye2 _ _))))))))
def yd1 : TA → Option (LE × Bool) := fun (a0_0, a0_1, a0_2, a0_3) =>
 Option.bind (yi9 ((a0_0, a0_1, a0_2, a0_3), ())) fun ((r0, r1, _), _) =>
  some ((List.take (List.length r0) (List.drop 0 r0)), r1)
def A24 : FnA := ⟨[.v kA], true, [.sl kE, .bool], fun x => yd1 x.1⟩
theorem A24_ok : FnOk prog 24 A24 := fo (L := L0) (by kernel_rfl) func24 E24_ok ya0
def E25 : Env := ev fun g => ifEq g 24 (some A24) (none)
theorem E25_ok : FnsOk prog E25 := (oF A24_ok func24 (ye2 _ _))
def sh25_3 : List Fm := d :: .clo [.pair i6 sI] .bool :: D 13 (.cell (.own kE 101500 false) :: .cell (.val i6) :: .cell (.val i6) :: D 10 [])
def xs25_3 : List (Ex × List Fm) := [(.ret, (D 4 (.cell (.val .str) :: .cell (.val .bool) :: D 22 []))), (.exit 0, (D 28 []))]
def yj0 : (((TM × Unit) → Option (Bool)) × LE × Int × Int × Unit) → Option ((((TM × Unit) → Option (Bool)) × LE × Int × Int × Unit) ⊕ ((ByteArray × Bool × Unit) ⊕ (Unit))) := fun (v1, v15, v16, v17, _) =>
 bif (decide (v17 < v16)) then
  if (((0 : Int) ≤ v17) ∧ (v17 < (((List.length v15) : Nat) : Int))) then
   Option.bind (v1 (((List.getD v15 (0 + (Int.toNat v17)) (((0 : Int), []), ⟨Array.empty⟩)).1.1, (List.getD v15 (0 + (Int.toNat v17)) (((0 : Int), []), ⟨Array.empty⟩)).1.2), ())) fun r0 =>
    bif r0 then
     some (Sum.inr (Sum.inl ((List.getD v15 (0 + (Int.toNat v17)) (((0 : Int), []), ⟨Array.empty⟩)).2, true, ())))
    else
     some (Sum.inl (v1, (List.take (List.length v15) (List.drop 0 v15)), v16, (IntKind.wrap .i64 (v17 + 1)), ()))
  else
   none
 else
  some (Sum.inr (Sum.inr ()))
theorem kj4 {L} (h : L 3 = some ⟨28, sh25_3, xs25_3, yj0⟩) : yc0 prog L (ya8 f25 3) := lo (L' := L0) (by kernel_rfl) E25_ok ya0 h
def L25_1 : Nat → Option LoopD := fun n => ifEq n 3 (some ⟨28, sh25_3, xs25_3, yj0⟩) (L0 n)
def y0f : TA → ((TM × Unit) → Option (Bool)) → Option (ByteArray × Bool) := fun (a0_0, a0_1, a0_2, a0_3) a1 =>
 Option.bind (yd1 (a0_0, a0_1, a0_2, a0_3)) fun (r0, r1) =>
  Option.bind (ya2 yj0 (a1, (List.take (List.length r0) (List.drop 0 r0)), (((List.length r0) : Nat) : Int), 0, ())) fun r2 =>
   (match r2 with
   | .inl (d3, d4, _) =>
     some (d3, d4)
   | .inr _ =>
     some ((⟨#[]⟩ : ByteArray), false))
def A25 : FnA := ⟨[.v kA, .clo [.pair i6 sI] .bool], true, [.str, .bool], fun x => y0f x.1 x.2.1⟩
theorem A25_ok : FnOk prog 25 A25 := fo (L := L25_1) (by kernel_rfl) func25 E25_ok (ya9 (kj4 rfl) ya0)
def E27 : Env := ev fun g => ifEq g 16 (some A16) (ifEq g 57 (some A57) (ifEq g 58 (some A58) (none)))
theorem z9k : FnsOk prog E27 := (oF y2i func16 (oF A57_ok func57 (oF z3z func58 (ye2 _ _))))
def sh27_8 : List Fm := d :: d :: .box 100200 [.val i6, .val sI, .val sI, .val sS] :: .box 100300 [.val i6, .val sI] :: d :: .cell (.val i6) :: d :: .cell (.val i6) :: D 18 (.cell (.val sI) :: .cell (.val i6) :: .cell (.val i6) :: D 4 (.cell (.val sI) :: .cell (.val i6) :: .cell (.val i6) :: D 12 []))
def xs27_8 : List (Ex × List Fm) := [(.exit 2, [d, d, .box 100200 [.val i6, .val sI, .val sI, .val sS], .box 100300 [.val i6, .val sI], d, .cell (.val i6), d, d, d, d, d, d, d, d, d, d, d, d, d, d, d, d, d, d, d, d, .cell (.val sI), .cell (.val i6), .cell (.val i6), d, d, d, d, d, d, d, d, d, d, d, d, d, d, d, d, d, d, d])]
def yf1 : ((Int × LI × LI × LS × Unit) × (Int × LI × Unit) × Int × Int × LI × Int × Int × LI × Int × Int × Unit) → Option (((Int × LI × LI × LS × Unit) × (Int × LI × Unit) × Int × Int × LI × Int × Int × LI × Int × Int × Unit) ⊕ (((Int × LI × LI × LS × Unit) × (Int × LI × Unit) × Int × LI × Int × Int × Unit))) := fun ((v2_0, v2_1, v2_2, v2_3, _), (v3_0, v3_1, _), v5, v7, v26, v27, v28, v33, v34, v35, _) =>
 bif (decide (v35 < v34)) then
  if (((0 : Int) ≤ v35) ∧ (v35 < (((List.length v33) : Nat) : Int))) then
   Option.bind (yf0 (v3_0, v3_1) v7 (List.getD v33 (Int.toNat v35) 0)) fun r0 =>
    some (Sum.inl ((v2_0, v2_1, v2_2, v2_3, ()), (v3_0, v3_1, ()), (if (r0 < v5) then r0 else v5), v7, v26, v27, v28, v33, v34, (IntKind.wrap .i64 (v35 + 1)), ()))
  else
   none
 else
  some (Sum.inr ((v2_0, v2_1, v2_2, v2_3, ()), (v3_0, v3_1, ()), v5, v26, v27, v28, ()))
theorem kj5 {L} (h : L 8 = some ⟨48, sh27_8, xs27_8, yf1⟩) : yc0 prog L (ya8 f27 8) := lo (L' := L0) (by kernel_rfl) z9k ya0 h
def L27_1 : Nat → Option LoopD := fun n => ifEq n 8 (some ⟨48, sh27_8, xs27_8, yf1⟩) (L0 n)
def sh27_5 : List Fm := d :: d :: .box 100200 [.val i6, .val sI, .val sI, .val sS] :: .box 100300 [.val i6, .val sI] :: d :: .cell (.val i6) :: D 20 (.cell (.val sI) :: .cell (.val i6) :: .cell (.val i6) :: D 19 [])
def xs27_5 : List (Ex × List Fm) := [(.exit 0, (D 5 (.cell (.val i6) :: D 42 [])))]
def yg1 : ((Int × LI × LI × LS × Unit) × (Int × LI × Unit) × Int × LI × Int × Int × Unit) → Option (((Int × LI × LI × LS × Unit) × (Int × LI × Unit) × Int × LI × Int × Int × Unit) ⊕ ((Int × Unit))) := fun ((v2_0, v2_1, v2_2, v2_3, _), (v3_0, v3_1, _), v5, v26, v27, v28, _) =>
 bif (decide (v28 < v27)) then
  if (((0 : Int) ≤ v28) ∧ (v28 < (((List.length v26) : Nat) : Int))) then
   Option.bind (ya2 yf1 ((v2_0, v2_1, v2_2, v2_3, ()), (v3_0, v3_1, ()), v5, (List.getD v26 (Int.toNat v28) 0), v26, v27, v28, v2_2, (((List.length v2_2) : Nat) : Int), 0, ())) fun ((r0, r1, r2, r3, _), (r4, r5, _), r6, r7, r8, r9, _) =>
    some (Sum.inl ((r0, r1, r2, r3, ()), (r4, r5, ()), r6, r7, r8, (IntKind.wrap .i64 (r9 + 1)), ()))
  else
   none
 else
  some (Sum.inr (v5, ()))
theorem kj6 {L} (h : L 5 = some ⟨48, sh27_5, xs27_5, yg1⟩) : yc0 prog L (ya8 f27 5) := lo (L' := L27_1) (by kernel_rfl) z9k (ya9 (kj5 rfl) ya0) h
def L27_2 : Nat → Option LoopD := fun n => ifEq n 5 (some ⟨48, sh27_5, xs27_5, yg1⟩) (L27_1 n)
def yp6 : TA → TM → Option (Int) := fun (a0_0, a0_1, a0_2, a0_3) (a1_0, a1_1) =>
 Option.bind (yc5 (a0_0, a0_1, a0_2, a0_3)) fun r0 =>
  bif (!r0) then
   some (-1)
  else
   Option.bind (yn6 (a1_0, a1_1)) fun r1 =>
    bif (!r1) then
     some (-1)
    else
     bif (a1_0 != a0_0) then
      some (-1)
     else
      Option.bind (ya2 yg1 ((a0_0, a0_1, a0_2, a0_3, ()), (a1_0, a1_1, ()), 3, a0_1, (((List.length a0_1) : Nat) : Int), 0, ())) fun (r2, _) =>
       some r2
def A27 : FnA := ⟨[.v kA, .v kM], true, [.int .i64], fun x => yp6 x.1 x.2.1⟩
theorem A27_ok : FnOk prog 27 A27 := fo (L := L27_2) (by kernel_rfl) func27 z9k (ya9 (kj6 rfl) ya0)
def E26 : Env := ev fun g => ifEq g 27 (some A27) (none)
theorem E26_ok : FnsOk prog E26 := (oF A27_ok func27 (ye2 _ _))
def yv3 : TM → TA → Option (Bool) := fun (a0_0, a0_1) (a1_0, a1_1, a1_2, a1_3) =>
 Option.bind (yp6 (a1_0, a1_1, a1_2, a1_3) (a0_0, a0_1)) fun r0 =>
  some (r0 == 2)
def A26 : FnA := ⟨[.v kM, .cap kA], true, [.bool], fun x => yv3 x.1 x.2.1⟩
theorem A26_ok : FnOk prog 26 A26 := fo (L := L0) (by kernel_rfl) func26 E26_ok ya0
def E9 : Env := ev fun g => ifEq g 25 (some A25) (ifEq g 26 (some A26) (none))
theorem E9_ok : FnsOk prog E9 := (oF A25_ok func25 (oF A26_ok func26 (ye2 _ _)))
def yh9 : TA → Option (ByteArray × Bool) := fun (a0_0, a0_1, a0_2, a0_3) =>
 Option.bind (y0f (a0_0, a0_1, a0_2, a0_3) (fun y0 => (yv3 y0.1 (a0_0, a0_1, a0_2, a0_3)))) fun (r1, r2) =>
  some (r1, r2)
def A9 : FnA := ⟨[.v kA], true, [.str, .bool], fun x => yh9 x.1⟩
theorem A9_ok : FnOk prog 9 A9 := fo (L := L0) (by kernel_rfl) func9 E9_ok ya0
def E8 : Env := ev fun g => ifEq g 24 (some A24) (ifEq g 9 (some A9) (none))
theorem E8_ok : FnsOk prog E8 := (oF A24_ok func24 (oF A9_ok func9 (ye2 _ _)))
def yi0 : TA → Option (Bool × Bool) := fun (a0_0, a0_1, a0_2, a0_3) =>
 Option.bind (yd1 (a0_0, a0_1, a0_2, a0_3)) fun (r0, r1) =>
  Option.bind (yh9 (a0_0, a0_1, a0_2, a0_3)) fun (r2, r3) =>
   bif r1 then
    some ((!r3), r1)
   else
    some (false, r1)
def A8 : FnA := ⟨[.v kA], true, [.bool, .bool], fun x => yi0 x.1⟩
theorem A8_ok : FnOk prog 8 A8 := fo (L := L0) (by kernel_rfl) func8 E8_ok ya0
def E5 : Env := ev fun g => ifEq g 7 (some A7) (ifEq g 8 (some A8) (none))
theorem E5_ok : FnsOk prog E5 := (oF A7_ok func7 (oF A8_ok func8 (ye2 _ _)))
def yf2 : TA → Option (Bool × Bool) := fun (a0_0, a0_1, a0_2, a0_3) =>
 Option.bind (yc6 (a0_0, a0_1, a0_2, a0_3)) fun ((r0, r1, r2, r3), r4) =>
  bif (!r4) then
   some (false, false)
  else
   Option.bind (yi0 (r0, (List.take (List.length r1) (List.drop 0 r1)), (List.take (List.length r2) (List.drop 0 r2)), (List.take (List.length r3) (List.drop 0 r3)))) fun (r5, r6) =>
    some (r5, r6)
def A5 : FnA := ⟨[.v kA], true, [.bool, .bool], fun x => yf2 x.1⟩
theorem A5_ok : FnOk prog 5 A5 := fo (L := L0) (by kernel_rfl) func5 E5_ok ya0
def yl3 : TA → Option (TA) := fun (a0_0, a0_1, a0_2, a0_3) =>
 if (((0 + 0) = (List.length ([] : List Unit))) ∧ (((0 + (List.length a0_1)) * 8) ≤ 140737488355328)) then
  if (((0 + 0) = (List.length ([] : List Unit))) ∧ (((0 + (List.length a0_2)) * 8) ≤ 140737488355328)) then
   if (((0 + 0) = (List.length ([] : List Unit))) ∧ (((0 + (List.length a0_3)) * 40) ≤ 140737488355328)) then
    some (a0_0, (List.take (0 + (List.length a0_1)) (List.drop 0 ((List.drop 0 []) ++ a0_1))), (List.take (0 + (List.length a0_2)) (List.drop 0 ((List.drop 0 []) ++ a0_2))), (List.take (0 + (List.length a0_3)) (List.drop 0 ((List.drop 0 []) ++ a0_3))))
   else
    none
  else
   none
 else
  none
def A35 : FnA := ⟨[.v kA], true, [.pair i6 (.pair sI (.pair sI sS))], fun x => yl3 x.1⟩
theorem A35_ok : FnOk prog 35 A35 := fo (L := L0) (by kernel_rfl) func35 yh7 ya0
def E39 : Env := ev fun g => ifEq g 67 (some A67) (none)
theorem E39_ok : FnsOk prog E39 := (oF z3w func67 (ye2 _ _))
def yw1 : TA → Option (TA × Bool) := fun (a0_0, a0_1, a0_2, a0_3) =>
 Option.bind (yc2 (a0_0, a0_1, a0_2, a0_3)) fun r0 =>
  bif (!r0) then
   some (((0 : Int), [], [], []), false)
  else
   some ((a0_0, a0_1, a0_2, a0_3), true)
def A39 : FnA := ⟨[.v kA], false, [.pair i6 (.pair sI (.pair sI sS)), .bool], fun x => yw1 x.1⟩
theorem A39_ok : FnOk prog 39 A39 := fo (L := L0) (by kernel_rfl) func39 E39_ok ya0
def E36 : Env := ev fun g => ifEq g 35 (some A35) (ifEq g 67 (some A67) (ifEq g 68 (some A68) (ifEq g 39 (some A39) (none))))
theorem E36_ok : FnsOk prog E36 := (oF A35_ok func35 (oF z3w func67 (oF z3v func68 (oF A39_ok func39 (ye2 _ _)))))
def sh36_6 : List Fm := d :: .cell (.val i6) :: d :: d :: .box 100400 [.val i6, .own i6 100402 false, .own i6 100403 false, .own kS 100404 false] :: d :: .box 100600 [.val i6, .own i6 100602 false, .own i6 100603 false, .own kS 100604 false] :: D 22 (.cell (.own kS 102900 false) :: .cell (.val i6) :: .cell (.val i6) :: D 19 [])
def xs36_6 : List (Ex × List Fm) := [(.exit 0, [d, d, d, d, .box 100400 [.val i6, .own i6 100402 false, .own i6 100403 false, .own kS 100404 false], d, .box 100600 [.val i6, .own i6 100602 false, .own i6 100603 false, .own kS 100604 false], d, d, d, d, d, d, d, d, d, d, d, d, d, d, d, d, d, d, d, d, d, d, d, d, d, d, d, d, d, d, d, d, d, d, d, d, d, d, d, d, d, d, d, d])]
def yf3 : (Int × (Int × LI × LI × LS × Unit) × (Int × LI × LI × LS × Unit) × LS × Int × Int × Unit) → Option ((Int × (Int × LI × LI × LS × Unit) × (Int × LI × LI × LS × Unit) × LS × Int × Int × Unit) ⊕ (((Int × LI × LI × LS × Unit) × (Int × LI × LI × LS × Unit) × Unit))) := fun (v1, (v4_0, v4_1, v4_2, v4_3, _), (v6_0, v6_1, v6_2, v6_3, _), v29, v30, v31, _) =>
 bif (decide (v31 < v30)) then
  if (((0 : Int) ≤ v31) ∧ (v31 < (((List.length v29) : Nat) : Int))) then
   if (((0 + (List.length v6_3)) = (List.length v6_3)) ∧ ((((List.length v6_3) + (List.length (List.take 1 (List.drop 0 [((List.getD v29 (0 + (Int.toNat v31)) ((0 : Int), (⟨Array.empty⟩ : ByteArray), (0 : Int), (0 : Int))).1, (List.getD v29 (0 + (Int.toNat v31)) ((0 : Int), (⟨Array.empty⟩ : ByteArray), (0 : Int), (0 : Int))).2.1, (List.getD v29 (0 + (Int.toNat v31)) ((0 : Int), (⟨Array.empty⟩ : ByteArray), (0 : Int), (0 : Int))).2.2.1, (IntKind.wrap .i64 ((List.getD v29 (0 + (Int.toNat v31)) ((0 : Int), (⟨Array.empty⟩ : ByteArray), (0 : Int), (0 : Int))).2.2.2 * v1)))])))) * 40) ≤ 140737488355328)) then
    some (Sum.inl (v1, (v4_0, (List.take (List.length v4_1) (List.drop 0 v4_1)), (List.take (List.length v4_2) (List.drop 0 v4_2)), (List.take (List.length v4_3) (List.drop 0 v4_3)), ()), (v6_0, (List.take (List.length v6_1) (List.drop 0 v6_1)), (List.take (List.length v6_2) (List.drop 0 v6_2)), (List.take ((List.length v6_3) + (List.length (List.take 1 (List.drop 0 [((List.getD v29 (0 + (Int.toNat v31)) ((0 : Int), (⟨Array.empty⟩ : ByteArray), (0 : Int), (0 : Int))).1, (List.getD v29 (0 + (Int.toNat v31)) ((0 : Int), (⟨Array.empty⟩ : ByteArray), (0 : Int), (0 : Int))).2.1, (List.getD v29 (0 + (Int.toNat v31)) ((0 : Int), (⟨Array.empty⟩ : ByteArray), (0 : Int), (0 : Int))).2.2.1, (IntKind.wrap .i64 ((List.getD v29 (0 + (Int.toNat v31)) ((0 : Int), (⟨Array.empty⟩ : ByteArray), (0 : Int), (0 : Int))).2.2.2 * v1)))])))) (List.drop 0 ((List.drop 0 v6_3) ++ (List.take 1 (List.drop 0 [((List.getD v29 (0 + (Int.toNat v31)) ((0 : Int), (⟨Array.empty⟩ : ByteArray), (0 : Int), (0 : Int))).1, (List.getD v29 (0 + (Int.toNat v31)) ((0 : Int), (⟨Array.empty⟩ : ByteArray), (0 : Int), (0 : Int))).2.1, (List.getD v29 (0 + (Int.toNat v31)) ((0 : Int), (⟨Array.empty⟩ : ByteArray), (0 : Int), (0 : Int))).2.2.1, (IntKind.wrap .i64 ((List.getD v29 (0 + (Int.toNat v31)) ((0 : Int), (⟨Array.empty⟩ : ByteArray), (0 : Int), (0 : Int))).2.2.2 * v1)))]))))), ()), (List.take (List.length v29) (List.drop 0 v29)), v30, (IntKind.wrap .i64 (v31 + 1)), ()))
   else
    none
  else
   none
 else
  some (Sum.inr ((v4_0, (List.take (List.length v4_1) (List.drop 0 v4_1)), (List.take (List.length v4_2) (List.drop 0 v4_2)), (List.take (List.length v4_3) (List.drop 0 v4_3)), ()), (v6_0, (List.take (List.length v6_1) (List.drop 0 v6_1)), (List.take (List.length v6_2) (List.drop 0 v6_2)), (List.take (List.length v6_3) (List.drop 0 v6_3)), ()), ()))
theorem kj7 {L} (h : L 6 = some ⟨51, sh36_6, xs36_6, yf3⟩) : yc0 prog L (ya8 f36 6) := lo (L' := L0) (by kernel_rfl) E36_ok ya0 h
def L36_1 : Nat → Option LoopD := fun n => ifEq n 6 (some ⟨51, sh36_6, xs36_6, yf3⟩) (L0 n)
def yf7 : TA → Int → Option (TA × Bool) := fun (a0_0, a0_1, a0_2, a0_3) a1 =>
 Option.bind (yl3 (a0_0, a0_1, a0_2, a0_3)) fun (r0, r1, r2, r3) =>
  Option.bind (yc2 (r0, (List.take (List.length r1) (List.drop 0 r1)), (List.take (List.length r2) (List.drop 0 r2)), (List.take (List.length r3) (List.drop 0 r3)))) fun r4 =>
   bif (!r4) then
    some (((0 : Int), [], [], []), false)
   else
    Option.bind (yu7 a1 0 3) fun r5 =>
     bif (!r5) then
      some (((0 : Int), [], [], []), false)
     else
      Option.bind (ya2 yf3 (a1, ((0 : Int), [], [], [], ()), (r0, (List.take (List.length r1) (List.drop 0 r1)), (List.take (List.length r2) (List.drop 0 r2)), (List.take 0 (List.drop 0 [])), ()), (List.take (List.length r3) (List.drop 0 r3)), (((List.length r3) : Nat) : Int), 0, ())) fun ((r6, r7, r8, r9, _), (r10, r11, r12, r13, _), _) =>
       Option.bind (yw1 (r10, (List.take (List.length r11) (List.drop 0 r11)), (List.take (List.length r12) (List.drop 0 r12)), (List.take (List.length r13) (List.drop 0 r13)))) fun ((r14, r15, r16, r17), r18) =>
        some ((r14, r15, r16, r17), r18)
def A36 : FnA := ⟨[.v kA, .v i6], false, [.pair i6 (.pair sI (.pair sI sS)), .bool], fun x => yf7 x.1 x.2.1⟩
theorem A36_ok : FnOk prog 36 A36 := fo (L := L36_1) (by kernel_rfl) func36 E36_ok (ya9 (kj7 rfl) ya0)
def sh37_2 : List Fm := d :: .cell (.val i6) :: D 5 (.cell (.val sI) :: .cell (.val i6) :: .cell (.val i6) :: D 7 [])
def xs37_2 : List (Ex × List Fm) := [(.ret, (D 4 (.cell (.val .bool) :: D 12 []))), (.exit 0, (D 17 []))]
def ys8 : (Int × LI × Int × Int × Unit) → Option ((Int × LI × Int × Int × Unit) ⊕ ((Bool × Unit) ⊕ (Unit))) := fun (v1, v7, v8, v9, _) =>
 bif (decide (v9 < v8)) then
  if (((0 : Int) ≤ v9) ∧ (v9 < (((List.length v7) : Nat) : Int))) then
   bif ((List.getD v7 (Int.toNat v9) 0) == v1) then
    some (Sum.inr (Sum.inl (true, ())))
   else
    some (Sum.inl (v1, v7, v8, (IntKind.wrap .i64 (v9 + 1)), ()))
  else
   none
 else
  some (Sum.inr (Sum.inr ()))
theorem kj8 {L} (h : L 2 = some ⟨17, sh37_2, xs37_2, ys8⟩) : yc0 prog L (ya8 f37 2) := lo (L' := L0) (by kernel_rfl) yh7 ya0 h
def L37_1 : Nat → Option LoopD := fun n => ifEq n 2 (some ⟨17, sh37_2, xs37_2, ys8⟩) (L0 n)
def y40 : LI → Int → Option (Bool) := fun a0 a1 =>
 Option.bind (ya2 ys8 (a1, a0, (((List.length a0) : Nat) : Int), 0, ())) fun r0 =>
  (match r0 with
  | .inl (d1, _) =>
    some d1
  | .inr _ =>
    some false)
def A37 : FnA := ⟨[.v sI, .v i6], true, [.bool], fun x => y40 x.1 x.2.1⟩
theorem A37_ok : FnOk prog 37 A37 := fo (L := L37_1) (by kernel_rfl) func37 yh7 (ya9 (kj8 rfl) ya0)
def E14 : Env := ev fun g => ifEq g 35 (some A35) (ifEq g 36 (some A36) (ifEq g 37 (some A37) (ifEq g 38 (some A38) (ifEq g 39 (some A39) (none)))))
theorem z9l : FnsOk prog E14 := (oF A35_ok func35 (oF A36_ok func36 (oF A37_ok func37 (oF A38_ok func38 (oF A39_ok func39 (ye2 _ _))))))
def z9m : List Fm := d :: .box 100100 [.val i6, .val sI, .val sI, .val sS] :: .box 100200 [.val i6, .own i6 100202 false, .own i6 100203 false, .own kS 100204 false] :: d :: d :: d :: .box 100600 [.val i6, .val sI, .val sI, .val sS] :: d :: .box 100800 [.val i6, .val .str, .val i6, .val i6] :: D 22 (.cell (.val sS) :: .cell (.val i6) :: .cell (.val i6) :: D 4 (.cell (.val sI) :: .cell (.val i6) :: .cell (.val i6) :: D 24 []))
def z9n : List (Ex × List Fm) := [(.exit 2, [d, .box 100100 [.val i6, .val sI, .val sI, .val sS], .box 100200 [.val i6, .own i6 100202 false, .own i6 100203 false, .own kS 100204 false], d, d, d, .box 100600 [.val i6, .val sI, .val sI, .val sS], d, d, d, d, d, d, d, d, d, d, d, d, d, d, d, d, d, d, d, d, d, d, d, d, .cell (.val sS), .cell (.val i6), .cell (.val i6), d, d, d, d, d, d, d, d, d, d, d, d, d, d, d, d, d, d, d, d, d, d, d, d, d, d, d, d, d, d, d])]
def yc3 : ((Int × LI × LI × LS × Unit) × (Int × LI × LI × LS × Unit) × (Int × LI × LI × LS × Unit) × (Int × ByteArray × Int × Int × Unit) × LS × Int × Int × LI × Int × Int × Unit) → Option (((Int × LI × LI × LS × Unit) × (Int × LI × LI × LS × Unit) × (Int × LI × LI × LS × Unit) × (Int × ByteArray × Int × Int × Unit) × LS × Int × Int × LI × Int × Int × Unit) ⊕ (((Int × LI × LI × LS × Unit) × (Int × LI × LI × LS × Unit) × (Int × LI × LI × LS × Unit) × LS × Int × Int × Unit))) := fun ((v1_0, v1_1, v1_2, v1_3, _), (v2_0, v2_1, v2_2, v2_3, _), (v6_0, v6_1, v6_2, v6_3, _), (v8_0, v8_1, v8_2, v8_3, _), v31, v32, v33, v38, v39, v40, _) =>
 bif (decide (v40 < v39)) then
  if (((0 : Int) ≤ v40) ∧ (v40 < (((List.length v38) : Nat) : Int))) then
   Option.bind (y40 v1_1 v8_0) fun r0 =>
    bif r0 then
     Option.bind (yt3 v6_3 ((List.getD v38 (Int.toNat v40) 0), v8_1, v8_2, 1)) fun r1 =>
      some (Sum.inl ((v1_0, v1_1, v1_2, v1_3, ()), (v2_0, (List.take (List.length v2_1) (List.drop 0 v2_1)), (List.take (List.length v2_2) (List.drop 0 v2_2)), (List.take (List.length v2_3) (List.drop 0 v2_3)), ()), (v6_0, v6_1, v6_2, (List.take (List.length r1) (List.drop 0 r1)), ()), (v8_0, v8_1, v8_2, v8_3, ()), v31, v32, v33, v38, v39, (IntKind.wrap .i64 (v40 + 1)), ()))
    else
     some (Sum.inl ((v1_0, v1_1, v1_2, v1_3, ()), (v2_0, (List.take (List.length v2_1) (List.drop 0 v2_1)), (List.take (List.length v2_2) (List.drop 0 v2_2)), (List.take (List.length v2_3) (List.drop 0 v2_3)), ()), (v6_0, v6_1, v6_2, v6_3, ()), (v8_0, v8_1, v8_2, v8_3, ()), v31, v32, v33, v38, v39, (IntKind.wrap .i64 (v40 + 1)), ()))
  else
   none
 else
  some (Sum.inr ((v1_0, v1_1, v1_2, v1_3, ()), (v2_0, (List.take (List.length v2_1) (List.drop 0 v2_1)), (List.take (List.length v2_2) (List.drop 0 v2_2)), (List.take (List.length v2_3) (List.drop 0 v2_3)), ()), (v6_0, v6_1, v6_2, v6_3, ()), v31, v32, v33, ()))
theorem z9o {L} (h : L 10 = some ⟨65, z9m, z9n, yc3⟩) : yc0 prog L (ya8 f14 10) := lo (L' := L0) (by kernel_rfl) z9l ya0 h
def L14_1 : Nat → Option LoopD := fun n => ifEq n 10 (some ⟨65, z9m, z9n, yc3⟩) (L0 n)
def sh14_7 : List Fm := d :: .box 100100 [.val i6, .val sI, .val sI, .val sS] :: .box 100200 [.val i6, .own i6 100202 false, .own i6 100203 false, .own kS 100204 false] :: d :: d :: d :: .box 100600 [.val i6, .val sI, .val sI, .val sS] :: D 24 (.cell (.val sS) :: .cell (.val i6) :: .cell (.val i6) :: D 31 [])
def xs14_7 : List (Ex × List Fm) := [(.exit 0, [d, d, .box 100200 [.val i6, .own i6 100202 false, .own i6 100203 false, .own kS 100204 false], d, d, d, .box 100600 [.val i6, .val sI, .val sI, .val sS], d, d, d, d, d, d, d, d, d, d, d, d, d, d, d, d, d, d, d, d, d, d, d, d, d, d, d, d, d, d, d, d, d, d, d, d, d, d, d, d, d, d, d, d, d, d, d, d, d, d, d, d, d, d, d, d, d, d])]
def yd7 : ((Int × LI × LI × LS × Unit) × (Int × LI × LI × LS × Unit) × (Int × LI × LI × LS × Unit) × LS × Int × Int × Unit) → Option (((Int × LI × LI × LS × Unit) × (Int × LI × LI × LS × Unit) × (Int × LI × LI × LS × Unit) × LS × Int × Int × Unit) ⊕ (((Int × LI × LI × LS × Unit) × (Int × LI × LI × LS × Unit) × Unit))) := fun ((v1_0, v1_1, v1_2, v1_3, _), (v2_0, v2_1, v2_2, v2_3, _), (v6_0, v6_1, v6_2, v6_3, _), v31, v32, v33, _) =>
 bif (decide (v33 < v32)) then
  if (((0 : Int) ≤ v33) ∧ (v33 < (((List.length v31) : Nat) : Int))) then
   Option.bind (ya2 yc3 ((v1_0, v1_1, v1_2, v1_3, ()), (v2_0, (List.take (List.length v2_1) (List.drop 0 v2_1)), (List.take (List.length v2_2) (List.drop 0 v2_2)), (List.take (List.length v2_3) (List.drop 0 v2_3)), ()), (v6_0, v6_1, v6_2, v6_3, ()), ((List.getD v31 (Int.toNat v33) ((0 : Int), ⟨Array.empty⟩, 0, 0)).1, (List.getD v31 (Int.toNat v33) ((0 : Int), ⟨Array.empty⟩, 0, 0)).2.1, (List.getD v31 (Int.toNat v33) ((0 : Int), ⟨Array.empty⟩, 0, 0)).2.2.1, (List.getD v31 (Int.toNat v33) ((0 : Int), ⟨Array.empty⟩, 0, 0)).2.2.2, ()), v31, v32, v33, v1_2, (((List.length v1_2) : Nat) : Int), 0, ())) fun ((r0, r1, r2, r3, _), (r4, r5, r6, r7, _), (r8, r9, r10, r11, _), r12, r13, r14, _) =>
    some (Sum.inl ((r0, r1, r2, r3, ()), (r4, (List.take (List.length r5) (List.drop 0 r5)), (List.take (List.length r6) (List.drop 0 r6)), (List.take (List.length r7) (List.drop 0 r7)), ()), (r8, r9, r10, r11, ()), r12, r13, (IntKind.wrap .i64 (r14 + 1)), ()))
  else
   none
 else
  some (Sum.inr ((v2_0, (List.take (List.length v2_1) (List.drop 0 v2_1)), (List.take (List.length v2_2) (List.drop 0 v2_2)), (List.take (List.length v2_3) (List.drop 0 v2_3)), ()), (v6_0, v6_1, v6_2, v6_3, ()), ()))
theorem kj9 {L} (h : L 7 = some ⟨65, sh14_7, xs14_7, yd7⟩) : yc0 prog L (ya8 f14 7) := lo (L' := L14_1) (by kernel_rfl) z9l (ya9 (z9o rfl) ya0) h
def L14_2 : Nat → Option LoopD := fun n => ifEq n 7 (some ⟨65, sh14_7, xs14_7, yd7⟩) (L14_1 n)
def ye4 : TA → Option (TA × Bool) := fun (a0_0, a0_1, a0_2, a0_3) =>
 Option.bind (yl3 (a0_0, a0_1, a0_2, a0_3)) fun (r0, r1, r2, r3) =>
  Option.bind (yf7 (r0, (List.take (List.length r1) (List.drop 0 r1)), (List.take (List.length r2) (List.drop 0 r2)), (List.take (List.length r3) (List.drop 0 r3))) 0) fun ((r4, r5, r6, r7), r8) =>
   bif (!r8) then
    some (((0 : Int), [], [], []), false)
   else
    Option.bind (ya2 yd7 ((r0, (List.take (List.length r1) (List.drop 0 r1)), (List.take (List.length r2) (List.drop 0 r2)), (List.take (List.length r3) (List.drop 0 r3)), ()), ((0 : Int), [], [], [], ()), (r0, (List.take (List.length r1) (List.drop 0 r1)), (List.take (List.length r2) (List.drop 0 r2)), r7, ()), r7, (((List.length r7) : Nat) : Int), 0, ())) fun ((r9, r10, r11, r12, _), (r13, r14, r15, r16, _), _) =>
     Option.bind (yw1 (r13, r14, r15, r16)) fun ((r17, r18, r19, r20), r21) =>
      some ((r17, r18, r19, r20), r21)
def A14 : FnA := ⟨[.v kA], false, [.pair i6 (.pair sI (.pair sI sS)), .bool], fun x => ye4 x.1⟩
theorem A14_ok : FnOk prog 14 A14 := fo (L := L14_2) (by kernel_rfl) func14 z9l (ya9 (kj9 rfl) ya0)
def z9p : List Fm := d :: .cell (.val .str) :: .box 100200 [.val i6, .val sI, .val sI, .val sS] :: d :: .box 100400 [.val i6, .own i6 100402 false] :: .box 100500 [.val i6, .own i6 100502 false] :: D 9 (.cell (.val i6) :: .cell (.val i6) :: D 33 [])
def z9q : List (Ex × List Fm) := [(.exit 0, [d, .cell (.val .str), .box 100200 [.val i6, .val sI, .val sI, .val sS], d, .box 100400 [.val i6, .own i6 100402 false], .box 100500 [.val i6, .own i6 100502 false], d, d, d, d, d, d, d, d, d, d, d, d, d, d, d, d, d, d, d, d, d, d, d, d, d, d, d, d, d, d, d, d, d, d, d, d, d, d, d, d, d, d, d, d])]
def yf8 : (ByteArray × (Int × LI × LI × LS × Unit) × (Int × LI × Unit) × (Int × LI × Unit) × Int × Int × Unit) → Option ((ByteArray × (Int × LI × LI × LS × Unit) × (Int × LI × Unit) × (Int × LI × Unit) × Int × Int × Unit) ⊕ ((ByteArray × (Int × LI × LI × LS × Unit) × (Int × LI × Unit) × (Int × LI × Unit) × Unit))) := fun (v1, (v2_0, v2_1, v2_2, v2_3, _), (v4_0, v4_1, _), (v5_0, v5_1, _), v15, v16, _) =>
 bif (decide (v16 < v15)) then
  if (((0 + (List.length v5_1)) = (List.length v5_1)) ∧ ((((List.length v5_1) + (List.length (List.take 1 (List.drop 0 [(1000000 : Int)])))) * 8) ≤ 140737488355328)) then
   some (Sum.inl (v1, (v2_0, v2_1, v2_2, v2_3, ()), (v4_0, (List.take (List.length v4_1) (List.drop 0 v4_1)), ()), (v5_0, (List.take ((List.length v5_1) + (List.length (List.take 1 (List.drop 0 [(1000000 : Int)])))) (List.drop 0 ((List.drop 0 v5_1) ++ (List.take 1 (List.drop 0 [(1000000 : Int)]))))), ()), v15, (IntKind.wrap .i64 (v16 + 1)), ()))
  else
   none
 else
  some (Sum.inr (v1, (v2_0, v2_1, v2_2, v2_3, ()), (v4_0, (List.take (List.length v4_1) (List.drop 0 v4_1)), ()), (v5_0, (List.take (List.length v5_1) (List.drop 0 v5_1)), ()), ()))
theorem z9r {L} (h : L 3 = some ⟨50, z9p, z9q, yf8⟩) : yc0 prog L (ya8 f135 3) := lo (L' := L0) (by kernel_rfl) yh7 ya0 h
def L135_1 : Nat → Option LoopD := fun n => ifEq n 3 (some ⟨50, z9p, z9q, yf8⟩) (L0 n)
def z9s : List Fm := d :: .cell (.val .str) :: .box 100200 [.val i6, .val sI, .val sI, .val sS] :: d :: .box 100400 [.val i6, .own i6 100402 false] :: .box 100500 [.val i6, .own i6 100502 false] :: D 19 (.cell (.val sS) :: .cell (.val i6) :: .cell (.val i6) :: D 22 [])
def z9t : List (Ex × List Fm) := [(.exit 2, [d, d, d, d, .box 100400 [.val i6, .own i6 100402 false], .box 100500 [.val i6, .own i6 100502 false], d, d, d, d, d, d, d, d, d, d, d, d, d, d, d, d, d, d, d, d, d, d, d, d, d, d, d, d, d, d, d, d, d, d, d, d, d, d, d, d, d, d, d, d])]
def yf9 : (ByteArray × (Int × LI × LI × LS × Unit) × (Int × LI × Unit) × (Int × LI × Unit) × LS × Int × Int × Unit) → Option ((ByteArray × (Int × LI × LI × LS × Unit) × (Int × LI × Unit) × (Int × LI × Unit) × LS × Int × Int × Unit) ⊕ (((Int × LI × Unit) × (Int × LI × Unit) × Unit))) := fun (v1, (v2_0, v2_1, v2_2, v2_3, _), (v4_0, v4_1, _), (v5_0, v5_1, _), v25, v26, v27, _) =>
 bif (decide (v27 < v26)) then
  if (((0 : Int) ≤ v27) ∧ (v27 < (((List.length v25) : Nat) : Int))) then
   bif ((ByteArray.toList (List.getD v25 (Int.toNat v27) ((0 : Int), ⟨Array.empty⟩, 0, 0)).2.1) == (ByteArray.toList v1)) then
    if (((0 : Int) ≤ (IntKind.wrap .i64 ((IntKind.wrap .i64 ((List.getD v25 (Int.toNat v27) ((0 : Int), ⟨Array.empty⟩, 0, 0)).1 * v2_0)) + (List.getD v25 (Int.toNat v27) ((0 : Int), ⟨Array.empty⟩, 0, 0)).2.2.1))) ∧ ((IntKind.wrap .i64 ((IntKind.wrap .i64 ((List.getD v25 (Int.toNat v27) ((0 : Int), ⟨Array.empty⟩, 0, 0)).1 * v2_0)) + (List.getD v25 (Int.toNat v27) ((0 : Int), ⟨Array.empty⟩, 0, 0)).2.2.1)) < (((List.length v5_1) : Nat) : Int))) then
     some (Sum.inl (v1, (v2_0, v2_1, v2_2, v2_3, ()), (v4_0, (List.take (List.length v4_1) (List.drop 0 v4_1)), ()), (v5_0, (List.take (List.length v5_1) (List.drop 0 (List.set v5_1 (0 + (Int.toNat (IntKind.wrap .i64 ((IntKind.wrap .i64 ((List.getD v25 (Int.toNat v27) ((0 : Int), ⟨Array.empty⟩, 0, 0)).1 * v2_0)) + (List.getD v25 (Int.toNat v27) ((0 : Int), ⟨Array.empty⟩, 0, 0)).2.2.1)))) (List.getD v25 (Int.toNat v27) ((0 : Int), ⟨Array.empty⟩, 0, 0)).2.2.2))), ()), v25, v26, (IntKind.wrap .i64 (v27 + 1)), ()))
    else
     none
   else
    some (Sum.inl (v1, (v2_0, v2_1, v2_2, v2_3, ()), (v4_0, (List.take (List.length v4_1) (List.drop 0 v4_1)), ()), (v5_0, (List.take (List.length v5_1) (List.drop 0 v5_1)), ()), v25, v26, (IntKind.wrap .i64 (v27 + 1)), ()))
  else
   none
 else
  some (Sum.inr ((v4_0, (List.take (List.length v4_1) (List.drop 0 v4_1)), ()), (v5_0, (List.take (List.length v5_1) (List.drop 0 v5_1)), ()), ()))
theorem z9u {L} (h : L 7 = some ⟨50, z9s, z9t, yf9⟩) : yc0 prog L (ya8 f135 7) := lo (L' := L135_1) (by kernel_rfl) yh7 ya0 h
def L135_2 : Nat → Option LoopD := fun n => ifEq n 7 (some ⟨50, z9s, z9t, yf9⟩) (L135_1 n)
def yo2 : TA → ByteArray → Option (TM) := fun (a0_0, a0_1, a0_2, a0_3) a1 =>
 Option.bind (ya2 yf8 (a1, (a0_0, a0_1, a0_2, a0_3, ()), ((0 : Int), [], ()), (a0_0, [], ()), (IntKind.wrap .i64 (a0_0 * a0_0)), 0, ())) fun (r0, (r1, r2, r3, r4, _), (r5, r6, _), (r7, r8, _), _) =>
  Option.bind (ya2 yf9 (r0, (r1, r2, r3, r4, ()), (r5, (List.take (List.length r6) (List.drop 0 r6)), ()), (r7, (List.take (List.length r8) (List.drop 0 r8)), ()), r4, (((List.length r4) : Nat) : Int), 0, ())) fun ((r9, r10, _), (r11, r12, _), _) =>
   some (r11, (List.take (List.length r12) (List.drop 0 r12)))
def A135 : FnA := ⟨[.v kA, .v .str], true, [.pair i6 sI], fun x => yo2 x.1 x.2.1⟩
theorem zh6 : FnOk prog 135 A135 := fo (L := L135_2) (by kernel_rfl) func135 yh7 (ya9 (z9r rfl) (ya9 (z9u rfl) ya0))
def z9v : List Fm := d :: d :: .box 100200 [.val i6, .own i6 100202 false] :: .box 100300 [.val i6, .own i6 100302 false] :: D 6 (.cell (.val sI) :: .cell (.val i6) :: .cell (.val i6) :: D 25 [])
def z9w : List (Ex × List Fm) := [(.exit 0, [d, d, .box 100200 [.val i6, .own i6 100202 false], .box 100300 [.val i6, .own i6 100302 false], d, d, d, d, d, d, d, d, d, d, d, d, d, d, d, d, d, d, d, d, d, d, d, d, d, d, d, d, d, d, d, d, d, d])]
def yl0 : ((Int × LI × Unit) × (Int × LI × Unit) × LI × Int × Int × Unit) → Option (((Int × LI × Unit) × (Int × LI × Unit) × LI × Int × Int × Unit) ⊕ (((Int × LI × Unit) × (Int × LI × Unit) × Unit))) := fun ((v2_0, v2_1, _), (v3_0, v3_1, _), v10, v11, v12, _) =>
 bif (decide (v12 < v11)) then
  if (((0 : Int) ≤ v12) ∧ (v12 < (((List.length v10) : Nat) : Int))) then
   bif ((List.getD v10 (Int.toNat v12) 0) == 0) then
    if (((0 + (List.length v3_1)) = (List.length v3_1)) ∧ ((((List.length v3_1) + (List.length (List.take 1 (List.drop 0 [(0 : Int)])))) * 8) ≤ 140737488355328)) then
     some (Sum.inl ((v2_0, (List.take (List.length v2_1) (List.drop 0 v2_1)), ()), (v3_0, (List.take ((List.length v3_1) + (List.length (List.take 1 (List.drop 0 [(0 : Int)])))) (List.drop 0 ((List.drop 0 v3_1) ++ (List.take 1 (List.drop 0 [(0 : Int)]))))), ()), v10, v11, (IntKind.wrap .i64 (v12 + 1)), ()))
    else
     none
   else
    bif ((List.getD v10 (Int.toNat v12) 0) == 1000000) then
     if (((0 + (List.length v3_1)) = (List.length v3_1)) ∧ ((((List.length v3_1) + (List.length (List.take 1 (List.drop 0 [(3 : Int)])))) * 8) ≤ 140737488355328)) then
      some (Sum.inl ((v2_0, (List.take (List.length v2_1) (List.drop 0 v2_1)), ()), (v3_0, (List.take ((List.length v3_1) + (List.length (List.take 1 (List.drop 0 [(3 : Int)])))) (List.drop 0 ((List.drop 0 v3_1) ++ (List.take 1 (List.drop 0 [(3 : Int)]))))), ()), v10, v11, (IntKind.wrap .i64 (v12 + 1)), ()))
     else
      none
    else
     if (((0 + (List.length v3_1)) = (List.length v3_1)) ∧ ((((List.length v3_1) + (List.length (List.take 1 (List.drop 0 [(1 : Int)])))) * 8) ≤ 140737488355328)) then
      some (Sum.inl ((v2_0, (List.take (List.length v2_1) (List.drop 0 v2_1)), ()), (v3_0, (List.take ((List.length v3_1) + (List.length (List.take 1 (List.drop 0 [(1 : Int)])))) (List.drop 0 ((List.drop 0 v3_1) ++ (List.take 1 (List.drop 0 [(1 : Int)]))))), ()), v10, v11, (IntKind.wrap .i64 (v12 + 1)), ()))
     else
      none
  else
   none
 else
  some (Sum.inr ((v2_0, (List.take (List.length v2_1) (List.drop 0 v2_1)), ()), (v3_0, (List.take (List.length v3_1) (List.drop 0 v3_1)), ()), ()))
theorem z9x {L} (h : L 3 = some ⟨38, z9v, z9w, yl0⟩) : yc0 prog L (ya8 f134 3) := lo (L' := L0) (by kernel_rfl) yh7 ya0 h
def L134_1 : Nat → Option LoopD := fun n => ifEq n 3 (some ⟨38, z9v, z9w, yl0⟩) (L0 n)
def yy0 : TM → Option (TM) := fun (a0_0, a0_1) =>
 Option.bind (ya2 yl0 (((0 : Int), [], ()), (a0_0, [], ()), a0_1, (((List.length a0_1) : Nat) : Int), 0, ())) fun ((r0, r1, _), (r2, r3, _), _) =>
  some (r2, (List.take (List.length r3) (List.drop 0 r3)))
def A134 : FnA := ⟨[.v kM], true, [.pair i6 sI], fun x => yy0 x.1⟩
theorem zh7 : FnOk prog 134 A134 := fo (L := L134_1) (by kernel_rfl) func134 yh7 (ya9 (z9x rfl) ya0)
def z9y : List Fm := .cell (.val sI) :: .cell (.val sI) :: D 8 (.cell (.val i6) :: .cell (.val i6) :: D 17 [])
def z9z : List (Ex × List Fm) := [(.ret, (D 4 (.cell (.val .bool) :: D 24 []))), (.exit 0, (.cell (.val sI) :: .cell (.val sI) :: D 27 []))]
def yo9 : (LI × LI × Int × Int × Unit) → Option ((LI × LI × Int × Int × Unit) ⊕ ((Bool × Unit) ⊕ (LI × LI × Unit))) := fun (v0, v1, v10, v11, _) =>
 bif (decide (v11 < v10)) then
  if (((0 : Int) ≤ v11) ∧ (v11 < (((List.length v0) : Nat) : Int))) then
   if (((0 : Int) ≤ v11) ∧ (v11 < (((List.length v1) : Nat) : Int))) then
    bif ((List.getD v0 (Int.toNat v11) 0) != (List.getD v1 (Int.toNat v11) 0)) then
     some (Sum.inr (Sum.inl (false, ())))
    else
     some (Sum.inl (v0, v1, v10, (IntKind.wrap .i64 (v11 + 1)), ()))
   else
    none
  else
   none
 else
  some (Sum.inr (Sum.inr (v0, v1, ())))
theorem z90 {L} (h : L 2 = some ⟨29, z9y, z9z, yo9⟩) : yc0 prog L (ya8 f153 2) := lo (L' := L0) (by kernel_rfl) yh7 ya0 h
def L153_1 : Nat → Option LoopD := fun n => ifEq n 2 (some ⟨29, z9y, z9z, yo9⟩) (L0 n)
def ys9 : LI → LI → Option (Bool) := fun a0 a1 =>
 Option.bind (ya2 yo9 (a0, a1, (if ((((List.length a1) : Nat) : Int) < (((List.length a0) : Nat) : Int)) then (((List.length a1) : Nat) : Int) else (((List.length a0) : Nat) : Int)), 0, ())) fun r0 =>
  (match r0 with
  | .inl (d1, _) =>
    some d1
  | .inr (d2, d3, _) =>
    some ((((List.length d2) : Nat) : Int) == (((List.length d3) : Nat) : Int)))
def A153 : FnA := ⟨[.v sI, .v sI], true, [.bool], fun x => ys9 x.1 x.2.1⟩
theorem y82 : FnOk prog 153 A153 := fo (L := L153_1) (by kernel_rfl) func153 yh7 (ya9 (z90 rfl) ya0)
def z91 : List Fm := d :: d :: .box 100200 [.val i6, .val sI] :: .box 100300 [.val i6, .val sI] :: .box 100400 [.val i6, .own i6 100402 false] :: .box 100500 [.val i6, .own i6 100502 false] :: .cell (.val i6) :: .cell (.val i6) :: D 8 (.cell (.val i6) :: .cell (.val i6) :: d :: d :: d :: .cell (.val i6) :: .cell (.val i6) :: D 40 [])
def z92 : List (Ex × List Fm) := [(.exit 2, [d, d, .box 100200 [.val i6, .val sI], .box 100300 [.val i6, .val sI], .box 100400 [.val i6, .own i6 100402 false], .box 100500 [.val i6, .own i6 100502 false], d, .cell (.val i6), d, d, d, d, d, d, d, d, .cell (.val i6), .cell (.val i6), d, d, d, d, d, d, d, d, d, d, d, d, d, d, d, d, d, d, d, d, d, d, d, d, d, d, d, d, d, d, d, d, d, d, d, d, d, d, d, d, d, d, d, d, d])]
def yq1 : ((Int × LI × Unit) × (Int × LI × Unit) × (Int × LI × Unit) × (Int × LI × Unit) × Int × Int × Int × Int × Int × Int × Unit) → Option (((Int × LI × Unit) × (Int × LI × Unit) × (Int × LI × Unit) × (Int × LI × Unit) × Int × Int × Int × Int × Int × Int × Unit) ⊕ (((Int × LI × Unit) × (Int × LI × Unit) × (Int × LI × Unit) × (Int × LI × Unit) × Int × Int × Int × Unit))) := fun ((v2_0, v2_1, _), (v3_0, v3_1, _), (v4_0, v4_1, _), (v5_0, v5_1, _), v6, v7, v16, v17, v21, v22, _) =>
 bif (decide (v22 < v21)) then
  if (v2_0 = 0) then
   none
  else
   if (((0 : Int) ≤ (IntKind.wrap .i64 ((IntKind.wrap .i64 ((IntKind.wrap .i64 (Int.tdiv v6 v2_0)) * v2_0)) + v22))) ∧ ((IntKind.wrap .i64 ((IntKind.wrap .i64 ((IntKind.wrap .i64 (Int.tdiv v6 v2_0)) * v2_0)) + v22)) < (((List.length v2_1) : Nat) : Int))) then
    if (v2_0 = 0) then
     none
    else
     if (((0 : Int) ≤ (IntKind.wrap .i64 ((IntKind.wrap .i64 (v22 * v2_0)) + (Int.tmod v6 v2_0)))) ∧ ((IntKind.wrap .i64 ((IntKind.wrap .i64 (v22 * v2_0)) + (Int.tmod v6 v2_0))) < (((List.length v3_1) : Nat) : Int))) then
      some (Sum.inl ((v2_0, v2_1, ()), (v3_0, v3_1, ()), (v4_0, (List.take (List.length v4_1) (List.drop 0 v4_1)), ()), (v5_0, (List.take (List.length v5_1) (List.drop 0 v5_1)), ()), v6, (if ((if ((List.getD v3_1 (Int.toNat (IntKind.wrap .i64 ((IntKind.wrap .i64 (v22 * v2_0)) + (Int.tmod v6 v2_0)))) 0) > (List.getD v2_1 (Int.toNat (IntKind.wrap .i64 ((IntKind.wrap .i64 ((IntKind.wrap .i64 (Int.tdiv v6 v2_0)) * v2_0)) + v22))) 0)) then (List.getD v3_1 (Int.toNat (IntKind.wrap .i64 ((IntKind.wrap .i64 (v22 * v2_0)) + (Int.tmod v6 v2_0)))) 0) else (List.getD v2_1 (Int.toNat (IntKind.wrap .i64 ((IntKind.wrap .i64 ((IntKind.wrap .i64 (Int.tdiv v6 v2_0)) * v2_0)) + v22))) 0)) < v7) then (if ((List.getD v3_1 (Int.toNat (IntKind.wrap .i64 ((IntKind.wrap .i64 (v22 * v2_0)) + (Int.tmod v6 v2_0)))) 0) > (List.getD v2_1 (Int.toNat (IntKind.wrap .i64 ((IntKind.wrap .i64 ((IntKind.wrap .i64 (Int.tdiv v6 v2_0)) * v2_0)) + v22))) 0)) then (List.getD v3_1 (Int.toNat (IntKind.wrap .i64 ((IntKind.wrap .i64 (v22 * v2_0)) + (Int.tmod v6 v2_0)))) 0) else (List.getD v2_1 (Int.toNat (IntKind.wrap .i64 ((IntKind.wrap .i64 ((IntKind.wrap .i64 (Int.tdiv v6 v2_0)) * v2_0)) + v22))) 0)) else v7), v16, v17, v21, (IntKind.wrap .i64 (v22 + 1)), ()))
     else
      none
   else
    none
 else
  some (Sum.inr ((v2_0, v2_1, ()), (v3_0, v3_1, ()), (v4_0, (List.take (List.length v4_1) (List.drop 0 v4_1)), ()), (v5_0, (List.take (List.length v5_1) (List.drop 0 v5_1)), ()), v7, v16, v17, ()))
theorem z93 {L} (h : L 7 = some ⟨63, z91, z92, yq1⟩) : yc0 prog L (ya8 f139 7) := lo (L' := L0) (by kernel_rfl) yh7 ya0 h
def L139_1 : Nat → Option LoopD := fun n => ifEq n 7 (some ⟨63, z91, z92, yq1⟩) (L0 n)
def z94 : List Fm := d :: d :: .box 100200 [.val i6, .val sI] :: .box 100300 [.val i6, .val sI] :: .box 100400 [.val i6, .own i6 100402 false] :: .box 100500 [.val i6, .own i6 100502 false] :: D 10 (.cell (.val i6) :: .cell (.val i6) :: D 45 [])
def z95 : List (Ex × List Fm) := [(.exit 0, [d, d, d, d, .box 100400 [.val i6, .own i6 100402 false], .box 100500 [.val i6, .own i6 100502 false], d, d, d, d, d, d, d, d, d, d, d, d, d, d, d, d, d, d, d, d, d, d, d, d, d, d, d, d, d, d, d, d, d, d, d, d, d, d, d, d, d, d, d, d, d, d, d, d, d, d, d, d, d, d, d, d, d])]
def yq2 : ((Int × LI × Unit) × (Int × LI × Unit) × (Int × LI × Unit) × (Int × LI × Unit) × Int × Int × Unit) → Option (((Int × LI × Unit) × (Int × LI × Unit) × (Int × LI × Unit) × (Int × LI × Unit) × Int × Int × Unit) ⊕ (((Int × LI × Unit) × (Int × LI × Unit) × Unit))) := fun ((v2_0, v2_1, _), (v3_0, v3_1, _), (v4_0, v4_1, _), (v5_0, v5_1, _), v16, v17, _) =>
 bif (decide (v17 < v16)) then
  Option.bind (ya2 yq1 ((v2_0, v2_1, ()), (v3_0, v3_1, ()), (v4_0, (List.take (List.length v4_1) (List.drop 0 v4_1)), ()), (v5_0, (List.take (List.length v5_1) (List.drop 0 v5_1)), ()), v17, 3, v16, v17, v2_0, 0, ())) fun ((r0, r1, _), (r2, r3, _), (r4, r5, _), (r6, r7, _), r8, r9, r10, _) =>
   if (((0 + (List.length r7)) = (List.length r7)) ∧ ((((List.length r7) + (List.length (List.take 1 (List.drop 0 [r8])))) * 8) ≤ 140737488355328)) then
    some (Sum.inl ((r0, r1, ()), (r2, r3, ()), (r4, (List.take (List.length r5) (List.drop 0 r5)), ()), (r6, (List.take ((List.length r7) + (List.length (List.take 1 (List.drop 0 [r8])))) (List.drop 0 ((List.drop 0 r7) ++ (List.take 1 (List.drop 0 [r8]))))), ()), r9, (IntKind.wrap .i64 (r10 + 1)), ()))
   else
    none
 else
  some (Sum.inr ((v4_0, (List.take (List.length v4_1) (List.drop 0 v4_1)), ()), (v5_0, (List.take (List.length v5_1) (List.drop 0 v5_1)), ()), ()))
theorem z96 {L} (h : L 3 = some ⟨63, z94, z95, yq2⟩) : yc0 prog L (ya8 f139 3) := lo (L' := L139_1) (by kernel_rfl) yh7 (ya9 (z93 rfl) ya0) h
def L139_2 : Nat → Option LoopD := fun n => ifEq n 3 (some ⟨63, z94, z95, yq2⟩) (L139_1 n)
def y1f : TM → TM → Option (TM) := fun (a0_0, a0_1) (a1_0, a1_1) =>
 Option.bind (ya2 yq2 ((a0_0, a0_1, ()), (a1_0, a1_1, ()), ((0 : Int), [], ()), (a0_0, [], ()), (IntKind.wrap .i64 (a0_0 * a0_0)), 0, ())) fun ((r0, r1, _), (r2, r3, _), _) =>
  some (r2, (List.take (List.length r3) (List.drop 0 r3)))
def A139 : FnA := ⟨[.v kM, .v kM], true, [.pair i6 sI], fun x => y1f x.1 x.2.1⟩
theorem y83 : FnOk prog 139 A139 := fo (L := L139_2) (by kernel_rfl) func139 yh7 (ya9 (z96 rfl) ya0)
def E137 : Env := ev fun g => ifEq g 139 (some A139) (ifEq g 153 (some A153) (none))
theorem E137_ok : FnsOk prog E137 := (oF y83 func139 (oF y82 func153 (ye2 _ _)))
def yt7 : TM → Option (Bool) := fun (a0_0, a0_1) =>
 Option.bind (y1f (a0_0, a0_1) (a0_0, a0_1)) fun (r0, r1) =>
  Option.bind (ys9 (List.take (List.length r1) (List.drop 0 r1)) a0_1) fun r2 =>
   some r2
def A137 : FnA := ⟨[.v kM], true, [.bool], fun x => yt7 x.1⟩
theorem zh8 : FnOk prog 137 A137 := fo (L := L0) (by kernel_rfl) func137 E137_ok ya0
def y2m : Int → Option (Int) := fun a0 =>
 bif (a0 == 1) then
  some 2
 else
  some a0
def A154 : FnA := ⟨[.v i6], true, [.int .i64], fun x => y2m x.1⟩
theorem A154_ok : FnOk prog 154 A154 := fo (L := L0) (by kernel_rfl) func154 yh7 ya0
def E138 : Env := ev fun g => ifEq g 154 (some A154) (none)
theorem z2e : FnsOk prog E138 := (oF A154_ok func154 (ye2 _ _))
def z97 : List Fm := d :: .box 100100 [.val i6, .val sI] :: .box 100200 [.val i6, .own i6 100202 false] :: .box 100300 [.val i6, .own i6 100302 false] :: .cell (.val i6) :: .cell (.val i6) :: D 8 (.cell (.val i6) :: .cell (.val i6) :: d :: d :: d :: .cell (.val i6) :: .cell (.val i6) :: D 51 [])
def z98 : List (Ex × List Fm) := [(.exit 2, [d, .box 100100 [.val i6, .val sI], .box 100200 [.val i6, .own i6 100202 false], .box 100300 [.val i6, .own i6 100302 false], d, .cell (.val i6), d, d, d, d, d, d, d, d, .cell (.val i6), .cell (.val i6), d, d, d, d, d, d, d, d, d, d, d, d, d, d, d, d, d, d, d, d, d, d, d, d, d, d, d, d, d, d, d, d, d, d, d, d, d, d, d, d, d, d, d, d, d, d, d, d, d, d, d, d, d, d, d, d])]
def yl1 : ((Int × LI × Unit) × (Int × LI × Unit) × (Int × LI × Unit) × Int × Int × Int × Int × Int × Int × Unit) → Option (((Int × LI × Unit) × (Int × LI × Unit) × (Int × LI × Unit) × Int × Int × Int × Int × Int × Int × Unit) ⊕ (((Int × LI × Unit) × (Int × LI × Unit) × (Int × LI × Unit) × Int × Int × Int × Unit))) := fun ((v1_0, v1_1, _), (v2_0, v2_1, _), (v3_0, v3_1, _), v4, v5, v14, v15, v19, v20, _) =>
 bif (decide (v20 < v19)) then
  if (v1_0 = 0) then
   none
  else
   if (((0 : Int) ≤ (IntKind.wrap .i64 ((IntKind.wrap .i64 ((IntKind.wrap .i64 (Int.tdiv v4 v1_0)) * v1_0)) + v20))) ∧ ((IntKind.wrap .i64 ((IntKind.wrap .i64 ((IntKind.wrap .i64 (Int.tdiv v4 v1_0)) * v1_0)) + v20)) < (((List.length v1_1) : Nat) : Int))) then
    if (((0 : Int) ≤ (IntKind.wrap .i64 ((IntKind.wrap .i64 (v20 * v1_0)) + v20))) ∧ ((IntKind.wrap .i64 ((IntKind.wrap .i64 (v20 * v1_0)) + v20)) < (((List.length v1_1) : Nat) : Int))) then
     Option.bind (y2m (List.getD v1_1 (Int.toNat (IntKind.wrap .i64 ((IntKind.wrap .i64 (v20 * v1_0)) + v20))) 0)) fun r0 =>
      if (v1_0 = 0) then
       none
      else
       if (((0 : Int) ≤ (IntKind.wrap .i64 ((IntKind.wrap .i64 (v20 * v1_0)) + (Int.tmod v4 v1_0)))) ∧ ((IntKind.wrap .i64 ((IntKind.wrap .i64 (v20 * v1_0)) + (Int.tmod v4 v1_0))) < (((List.length v1_1) : Nat) : Int))) then
        some (Sum.inl ((v1_0, v1_1, ()), (v2_0, (List.take (List.length v2_1) (List.drop 0 v2_1)), ()), (v3_0, (List.take (List.length v3_1) (List.drop 0 v3_1)), ()), v4, (if ((if ((List.getD v1_1 (Int.toNat (IntKind.wrap .i64 ((IntKind.wrap .i64 (v20 * v1_0)) + (Int.tmod v4 v1_0)))) 0) > (if (r0 > (List.getD v1_1 (Int.toNat (IntKind.wrap .i64 ((IntKind.wrap .i64 ((IntKind.wrap .i64 (Int.tdiv v4 v1_0)) * v1_0)) + v20))) 0)) then r0 else (List.getD v1_1 (Int.toNat (IntKind.wrap .i64 ((IntKind.wrap .i64 ((IntKind.wrap .i64 (Int.tdiv v4 v1_0)) * v1_0)) + v20))) 0))) then (List.getD v1_1 (Int.toNat (IntKind.wrap .i64 ((IntKind.wrap .i64 (v20 * v1_0)) + (Int.tmod v4 v1_0)))) 0) else (if (r0 > (List.getD v1_1 (Int.toNat (IntKind.wrap .i64 ((IntKind.wrap .i64 ((IntKind.wrap .i64 (Int.tdiv v4 v1_0)) * v1_0)) + v20))) 0)) then r0 else (List.getD v1_1 (Int.toNat (IntKind.wrap .i64 ((IntKind.wrap .i64 ((IntKind.wrap .i64 (Int.tdiv v4 v1_0)) * v1_0)) + v20))) 0))) < v5) then (if ((List.getD v1_1 (Int.toNat (IntKind.wrap .i64 ((IntKind.wrap .i64 (v20 * v1_0)) + (Int.tmod v4 v1_0)))) 0) > (if (r0 > (List.getD v1_1 (Int.toNat (IntKind.wrap .i64 ((IntKind.wrap .i64 ((IntKind.wrap .i64 (Int.tdiv v4 v1_0)) * v1_0)) + v20))) 0)) then r0 else (List.getD v1_1 (Int.toNat (IntKind.wrap .i64 ((IntKind.wrap .i64 ((IntKind.wrap .i64 (Int.tdiv v4 v1_0)) * v1_0)) + v20))) 0))) then (List.getD v1_1 (Int.toNat (IntKind.wrap .i64 ((IntKind.wrap .i64 (v20 * v1_0)) + (Int.tmod v4 v1_0)))) 0) else (if (r0 > (List.getD v1_1 (Int.toNat (IntKind.wrap .i64 ((IntKind.wrap .i64 ((IntKind.wrap .i64 (Int.tdiv v4 v1_0)) * v1_0)) + v20))) 0)) then r0 else (List.getD v1_1 (Int.toNat (IntKind.wrap .i64 ((IntKind.wrap .i64 ((IntKind.wrap .i64 (Int.tdiv v4 v1_0)) * v1_0)) + v20))) 0))) else v5), v14, v15, v19, (IntKind.wrap .i64 (v20 + 1)), ()))
       else
        none
    else
     none
   else
    none
 else
  some (Sum.inr ((v1_0, v1_1, ()), (v2_0, (List.take (List.length v2_1) (List.drop 0 v2_1)), ()), (v3_0, (List.take (List.length v3_1) (List.drop 0 v3_1)), ()), v5, v14, v15, ()))
theorem z99 {L} (h : L 7 = some ⟨72, z97, z98, yl1⟩) : yc0 prog L (ya8 f138 7) := lo (L' := L0) (by kernel_rfl) z2e ya0 h
def L138_1 : Nat → Option LoopD := fun n => ifEq n 7 (some ⟨72, z97, z98, yl1⟩) (L0 n)
def ka0 : List Fm := d :: .box 100100 [.val i6, .val sI] :: .box 100200 [.val i6, .own i6 100202 false] :: .box 100300 [.val i6, .own i6 100302 false] :: D 10 (.cell (.val i6) :: .cell (.val i6) :: D 56 [])
def ka1 : List (Ex × List Fm) := [(.exit 0, [d, d, .box 100200 [.val i6, .own i6 100202 false], .box 100300 [.val i6, .own i6 100302 false], d, d, d, d, d, d, d, d, d, d, d, d, d, d, d, d, d, d, d, d, d, d, d, d, d, d, d, d, d, d, d, d, d, d, d, d, d, d, d, d, d, d, d, d, d, d, d, d, d, d, d, d, d, d, d, d, d, d, d, d, d, d, d, d, d, d, d, d])]
def yl2 : ((Int × LI × Unit) × (Int × LI × Unit) × (Int × LI × Unit) × Int × Int × Unit) → Option (((Int × LI × Unit) × (Int × LI × Unit) × (Int × LI × Unit) × Int × Int × Unit) ⊕ (((Int × LI × Unit) × (Int × LI × Unit) × Unit))) := fun ((v1_0, v1_1, _), (v2_0, v2_1, _), (v3_0, v3_1, _), v14, v15, _) =>
 bif (decide (v15 < v14)) then
  Option.bind (ya2 yl1 ((v1_0, v1_1, ()), (v2_0, (List.take (List.length v2_1) (List.drop 0 v2_1)), ()), (v3_0, (List.take (List.length v3_1) (List.drop 0 v3_1)), ()), v15, 3, v14, v15, v1_0, 0, ())) fun ((r0, r1, _), (r2, r3, _), (r4, r5, _), r6, r7, r8, _) =>
   if (((0 + (List.length r5)) = (List.length r5)) ∧ ((((List.length r5) + (List.length (List.take 1 (List.drop 0 [r6])))) * 8) ≤ 140737488355328)) then
    some (Sum.inl ((r0, r1, ()), (r2, (List.take (List.length r3) (List.drop 0 r3)), ()), (r4, (List.take ((List.length r5) + (List.length (List.take 1 (List.drop 0 [r6])))) (List.drop 0 ((List.drop 0 r5) ++ (List.take 1 (List.drop 0 [r6]))))), ()), r7, (IntKind.wrap .i64 (r8 + 1)), ()))
   else
    none
 else
  some (Sum.inr ((v2_0, (List.take (List.length v2_1) (List.drop 0 v2_1)), ()), (v3_0, (List.take (List.length v3_1) (List.drop 0 v3_1)), ()), ()))
theorem ka2 {L} (h : L 3 = some ⟨72, ka0, ka1, yl2⟩) : yc0 prog L (ya8 f138 3) := lo (L' := L138_1) (by kernel_rfl) z2e (ya9 (z99 rfl) ya0) h
def L138_2 : Nat → Option LoopD := fun n => ifEq n 3 (some ⟨72, ka0, ka1, yl2⟩) (L138_1 n)
def y09 : TM → Option (TM) := fun (a0_0, a0_1) =>
 Option.bind (ya2 yl2 ((a0_0, a0_1, ()), ((0 : Int), [], ()), (a0_0, [], ()), (IntKind.wrap .i64 (a0_0 * a0_0)), 0, ())) fun ((r0, r1, _), (r2, r3, _), _) =>
  some (r2, (List.take (List.length r3) (List.drop 0 r3)))
def A138 : FnA := ⟨[.v kM], true, [.pair i6 sI], fun x => y09 x.1⟩
theorem zh9 : FnOk prog 138 A138 := fo (L := L138_2) (by kernel_rfl) func138 z2e (ya9 (ka2 rfl) ya0)
end
end Go.Proofs.YtogigagfgkfkhaaGreat
