/- What Go functions that the laws reach compute, and that they do: written by a program of this session. -/
import Derived.Test.YtfdhmmnffahhgaaGreatG0
import Derived.KernelRfl
set_option linter.unusedVariables false
namespace Go.Proofs.YtfdhmmnffahhgaaGreat
open Go Go.Proofs.YtfdhmmnffahhgaaGreat.Am Go.Proofs.Tryz
set_option maxRecDepth 100000
/-! spec.l4Cost -/
noncomputable def E23 : Env := ⟨ty0, fun g => ifEq g 47 (some A47) (ifEq g 46 (some A46) (none)), fun _ => none, fun _ => none, fun _ => none⟩
theorem E23_ok : FnsOk prog E23 := (oF A47_ok func47 (oF A46_ok func46 (noFns _ _)))
noncomputable def L23_0 : Nat → Option LoopD := fun _ => none
noncomputable def spec_l4Cost : (Int × ((List Int) × ((List Int) × (List (Int × (ByteArray × (Int × Int))))))) → ByteArray → Option (Int) := fun (a0_0, a0_1, a0_2, a0_3) a1 =>
 Option.bind (spec_l4Matrix (a0_0, a0_1, a0_2, a0_3) a1) fun (r0, r1) =>
  Option.bind (spec_l4Least (a0_0, a0_1, a0_2, a0_3) (r0, (List.take (List.length r1) (List.drop 0 r1)))) fun r2 =>
   some r2
noncomputable def A23 : FnA := ⟨[.v (.pair (.int .i64) (.pair (.sl (.int .i64)) (.pair (.sl (.int .i64)) (.sl (.pair (.int .i64) (.pair .str (.pair (.int .i64) (.int .i64)))))))), .v .str], true, [.int .i64], fun x => spec_l4Cost x.1 x.2.1⟩
theorem spec_l4Cost_eq : fnF E23 L23_0 [.v (.pair (.int .i64) (.pair (.sl (.int .i64)) (.pair (.sl (.int .i64)) (.sl (.pair (.int .i64) (.pair .str (.pair (.int .i64) (.int .i64)))))))), .v .str] true [.int .i64] f23.ntmps f23.results.toList (codeOf f23) = fun x => spec_l4Cost x.1 x.2.1 := by kernel_rfl
theorem A23_ok : FnOk prog 23 A23 := fo spec_l4Cost_eq func23 E23_ok allNil
/-! spec.WordOver -/
noncomputable def E7 : Env := ⟨ty0, fun g => ifEq g 16 (some A16) (ifEq g 22 (some A22) (ifEq g 23 (some A23) (none))), fun _ => none, fun _ => none, fun _ => none⟩
theorem E7_ok : FnsOk prog E7 := (oF A16_ok func16 (oF A22_ok func22 (oF A23_ok func23 (noFns _ _))))
noncomputable def L7_0 : Nat → Option LoopD := fun _ => none
def sh7_5 : List Fm := d :: .cell (.val (.int .i64)) :: .box 100200 [.val (.int .i64), .val (.sl (.int .i64)), .val (.sl (.int .i64)), .val (.sl (.pair (.int .i64) (.pair .str (.pair (.int .i64) (.int .i64)))))] :: d :: d :: d :: .cell (.val .str) :: d :: .cell (.val (.int .i64)) :: D 31 []
def xs7_5 : List (Ex × List Fm) := [(.ret, (D 4 (.cell (.val .str) :: .cell (.val .bool) :: D 34 []))), (.exit 0, (D 40 []))]
noncomputable def spec_WordOver_l5 : (Int × (Int × (List Int) × (List Int) × (List (Int × (ByteArray × (Int × Int)))) × Unit) × ByteArray × Int × Unit) → Option ((Int × (Int × (List Int) × (List Int) × (List (Int × (ByteArray × (Int × Int)))) × Unit) × ByteArray × Int × Unit) ⊕ ((ByteArray × Bool × Unit) ⊕ (Unit))) := fun (v1, (v2_0, v2_1, v2_2, v2_3, _), v6, v8, _) =>
 bif (decide (v8 ≤ (60 : Int))) then
  Option.bind (spec_ExpandExpression v6 v8) fun (r0, r1) =>
   bif (!r1) then
    some (Sum.inr (Sum.inl ((⟨#[]⟩ : ByteArray), false, ())))
   else
    Option.bind (spec_l4Cost (v2_0, v2_1, v2_2, v2_3) r0) fun r2 =>
     bif (decide (r2 ≥ v1)) then
      some (Sum.inr (Sum.inl (r0, true, ())))
     else
      some (Sum.inl (v1, (v2_0, v2_1, v2_2, v2_3, ()), v6, (IntKind.wrap .i64 (v8 + (1 : Int))), ()))
 else
  some (Sum.inr (Sum.inr ()))
theorem spec_WordOver_l5_eq : loopStep 40 E7 L7_0 (loopOf f7 5) sh7_5 xs7_5 = spec_WordOver_l5 := by kernel_rfl
theorem loop7_5 {L} (h : L 5 = some ⟨40, sh7_5, xs7_5, spec_WordOver_l5⟩) : LoopOk prog L (loopOf f7 5) := lo spec_WordOver_l5_eq E7_ok allNil h
noncomputable def L7_1 : Nat → Option LoopD := fun n => ifEq n 5 (some ⟨40, sh7_5, xs7_5, spec_WordOver_l5⟩) (L7_0 n)
noncomputable def spec_WordOver : (Int × ((List Int) × ((List Int) × (List (Int × (ByteArray × (Int × Int))))))) → Int → Option (ByteArray × Bool) := fun (a0_0, a0_1, a0_2, a0_3) a1 =>
 Option.bind (spec_GrowingOf (a0_0, a0_1, a0_2, a0_3)) fun (r0, r1) =>
  bif (!r1) then
   some ((⟨#[]⟩ : ByteArray), false)
  else
   bif (decide (a1 < (0 : Int))) then
    some ((⟨#[]⟩ : ByteArray), false)
   else
    Option.bind (loopF spec_WordOver_l5 (a1, (a0_0, a0_1, a0_2, a0_3, ()), r0, (1 : Int), ())) fun r2 =>
     (match r2 with
     | .inl (d3, d4, _) =>
       some (d3, d4)
     | .inr _ =>
       some ((⟨#[]⟩ : ByteArray), false))
noncomputable def A7 : FnA := ⟨[.v (.pair (.int .i64) (.pair (.sl (.int .i64)) (.pair (.sl (.int .i64)) (.sl (.pair (.int .i64) (.pair .str (.pair (.int .i64) (.int .i64)))))))), .v (.int .i64)], true, [.str, .bool], fun x => spec_WordOver x.1 x.2.1⟩
theorem spec_WordOver_eq : fnF E7 L7_1 [.v (.pair (.int .i64) (.pair (.sl (.int .i64)) (.pair (.sl (.int .i64)) (.sl (.pair (.int .i64) (.pair .str (.pair (.int .i64) (.int .i64)))))))), .v (.int .i64)] true [.str, .bool] f7.ntmps f7.results.toList (codeOf f7) = fun x => spec_WordOver x.1 x.2.1 := by kernel_rfl
theorem A7_ok : FnOk prog 7 A7 := fo spec_WordOver_eq func7 E7_ok (allCons (loop7_5 rfl) allNil)
/-! impl.statesOk -/
noncomputable def E55 : Env := ⟨ty0, fun _ => none, fun _ => none, fun _ => none, fun _ => none⟩
theorem E55_ok : FnsOk prog E55 := (noFns _ _)
noncomputable def L55_0 : Nat → Option LoopD := fun _ => none
def sh55_2 : List Fm := .cell (.val (.sl (.int .i64))) :: .cell (.val (.int .i64)) :: D 5 (.cell (.val (.sl (.int .i64))) :: .cell (.val (.int .i64)) :: .cell (.val (.int .i64)) :: D 25 [])
def xs55_2 : List (Ex × List Fm) := [(.ret, (D 4 (.cell (.val .bool) :: D 30 []))), (.exit 0, (D 35 []))]
noncomputable def impl_statesOk_l2 : ((List Int) × Int × (List Int) × Int × Int × Unit) → Option (((List Int) × Int × (List Int) × Int × Int × Unit) ⊕ ((Bool × Unit) ⊕ (Unit))) := fun (v0, v1, v7, v8, v9, _) =>
 bif (decide (v9 < v8)) then
  if (((0 : Int) ≤ v9) ∧ (v9 < (((List.length v7) : Nat) : Int))) then
   bif (decide ((List.getD v7 (Int.toNat v9) (0 : Int)) < (0 : Int))) then
    some (Sum.inr (Sum.inl (false, ())))
   else
    bif (decide ((List.getD v7 (Int.toNat v9) (0 : Int)) ≥ v1)) then
     some (Sum.inr (Sum.inl (false, ())))
    else
     bif (decide (v9 > (0 : Int))) then
      if (((0 : Int) ≤ (IntKind.wrap .i64 (v9 - (1 : Int)))) ∧ ((IntKind.wrap .i64 (v9 - (1 : Int))) < (((List.length v0) : Nat) : Int))) then
       bif (decide ((List.getD v0 (Int.toNat (IntKind.wrap .i64 (v9 - (1 : Int)))) (0 : Int)) ≥ (List.getD v7 (Int.toNat v9) (0 : Int)))) then
        some (Sum.inr (Sum.inl (false, ())))
       else
        some (Sum.inl (v0, v1, v7, v8, (IntKind.wrap .i64 (v9 + (1 : Int))), ()))
      else
       none
     else
      some (Sum.inl (v0, v1, v7, v8, (IntKind.wrap .i64 (v9 + (1 : Int))), ()))
  else
   none
 else
  some (Sum.inr (Sum.inr ()))
theorem impl_statesOk_l2_eq : loopStep 35 E55 L55_0 (loopOf f55 2) sh55_2 xs55_2 = impl_statesOk_l2 := by kernel_rfl
theorem loop55_2 {L} (h : L 2 = some ⟨35, sh55_2, xs55_2, impl_statesOk_l2⟩) : LoopOk prog L (loopOf f55 2) := lo impl_statesOk_l2_eq E55_ok allNil h
noncomputable def L55_1 : Nat → Option LoopD := fun n => ifEq n 2 (some ⟨35, sh55_2, xs55_2, impl_statesOk_l2⟩) (L55_0 n)
noncomputable def impl_statesOk : (List Int) → Int → Option (Bool) := fun a0 a1 =>
 Option.bind (loopF impl_statesOk_l2 (a0, a1, a0, (((List.length a0) : Nat) : Int), (0 : Int), ())) fun r0 =>
  (match r0 with
  | .inl (d1, _) =>
    some d1
  | .inr _ =>
    some true)
noncomputable def A55 : FnA := ⟨[.v (.sl (.int .i64)), .v (.int .i64)], true, [.bool], fun x => impl_statesOk x.1 x.2.1⟩
theorem impl_statesOk_eq : fnF E55 L55_1 [.v (.sl (.int .i64)), .v (.int .i64)] true [.bool] f55.ntmps f55.results.toList (codeOf f55) = fun x => impl_statesOk x.1 x.2.1 := by kernel_rfl
theorem A55_ok : FnOk prog 55 A55 := fo impl_statesOk_eq func55 E55_ok (allCons (loop55_2 rfl) allNil)
/-! cmp.isNaN[int] -/
noncomputable def E107 : Env := ⟨ty0, fun _ => none, fun _ => none, fun _ => none, fun _ => none⟩
theorem E107_ok : FnsOk prog E107 := (noFns _ _)
noncomputable def L107_0 : Nat → Option LoopD := fun _ => none
noncomputable def cmp_isNaN : Int → Option (Bool) := fun a0 =>
 some (a0 != a0)
noncomputable def A107 : FnA := ⟨[.v (.int .i64)], true, [.bool], fun x => cmp_isNaN x.1⟩
theorem cmp_isNaN_eq : fnF E107 L107_0 [.v (.int .i64)] true [.bool] f107.ntmps f107.results.toList (codeOf f107) = fun x => cmp_isNaN x.1 := by kernel_rfl
theorem A107_ok : FnOk prog 107 A107 := fo cmp_isNaN_eq func107 E107_ok allNil
/-! cmp.Compare[int] -/
noncomputable def E81 : Env := ⟨ty0, fun g => ifEq g 107 (some A107) (none), fun _ => none, fun _ => none, fun _ => none⟩
theorem E81_ok : FnsOk prog E81 := (oF A107_ok func107 (noFns _ _))
noncomputable def L81_0 : Nat → Option LoopD := fun _ => none
noncomputable def cmp_Compare : Int → Int → Option (Int) := fun a0 a1 =>
 Option.bind (cmp_isNaN a0) fun r0 =>
  Option.bind (cmp_isNaN a1) fun r1 =>
   bif r0 then
    bif r1 then
     some (0 : Int)
    else
     some (-1 : Int)
   else
    bif r1 then
     some (1 : Int)
    else
     bif (decide (a0 < a1)) then
      some (-1 : Int)
     else
      bif (decide (a0 > a1)) then
       some (1 : Int)
      else
       some (0 : Int)
noncomputable def A81 : FnA := ⟨[.v (.int .i64), .v (.int .i64)], true, [.int .i64], fun x => cmp_Compare x.1 x.2.1⟩
theorem cmp_Compare_eq : fnF E81 L81_0 [.v (.int .i64), .v (.int .i64)] true [.int .i64] f81.ntmps f81.results.toList (codeOf f81) = fun x => cmp_Compare x.1 x.2.1 := by kernel_rfl
theorem A81_ok : FnOk prog 81 A81 := fo cmp_Compare_eq func81 E81_ok allNil
/-! cmp.Or[int] -/
noncomputable def E80 : Env := ⟨ty0, fun _ => none, fun _ => none, fun _ => none, fun _ => none⟩
theorem E80_ok : FnsOk prog E80 := (noFns _ _)
noncomputable def L80_0 : Nat → Option LoopD := fun _ => none
def sh80_3 : List Fm := d :: d :: d :: .cell (.val (.int .i64)) :: d :: d :: .cell (.val (.sl (.int .i64))) :: .cell (.val (.int .i64)) :: .cell (.val (.int .i64)) :: D 9 []
def xs80_3 : List (Ex × List Fm) := [(.ret, (d :: d :: .cell (.val (.int .i64)) :: D 15 [])), (.exit 0, (d :: d :: d :: .cell (.val (.int .i64)) :: D 14 []))]
noncomputable def cmp_Or_l3 : (Int × (List Int) × Int × Int × Unit) → Option ((Int × (List Int) × Int × Int × Unit) ⊕ ((Int × Unit) ⊕ (Int × Unit))) := fun (v3, v6, v7, v8, _) =>
 bif (decide (v8 < v7)) then
  if (((0 : Int) ≤ v8) ∧ (v8 < (((List.length v6) : Nat) : Int))) then
   bif ((List.getD v6 (Int.toNat v8) (0 : Int)) != v3) then
    some (Sum.inr (Sum.inl ((List.getD v6 (Int.toNat v8) (0 : Int)), ())))
   else
    some (Sum.inl (v3, v6, v7, (IntKind.wrap .i64 (v8 + (1 : Int))), ()))
  else
   none
 else
  some (Sum.inr (Sum.inr (v3, ())))
theorem cmp_Or_l3_eq : loopStep 18 E80 L80_0 (loopOf f80 3) sh80_3 xs80_3 = cmp_Or_l3 := by kernel_rfl
theorem loop80_3 {L} (h : L 3 = some ⟨18, sh80_3, xs80_3, cmp_Or_l3⟩) : LoopOk prog L (loopOf f80 3) := lo cmp_Or_l3_eq E80_ok allNil h
noncomputable def L80_1 : Nat → Option LoopD := fun n => ifEq n 3 (some ⟨18, sh80_3, xs80_3, cmp_Or_l3⟩) (L80_0 n)
noncomputable def cmp_Or : (List Int) → Option (Int) := fun a0 =>
 Option.bind (loopF cmp_Or_l3 ((0 : Int), a0, (((List.length a0) : Nat) : Int), (0 : Int), ())) fun r0 =>
  (match r0 with
  | .inl (d1, _) =>
    some d1
  | .inr (d2, _) =>
    some d2)
noncomputable def A80 : FnA := ⟨[.v (.sl (.int .i64))], true, [.int .i64], fun x => cmp_Or x.1⟩
theorem cmp_Or_eq : fnF E80 L80_1 [.v (.sl (.int .i64))] true [.int .i64] f80.ntmps f80.results.toList (codeOf f80) = fun x => cmp_Or x.1 := by kernel_rfl
theorem A80_ok : FnOk prog 80 A80 := fo cmp_Or_eq func80 E80_ok (allCons (loop80_3 rfl) allNil)
/-! impl.stepOrder -/
noncomputable def E56 : Env := ⟨ty0, fun g => ifEq g 81 (some A81) (ifEq g 82 (some A82) (ifEq g 80 (some A80) (none))), fun _ => none, fun _ => none, fun _ => none⟩
theorem E56_ok : FnsOk prog E56 := (oF A81_ok func81 (oF A82_ok func82 (oF A80_ok func80 (noFns _ _))))
noncomputable def L56_0 : Nat → Option LoopD := fun _ => none
noncomputable def impl_stepOrder : (Int × (ByteArray × (Int × Int))) → (Int × (ByteArray × (Int × Int))) → Option (Int) := fun (a0_0, a0_1, a0_2, a0_3) (a1_0, a1_1, a1_2, a1_3) =>
 Option.bind (cmp_Compare a0_0 a1_0) fun r0 =>
  Option.bind (strings_Compare a0_1 a1_1) fun r1 =>
   Option.bind (cmp_Compare a0_2 a1_2) fun r2 =>
    Option.bind (cmp_Or (List.take 3 (List.drop 0 [r0, r1, r2]))) fun r3 =>
     some r3
noncomputable def A56 : FnA := ⟨[.v (.pair (.int .i64) (.pair .str (.pair (.int .i64) (.int .i64)))), .v (.pair (.int .i64) (.pair .str (.pair (.int .i64) (.int .i64))))], true, [.int .i64], fun x => impl_stepOrder x.1 x.2.1⟩
theorem impl_stepOrder_eq : fnF E56 L56_0 [.v (.pair (.int .i64) (.pair .str (.pair (.int .i64) (.int .i64)))), .v (.pair (.int .i64) (.pair .str (.pair (.int .i64) (.int .i64))))] true [.int .i64] f56.ntmps f56.results.toList (codeOf f56) = fun x => impl_stepOrder x.1 x.2.1 := by kernel_rfl
theorem A56_ok : FnOk prog 56 A56 := fo impl_stepOrder_eq func56 E56_ok allNil
/-! impl.AutomatonValid -/
noncomputable def E34 : Env := ⟨ty0, fun g => ifEq g 55 (some A55) (ifEq g 56 (some A56) (none)), fun _ => none, fun _ => none, fun _ => none⟩
theorem E34_ok : FnsOk prog E34 := (oF A55_ok func55 (oF A56_ok func56 (noFns _ _)))
noncomputable def L34_0 : Nat → Option LoopD := fun _ => none
def sh34_4 : List Fm := d :: .box 100100 [.val (.int .i64), .val (.sl (.int .i64)), .val (.sl (.int .i64)), .val (.sl (.pair (.int .i64) (.pair .str (.pair (.int .i64) (.int .i64)))))] :: D 34 (.cell (.val (.sl (.pair (.int .i64) (.pair .str (.pair (.int .i64) (.int .i64)))))) :: .cell (.val (.int .i64)) :: .cell (.val (.int .i64)) :: D 62 [])
def xs34_4 : List (Ex × List Fm) := [(.ret, (d :: d :: .cell (.val .bool) :: D 98 [])), (.exit 0, (D 101 []))]
noncomputable def impl_AutomatonValid_l4 : ((Int × (List Int) × (List Int) × (List (Int × (ByteArray × (Int × Int)))) × Unit) × (List (Int × (ByteArray × (Int × Int)))) × Int × Int × Unit) → Option (((Int × (List Int) × (List Int) × (List (Int × (ByteArray × (Int × Int)))) × Unit) × (List (Int × (ByteArray × (Int × Int)))) × Int × Int × Unit) ⊕ ((Bool × Unit) ⊕ (Unit))) := fun ((v1_0, v1_1, v1_2, v1_3, _), v36, v37, v38, _) =>
 bif (decide (v38 < v37)) then
  if (((0 : Int) ≤ v38) ∧ (v38 < (((List.length v36) : Nat) : Int))) then
   bif (decide ((List.getD v36 (Int.toNat v38) ((0 : Int), (⟨Array.empty⟩ : ByteArray), (0 : Int), (0 : Int))).1 < (0 : Int))) then
    some (Sum.inr (Sum.inl (false, ())))
   else
    bif (decide ((List.getD v36 (Int.toNat v38) ((0 : Int), (⟨Array.empty⟩ : ByteArray), (0 : Int), (0 : Int))).1 ≥ v1_0)) then
     some (Sum.inr (Sum.inl (false, ())))
    else
     bif (decide ((List.getD v36 (Int.toNat v38) ((0 : Int), (⟨Array.empty⟩ : ByteArray), (0 : Int), (0 : Int))).2.2.1 < (0 : Int))) then
      some (Sum.inr (Sum.inl (false, ())))
     else
      bif (decide ((List.getD v36 (Int.toNat v38) ((0 : Int), (⟨Array.empty⟩ : ByteArray), (0 : Int), (0 : Int))).2.2.1 ≥ v1_0)) then
       some (Sum.inr (Sum.inl (false, ())))
      else
       bif (!((ByteArray.toList (List.getD v36 (Int.toNat v38) ((0 : Int), (⟨Array.empty⟩ : ByteArray), (0 : Int), (0 : Int))).2.1) == (ByteArray.toList (⟨#[(97 : UInt8)]⟩ : ByteArray)))) then
        bif (!((ByteArray.toList (List.getD v36 (Int.toNat v38) ((0 : Int), (⟨Array.empty⟩ : ByteArray), (0 : Int), (0 : Int))).2.1) == (ByteArray.toList (⟨#[(98 : UInt8)]⟩ : ByteArray)))) then
         some (Sum.inr (Sum.inl (false, ())))
        else
         bif (decide ((List.getD v36 (Int.toNat v38) ((0 : Int), (⟨Array.empty⟩ : ByteArray), (0 : Int), (0 : Int))).2.2.2 < (0 : Int))) then
          some (Sum.inr (Sum.inl (false, ())))
         else
          bif (decide ((List.getD v36 (Int.toNat v38) ((0 : Int), (⟨Array.empty⟩ : ByteArray), (0 : Int), (0 : Int))).2.2.2 > (3 : Int))) then
           some (Sum.inr (Sum.inl (false, ())))
          else
           bif (decide (v38 > (0 : Int))) then
            if (((0 : Int) ≤ (IntKind.wrap .i64 (v38 - (1 : Int)))) ∧ ((IntKind.wrap .i64 (v38 - (1 : Int))) < (((List.length v1_3) : Nat) : Int))) then
             Option.bind (impl_stepOrder (List.getD v1_3 (Int.toNat (IntKind.wrap .i64 (v38 - (1 : Int)))) ((0 : Int), (⟨Array.empty⟩ : ByteArray), (0 : Int), (0 : Int))) ((List.getD v36 (Int.toNat v38) ((0 : Int), (⟨Array.empty⟩ : ByteArray), (0 : Int), (0 : Int))).1, (List.getD v36 (Int.toNat v38) ((0 : Int), (⟨Array.empty⟩ : ByteArray), (0 : Int), (0 : Int))).2.1, (List.getD v36 (Int.toNat v38) ((0 : Int), (⟨Array.empty⟩ : ByteArray), (0 : Int), (0 : Int))).2.2.1, (List.getD v36 (Int.toNat v38) ((0 : Int), (⟨Array.empty⟩ : ByteArray), (0 : Int), (0 : Int))).2.2.2)) fun r0 =>
              bif (decide (r0 ≥ (0 : Int))) then
               some (Sum.inr (Sum.inl (false, ())))
              else
               some (Sum.inl ((v1_0, v1_1, v1_2, v1_3, ()), v36, v37, (IntKind.wrap .i64 (v38 + (1 : Int))), ()))
            else
             none
           else
            some (Sum.inl ((v1_0, v1_1, v1_2, v1_3, ()), v36, v37, (IntKind.wrap .i64 (v38 + (1 : Int))), ()))
       else
        bif (decide ((List.getD v36 (Int.toNat v38) ((0 : Int), (⟨Array.empty⟩ : ByteArray), (0 : Int), (0 : Int))).2.2.2 < (0 : Int))) then
         some (Sum.inr (Sum.inl (false, ())))
        else
         bif (decide ((List.getD v36 (Int.toNat v38) ((0 : Int), (⟨Array.empty⟩ : ByteArray), (0 : Int), (0 : Int))).2.2.2 > (3 : Int))) then
          some (Sum.inr (Sum.inl (false, ())))
         else
          bif (decide (v38 > (0 : Int))) then
           if (((0 : Int) ≤ (IntKind.wrap .i64 (v38 - (1 : Int)))) ∧ ((IntKind.wrap .i64 (v38 - (1 : Int))) < (((List.length v1_3) : Nat) : Int))) then
            Option.bind (impl_stepOrder (List.getD v1_3 (Int.toNat (IntKind.wrap .i64 (v38 - (1 : Int)))) ((0 : Int), (⟨Array.empty⟩ : ByteArray), (0 : Int), (0 : Int))) ((List.getD v36 (Int.toNat v38) ((0 : Int), (⟨Array.empty⟩ : ByteArray), (0 : Int), (0 : Int))).1, (List.getD v36 (Int.toNat v38) ((0 : Int), (⟨Array.empty⟩ : ByteArray), (0 : Int), (0 : Int))).2.1, (List.getD v36 (Int.toNat v38) ((0 : Int), (⟨Array.empty⟩ : ByteArray), (0 : Int), (0 : Int))).2.2.1, (List.getD v36 (Int.toNat v38) ((0 : Int), (⟨Array.empty⟩ : ByteArray), (0 : Int), (0 : Int))).2.2.2)) fun r1 =>
             bif (decide (r1 ≥ (0 : Int))) then
              some (Sum.inr (Sum.inl (false, ())))
             else
              some (Sum.inl ((v1_0, v1_1, v1_2, v1_3, ()), v36, v37, (IntKind.wrap .i64 (v38 + (1 : Int))), ()))
           else
            none
          else
           some (Sum.inl ((v1_0, v1_1, v1_2, v1_3, ()), v36, v37, (IntKind.wrap .i64 (v38 + (1 : Int))), ()))
  else
   none
 else
  some (Sum.inr (Sum.inr ()))
theorem impl_AutomatonValid_l4_eq : loopStep 101 E34 L34_0 (loopOf f34 4) sh34_4 xs34_4 = impl_AutomatonValid_l4 := by kernel_rfl
theorem loop34_4 {L} (h : L 4 = some ⟨101, sh34_4, xs34_4, impl_AutomatonValid_l4⟩) : LoopOk prog L (loopOf f34 4) := lo impl_AutomatonValid_l4_eq E34_ok allNil h
noncomputable def L34_1 : Nat → Option LoopD := fun n => ifEq n 4 (some ⟨101, sh34_4, xs34_4, impl_AutomatonValid_l4⟩) (L34_0 n)
noncomputable def impl_AutomatonValid : (Int × ((List Int) × ((List Int) × (List (Int × (ByteArray × (Int × Int))))))) → Option (Bool) := fun (a0_0, a0_1, a0_2, a0_3) =>
 bif (decide (a0_0 < (1 : Int))) then
  some false
 else
  bif (decide (a0_0 > (4 : Int))) then
   some false
  else
   bif (decide ((((List.length a0_3) : Nat) : Int) > (24 : Int))) then
    some false
   else
    Option.bind (impl_statesOk a0_1 a0_0) fun r0 =>
     bif (!r0) then
      some false
     else
      Option.bind (impl_statesOk a0_2 a0_0) fun r1 =>
       bif (!r1) then
        some false
       else
        Option.bind (loopF impl_AutomatonValid_l4 ((a0_0, a0_1, a0_2, a0_3, ()), a0_3, (((List.length a0_3) : Nat) : Int), (0 : Int), ())) fun r2 =>
         (match r2 with
         | .inl (d3, _) =>
           some d3
         | .inr _ =>
           some true)
noncomputable def A34 : FnA := ⟨[.v (.pair (.int .i64) (.pair (.sl (.int .i64)) (.pair (.sl (.int .i64)) (.sl (.pair (.int .i64) (.pair .str (.pair (.int .i64) (.int .i64))))))))], true, [.bool], fun x => impl_AutomatonValid x.1⟩
theorem impl_AutomatonValid_eq : fnF E34 L34_1 [.v (.pair (.int .i64) (.pair (.sl (.int .i64)) (.pair (.sl (.int .i64)) (.sl (.pair (.int .i64) (.pair .str (.pair (.int .i64) (.int .i64))))))))] true [.bool] f34.ntmps f34.results.toList (codeOf f34) = fun x => impl_AutomatonValid x.1 := by kernel_rfl
theorem A34_ok : FnOk prog 34 A34 := fo impl_AutomatonValid_eq func34 E34_ok (allCons (loop34_4 rfl) allNil)
/-! internal/stringslite.HasPrefix -/
noncomputable def E111 : Env := ⟨ty0, fun _ => none, fun _ => none, fun _ => none, fun _ => none⟩
theorem E111_ok : FnsOk prog E111 := (noFns _ _)
noncomputable def L111_0 : Nat → Option LoopD := fun _ => none
noncomputable def internal_stringslite_HasPrefix : ByteArray → ByteArray → Option (Bool) := fun a0 a1 =>
 bif (decide ((((ByteArray.size a0) : Nat) : Int) ≥ (((ByteArray.size a1) : Nat) : Int))) then
  if (((0 : Int) ≤ (((ByteArray.size a1) : Nat) : Int)) ∧ ((((ByteArray.size a1) : Nat) : Int) ≤ (((ByteArray.size a0) : Nat) : Int))) then
   some ((ByteArray.toList (ByteArray.extract a0 0 (Int.toNat (((ByteArray.size a1) : Nat) : Int)))) == (ByteArray.toList a1))
  else
   none
 else
  some false
noncomputable def A111 : FnA := ⟨[.v .str, .v .str], true, [.bool], fun x => internal_stringslite_HasPrefix x.1 x.2.1⟩
theorem internal_stringslite_HasPrefix_eq : fnF E111 L111_0 [.v .str, .v .str] true [.bool] f111.ntmps f111.results.toList (codeOf f111) = fun x => internal_stringslite_HasPrefix x.1 x.2.1 := by kernel_rfl
theorem A111_ok : FnOk prog 111 A111 := fo internal_stringslite_HasPrefix_eq func111 E111_ok allNil
/-! strings.HasPrefix -/
noncomputable def E84 : Env := ⟨ty0, fun g => ifEq g 111 (some A111) (none), fun _ => none, fun _ => none, fun _ => none⟩
theorem E84_ok : FnsOk prog E84 := (oF A111_ok func111 (noFns _ _))
noncomputable def L84_0 : Nat → Option LoopD := fun _ => none
noncomputable def strings_HasPrefix : ByteArray → ByteArray → Option (Bool) := fun a0 a1 =>
 Option.bind (internal_stringslite_HasPrefix a0 a1) fun r0 =>
  some r0
noncomputable def A84 : FnA := ⟨[.v .str, .v .str], true, [.bool], fun x => strings_HasPrefix x.1 x.2.1⟩
theorem strings_HasPrefix_eq : fnF E84 L84_0 [.v .str, .v .str] true [.bool] f84.ntmps f84.results.toList (codeOf f84) = fun x => strings_HasPrefix x.1 x.2.1 := by kernel_rfl
theorem A84_ok : FnOk prog 84 A84 := fo strings_HasPrefix_eq func84 E84_ok allNil
/-! impl.readParts -/
noncomputable def R58 (impl_readParts_rec : ByteArray → Option ((List (ByteArray × PT)) × ByteArray)) : FnA := ⟨[.v .str], true, [.sl (.pair .str .pt), .str], fun x => impl_readParts_rec x.1⟩
noncomputable def E58 (impl_readParts_rec : ByteArray → Option ((List (ByteArray × PT)) × ByteArray)) : Env := ⟨ty0, fun g => ifEq g 58 (some (R58 impl_readParts_rec)) (ifEq g 84 (some A84) (none)), fun _ => none, fun _ => none, fun _ => none⟩
theorem E58_ok (impl_readParts_rec : ByteArray → Option ((List (ByteArray × PT)) × ByteArray)) (hrec : FnOk prog 58 (R58 impl_readParts_rec)) : FnsOk prog (E58 impl_readParts_rec) := (oF hrec func58 (oF A84_ok func84 (noFns _ _)))
noncomputable def L58_0 (impl_readParts_rec : ByteArray → Option ((List (ByteArray × PT)) × ByteArray)) : Nat → Option LoopD := fun _ => none
def sh58_2 : List Fm := .cell (.val .str) :: d :: d :: d :: .cell (.own (.pair .str .pt) 100400 false) :: D 44 []
def xs58_2 : List (Ex × List Fm) := [(.ret, (d :: d :: .cell (.own (.pair .str .pt) 100200 false) :: .cell (.val .str) :: D 45 [])), (.exit 0, (.cell (.val .str) :: d :: d :: d :: .cell (.own (.pair .str .pt) 100400 false) :: D 44 []))]
noncomputable def impl_readParts_l2 (impl_readParts_rec : ByteArray → Option ((List (ByteArray × PT)) × ByteArray)) : (ByteArray × (List (ByteArray × PT)) × Unit) → Option ((ByteArray × (List (ByteArray × PT)) × Unit) ⊕ (((List (ByteArray × PT)) × ByteArray × Unit) ⊕ (ByteArray × (List (ByteArray × PT)) × Unit))) := fun (v0, v4, _) =>
 bif (!((ByteArray.toList v0) == (ByteArray.toList (⟨#[]⟩ : ByteArray)))) then
  if (((0 : Int) ≤ (0 : Int)) ∧ ((0 : Int) < (((ByteArray.size v0) : Nat) : Int))) then
   bif ((((UInt8.toNat (Array.getD (ByteArray.data v0) (Int.toNat (0 : Int)) (0 : UInt8))) : Nat) : Int) == (97 : Int)) then
    bif ((((UInt8.toNat (Array.getD (ByteArray.data v0) (Int.toNat (0 : Int)) (0 : UInt8))) : Nat) : Int) == (97 : Int)) then
     if (((0 : Int) ≤ (1 : Int)) ∧ ((1 : Int) ≤ (((ByteArray.size v0) : Nat) : Int))) then
      if (((0 + (List.length v4)) = (List.length v4)) ∧ ((((List.length v4) + (List.length (List.take 1 (List.drop 0 [((ByteArray.extract v0 0 (Int.toNat (1 : Int))), (PT.mk []))])))) * 40) ≤ 140737488355328)) then
       if (((0 : Int) ≤ (1 : Int)) ∧ ((1 : Int) ≤ (((ByteArray.size v0) : Nat) : Int))) then
        some (Sum.inl ((ByteArray.extract v0 (Int.toNat (1 : Int)) (ByteArray.size v0)), (List.take ((List.length v4) + (List.length (List.take 1 (List.drop 0 [((ByteArray.extract v0 0 (Int.toNat (1 : Int))), (PT.mk []))])))) (List.drop 0 ((List.drop 0 v4) ++ (List.take 1 (List.drop 0 [((ByteArray.extract v0 0 (Int.toNat (1 : Int))), (PT.mk []))]))))), ()))
       else
        none
      else
       none
     else
      none
    else
     bif ((((UInt8.toNat (Array.getD (ByteArray.data v0) (Int.toNat (0 : Int)) (0 : UInt8))) : Nat) : Int) == (40 : Int)) then
      if (((0 : Int) ≤ (1 : Int)) ∧ ((1 : Int) ≤ (((ByteArray.size v0) : Nat) : Int))) then
       Option.bind (impl_readParts_rec (ByteArray.extract v0 (Int.toNat (1 : Int)) (ByteArray.size v0))) fun (r0, r1) =>
        bif (decide ((((List.length r0) : Nat) : Int) > (0 : Int))) then
         Option.bind (strings_HasPrefix r1 (⟨#[(41 : UInt8), (35 : UInt8)]⟩ : ByteArray)) fun r2 =>
          bif r2 then
           if (((0 + (List.length v4)) = (List.length v4)) ∧ ((((List.length v4) + (List.length (List.take 1 (List.drop 0 [((⟨Array.empty⟩ : ByteArray), (PT.mk (List.take (List.length r0) (List.drop 0 r0))))])))) * 40) ≤ 140737488355328)) then
            if (((0 : Int) ≤ (2 : Int)) ∧ ((2 : Int) ≤ (((ByteArray.size r1) : Nat) : Int))) then
             some (Sum.inl ((ByteArray.extract r1 (Int.toNat (2 : Int)) (ByteArray.size r1)), (List.take ((List.length v4) + (List.length (List.take 1 (List.drop 0 [((⟨Array.empty⟩ : ByteArray), (PT.mk (List.take (List.length r0) (List.drop 0 r0))))])))) (List.drop 0 ((List.drop 0 v4) ++ (List.take 1 (List.drop 0 [((⟨Array.empty⟩ : ByteArray), (PT.mk (List.take (List.length r0) (List.drop 0 r0))))]))))), ()))
            else
             none
           else
            none
          else
           some (Sum.inr (Sum.inl ((List.take (List.length v4) (List.drop 0 v4)), v0, ())))
        else
         some (Sum.inr (Sum.inl ((List.take (List.length v4) (List.drop 0 v4)), v0, ())))
      else
       none
     else
      some (Sum.inr (Sum.inl ((List.take (List.length v4) (List.drop 0 v4)), v0, ())))
   else
    bif ((((UInt8.toNat (Array.getD (ByteArray.data v0) (Int.toNat (0 : Int)) (0 : UInt8))) : Nat) : Int) == (98 : Int)) then
     if (((0 : Int) ≤ (1 : Int)) ∧ ((1 : Int) ≤ (((ByteArray.size v0) : Nat) : Int))) then
      if (((0 + (List.length v4)) = (List.length v4)) ∧ ((((List.length v4) + (List.length (List.take 1 (List.drop 0 [((ByteArray.extract v0 0 (Int.toNat (1 : Int))), (PT.mk []))])))) * 40) ≤ 140737488355328)) then
       if (((0 : Int) ≤ (1 : Int)) ∧ ((1 : Int) ≤ (((ByteArray.size v0) : Nat) : Int))) then
        some (Sum.inl ((ByteArray.extract v0 (Int.toNat (1 : Int)) (ByteArray.size v0)), (List.take ((List.length v4) + (List.length (List.take 1 (List.drop 0 [((ByteArray.extract v0 0 (Int.toNat (1 : Int))), (PT.mk []))])))) (List.drop 0 ((List.drop 0 v4) ++ (List.take 1 (List.drop 0 [((ByteArray.extract v0 0 (Int.toNat (1 : Int))), (PT.mk []))]))))), ()))
       else
        none
      else
       none
     else
      none
    else
     bif ((((UInt8.toNat (Array.getD (ByteArray.data v0) (Int.toNat (0 : Int)) (0 : UInt8))) : Nat) : Int) == (40 : Int)) then
      if (((0 : Int) ≤ (1 : Int)) ∧ ((1 : Int) ≤ (((ByteArray.size v0) : Nat) : Int))) then
       Option.bind (impl_readParts_rec (ByteArray.extract v0 (Int.toNat (1 : Int)) (ByteArray.size v0))) fun (r3, r4) =>
        bif (decide ((((List.length r3) : Nat) : Int) > (0 : Int))) then
         Option.bind (strings_HasPrefix r4 (⟨#[(41 : UInt8), (35 : UInt8)]⟩ : ByteArray)) fun r5 =>
          bif r5 then
           if (((0 + (List.length v4)) = (List.length v4)) ∧ ((((List.length v4) + (List.length (List.take 1 (List.drop 0 [((⟨Array.empty⟩ : ByteArray), (PT.mk (List.take (List.length r3) (List.drop 0 r3))))])))) * 40) ≤ 140737488355328)) then
            if (((0 : Int) ≤ (2 : Int)) ∧ ((2 : Int) ≤ (((ByteArray.size r4) : Nat) : Int))) then
             some (Sum.inl ((ByteArray.extract r4 (Int.toNat (2 : Int)) (ByteArray.size r4)), (List.take ((List.length v4) + (List.length (List.take 1 (List.drop 0 [((⟨Array.empty⟩ : ByteArray), (PT.mk (List.take (List.length r3) (List.drop 0 r3))))])))) (List.drop 0 ((List.drop 0 v4) ++ (List.take 1 (List.drop 0 [((⟨Array.empty⟩ : ByteArray), (PT.mk (List.take (List.length r3) (List.drop 0 r3))))]))))), ()))
            else
             none
           else
            none
          else
           some (Sum.inr (Sum.inl ((List.take (List.length v4) (List.drop 0 v4)), v0, ())))
        else
         some (Sum.inr (Sum.inl ((List.take (List.length v4) (List.drop 0 v4)), v0, ())))
      else
       none
     else
      some (Sum.inr (Sum.inl ((List.take (List.length v4) (List.drop 0 v4)), v0, ())))
  else
   none
 else
  some (Sum.inr (Sum.inr (v0, (List.take (List.length v4) (List.drop 0 v4)), ())))
theorem impl_readParts_l2_eq (impl_readParts_rec : ByteArray → Option ((List (ByteArray × PT)) × ByteArray)) : loopStep 49 (E58 impl_readParts_rec) (L58_0 impl_readParts_rec) (loopOf f58 2) sh58_2 xs58_2 = (impl_readParts_l2 impl_readParts_rec) := by kernel_rfl
theorem loop58_2 (impl_readParts_rec : ByteArray → Option ((List (ByteArray × PT)) × ByteArray)) (hrec : FnOk prog 58 (R58 impl_readParts_rec)) {L : Nat → Option LoopD} (h : L 2 = some ⟨49, sh58_2, xs58_2, (impl_readParts_l2 impl_readParts_rec)⟩) : LoopOk prog L (loopOf f58 2) :=
 loopOk (tysOk_of tyl_ok) (E58_ok impl_readParts_rec hrec) (codeOk_in (L := (L58_0 impl_readParts_rec)) (tysOk_of tyl_ok) (E58_ok impl_readParts_rec hrec) mixed (c := loopOf f58 2) (bs := []) (by kernel_rfl) allNil (by kernel_rfl)) (by kernel_rfl) (by kernel_rfl) (impl_readParts_l2_eq impl_readParts_rec) (by rw [show firstId (loopOf f58 2) = 2 from by kernel_rfl]; exact h)
noncomputable def L58_1 (impl_readParts_rec : ByteArray → Option ((List (ByteArray × PT)) × ByteArray)) : Nat → Option LoopD := fun n => ifEq n 2 (some ⟨49, sh58_2, xs58_2, (impl_readParts_l2 impl_readParts_rec)⟩) ((L58_0 impl_readParts_rec) n)
noncomputable def impl_readParts_step (impl_readParts_rec : ByteArray → Option ((List (ByteArray × PT)) × ByteArray)) : ByteArray → Option ((List (ByteArray × PT)) × ByteArray) := fun a0 =>
 Option.bind (loopF (impl_readParts_l2 impl_readParts_rec) (a0, (List.take 0 (List.drop 0 [])), ())) fun r0 =>
  (match r0 with
  | .inl (d1, d2, _) =>
    some ((List.take (List.length d1) (List.drop 0 d1)), d2)
  | .inr (d3, d4, _) =>
    some ((List.take (List.length d4) (List.drop 0 d4)), d3))
theorem impl_readParts_step_eq (impl_readParts_rec : ByteArray → Option ((List (ByteArray × PT)) × ByteArray)) : fnF (E58 impl_readParts_rec) (L58_1 impl_readParts_rec) [.v .str] true [.sl (.pair .str .pt), .str] f58.ntmps f58.results.toList (codeOf f58) = fun x => (impl_readParts_step impl_readParts_rec) x.1 := by kernel_rfl
theorem impl_readParts_step_ok (impl_readParts_rec : ByteArray → Option ((List (ByteArray × PT)) × ByteArray)) (hrec : FnOk prog 58 (R58 impl_readParts_rec)) : FnOk prog 58 ⟨[.v .str], true, [.sl (.pair .str .pt), .str], fun x => (impl_readParts_step impl_readParts_rec) x.1⟩ := by
 have h := fnOk_of_run (P := prog) (E := (E58 impl_readParts_rec)) (tysOk_of tyl_ok) (E58_ok impl_readParts_rec hrec) (L := (L58_1 impl_readParts_rec)) (ps := [.v .str]) (own := true) (outs := [.sl (.pair .str .pt), .str]) func58 (c := codeOf f58) (by kernel_rfl) (codeOk_in (L := (L58_1 impl_readParts_rec)) (tysOk_of tyl_ok) (E58_ok impl_readParts_rec hrec) mixed (c := codeOf f58) (bs := [loopOf f58 2]) (by kernel_rfl) (allCons (loop58_2 impl_readParts_rec hrec rfl) allNil) (by kernel_rfl))
 rw [(impl_readParts_step_eq impl_readParts_rec)] at h
 exact h
/-- so many calls within each other -/
noncomputable def impl_readParts_fuel : Nat → ByteArray → Option ((List (ByteArray × PT)) × ByteArray)
 | 0 => fun _ => none
 | n + 1 => impl_readParts_step (impl_readParts_fuel n)
theorem impl_readParts_fuel_ok : ∀ n, FnOk prog 58 (R58 (impl_readParts_fuel n))
 | 0 => fun xs r h => by cases h
 | n + 1 => impl_readParts_step_ok (impl_readParts_fuel n) (impl_readParts_fuel_ok n)
noncomputable def impl_readParts : ByteArray → Option ((List (ByteArray × PT)) × ByteArray) := impl_readParts_fuel 200
noncomputable def A58 : FnA := R58 impl_readParts
theorem A58_ok : FnOk prog 58 A58 := impl_readParts_fuel_ok 200
/-! impl.parts -/
noncomputable def E37 : Env := ⟨ty0, fun g => ifEq g 58 (some A58) (none), fun _ => none, fun _ => none, fun _ => none⟩
theorem E37_ok : FnsOk prog E37 := (oF A58_ok func58 (noFns _ _))
noncomputable def L37_0 : Nat → Option LoopD := fun _ => none
noncomputable def impl_parts : ByteArray → Option ((List (ByteArray × PT)) × Bool) := fun a0 =>
 bif (decide ((((ByteArray.size a0) : Nat) : Int) > (120 : Int))) then
  some ([], false)
 else
  Option.bind (impl_readParts a0) fun (r0, r1) =>
   bif (decide ((((List.length r0) : Nat) : Int) > (0 : Int))) then
    some ((List.take (List.length r0) (List.drop 0 r0)), ((ByteArray.toList r1) == (ByteArray.toList (⟨#[]⟩ : ByteArray))))
   else
    some ((List.take (List.length r0) (List.drop 0 r0)), false)
noncomputable def A37 : FnA := ⟨[.v .str], true, [.sl (.pair .str .pt), .bool], fun x => impl_parts x.1⟩
theorem impl_parts_eq : fnF E37 L37_0 [.v .str] true [.sl (.pair .str .pt), .bool] f37.ntmps f37.results.toList (codeOf f37) = fun x => impl_parts x.1 := by kernel_rfl
theorem A37_ok : FnOk prog 37 A37 := fo impl_parts_eq func37 E37_ok allNil
/-! impl.filled -/
noncomputable def E93 : Env := ⟨ty0, fun _ => none, fun _ => none, fun _ => none, fun _ => none⟩
theorem E93_ok : FnsOk prog E93 := (noFns _ _)
noncomputable def L93_0 : Nat → Option LoopD := fun _ => none
def sh93_6 : List Fm := .cell (.val (.int .i64)) :: .clo [.int .i64, .int .i64] (.int .i64) :: d :: d :: .box 100400 [.val (.int .i64), .own (.int .i64) 100402 false] :: .box 100500 [.val (.int .i64), .own (.int .i64) 100502 false] :: .cell (.val (.int .i64)) :: d :: d :: d :: .cell (.val (.int .i64)) :: .cell (.val (.int .i64)) :: d :: d :: .cell (.val (.int .i64)) :: .cell (.val (.int .i64)) :: D 14 []
def xs93_6 : List (Ex × List Fm) := [(.exit 2, [.cell (.val (.int .i64)), .clo [.int .i64, .int .i64] (.int .i64), d, d, .box 100400 [.val (.int .i64), .own (.int .i64) 100402 false], .box 100500 [.val (.int .i64), .own (.int .i64) 100502 false], d, d, d, d, .cell (.val (.int .i64)), .cell (.val (.int .i64)), d, d, d, d, d, d, d, d, d, d, d, d, d, d, d, d, d, d])]
noncomputable def impl_filled_l6 : (Int × ((Int × Int × Unit) → Option (Int)) × (Int × (List Int) × Unit) × (Int × (List Int) × Unit) × Int × Int × Int × Int × Int × Unit) → Option ((Int × ((Int × Int × Unit) → Option (Int)) × (Int × (List Int) × Unit) × (Int × (List Int) × Unit) × Int × Int × Int × Int × Int × Unit) ⊕ ((Int × ((Int × Int × Unit) → Option (Int)) × (Int × (List Int) × Unit) × (Int × (List Int) × Unit) × Int × Int × Unit))) := fun (v0, v1, (v4_0, v4_1, _), (v5_0, v5_1, _), v6, v10, v11, v14, v15, _) =>
 bif (decide (v15 < v14)) then
  Option.bind (v1 (v6, v15, ())) fun r0 =>
   if (((0 + (List.length v5_1)) = (List.length v5_1)) ∧ ((((List.length v5_1) + (List.length (List.take 1 (List.drop 0 [r0])))) * 8) ≤ 140737488355328)) then
    some (Sum.inl (v0, v1, (v4_0, (List.take (List.length v4_1) (List.drop 0 v4_1)), ()), (v5_0, (List.take ((List.length v5_1) + (List.length (List.take 1 (List.drop 0 [r0])))) (List.drop 0 ((List.drop 0 v5_1) ++ (List.take 1 (List.drop 0 [r0]))))), ()), v6, v10, v11, v14, (IntKind.wrap .i64 (v15 + (1 : Int))), ()))
   else
    none
 else
  some (Sum.inr (v0, v1, (v4_0, (List.take (List.length v4_1) (List.drop 0 v4_1)), ()), (v5_0, (List.take (List.length v5_1) (List.drop 0 v5_1)), ()), v10, v11, ()))
theorem impl_filled_l6_eq : loopStep 30 E93 L93_0 (loopOf f93 6) sh93_6 xs93_6 = impl_filled_l6 := by kernel_rfl
theorem loop93_6 {L} (h : L 6 = some ⟨30, sh93_6, xs93_6, impl_filled_l6⟩) : LoopOk prog L (loopOf f93 6) := lo impl_filled_l6_eq E93_ok allNil h
noncomputable def L93_1 : Nat → Option LoopD := fun n => ifEq n 6 (some ⟨30, sh93_6, xs93_6, impl_filled_l6⟩) (L93_0 n)
def sh93_3 : List Fm := .cell (.val (.int .i64)) :: .clo [.int .i64, .int .i64] (.int .i64) :: d :: d :: .box 100400 [.val (.int .i64), .own (.int .i64) 100402 false] :: .box 100500 [.val (.int .i64), .own (.int .i64) 100502 false] :: D 4 (.cell (.val (.int .i64)) :: .cell (.val (.int .i64)) :: D 18 [])
def xs93_3 : List (Ex × List Fm) := [(.exit 0, [d, d, d, d, .box 100400 [.val (.int .i64), .own (.int .i64) 100402 false], .box 100500 [.val (.int .i64), .own (.int .i64) 100502 false], d, d, d, d, d, d, d, d, d, d, d, d, d, d, d, d, d, d, d, d, d, d, d, d])]
noncomputable def impl_filled_l3 : (Int × ((Int × Int × Unit) → Option (Int)) × (Int × (List Int) × Unit) × (Int × (List Int) × Unit) × Int × Int × Unit) → Option ((Int × ((Int × Int × Unit) → Option (Int)) × (Int × (List Int) × Unit) × (Int × (List Int) × Unit) × Int × Int × Unit) ⊕ (((Int × (List Int) × Unit) × (Int × (List Int) × Unit) × Unit))) := fun (v0, v1, (v4_0, v4_1, _), (v5_0, v5_1, _), v10, v11, _) =>
 bif (decide (v11 < v10)) then
  Option.bind (loopF impl_filled_l6 (v0, v1, (v4_0, (List.take (List.length v4_1) (List.drop 0 v4_1)), ()), (v5_0, (List.take (List.length v5_1) (List.drop 0 v5_1)), ()), v11, v10, v11, v0, (0 : Int), ())) fun (r0, r1, (r2, r3, _), (r4, r5, _), r6, r7, _) =>
   some (Sum.inl (r0, r1, (r2, (List.take (List.length r3) (List.drop 0 r3)), ()), (r4, (List.take (List.length r5) (List.drop 0 r5)), ()), r6, (IntKind.wrap .i64 (r7 + (1 : Int))), ()))
 else
  some (Sum.inr ((v4_0, (List.take (List.length v4_1) (List.drop 0 v4_1)), ()), (v5_0, (List.take (List.length v5_1) (List.drop 0 v5_1)), ()), ()))
theorem impl_filled_l3_eq : loopStep 30 E93 L93_1 (loopOf f93 3) sh93_3 xs93_3 = impl_filled_l3 := by kernel_rfl
theorem loop93_3 {L} (h : L 3 = some ⟨30, sh93_3, xs93_3, impl_filled_l3⟩) : LoopOk prog L (loopOf f93 3) := lo impl_filled_l3_eq E93_ok (allCons (loop93_6 rfl) allNil) h
noncomputable def L93_2 : Nat → Option LoopD := fun n => ifEq n 3 (some ⟨30, sh93_3, xs93_3, impl_filled_l3⟩) (L93_1 n)
noncomputable def impl_filled : Int → ((Int × Int × Unit) → Option (Int)) → Option ((Int × (List Int))) := fun a0 a1 =>
 Option.bind (loopF impl_filled_l3 (a0, a1, ((0 : Int), [], ()), (a0, [], ()), a0, (0 : Int), ())) fun ((r0, r1, _), (r2, r3, _), _) =>
  some (r2, (List.take (List.length r3) (List.drop 0 r3)))
noncomputable def A93 : FnA := ⟨[.v (.int .i64), .clo [.int .i64, .int .i64] (.int .i64)], true, [.pair (.int .i64) (.sl (.int .i64))], fun x => impl_filled x.1 x.2.1⟩
theorem impl_filled_eq : fnF E93 L93_2 [.v (.int .i64), .clo [.int .i64, .int .i64] (.int .i64)] true [.pair (.int .i64) (.sl (.int .i64))] f93.ntmps f93.results.toList (codeOf f93) = fun x => impl_filled x.1 x.2.1 := by kernel_rfl
theorem A93_ok : FnOk prog 93 A93 := fo impl_filled_eq func93 E93_ok (allCons (loop93_3 rfl) allNil)
/-! impl.StepMatrix$1 -/
noncomputable def E125 : Env := ⟨ty0, fun _ => none, fun _ => none, fun _ => none, fun _ => none⟩
theorem E125_ok : FnsOk prog E125 := (noFns _ _)
noncomputable def L125_0 : Nat → Option LoopD := fun _ => none
noncomputable def impl_StepMatrix_1 : Int → Int → Option (Int) := fun a0 a1 =>
 some (1000000 : Int)
noncomputable def A125 : FnA := ⟨[.v (.int .i64), .v (.int .i64)], true, [.int .i64], fun x => impl_StepMatrix_1 x.1 x.2.1⟩
theorem impl_StepMatrix_1_eq : fnF E125 L125_0 [.v (.int .i64), .v (.int .i64)] true [.int .i64] f125.ntmps f125.results.toList (codeOf f125) = fun x => impl_StepMatrix_1 x.1 x.2.1 := by kernel_rfl
theorem A125_ok : FnOk prog 125 A125 := fo impl_StepMatrix_1_eq func125 E125_ok allNil
/-! impl.StepMatrix -/
noncomputable def E99 : Env := ⟨ty0, fun g => ifEq g 34 (some A34) (ifEq g 93 (some A93) (ifEq g 125 (some A125) (none))), fun _ => none, fun _ => none, fun _ => none⟩
theorem E99_ok : FnsOk prog E99 := (oF A34_ok func34 (oF A93_ok func93 (oF A125_ok func125 (noFns _ _))))
noncomputable def L99_0 : Nat → Option LoopD := fun _ => none
def sh99_5 : List Fm := d :: .cell (.val .str) :: d :: d :: .box 100400 [.val (.int .i64), .own (.int .i64) 100402 false] :: d :: .box 100600 [.val (.int .i64), .own (.int .i64) 100602 false] :: D 18 (.cell (.val (.sl (.pair (.int .i64) (.pair .str (.pair (.int .i64) (.int .i64)))))) :: .cell (.val (.int .i64)) :: .cell (.val (.int .i64)) :: D 22 [])
def xs99_5 : List (Ex × List Fm) := [(.exit 0, [d, d, d, d, .box 100400 [.val (.int .i64), .own (.int .i64) 100402 false], d, .box 100600 [.val (.int .i64), .own (.int .i64) 100602 false], d, d, d, d, d, d, d, d, d, d, d, d, d, d, d, d, d, d, d, d, d, d, d, d, d, d, d, d, d, d, d, d, d, d, d, d, d, d, d, d, d, d, d])]
noncomputable def impl_StepMatrix_l5 : (ByteArray × (Int × (List Int) × Unit) × (Int × (List Int) × Unit) × (List (Int × (ByteArray × (Int × Int)))) × Int × Int × Unit) → Option ((ByteArray × (Int × (List Int) × Unit) × (Int × (List Int) × Unit) × (List (Int × (ByteArray × (Int × Int)))) × Int × Int × Unit) ⊕ (((Int × (List Int) × Unit) × (Int × (List Int) × Unit) × Unit))) := fun (v1, (v4_0, v4_1, _), (v6_0, v6_1, _), v25, v26, v27, _) =>
 bif (decide (v27 < v26)) then
  if (((0 : Int) ≤ v27) ∧ (v27 < (((List.length v25) : Nat) : Int))) then
   bif ((ByteArray.toList (List.getD v25 (Int.toNat v27) ((0 : Int), (⟨Array.empty⟩ : ByteArray), (0 : Int), (0 : Int))).2.1) == (ByteArray.toList v1)) then
    if (((0 : Int) ≤ (IntKind.wrap .i64 ((IntKind.wrap .i64 ((List.getD v25 (Int.toNat v27) ((0 : Int), (⟨Array.empty⟩ : ByteArray), (0 : Int), (0 : Int))).1 * v6_0)) + (List.getD v25 (Int.toNat v27) ((0 : Int), (⟨Array.empty⟩ : ByteArray), (0 : Int), (0 : Int))).2.2.1))) ∧ ((IntKind.wrap .i64 ((IntKind.wrap .i64 ((List.getD v25 (Int.toNat v27) ((0 : Int), (⟨Array.empty⟩ : ByteArray), (0 : Int), (0 : Int))).1 * v6_0)) + (List.getD v25 (Int.toNat v27) ((0 : Int), (⟨Array.empty⟩ : ByteArray), (0 : Int), (0 : Int))).2.2.1)) < (((List.length v6_1) : Nat) : Int))) then
     some (Sum.inl (v1, (v4_0, (List.take (List.length v4_1) (List.drop 0 v4_1)), ()), (v6_0, (List.take (List.length v6_1) (List.drop 0 (List.set v6_1 (0 + (Int.toNat (IntKind.wrap .i64 ((IntKind.wrap .i64 ((List.getD v25 (Int.toNat v27) ((0 : Int), (⟨Array.empty⟩ : ByteArray), (0 : Int), (0 : Int))).1 * v6_0)) + (List.getD v25 (Int.toNat v27) ((0 : Int), (⟨Array.empty⟩ : ByteArray), (0 : Int), (0 : Int))).2.2.1)))) (List.getD v25 (Int.toNat v27) ((0 : Int), (⟨Array.empty⟩ : ByteArray), (0 : Int), (0 : Int))).2.2.2))), ()), v25, v26, (IntKind.wrap .i64 (v27 + (1 : Int))), ()))
    else
     none
   else
    some (Sum.inl (v1, (v4_0, (List.take (List.length v4_1) (List.drop 0 v4_1)), ()), (v6_0, (List.take (List.length v6_1) (List.drop 0 v6_1)), ()), v25, v26, (IntKind.wrap .i64 (v27 + (1 : Int))), ()))
  else
   none
 else
  some (Sum.inr ((v4_0, (List.take (List.length v4_1) (List.drop 0 v4_1)), ()), (v6_0, (List.take (List.length v6_1) (List.drop 0 v6_1)), ()), ()))
theorem impl_StepMatrix_l5_eq : loopStep 50 E99 L99_0 (loopOf f99 5) sh99_5 xs99_5 = impl_StepMatrix_l5 := by kernel_rfl
theorem loop99_5 {L} (h : L 5 = some ⟨50, sh99_5, xs99_5, impl_StepMatrix_l5⟩) : LoopOk prog L (loopOf f99 5) := lo impl_StepMatrix_l5_eq E99_ok allNil h
noncomputable def L99_1 : Nat → Option LoopD := fun n => ifEq n 5 (some ⟨50, sh99_5, xs99_5, impl_StepMatrix_l5⟩) (L99_0 n)
noncomputable def impl_StepMatrix : (Int × ((List Int) × ((List Int) × (List (Int × (ByteArray × (Int × Int))))))) → ByteArray → Option ((Int × (List Int)) × Bool) := fun (a0_0, a0_1, a0_2, a0_3) a1 =>
 Option.bind (impl_AutomatonValid (a0_0, a0_1, a0_2, a0_3)) fun r0 =>
  bif (!r0) then
   some (((0 : Int), []), false)
  else
   bif (!((ByteArray.toList a1) == (ByteArray.toList (⟨#[(97 : UInt8)]⟩ : ByteArray)))) then
    bif (!((ByteArray.toList a1) == (ByteArray.toList (⟨#[(98 : UInt8)]⟩ : ByteArray)))) then
     some (((0 : Int), []), false)
    else
     Option.bind (impl_filled a0_0 (fun y1 => (impl_StepMatrix_1 y1.1 y1.2.1))) fun (r2, r3) =>
      Option.bind (loopF impl_StepMatrix_l5 (a1, ((0 : Int), [], ()), (r2, (List.take (List.length r3) (List.drop 0 r3)), ()), a0_3, (((List.length a0_3) : Nat) : Int), (0 : Int), ())) fun ((r4, r5, _), (r6, r7, _), _) =>
       some ((r6, (List.take (List.length r7) (List.drop 0 r7))), true)
   else
    Option.bind (impl_filled a0_0 (fun y8 => (impl_StepMatrix_1 y8.1 y8.2.1))) fun (r9, r10) =>
     Option.bind (loopF impl_StepMatrix_l5 (a1, ((0 : Int), [], ()), (r9, (List.take (List.length r10) (List.drop 0 r10)), ()), a0_3, (((List.length a0_3) : Nat) : Int), (0 : Int), ())) fun ((r11, r12, _), (r13, r14, _), _) =>
      some ((r13, (List.take (List.length r14) (List.drop 0 r14))), true)
noncomputable def A99 : FnA := ⟨[.v (.pair (.int .i64) (.pair (.sl (.int .i64)) (.pair (.sl (.int .i64)) (.sl (.pair (.int .i64) (.pair .str (.pair (.int .i64) (.int .i64)))))))), .v .str], true, [.pair (.int .i64) (.sl (.int .i64)), .bool], fun x => impl_StepMatrix x.1 x.2.1⟩
theorem impl_StepMatrix_eq : fnF E99 L99_1 [.v (.pair (.int .i64) (.pair (.sl (.int .i64)) (.pair (.sl (.int .i64)) (.sl (.pair (.int .i64) (.pair .str (.pair (.int .i64) (.int .i64)))))))), .v .str] true [.pair (.int .i64) (.sl (.int .i64)), .bool] f99.ntmps f99.results.toList (codeOf f99) = fun x => impl_StepMatrix x.1 x.2.1 := by kernel_rfl
theorem A99_ok : FnOk prog 99 A99 := fo impl_StepMatrix_eq func99 E99_ok (allCons (loop99_5 rfl) allNil)
/-! slices.IndexFunc[[]int,int] -/
noncomputable def E106 : Env := ⟨ty0, fun _ => none, fun _ => none, fun _ => none, fun _ => none⟩
theorem E106_ok : FnsOk prog E106 := (noFns _ _)
noncomputable def L106_0 : Nat → Option LoopD := fun _ => none
def sh106_2 : List Fm := .cell (.val (.sl (.int .i64))) :: .clo [.int .i64] .bool :: D 5 (.cell (.val (.int .i64)) :: .cell (.val (.int .i64)) :: D 10 [])
def xs106_2 : List (Ex × List Fm) := [(.ret, (D 4 (.cell (.val (.int .i64)) :: D 14 []))), (.exit 0, (D 19 []))]
noncomputable def slices_IndexFunc_l2 : ((List Int) × ((Int × Unit) → Option (Bool)) × Int × Int × Unit) → Option (((List Int) × ((Int × Unit) → Option (Bool)) × Int × Int × Unit) ⊕ ((Int × Unit) ⊕ (Unit))) := fun (v0, v1, v7, v8, _) =>
 bif (decide (v8 < v7)) then
  if (((0 : Int) ≤ v8) ∧ (v8 < (((List.length v0) : Nat) : Int))) then
   Option.bind (v1 ((List.getD v0 (Int.toNat v8) (0 : Int)), ())) fun r0 =>
    bif r0 then
     some (Sum.inr (Sum.inl (v8, ())))
    else
     some (Sum.inl (v0, v1, v7, (IntKind.wrap .i64 (v8 + (1 : Int))), ()))
  else
   none
 else
  some (Sum.inr (Sum.inr ()))
theorem slices_IndexFunc_l2_eq : loopStep 19 E106 L106_0 (loopOf f106 2) sh106_2 xs106_2 = slices_IndexFunc_l2 := by kernel_rfl
theorem loop106_2 {L} (h : L 2 = some ⟨19, sh106_2, xs106_2, slices_IndexFunc_l2⟩) : LoopOk prog L (loopOf f106 2) := lo slices_IndexFunc_l2_eq E106_ok allNil h
noncomputable def L106_1 : Nat → Option LoopD := fun n => ifEq n 2 (some ⟨19, sh106_2, xs106_2, slices_IndexFunc_l2⟩) (L106_0 n)
noncomputable def slices_IndexFunc : (List Int) → ((Int × Unit) → Option (Bool)) → Option (Int) := fun a0 a1 =>
 Option.bind (loopF slices_IndexFunc_l2 (a0, a1, (((List.length a0) : Nat) : Int), (0 : Int), ())) fun r0 =>
  (match r0 with
  | .inl (d1, _) =>
    some d1
  | .inr _ =>
    some (-1 : Int))
noncomputable def A106 : FnA := ⟨[.v (.sl (.int .i64)), .clo [.int .i64] .bool], true, [.int .i64], fun x => slices_IndexFunc x.1 x.2.1⟩
theorem slices_IndexFunc_eq : fnF E106 L106_1 [.v (.sl (.int .i64)), .clo [.int .i64] .bool] true [.int .i64] f106.ntmps f106.results.toList (codeOf f106) = fun x => slices_IndexFunc x.1 x.2.1 := by kernel_rfl
theorem A106_ok : FnOk prog 106 A106 := fo slices_IndexFunc_eq func106 E106_ok (allCons (loop106_2 rfl) allNil)
/-! slices.ContainsFunc[[]int,int] -/
noncomputable def E78 : Env := ⟨ty0, fun g => ifEq g 106 (some A106) (none), fun _ => none, fun _ => none, fun _ => none⟩
theorem E78_ok : FnsOk prog E78 := (oF A106_ok func106 (noFns _ _))
noncomputable def L78_0 : Nat → Option LoopD := fun _ => none
noncomputable def slices_ContainsFunc : (List Int) → ((Int × Unit) → Option (Bool)) → Option (Bool) := fun a0 a1 =>
 Option.bind (slices_IndexFunc a0 a1) fun r0 =>
  some (decide (r0 ≥ (0 : Int)))
noncomputable def A78 : FnA := ⟨[.v (.sl (.int .i64)), .clo [.int .i64] .bool], true, [.bool], fun x => slices_ContainsFunc x.1 x.2.1⟩
theorem slices_ContainsFunc_eq : fnF E78 L78_0 [.v (.sl (.int .i64)), .clo [.int .i64] .bool] true [.bool] f78.ntmps f78.results.toList (codeOf f78) = fun x => slices_ContainsFunc x.1 x.2.1 := by kernel_rfl
theorem A78_ok : FnOk prog 78 A78 := fo slices_ContainsFunc_eq func78 E78_ok allNil
/-! impl.CostValid -/
noncomputable def E105 : Env := ⟨ty0, fun _ => none, fun _ => none, fun _ => none, fun _ => none⟩
theorem E105_ok : FnsOk prog E105 := (noFns _ _)
noncomputable def L105_0 : Nat → Option LoopD := fun _ => none
noncomputable def impl_CostValid : Int → Option (Bool) := fun a0 =>
 bif (decide (a0 ≥ (0 : Int))) then
  some (decide (a0 ≤ (1000000 : Int)))
 else
  some false
noncomputable def A105 : FnA := ⟨[.v (.int .i64)], true, [.bool], fun x => impl_CostValid x.1⟩
theorem impl_CostValid_eq : fnF E105 L105_0 [.v (.int .i64)] true [.bool] f105.ntmps f105.results.toList (codeOf f105) = fun x => impl_CostValid x.1 := by kernel_rfl
theorem A105_ok : FnOk prog 105 A105 := fo impl_CostValid_eq func105 E105_ok allNil
/-! impl.MatrixValid$1 -/
noncomputable def E104 : Env := ⟨ty0, fun g => ifEq g 105 (some A105) (none), fun _ => none, fun _ => none, fun _ => none⟩
theorem E104_ok : FnsOk prog E104 := (oF A105_ok func105 (noFns _ _))
noncomputable def L104_0 : Nat → Option LoopD := fun _ => none
noncomputable def impl_MatrixValid_1 : Int → Option (Bool) := fun a0 =>
 Option.bind (impl_CostValid a0) fun r0 =>
  some (!r0)
noncomputable def A104 : FnA := ⟨[.v (.int .i64)], true, [.bool], fun x => impl_MatrixValid_1 x.1⟩
theorem impl_MatrixValid_1_eq : fnF E104 L104_0 [.v (.int .i64)] true [.bool] f104.ntmps f104.results.toList (codeOf f104) = fun x => impl_MatrixValid_1 x.1 := by kernel_rfl
theorem A104_ok : FnOk prog 104 A104 := fo impl_MatrixValid_1_eq func104 E104_ok allNil
/-! impl.MatrixValid -/
noncomputable def E77 : Env := ⟨ty0, fun g => ifEq g 78 (some A78) (ifEq g 104 (some A104) (none)), fun _ => none, fun _ => none, fun _ => none⟩
theorem E77_ok : FnsOk prog E77 := (oF A78_ok func78 (oF A104_ok func104 (noFns _ _)))
noncomputable def L77_0 : Nat → Option LoopD := fun _ => none
noncomputable def impl_MatrixValid : (Int × (List Int)) → Option (Bool) := fun (a0_0, a0_1) =>
 bif (decide (a0_0 < (1 : Int))) then
  some false
 else
  bif (decide (a0_0 > (4 : Int))) then
   some false
  else
   bif ((((List.length a0_1) : Nat) : Int) != (IntKind.wrap .i64 (a0_0 * a0_0))) then
    some false
   else
    Option.bind (slices_ContainsFunc a0_1 (fun y0 => (impl_MatrixValid_1 y0.1))) fun r1 =>
     some (!r1)
noncomputable def A77 : FnA := ⟨[.v (.pair (.int .i64) (.sl (.int .i64)))], true, [.bool], fun x => impl_MatrixValid x.1⟩
theorem impl_MatrixValid_eq : fnF E77 L77_0 [.v (.pair (.int .i64) (.sl (.int .i64)))] true [.bool] f77.ntmps f77.results.toList (codeOf f77) = fun x => impl_MatrixValid x.1 := by kernel_rfl
theorem A77_ok : FnOk prog 77 A77 := fo impl_MatrixValid_eq func77 E77_ok allNil
/-! (impl.Matrix).at -/
noncomputable def E54 : Env := ⟨ty0, fun _ => none, fun _ => none, fun _ => none, fun _ => none⟩
theorem E54_ok : FnsOk prog E54 := (noFns _ _)
noncomputable def L54_0 : Nat → Option LoopD := fun _ => none
noncomputable def impl_Matrix_at : (Int × (List Int)) → Int → Int → Option (Int) := fun (a0_0, a0_1) a1 a2 =>
 if (((0 : Int) ≤ (IntKind.wrap .i64 ((IntKind.wrap .i64 (a1 * a0_0)) + a2))) ∧ ((IntKind.wrap .i64 ((IntKind.wrap .i64 (a1 * a0_0)) + a2)) < (((List.length a0_1) : Nat) : Int))) then
  some (List.getD a0_1 (Int.toNat (IntKind.wrap .i64 ((IntKind.wrap .i64 (a1 * a0_0)) + a2))) (0 : Int))
 else
  none
noncomputable def A54 : FnA := ⟨[.v (.pair (.int .i64) (.sl (.int .i64))), .v (.int .i64), .v (.int .i64)], true, [.int .i64], fun x => impl_Matrix_at x.1 x.2.1 x.2.2.1⟩
theorem impl_Matrix_at_eq : fnF E54 L54_0 [.v (.pair (.int .i64) (.sl (.int .i64))), .v (.int .i64), .v (.int .i64)] true [.int .i64] f54.ntmps f54.results.toList (codeOf f54) = fun x => impl_Matrix_at x.1 x.2.1 x.2.2.1 := by kernel_rfl
theorem A54_ok : FnOk prog 54 A54 := fo impl_Matrix_at_eq func54 E54_ok allNil
/-! impl.GradesOf$1 -/
noncomputable def E126 : Env := ⟨ty0, fun g => ifEq g 54 (some A54) (none), fun _ => none, fun _ => none, fun _ => none⟩
theorem E126_ok : FnsOk prog E126 := (oF A54_ok func54 (noFns _ _))
noncomputable def L126_0 : Nat → Option LoopD := fun _ => none
noncomputable def impl_GradesOf_1 : Int → Int → (Int × (List Int)) → Option (Int) := fun a0 a1 (a2_0, a2_1) =>
 Option.bind (impl_Matrix_at (a2_0, a2_1) a0 a1) fun r0 =>
  bif (r0 == (0 : Int)) then
   some (0 : Int)
  else
   bif (r0 == (1000000 : Int)) then
    some (3 : Int)
   else
    some (1 : Int)
noncomputable def A126 : FnA := ⟨[.v (.int .i64), .v (.int .i64), .cap (.pair (.int .i64) (.sl (.int .i64)))], true, [.int .i64], fun x => impl_GradesOf_1 x.1 x.2.1 x.2.2.1⟩
theorem impl_GradesOf_1_eq : fnF E126 L126_0 [.v (.int .i64), .v (.int .i64), .cap (.pair (.int .i64) (.sl (.int .i64)))] true [.int .i64] f126.ntmps f126.results.toList (codeOf f126) = fun x => impl_GradesOf_1 x.1 x.2.1 x.2.2.1 := by kernel_rfl
theorem A126_ok : FnOk prog 126 A126 := fo impl_GradesOf_1_eq func126 E126_ok allNil
/-! impl.GradesOf -/
noncomputable def E100 : Env := ⟨ty0, fun g => ifEq g 77 (some A77) (ifEq g 93 (some A93) (ifEq g 126 (some A126) (none))), fun _ => none, fun _ => none, fun _ => none⟩
theorem E100_ok : FnsOk prog E100 := (oF A77_ok func77 (oF A93_ok func93 (oF A126_ok func126 (noFns _ _))))
noncomputable def L100_0 : Nat → Option LoopD := fun _ => none
noncomputable def impl_GradesOf : (Int × (List Int)) → Option ((Int × (List Int)) × Bool) := fun (a0_0, a0_1) =>
 Option.bind (impl_MatrixValid (a0_0, a0_1)) fun r0 =>
  bif (!r0) then
   some (((0 : Int), []), false)
  else
   Option.bind (impl_filled a0_0 (fun y1 => (impl_GradesOf_1 y1.1 y1.2.1 (a0_0, a0_1)))) fun (r2, r3) =>
    some ((r2, (List.take (List.length r3) (List.drop 0 r3))), true)
noncomputable def A100 : FnA := ⟨[.v (.pair (.int .i64) (.sl (.int .i64)))], true, [.pair (.int .i64) (.sl (.int .i64)), .bool], fun x => impl_GradesOf x.1⟩
theorem impl_GradesOf_eq : fnF E100 L100_0 [.v (.pair (.int .i64) (.sl (.int .i64)))] true [.pair (.int .i64) (.sl (.int .i64)), .bool] f100.ntmps f100.results.toList (codeOf f100) = fun x => impl_GradesOf x.1 := by kernel_rfl
theorem A100_ok : FnOk prog 100 A100 := fo impl_GradesOf_eq func100 E100_ok allNil
/-! impl.GradesValid$1 -/
noncomputable def E79 : Env := ⟨ty0, fun _ => none, fun _ => none, fun _ => none, fun _ => none⟩
theorem E79_ok : FnsOk prog E79 := (noFns _ _)
noncomputable def L79_0 : Nat → Option LoopD := fun _ => none
noncomputable def impl_GradesValid_1 : Int → Option (Bool) := fun a0 =>
 some (decide (a0 > (3 : Int)))
noncomputable def A79 : FnA := ⟨[.v (.int .i64)], true, [.bool], fun x => impl_GradesValid_1 x.1⟩
theorem impl_GradesValid_1_eq : fnF E79 L79_0 [.v (.int .i64)] true [.bool] f79.ntmps f79.results.toList (codeOf f79) = fun x => impl_GradesValid_1 x.1 := by kernel_rfl
theorem A79_ok : FnOk prog 79 A79 := fo impl_GradesValid_1_eq func79 E79_ok allNil
/-! impl.GradesValid -/
noncomputable def E53 : Env := ⟨ty0, fun g => ifEq g 77 (some A77) (ifEq g 78 (some A78) (ifEq g 79 (some A79) (none))), fun _ => none, fun _ => none, fun _ => none⟩
theorem E53_ok : FnsOk prog E53 := (oF A77_ok func77 (oF A78_ok func78 (oF A79_ok func79 (noFns _ _))))
noncomputable def L53_0 : Nat → Option LoopD := fun _ => none
noncomputable def impl_GradesValid : (Int × (List Int)) → Option (Bool) := fun (a0_0, a0_1) =>
 Option.bind (impl_MatrixValid (a0_0, a0_1)) fun r0 =>
  bif r0 then
   Option.bind (slices_ContainsFunc a0_1 (fun y1 => (impl_GradesValid_1 y1.1))) fun r2 =>
    some (!r2)
  else
   some false
noncomputable def A53 : FnA := ⟨[.v (.pair (.int .i64) (.sl (.int .i64)))], true, [.bool], fun x => impl_GradesValid x.1⟩
theorem impl_GradesValid_eq : fnF E53 L53_0 [.v (.pair (.int .i64) (.sl (.int .i64)))] true [.bool] f53.ntmps f53.results.toList (codeOf f53) = fun x => impl_GradesValid x.1 := by kernel_rfl
theorem A53_ok : FnOk prog 53 A53 := fo impl_GradesValid_eq func53 E53_ok allNil
/-! impl.MulGrades$1 -/
noncomputable def E98 : Env := ⟨ty0, fun g => ifEq g 54 (some A54) (none), fun _ => none, fun _ => none, fun _ => none⟩
theorem E98_ok : FnsOk prog E98 := (oF A54_ok func54 (noFns _ _))
noncomputable def L98_0 : Nat → Option LoopD := fun _ => none
def sh98_3 : List Fm := .cell (.val (.int .i64)) :: .cell (.val (.int .i64)) :: .fp (.pair (.int .i64) (.sl (.int .i64))) :: .fp (.pair (.int .i64) (.sl (.int .i64))) :: d :: d :: d :: .cell (.val (.int .i64)) :: d :: d :: .cell (.val (.int .i64)) :: .cell (.val (.int .i64)) :: D 15 []
def xs98_3 : List (Ex × List Fm) := [(.exit 0, (D 7 (.cell (.val (.int .i64)) :: D 19 [])))]
noncomputable def impl_MulGrades_1_l3 : (Int × Int × (Int × (List Int)) × (Int × (List Int)) × Int × Int × Int × Unit) → Option ((Int × Int × (Int × (List Int)) × (Int × (List Int)) × Int × Int × Int × Unit) ⊕ ((Int × Unit))) := fun (v0, v1, (v2_0, v2_1), (v3_0, v3_1), v7, v10, v11, _) =>
 bif (decide (v11 < v10)) then
  Option.bind (impl_Matrix_at (v2_0, v2_1) v0 v11) fun r0 =>
   Option.bind (impl_Matrix_at (v3_0, v3_1) v11 v1) fun r1 =>
    some (Sum.inl (v0, v1, (v2_0, v2_1), (v3_0, v3_1), (if ((if (r1 > r0) then r1 else r0) < v7) then (if (r1 > r0) then r1 else r0) else v7), v10, (IntKind.wrap .i64 (v11 + (1 : Int))), ()))
 else
  some (Sum.inr (v7, ()))
theorem impl_MulGrades_1_l3_eq : loopStep 27 E98 L98_0 (loopOf f98 3) sh98_3 xs98_3 = impl_MulGrades_1_l3 := by kernel_rfl
theorem loop98_3 {L} (h : L 3 = some ⟨27, sh98_3, xs98_3, impl_MulGrades_1_l3⟩) : LoopOk prog L (loopOf f98 3) := lo impl_MulGrades_1_l3_eq E98_ok allNil h
noncomputable def L98_1 : Nat → Option LoopD := fun n => ifEq n 3 (some ⟨27, sh98_3, xs98_3, impl_MulGrades_1_l3⟩) (L98_0 n)
noncomputable def impl_MulGrades_1 : Int → Int → (Int × (List Int)) → (Int × (List Int)) → Option (Int) := fun a0 a1 (a2_0, a2_1) (a3_0, a3_1) =>
 Option.bind (loopF impl_MulGrades_1_l3 (a0, a1, (a2_0, a2_1), (a3_0, a3_1), (3 : Int), a2_0, (0 : Int), ())) fun (r0, _) =>
  some r0
noncomputable def A98 : FnA := ⟨[.v (.int .i64), .v (.int .i64), .cap (.pair (.int .i64) (.sl (.int .i64))), .cap (.pair (.int .i64) (.sl (.int .i64)))], true, [.int .i64], fun x => impl_MulGrades_1 x.1 x.2.1 x.2.2.1 x.2.2.2.1⟩
theorem impl_MulGrades_1_eq : fnF E98 L98_1 [.v (.int .i64), .v (.int .i64), .cap (.pair (.int .i64) (.sl (.int .i64))), .cap (.pair (.int .i64) (.sl (.int .i64)))] true [.int .i64] f98.ntmps f98.results.toList (codeOf f98) = fun x => impl_MulGrades_1 x.1 x.2.1 x.2.2.1 x.2.2.2.1 := by kernel_rfl
theorem A98_ok : FnOk prog 98 A98 := fo impl_MulGrades_1_eq func98 E98_ok (allCons (loop98_3 rfl) allNil)
/-! impl.MulGrades -/
noncomputable def E66 : Env := ⟨ty0, fun g => ifEq g 53 (some A53) (ifEq g 93 (some A93) (ifEq g 98 (some A98) (none))), fun _ => none, fun _ => none, fun _ => none⟩
theorem E66_ok : FnsOk prog E66 := (oF A53_ok func53 (oF A93_ok func93 (oF A98_ok func98 (noFns _ _))))
noncomputable def L66_0 : Nat → Option LoopD := fun _ => none
noncomputable def impl_MulGrades : (Int × (List Int)) → (Int × (List Int)) → Option ((Int × (List Int)) × Bool) := fun (a0_0, a0_1) (a1_0, a1_1) =>
 Option.bind (impl_GradesValid (a0_0, a0_1)) fun r0 =>
  bif (!r0) then
   some (((0 : Int), []), false)
  else
   Option.bind (impl_GradesValid (a1_0, a1_1)) fun r1 =>
    bif (!r1) then
     some (((0 : Int), []), false)
    else
     bif (a0_0 != a1_0) then
      some (((0 : Int), []), false)
     else
      Option.bind (impl_filled a0_0 (fun y2 => (impl_MulGrades_1 y2.1 y2.2.1 (a0_0, a0_1) (a1_0, a1_1)))) fun (r3, r4) =>
       some ((r3, (List.take (List.length r4) (List.drop 0 r4))), true)
noncomputable def A66 : FnA := ⟨[.v (.pair (.int .i64) (.sl (.int .i64))), .v (.pair (.int .i64) (.sl (.int .i64)))], true, [.pair (.int .i64) (.sl (.int .i64)), .bool], fun x => impl_MulGrades x.1 x.2.1⟩
theorem impl_MulGrades_eq : fnF E66 L66_0 [.v (.pair (.int .i64) (.sl (.int .i64))), .v (.pair (.int .i64) (.sl (.int .i64)))] true [.pair (.int .i64) (.sl (.int .i64)), .bool] f66.ntmps f66.results.toList (codeOf f66) = fun x => impl_MulGrades x.1 x.2.1 := by kernel_rfl
theorem A66_ok : FnOk prog 66 A66 := fo impl_MulGrades_eq func66 E66_ok allNil
/-! slices.Equal[[]int,int] -/
noncomputable def E124 : Env := ⟨ty0, fun _ => none, fun _ => none, fun _ => none, fun _ => none⟩
theorem E124_ok : FnsOk prog E124 := (noFns _ _)
noncomputable def L124_0 : Nat → Option LoopD := fun _ => none
def sh124_4 : List Fm := .cell (.val (.sl (.int .i64))) :: .cell (.val (.sl (.int .i64))) :: D 10 (.cell (.val (.int .i64)) :: .cell (.val (.int .i64)) :: D 12 [])
def xs124_4 : List (Ex × List Fm) := [(.ret, (D 4 (.cell (.val .bool) :: D 21 []))), (.exit 0, (D 26 []))]
noncomputable def slices_Equal_l4 : ((List Int) × (List Int) × Int × Int × Unit) → Option (((List Int) × (List Int) × Int × Int × Unit) ⊕ ((Bool × Unit) ⊕ (Unit))) := fun (v0, v1, v12, v13, _) =>
 bif (decide (v13 < v12)) then
  if (((0 : Int) ≤ v13) ∧ (v13 < (((List.length v0) : Nat) : Int))) then
   if (((0 : Int) ≤ v13) ∧ (v13 < (((List.length v1) : Nat) : Int))) then
    bif ((List.getD v0 (Int.toNat v13) (0 : Int)) != (List.getD v1 (Int.toNat v13) (0 : Int))) then
     some (Sum.inr (Sum.inl (false, ())))
    else
     some (Sum.inl (v0, v1, v12, (IntKind.wrap .i64 (v13 + (1 : Int))), ()))
   else
    none
  else
   none
 else
  some (Sum.inr (Sum.inr ()))
theorem slices_Equal_l4_eq : loopStep 26 E124 L124_0 (loopOf f124 4) sh124_4 xs124_4 = slices_Equal_l4 := by kernel_rfl
theorem loop124_4 {L} (h : L 4 = some ⟨26, sh124_4, xs124_4, slices_Equal_l4⟩) : LoopOk prog L (loopOf f124 4) := lo slices_Equal_l4_eq E124_ok allNil h
noncomputable def L124_1 : Nat → Option LoopD := fun n => ifEq n 4 (some ⟨26, sh124_4, xs124_4, slices_Equal_l4⟩) (L124_0 n)
noncomputable def slices_Equal : (List Int) → (List Int) → Option (Bool) := fun a0 a1 =>
 bif ((((List.length a0) : Nat) : Int) != (((List.length a1) : Nat) : Int)) then
  some false
 else
  Option.bind (loopF slices_Equal_l4 (a0, a1, (((List.length a0) : Nat) : Int), (0 : Int), ())) fun r0 =>
   (match r0 with
   | .inl (d1, _) =>
     some d1
   | .inr _ =>
     some true)
noncomputable def A124 : FnA := ⟨[.v (.sl (.int .i64)), .v (.sl (.int .i64))], true, [.bool], fun x => slices_Equal x.1 x.2.1⟩
theorem slices_Equal_eq : fnF E124 L124_1 [.v (.sl (.int .i64)), .v (.sl (.int .i64))] true [.bool] f124.ntmps f124.results.toList (codeOf f124) = fun x => slices_Equal x.1 x.2.1 := by kernel_rfl
theorem A124_ok : FnOk prog 124 A124 := fo slices_Equal_eq func124 E124_ok (allCons (loop124_4 rfl) allNil)
/-! impl.SameMatrix -/
noncomputable def E97 : Env := ⟨ty0, fun g => ifEq g 124 (some A124) (none), fun _ => none, fun _ => none, fun _ => none⟩
theorem E97_ok : FnsOk prog E97 := (oF A124_ok func124 (noFns _ _))
noncomputable def L97_0 : Nat → Option LoopD := fun _ => none
noncomputable def impl_SameMatrix : (Int × (List Int)) → (Int × (List Int)) → Option (Bool) := fun (a0_0, a0_1) (a1_0, a1_1) =>
 bif (a0_0 == a1_0) then
  Option.bind (slices_Equal a0_1 a1_1) fun r0 =>
   some r0
 else
  some false
noncomputable def A97 : FnA := ⟨[.v (.pair (.int .i64) (.sl (.int .i64))), .v (.pair (.int .i64) (.sl (.int .i64)))], true, [.bool], fun x => impl_SameMatrix x.1 x.2.1⟩
theorem impl_SameMatrix_eq : fnF E97 L97_0 [.v (.pair (.int .i64) (.sl (.int .i64))), .v (.pair (.int .i64) (.sl (.int .i64)))] true [.bool] f97.ntmps f97.results.toList (codeOf f97) = fun x => impl_SameMatrix x.1 x.2.1 := by kernel_rfl
theorem A97_ok : FnOk prog 97 A97 := fo impl_SameMatrix_eq func97 E97_ok allNil
/-! impl.IsIdempotent -/
noncomputable def E92 : Env := ⟨ty0, fun g => ifEq g 66 (some A66) (ifEq g 97 (some A97) (none)), fun _ => none, fun _ => none, fun _ => none⟩
theorem E92_ok : FnsOk prog E92 := (oF A66_ok func66 (oF A97_ok func97 (noFns _ _)))
noncomputable def L92_0 : Nat → Option LoopD := fun _ => none
noncomputable def impl_IsIdempotent : (Int × (List Int)) → Option (Bool) := fun (a0_0, a0_1) =>
 Option.bind (impl_MulGrades (a0_0, a0_1) (a0_0, a0_1)) fun ((r0, r1), r2) =>
  bif r2 then
   Option.bind (impl_SameMatrix (r0, (List.take (List.length r1) (List.drop 0 r1))) (a0_0, a0_1)) fun r3 =>
    some r3
  else
   some false
noncomputable def A92 : FnA := ⟨[.v (.pair (.int .i64) (.sl (.int .i64)))], true, [.bool], fun x => impl_IsIdempotent x.1⟩
theorem impl_IsIdempotent_eq : fnF E92 L92_0 [.v (.pair (.int .i64) (.sl (.int .i64)))] true [.bool] f92.ntmps f92.results.toList (codeOf f92) = fun x => impl_IsIdempotent x.1 := by kernel_rfl
theorem A92_ok : FnOk prog 92 A92 := fo impl_IsIdempotent_eq func92 E92_ok allNil
/-! impl.Stabilise$1 -/
noncomputable def E94 : Env := ⟨ty0, fun g => ifEq g 54 (some A54) (none), fun _ => none, fun _ => none, fun _ => none⟩
theorem E94_ok : FnsOk prog E94 := (oF A54_ok func54 (noFns _ _))
noncomputable def L94_0 : Nat → Option LoopD := fun _ => none
def sh94_3 : List Fm := .cell (.val (.int .i64)) :: .cell (.val (.int .i64)) :: .fp (.pair (.int .i64) (.sl (.int .i64))) :: d :: d :: d :: .cell (.val (.int .i64)) :: d :: d :: d :: .cell (.val (.int .i64)) :: .cell (.val (.int .i64)) :: D 22 []
def xs94_3 : List (Ex × List Fm) := [(.exit 0, (D 6 (.cell (.val (.int .i64)) :: D 27 [])))]
noncomputable def impl_Stabilise_1_l3 : (Int × Int × (Int × (List Int)) × Int × Int × Int × Unit) → Option ((Int × Int × (Int × (List Int)) × Int × Int × Int × Unit) ⊕ ((Int × Unit))) := fun (v0, v1, (v2_0, v2_1), v6, v10, v11, _) =>
 bif (decide (v11 < v10)) then
  Option.bind (impl_Matrix_at (v2_0, v2_1) v11 v11) fun r0 =>
   bif (r0 == (1 : Int)) then
    Option.bind (impl_Matrix_at (v2_0, v2_1) v0 v11) fun r1 =>
     Option.bind (impl_Matrix_at (v2_0, v2_1) v11 v1) fun r2 =>
      some (Sum.inl (v0, v1, (v2_0, v2_1), (if ((if (r2 > (if ((2 : Int) > r1) then (2 : Int) else r1)) then r2 else (if ((2 : Int) > r1) then (2 : Int) else r1)) < v6) then (if (r2 > (if ((2 : Int) > r1) then (2 : Int) else r1)) then r2 else (if ((2 : Int) > r1) then (2 : Int) else r1)) else v6), v10, (IntKind.wrap .i64 (v11 + (1 : Int))), ()))
   else
    Option.bind (impl_Matrix_at (v2_0, v2_1) v0 v11) fun r3 =>
     Option.bind (impl_Matrix_at (v2_0, v2_1) v11 v1) fun r4 =>
      some (Sum.inl (v0, v1, (v2_0, v2_1), (if ((if (r4 > (if (r0 > r3) then r0 else r3)) then r4 else (if (r0 > r3) then r0 else r3)) < v6) then (if (r4 > (if (r0 > r3) then r0 else r3)) then r4 else (if (r0 > r3) then r0 else r3)) else v6), v10, (IntKind.wrap .i64 (v11 + (1 : Int))), ()))
 else
  some (Sum.inr (v6, ()))
theorem impl_Stabilise_1_l3_eq : loopStep 34 E94 L94_0 (loopOf f94 3) sh94_3 xs94_3 = impl_Stabilise_1_l3 := by kernel_rfl
theorem loop94_3 {L} (h : L 3 = some ⟨34, sh94_3, xs94_3, impl_Stabilise_1_l3⟩) : LoopOk prog L (loopOf f94 3) := lo impl_Stabilise_1_l3_eq E94_ok allNil h
noncomputable def L94_1 : Nat → Option LoopD := fun n => ifEq n 3 (some ⟨34, sh94_3, xs94_3, impl_Stabilise_1_l3⟩) (L94_0 n)
noncomputable def impl_Stabilise_1 : Int → Int → (Int × (List Int)) → Option (Int) := fun a0 a1 (a2_0, a2_1) =>
 Option.bind (loopF impl_Stabilise_1_l3 (a0, a1, (a2_0, a2_1), (3 : Int), a2_0, (0 : Int), ())) fun (r0, _) =>
  some r0
noncomputable def A94 : FnA := ⟨[.v (.int .i64), .v (.int .i64), .cap (.pair (.int .i64) (.sl (.int .i64)))], true, [.int .i64], fun x => impl_Stabilise_1 x.1 x.2.1 x.2.2.1⟩
theorem impl_Stabilise_1_eq : fnF E94 L94_1 [.v (.int .i64), .v (.int .i64), .cap (.pair (.int .i64) (.sl (.int .i64)))] true [.int .i64] f94.ntmps f94.results.toList (codeOf f94) = fun x => impl_Stabilise_1 x.1 x.2.1 x.2.2.1 := by kernel_rfl
theorem A94_ok : FnOk prog 94 A94 := fo impl_Stabilise_1_eq func94 E94_ok (allCons (loop94_3 rfl) allNil)
/-! impl.Stabilise -/
noncomputable def E64 : Env := ⟨ty0, fun g => ifEq g 92 (some A92) (ifEq g 93 (some A93) (ifEq g 94 (some A94) (none))), fun _ => none, fun _ => none, fun _ => none⟩
theorem E64_ok : FnsOk prog E64 := (oF A92_ok func92 (oF A93_ok func93 (oF A94_ok func94 (noFns _ _))))
noncomputable def L64_0 : Nat → Option LoopD := fun _ => none
noncomputable def impl_Stabilise : (Int × (List Int)) → Option ((Int × (List Int)) × Bool) := fun (a0_0, a0_1) =>
 Option.bind (impl_IsIdempotent (a0_0, a0_1)) fun r0 =>
  bif (!r0) then
   some (((0 : Int), []), false)
  else
   Option.bind (impl_filled a0_0 (fun y1 => (impl_Stabilise_1 y1.1 y1.2.1 (a0_0, a0_1)))) fun (r2, r3) =>
    some ((r2, (List.take (List.length r3) (List.drop 0 r3))), true)
noncomputable def A64 : FnA := ⟨[.v (.pair (.int .i64) (.sl (.int .i64)))], true, [.pair (.int .i64) (.sl (.int .i64)), .bool], fun x => impl_Stabilise x.1⟩
theorem impl_Stabilise_eq : fnF E64 L64_0 [.v (.pair (.int .i64) (.sl (.int .i64)))] true [.pair (.int .i64) (.sl (.int .i64)), .bool] f64.ntmps f64.results.toList (codeOf f64) = fun x => impl_Stabilise x.1 := by kernel_rfl
theorem A64_ok : FnOk prog 64 A64 := fo impl_Stabilise_eq func64 E64_ok allNil
/-! impl.value -/
noncomputable def R67 (impl_value_rec : (Int × ((List Int) × ((List Int) × (List (Int × (ByteArray × (Int × Int))))))) → (List (ByteArray × PT)) → Option ((Int × (List Int)) × Bool)) : FnA := ⟨[.v (.pair (.int .i64) (.pair (.sl (.int .i64)) (.pair (.sl (.int .i64)) (.sl (.pair (.int .i64) (.pair .str (.pair (.int .i64) (.int .i64)))))))), .v (.sl (.pair .str .pt))], true, [.pair (.int .i64) (.sl (.int .i64)), .bool], fun x => impl_value_rec x.1 x.2.1⟩
noncomputable def E67 (impl_value_rec : (Int × ((List Int) × ((List Int) × (List (Int × (ByteArray × (Int × Int))))))) → (List (ByteArray × PT)) → Option ((Int × (List Int)) × Bool)) : Env := ⟨ty0, fun g => ifEq g 99 (some A99) (ifEq g 100 (some A100) (ifEq g 67 (some (R67 impl_value_rec)) (ifEq g 64 (some A64) (ifEq g 66 (some A66) (none))))), fun _ => none, fun _ => none, fun _ => none⟩
theorem E67_ok (impl_value_rec : (Int × ((List Int) × ((List Int) × (List (Int × (ByteArray × (Int × Int))))))) → (List (ByteArray × PT)) → Option ((Int × (List Int)) × Bool)) (hrec : FnOk prog 67 (R67 impl_value_rec)) : FnsOk prog (E67 impl_value_rec) := (oF A99_ok func99 (oF A100_ok func100 (oF hrec func67 (oF A64_ok func64 (oF A66_ok func66 (noFns _ _))))))
noncomputable def L67_0 (impl_value_rec : (Int × ((List Int) × ((List Int) × (List (Int × (ByteArray × (Int × Int))))))) → (List (ByteArray × PT)) → Option ((Int × (List Int)) × Bool)) : Nat → Option LoopD := fun _ => none
def sh67_3 : List Fm := d :: d :: .box 100200 [.val (.int .i64), .val (.sl (.int .i64)), .val (.sl (.int .i64)), .val (.sl (.pair (.int .i64) (.pair .str (.pair (.int .i64) (.int .i64)))))] :: d :: .box 100400 [.val (.int .i64), .own (.int .i64) 100402 false] :: d :: .box 100600 [.val (.int .i64), .own (.int .i64) 100602 false] :: D 6 (.cell (.val (.sl (.pair .str .pt))) :: .cell (.val (.int .i64)) :: .cell (.val (.int .i64)) :: D 46 [])
def xs67_3 : List (Ex × List Fm) := [(.ret, [d, d, d, d, .box 100400 [.val (.int .i64), .own (.int .i64) 100402 false], .cell (.val .bool), d, d, d, d, d, d, d, d, d, d, d, d, d, d, d, d, d, d, d, d, d, d, d, d, d, d, d, d, d, d, d, d, d, d, d, d, d, d, d, d, d, d, d, d, d, d, d, d, d, d, d, d, d, d, d, d]), (.exit 0, [d, d, d, d, .box 100400 [.val (.int .i64), .own (.int .i64) 100402 false], d, .box 100600 [.val (.int .i64), .own (.int .i64) 100602 false], d, d, d, d, d, d, d, d, d, d, d, d, d, d, d, d, d, d, d, d, d, d, d, d, d, d, d, d, d, d, d, d, d, d, d, d, d, d, d, d, d, d, d, d, d, d, d, d, d, d, d, d, d, d, d])]
noncomputable def impl_value_l3 (impl_value_rec : (Int × ((List Int) × ((List Int) × (List (Int × (ByteArray × (Int × Int))))))) → (List (ByteArray × PT)) → Option ((Int × (List Int)) × Bool)) : ((Int × (List Int) × (List Int) × (List (Int × (ByteArray × (Int × Int)))) × Unit) × (Int × (List Int) × Unit) × (Int × (List Int) × Unit) × (List (ByteArray × PT)) × Int × Int × Unit) → Option (((Int × (List Int) × (List Int) × (List (Int × (ByteArray × (Int × Int)))) × Unit) × (Int × (List Int) × Unit) × (Int × (List Int) × Unit) × (List (ByteArray × PT)) × Int × Int × Unit) ⊕ (((Int × (List Int) × Unit) × Bool × Unit) ⊕ ((Int × (List Int) × Unit) × (Int × (List Int) × Unit) × Unit))) := fun ((v2_0, v2_1, v2_2, v2_3, _), (v4_0, v4_1, _), (v6_0, v6_1, _), v13, v14, v15, _) =>
 bif (decide (v15 < v14)) then
  if (((0 : Int) ≤ v15) ∧ (v15 < (((List.length v13) : Nat) : Int))) then
   bif (!((ByteArray.toList (List.getD v13 (Int.toNat v15) ((⟨Array.empty⟩ : ByteArray), (PT.mk []))).1) == (ByteArray.toList (⟨#[]⟩ : ByteArray)))) then
    Option.bind (impl_StepMatrix (v2_0, v2_1, v2_2, v2_3) (List.getD v13 (Int.toNat v15) ((⟨Array.empty⟩ : ByteArray), (PT.mk []))).1) fun ((r0, r1), r2) =>
     Option.bind (impl_GradesOf (r0, (List.take (List.length r1) (List.drop 0 r1)))) fun ((r3, r4), r5) =>
      bif (decide (v15 > (0 : Int))) then
       Option.bind (impl_MulGrades (v6_0, (List.take (List.length v6_1) (List.drop 0 v6_1))) (r3, (List.take (List.length r4) (List.drop 0 r4)))) fun ((r6, r7), r8) =>
        some (Sum.inl ((v2_0, v2_1, v2_2, v2_3, ()), (v4_0, (List.take (List.length v4_1) (List.drop 0 v4_1)), ()), (r6, (List.take (List.length r7) (List.drop 0 r7)), ()), v13, v14, (IntKind.wrap .i64 (v15 + (1 : Int))), ()))
      else
       some (Sum.inl ((v2_0, v2_1, v2_2, v2_3, ()), (v4_0, (List.take (List.length v4_1) (List.drop 0 v4_1)), ()), (r3, (List.take (List.length r4) (List.drop 0 r4)), ()), v13, v14, (IntKind.wrap .i64 (v15 + (1 : Int))), ()))
   else
    Option.bind (impl_value_rec (v2_0, v2_1, v2_2, v2_3) (PT.l (List.getD v13 (Int.toNat v15) ((⟨Array.empty⟩ : ByteArray), (PT.mk []))).2)) fun ((r9, r10), r11) =>
     bif r11 then
      Option.bind (impl_Stabilise (r9, (List.take (List.length r10) (List.drop 0 r10)))) fun ((r12, r13), r14) =>
       bif (!r14) then
        some (Sum.inr (Sum.inl (((0 : Int), [], ()), false, ())))
       else
        bif (decide (v15 > (0 : Int))) then
         Option.bind (impl_MulGrades (v6_0, (List.take (List.length v6_1) (List.drop 0 v6_1))) (r12, (List.take (List.length r13) (List.drop 0 r13)))) fun ((r15, r16), r17) =>
          some (Sum.inl ((v2_0, v2_1, v2_2, v2_3, ()), (v4_0, (List.take (List.length v4_1) (List.drop 0 v4_1)), ()), (r15, (List.take (List.length r16) (List.drop 0 r16)), ()), v13, v14, (IntKind.wrap .i64 (v15 + (1 : Int))), ()))
        else
         some (Sum.inl ((v2_0, v2_1, v2_2, v2_3, ()), (v4_0, (List.take (List.length v4_1) (List.drop 0 v4_1)), ()), (r12, (List.take (List.length r13) (List.drop 0 r13)), ()), v13, v14, (IntKind.wrap .i64 (v15 + (1 : Int))), ()))
     else
      bif (!r11) then
       some (Sum.inr (Sum.inl (((0 : Int), [], ()), false, ())))
      else
       bif (decide (v15 > (0 : Int))) then
        Option.bind (impl_MulGrades (v6_0, (List.take (List.length v6_1) (List.drop 0 v6_1))) (r9, (List.take (List.length r10) (List.drop 0 r10)))) fun ((r18, r19), r20) =>
         some (Sum.inl ((v2_0, v2_1, v2_2, v2_3, ()), (v4_0, (List.take (List.length v4_1) (List.drop 0 v4_1)), ()), (r18, (List.take (List.length r19) (List.drop 0 r19)), ()), v13, v14, (IntKind.wrap .i64 (v15 + (1 : Int))), ()))
       else
        some (Sum.inl ((v2_0, v2_1, v2_2, v2_3, ()), (v4_0, (List.take (List.length v4_1) (List.drop 0 v4_1)), ()), (r9, (List.take (List.length r10) (List.drop 0 r10)), ()), v13, v14, (IntKind.wrap .i64 (v15 + (1 : Int))), ()))
  else
   none
 else
  some (Sum.inr (Sum.inr ((v4_0, (List.take (List.length v4_1) (List.drop 0 v4_1)), ()), (v6_0, (List.take (List.length v6_1) (List.drop 0 v6_1)), ()), ())))
theorem impl_value_l3_eq (impl_value_rec : (Int × ((List Int) × ((List Int) × (List (Int × (ByteArray × (Int × Int))))))) → (List (ByteArray × PT)) → Option ((Int × (List Int)) × Bool)) : loopStep 62 (E67 impl_value_rec) (L67_0 impl_value_rec) (loopOf f67 3) sh67_3 xs67_3 = (impl_value_l3 impl_value_rec) := by kernel_rfl
theorem loop67_3 (impl_value_rec : (Int × ((List Int) × ((List Int) × (List (Int × (ByteArray × (Int × Int))))))) → (List (ByteArray × PT)) → Option ((Int × (List Int)) × Bool)) (hrec : FnOk prog 67 (R67 impl_value_rec)) {L : Nat → Option LoopD} (h : L 3 = some ⟨62, sh67_3, xs67_3, (impl_value_l3 impl_value_rec)⟩) : LoopOk prog L (loopOf f67 3) :=
 loopOk (tysOk_of tyl_ok) (E67_ok impl_value_rec hrec) (codeOk_in (L := (L67_0 impl_value_rec)) (tysOk_of tyl_ok) (E67_ok impl_value_rec hrec) mixed (c := loopOf f67 3) (bs := []) (by kernel_rfl) allNil (by kernel_rfl)) (by kernel_rfl) (by kernel_rfl) (impl_value_l3_eq impl_value_rec) (by rw [show firstId (loopOf f67 3) = 3 from by kernel_rfl]; exact h)
noncomputable def L67_1 (impl_value_rec : (Int × ((List Int) × ((List Int) × (List (Int × (ByteArray × (Int × Int))))))) → (List (ByteArray × PT)) → Option ((Int × (List Int)) × Bool)) : Nat → Option LoopD := fun n => ifEq n 3 (some ⟨62, sh67_3, xs67_3, (impl_value_l3 impl_value_rec)⟩) ((L67_0 impl_value_rec) n)
noncomputable def impl_value_step (impl_value_rec : (Int × ((List Int) × ((List Int) × (List (Int × (ByteArray × (Int × Int))))))) → (List (ByteArray × PT)) → Option ((Int × (List Int)) × Bool)) : (Int × ((List Int) × ((List Int) × (List (Int × (ByteArray × (Int × Int))))))) → (List (ByteArray × PT)) → Option ((Int × (List Int)) × Bool) := fun (a0_0, a0_1, a0_2, a0_3) a1 =>
 Option.bind (loopF (impl_value_l3 impl_value_rec) ((a0_0, a0_1, a0_2, a0_3, ()), ((0 : Int), [], ()), ((0 : Int), [], ()), a1, (((List.length a1) : Nat) : Int), (0 : Int), ())) fun r0 =>
  (match r0 with
  | .inl ((d1, d2, _), d3, _) =>
    some ((d1, (List.take (List.length d2) (List.drop 0 d2))), d3)
  | .inr ((d4, d5, _), (d6, d7, _), _) =>
    some ((d6, (List.take (List.length d7) (List.drop 0 d7))), true))
theorem impl_value_step_eq (impl_value_rec : (Int × ((List Int) × ((List Int) × (List (Int × (ByteArray × (Int × Int))))))) → (List (ByteArray × PT)) → Option ((Int × (List Int)) × Bool)) : fnF (E67 impl_value_rec) (L67_1 impl_value_rec) [.v (.pair (.int .i64) (.pair (.sl (.int .i64)) (.pair (.sl (.int .i64)) (.sl (.pair (.int .i64) (.pair .str (.pair (.int .i64) (.int .i64)))))))), .v (.sl (.pair .str .pt))] true [.pair (.int .i64) (.sl (.int .i64)), .bool] f67.ntmps f67.results.toList (codeOf f67) = fun x => (impl_value_step impl_value_rec) x.1 x.2.1 := by kernel_rfl
theorem impl_value_step_ok (impl_value_rec : (Int × ((List Int) × ((List Int) × (List (Int × (ByteArray × (Int × Int))))))) → (List (ByteArray × PT)) → Option ((Int × (List Int)) × Bool)) (hrec : FnOk prog 67 (R67 impl_value_rec)) : FnOk prog 67 ⟨[.v (.pair (.int .i64) (.pair (.sl (.int .i64)) (.pair (.sl (.int .i64)) (.sl (.pair (.int .i64) (.pair .str (.pair (.int .i64) (.int .i64)))))))), .v (.sl (.pair .str .pt))], true, [.pair (.int .i64) (.sl (.int .i64)), .bool], fun x => (impl_value_step impl_value_rec) x.1 x.2.1⟩ := by
 have h := fnOk_of_run (P := prog) (E := (E67 impl_value_rec)) (tysOk_of tyl_ok) (E67_ok impl_value_rec hrec) (L := (L67_1 impl_value_rec)) (ps := [.v (.pair (.int .i64) (.pair (.sl (.int .i64)) (.pair (.sl (.int .i64)) (.sl (.pair (.int .i64) (.pair .str (.pair (.int .i64) (.int .i64)))))))), .v (.sl (.pair .str .pt))]) (own := true) (outs := [.pair (.int .i64) (.sl (.int .i64)), .bool]) func67 (c := codeOf f67) (by kernel_rfl) (codeOk_in (L := (L67_1 impl_value_rec)) (tysOk_of tyl_ok) (E67_ok impl_value_rec hrec) mixed (c := codeOf f67) (bs := [loopOf f67 3]) (by kernel_rfl) (allCons (loop67_3 impl_value_rec hrec rfl) allNil) (by kernel_rfl))
 rw [(impl_value_step_eq impl_value_rec)] at h
 exact h
/-- so many calls within each other -/
noncomputable def impl_value_fuel : Nat → (Int × ((List Int) × ((List Int) × (List (Int × (ByteArray × (Int × Int))))))) → (List (ByteArray × PT)) → Option ((Int × (List Int)) × Bool)
 | 0 => fun _ _ => none
 | n + 1 => impl_value_step (impl_value_fuel n)
theorem impl_value_fuel_ok : ∀ n, FnOk prog 67 (R67 (impl_value_fuel n))
 | 0 => fun xs r h => by cases h
 | n + 1 => impl_value_step_ok (impl_value_fuel n) (impl_value_fuel_ok n)
noncomputable def impl_value : (Int × ((List Int) × ((List Int) × (List (Int × (ByteArray × (Int × Int))))))) → (List (ByteArray × PT)) → Option ((Int × (List Int)) × Bool) := impl_value_fuel 200
noncomputable def A67 : FnA := R67 impl_value
theorem A67_ok : FnOk prog 67 A67 := impl_value_fuel_ok 200
/-! impl.ValueOf -/
noncomputable def E42 : Env := ⟨ty0, fun g => ifEq g 37 (some A37) (ifEq g 34 (some A34) (ifEq g 67 (some A67) (none))), fun _ => none, fun _ => none, fun _ => none⟩
theorem E42_ok : FnsOk prog E42 := (oF A37_ok func37 (oF A34_ok func34 (oF A67_ok func67 (noFns _ _))))
noncomputable def L42_0 : Nat → Option LoopD := fun _ => none
noncomputable def impl_ValueOf : (Int × ((List Int) × ((List Int) × (List (Int × (ByteArray × (Int × Int))))))) → ByteArray → Option ((Int × (List Int)) × Bool) := fun (a0_0, a0_1, a0_2, a0_3) a1 =>
 Option.bind (impl_parts a1) fun (r0, r1) =>
  bif (!r1) then
   some (((0 : Int), []), false)
  else
   Option.bind (impl_AutomatonValid (a0_0, a0_1, a0_2, a0_3)) fun r2 =>
    bif (!r2) then
     some (((0 : Int), []), false)
    else
     Option.bind (impl_value (a0_0, a0_1, a0_2, a0_3) (List.take (List.length r0) (List.drop 0 r0))) fun ((r3, r4), r5) =>
      some ((r3, (List.take (List.length r4) (List.drop 0 r4))), r5)
noncomputable def A42 : FnA := ⟨[.v (.pair (.int .i64) (.pair (.sl (.int .i64)) (.pair (.sl (.int .i64)) (.sl (.pair (.int .i64) (.pair .str (.pair (.int .i64) (.int .i64)))))))), .v .str], true, [.pair (.int .i64) (.sl (.int .i64)), .bool], fun x => impl_ValueOf x.1 x.2.1⟩
theorem impl_ValueOf_eq : fnF E42 L42_0 [.v (.pair (.int .i64) (.pair (.sl (.int .i64)) (.pair (.sl (.int .i64)) (.sl (.pair (.int .i64) (.pair .str (.pair (.int .i64) (.int .i64)))))))), .v .str] true [.pair (.int .i64) (.sl (.int .i64)), .bool] f42.ntmps f42.results.toList (codeOf f42) = fun x => impl_ValueOf x.1 x.2.1 := by kernel_rfl
theorem A42_ok : FnOk prog 42 A42 := fo impl_ValueOf_eq func42 E42_ok allNil
/-! slices.IndexFunc[[]impl.Element,impl.Element] -/
noncomputable def E123 : Env := ⟨ty0, fun _ => none, fun _ => none, fun _ => none, fun _ => none⟩
theorem E123_ok : FnsOk prog E123 := (noFns _ _)
noncomputable def L123_0 : Nat → Option LoopD := fun _ => none
def sh123_2 : List Fm := .cell (.val (.sl (.pair (.pair (.int .i64) (.sl (.int .i64))) .str))) :: .clo [.pair (.pair (.int .i64) (.sl (.int .i64))) .str] .bool :: D 5 (.cell (.val (.int .i64)) :: .cell (.val (.int .i64)) :: D 10 [])
def xs123_2 : List (Ex × List Fm) := [(.ret, (D 4 (.cell (.val (.int .i64)) :: D 14 []))), (.exit 0, (D 19 []))]
noncomputable def slices_IndexFunc_Element_l2 : ((List ((Int × (List Int)) × ByteArray)) × ((((Int × (List Int)) × ByteArray) × Unit) → Option (Bool)) × Int × Int × Unit) → Option (((List ((Int × (List Int)) × ByteArray)) × ((((Int × (List Int)) × ByteArray) × Unit) → Option (Bool)) × Int × Int × Unit) ⊕ ((Int × Unit) ⊕ (Unit))) := fun (v0, v1, v7, v8, _) =>
 bif (decide (v8 < v7)) then
  if (((0 : Int) ≤ v8) ∧ (v8 < (((List.length v0) : Nat) : Int))) then
   Option.bind (v1 ((List.getD v0 (Int.toNat v8) (((0 : Int), []), (⟨Array.empty⟩ : ByteArray))), ())) fun r0 =>
    bif r0 then
     some (Sum.inr (Sum.inl (v8, ())))
    else
     some (Sum.inl (v0, v1, v7, (IntKind.wrap .i64 (v8 + (1 : Int))), ()))
  else
   none
 else
  some (Sum.inr (Sum.inr ()))
theorem slices_IndexFunc_Element_l2_eq : loopStep 19 E123 L123_0 (loopOf f123 2) sh123_2 xs123_2 = slices_IndexFunc_Element_l2 := by kernel_rfl
theorem loop123_2 {L} (h : L 2 = some ⟨19, sh123_2, xs123_2, slices_IndexFunc_Element_l2⟩) : LoopOk prog L (loopOf f123 2) := lo slices_IndexFunc_Element_l2_eq E123_ok allNil h
noncomputable def L123_1 : Nat → Option LoopD := fun n => ifEq n 2 (some ⟨19, sh123_2, xs123_2, slices_IndexFunc_Element_l2⟩) (L123_0 n)
noncomputable def slices_IndexFunc_Element : (List ((Int × (List Int)) × ByteArray)) → ((((Int × (List Int)) × ByteArray) × Unit) → Option (Bool)) → Option (Int) := fun a0 a1 =>
 Option.bind (loopF slices_IndexFunc_Element_l2 (a0, a1, (((List.length a0) : Nat) : Int), (0 : Int), ())) fun r0 =>
  (match r0 with
  | .inl (d1, _) =>
    some d1
  | .inr _ =>
    some (-1 : Int))
noncomputable def A123 : FnA := ⟨[.v (.sl (.pair (.pair (.int .i64) (.sl (.int .i64))) .str)), .clo [.pair (.pair (.int .i64) (.sl (.int .i64))) .str] .bool], true, [.int .i64], fun x => slices_IndexFunc_Element x.1 x.2.1⟩
theorem slices_IndexFunc_Element_eq : fnF E123 L123_1 [.v (.sl (.pair (.pair (.int .i64) (.sl (.int .i64))) .str)), .clo [.pair (.pair (.int .i64) (.sl (.int .i64))) .str] .bool] true [.int .i64] f123.ntmps f123.results.toList (codeOf f123) = fun x => slices_IndexFunc_Element x.1 x.2.1 := by kernel_rfl
theorem A123_ok : FnOk prog 123 A123 := fo slices_IndexFunc_Element_eq func123 E123_ok (allCons (loop123_2 rfl) allNil)
/-! slices.ContainsFunc[[]impl.Element,impl.Element] -/
noncomputable def E95 : Env := ⟨ty0, fun g => ifEq g 123 (some A123) (none), fun _ => none, fun _ => none, fun _ => none⟩
theorem E95_ok : FnsOk prog E95 := (oF A123_ok func123 (noFns _ _))
noncomputable def L95_0 : Nat → Option LoopD := fun _ => none
noncomputable def slices_ContainsFunc_Element : (List ((Int × (List Int)) × ByteArray)) → ((((Int × (List Int)) × ByteArray) × Unit) → Option (Bool)) → Option (Bool) := fun a0 a1 =>
 Option.bind (slices_IndexFunc_Element a0 a1) fun r0 =>
  some (decide (r0 ≥ (0 : Int)))
noncomputable def A95 : FnA := ⟨[.v (.sl (.pair (.pair (.int .i64) (.sl (.int .i64))) .str)), .clo [.pair (.pair (.int .i64) (.sl (.int .i64))) .str] .bool], true, [.bool], fun x => slices_ContainsFunc_Element x.1 x.2.1⟩
theorem slices_ContainsFunc_Element_eq : fnF E95 L95_0 [.v (.sl (.pair (.pair (.int .i64) (.sl (.int .i64))) .str)), .clo [.pair (.pair (.int .i64) (.sl (.int .i64))) .str] .bool] true [.bool] f95.ntmps f95.results.toList (codeOf f95) = fun x => slices_ContainsFunc_Element x.1 x.2.1 := by kernel_rfl
theorem A95_ok : FnOk prog 95 A95 := fo slices_ContainsFunc_Element_eq func95 E95_ok allNil
/-! (*impl.found).put$1 -/
noncomputable def E96 : Env := ⟨ty0, fun g => ifEq g 97 (some A97) (none), fun _ => none, fun _ => none, fun _ => none⟩
theorem E96_ok : FnsOk prog E96 := (oF A97_ok func97 (noFns _ _))
noncomputable def L96_0 : Nat → Option LoopD := fun _ => none
noncomputable def impl_found_put_1 : ((Int × (List Int)) × ByteArray) → (Int × (List Int)) → Option (Bool) := fun ((a0_0, a0_1), a0_2) (a1_0, a1_1) =>
 Option.bind (impl_SameMatrix (a0_0, a0_1) (a1_0, a1_1)) fun r0 =>
  some r0
noncomputable def A96 : FnA := ⟨[.v (.pair (.pair (.int .i64) (.sl (.int .i64))) .str), .cap (.pair (.int .i64) (.sl (.int .i64)))], true, [.bool], fun x => impl_found_put_1 x.1 x.2.1⟩
theorem impl_found_put_1_eq : fnF E96 L96_0 [.v (.pair (.pair (.int .i64) (.sl (.int .i64))) .str), .cap (.pair (.int .i64) (.sl (.int .i64)))] true [.bool] f96.ntmps f96.results.toList (codeOf f96) = fun x => impl_found_put_1 x.1 x.2.1 := by kernel_rfl
theorem A96_ok : FnOk prog 96 A96 := fo impl_found_put_1_eq func96 E96_ok allNil
/-! impl.ElementsOf -/
noncomputable def E41_at5_at32 : Env := ⟨ty0, fun g => ifEq g 34 (some A34) (ifEq g 42 (some A42) (ifEq g 95 (some A95) (ifEq g 96 (some A96) (ifEq g 64 (some A64) (ifEq g 66 (some A66) (none)))))), fun _ => none, fun _ => none, fun _ => none⟩
theorem E41_at5_at32_ok : FnsOk prog E41_at5_at32 := (oF A34_ok func34 (oF A42_ok func42 (oF A95_ok func95 (oF A96_ok func96 (oF A64_ok func64 (oF A66_ok func66 (noFns _ _)))))))
noncomputable def L41_at5_at32_0 : Nat → Option LoopD := fun _ => none
def shi41_at5_at32 : List Fm := .box 100000 [.own (.pair (.pair (.int .i64) (.sl (.int .i64))) .str) 100001 false, .val .bool] :: .agg [.val (.int .i64), .own (.int .i64) 100102 false] :: .cell (.val .str) :: D 36 (.fnv 63 [] :: .box 104000 [.val (.int .i64), .val (.sl (.int .i64)), .val (.sl (.int .i64)), .val (.sl (.pair (.int .i64) (.pair .str (.pair (.int .i64) (.int .i64)))))] :: d :: d :: d :: .ali 100000 0 :: D 10 (.cell (.own .str 105500 false) :: .cell (.val (.int .i64)) :: .cell (.val (.int .i64)) :: D 50 []))
def sho41_at5_at32 : List Fm := d :: .fnv 63 [] :: .box 100200 [.val (.int .i64), .val (.sl (.int .i64)), .val (.sl (.int .i64)), .val (.sl (.pair (.int .i64) (.pair .str (.pair (.int .i64) (.int .i64)))))] :: d :: d :: d :: .box 100600 [.own (.pair (.pair (.int .i64) (.sl (.int .i64))) .str) 100601 false, .val .bool] :: D 10 (.cell (.own .str 101700 false) :: .cell (.val (.int .i64)) :: .cell (.val (.int .i64)) :: D 50 [])
noncomputable def impl_ElementsOf_at5_at32 : (((List ((Int × (List Int)) × ByteArray)) × Bool × Unit) × (Int × (List Int) × Unit) × ByteArray × (Int × (List Int) × (List Int) × (List (Int × (ByteArray × (Int × Int)))) × Unit) × (List ByteArray) × Int × Int × Unit) → Option ((Int × (List Int) × (List Int) × (List (Int × (ByteArray × (Int × Int)))) × Unit) × ((List ((Int × (List Int)) × ByteArray)) × Bool × Unit) × (List ByteArray) × Int × Int × Unit) := fun ((v0_0, v0_1, _), (v1_0, v1_1, _), v2, (v40_0, v40_1, v40_2, v40_3, _), v55, v56, v57, _) =>
 Option.bind (slices_ContainsFunc_Element (List.take (List.length v0_0) (List.drop 0 v0_0)) (fun y0 => (impl_found_put_1 y0.1 (v1_0, (List.take (List.length v1_1) (List.drop 0 v1_1)))))) fun r1 =>
  bif r1 then
   some ((v40_0, v40_1, v40_2, v40_3, ()), ((List.take (List.length v0_0) (List.drop 0 v0_0)), v0_1, ()), (List.take (List.length v55) (List.drop 0 v55)), v56, v57, ())
  else
   bif (decide ((((List.length v0_0) : Nat) : Int) ≥ (120 : Int))) then
    some ((v40_0, v40_1, v40_2, v40_3, ()), ((List.take (List.length v0_0) (List.drop 0 v0_0)), false, ()), (List.take (List.length v55) (List.drop 0 v55)), v56, v57, ())
   else
    bif (decide ((((ByteArray.size v2) : Nat) : Int) > (120 : Int))) then
     some ((v40_0, v40_1, v40_2, v40_3, ()), ((List.take (List.length v0_0) (List.drop 0 v0_0)), false, ()), (List.take (List.length v55) (List.drop 0 v55)), v56, v57, ())
    else
     if (((0 + (List.length v0_0)) = (List.length v0_0)) ∧ ((((List.length v0_0) + (List.length (List.take 1 (List.drop 0 [((v1_0, (List.take (List.length v1_1) (List.drop 0 v1_1))), v2)])))) * 48) ≤ 140737488355328)) then
      some ((v40_0, v40_1, v40_2, v40_3, ()), ((List.take ((List.length v0_0) + (List.length (List.take 1 (List.drop 0 [((v1_0, (List.take (List.length v1_1) (List.drop 0 v1_1))), v2)])))) (List.drop 0 ((List.drop 0 v0_0) ++ (List.take 1 (List.drop 0 [((v1_0, (List.take (List.length v1_1) (List.drop 0 v1_1))), v2)]))))), v0_1, ()), (List.take (List.length v55) (List.drop 0 v55)), v56, v57, ())
     else
      none
theorem impl_ElementsOf_at5_at32_eq : inlStep f65.ntmps 62 32 E41_at5_at32 L41_at5_at32_0 f65.results.toList (codeOf f65) shi41_at5_at32 sho41_at5_at32 = impl_ElementsOf_at5_at32 := by kernel_rfl
noncomputable def I41_at5_at32 : CallD := ⟨f65.ntmps, shi41_at5_at32, 62, sho41_at5_at32, impl_ElementsOf_at5_at32, 0⟩
theorem I41_at5_at32_ok : InlOk prog 32 65 I41_at5_at32 := inlOk_of (tysOk_of tyl_ok) E41_at5_at32_ok (L := L41_at5_at32_0) func65 (by kernel_rfl) (c := codeOf f65) (by kernel_rfl) (codeOk_in (L := L41_at5_at32_0) (tysOk_of tyl_ok) E41_at5_at32_ok mixed (c := codeOf f65) (bs := []) (by kernel_rfl) allNil (by kernel_rfl)) (by kernel_rfl) (by kernel_rfl) impl_ElementsOf_at5_at32_eq
noncomputable def E41_at5_at52_at31 : Env := ⟨ty0, fun g => ifEq g 34 (some A34) (ifEq g 42 (some A42) (ifEq g 95 (some A95) (ifEq g 96 (some A96) (ifEq g 64 (some A64) (ifEq g 66 (some A66) (none)))))), fun _ => none, fun _ => none, fun _ => none⟩
theorem E41_at5_at52_at31_ok : FnsOk prog E41_at5_at52_at31 := (oF A34_ok func34 (oF A42_ok func42 (oF A95_ok func95 (oF A96_ok func96 (oF A64_ok func64 (oF A66_ok func66 (noFns _ _)))))))
noncomputable def L41_at5_at52_at31_0 : Nat → Option LoopD := fun _ => none
def shi41_at5_at52_at31 : List Fm := .box 100000 [.own (.pair (.pair (.int .i64) (.sl (.int .i64))) .str) 100001 false, .val .bool] :: .agg [.val (.int .i64), .own (.int .i64) 100102 false] :: .cell (.val .str) :: D 35 (.ali 100000 0 :: .cell (.val (.int .i64)) :: d :: d :: .box 104200 [.val (.int .i64), .val (.sl (.int .i64)), .val .str] :: D 78 (.fnv 63 [] :: D 4 (.ali 100000 0 :: D 4 (.cell (.val (.int .i64)) :: D 58 []))))
def sho41_at5_at52_at31 : List Fm := .box 100000 [.own (.pair (.pair (.int .i64) (.sl (.int .i64))) .str) 100001 false, .val .bool] :: .cell (.val (.int .i64)) :: d :: d :: .box 100400 [.val (.int .i64), .val (.sl (.int .i64)), .val .str] :: D 78 (.fnv 63 [] :: D 4 (.ali 100000 0 :: D 4 (.cell (.val (.int .i64)) :: D 58 [])))
noncomputable def impl_ElementsOf_at5_at52_at31 : (((List ((Int × (List Int)) × ByteArray)) × Bool × Unit) × (Int × (List Int) × Unit) × ByteArray × Int × (Int × (List Int) × ByteArray × Unit) × Int × Unit) → Option (((List ((Int × (List Int)) × ByteArray)) × Bool × Unit) × Int × (Int × (List Int) × ByteArray × Unit) × Int × Unit) := fun ((v0_0, v0_1, _), (v1_0, v1_1, _), v2, v39, (v42_0, v42_1, v42_2, _), v131, _) =>
 Option.bind (slices_ContainsFunc_Element (List.take (List.length v0_0) (List.drop 0 v0_0)) (fun y0 => (impl_found_put_1 y0.1 (v1_0, (List.take (List.length v1_1) (List.drop 0 v1_1)))))) fun r1 =>
  bif r1 then
   some (((List.take (List.length v0_0) (List.drop 0 v0_0)), v0_1, ()), v39, (v42_0, v42_1, v42_2, ()), v131, ())
  else
   bif (decide ((((List.length v0_0) : Nat) : Int) ≥ (120 : Int))) then
    some (((List.take (List.length v0_0) (List.drop 0 v0_0)), false, ()), v39, (v42_0, v42_1, v42_2, ()), v131, ())
   else
    bif (decide ((((ByteArray.size v2) : Nat) : Int) > (120 : Int))) then
     some (((List.take (List.length v0_0) (List.drop 0 v0_0)), false, ()), v39, (v42_0, v42_1, v42_2, ()), v131, ())
    else
     if (((0 + (List.length v0_0)) = (List.length v0_0)) ∧ ((((List.length v0_0) + (List.length (List.take 1 (List.drop 0 [((v1_0, (List.take (List.length v1_1) (List.drop 0 v1_1))), v2)])))) * 48) ≤ 140737488355328)) then
      some (((List.take ((List.length v0_0) + (List.length (List.take 1 (List.drop 0 [((v1_0, (List.take (List.length v1_1) (List.drop 0 v1_1))), v2)])))) (List.drop 0 ((List.drop 0 v0_0) ++ (List.take 1 (List.drop 0 [((v1_0, (List.take (List.length v1_1) (List.drop 0 v1_1))), v2)]))))), v0_1, ()), v39, (v42_0, v42_1, v42_2, ()), v131, ())
     else
      none
theorem impl_ElementsOf_at5_at52_at31_eq : inlStep f65.ntmps 82 31 E41_at5_at52_at31 L41_at5_at52_at31_0 f65.results.toList (codeOf f65) shi41_at5_at52_at31 sho41_at5_at52_at31 = impl_ElementsOf_at5_at52_at31 := by kernel_rfl
noncomputable def I41_at5_at52_at31 : CallD := ⟨f65.ntmps, shi41_at5_at52_at31, 82, sho41_at5_at52_at31, impl_ElementsOf_at5_at52_at31, 0⟩
theorem I41_at5_at52_at31_ok : InlOk prog 31 65 I41_at5_at52_at31 := inlOk_of (tysOk_of tyl_ok) E41_at5_at52_at31_ok (L := L41_at5_at52_at31_0) func65 (by kernel_rfl) (c := codeOf f65) (by kernel_rfl) (codeOk_in (L := L41_at5_at52_at31_0) (tysOk_of tyl_ok) E41_at5_at52_at31_ok mixed (c := codeOf f65) (bs := []) (by kernel_rfl) allNil (by kernel_rfl)) (by kernel_rfl) (by kernel_rfl) impl_ElementsOf_at5_at52_at31_eq
noncomputable def E41_at5_at52_at65 : Env := ⟨ty0, fun g => ifEq g 34 (some A34) (ifEq g 42 (some A42) (ifEq g 95 (some A95) (ifEq g 96 (some A96) (ifEq g 64 (some A64) (ifEq g 66 (some A66) (none)))))), fun _ => none, fun _ => none, fun _ => none⟩
theorem E41_at5_at52_at65_ok : FnsOk prog E41_at5_at52_at65 := (oF A34_ok func34 (oF A42_ok func42 (oF A95_ok func95 (oF A96_ok func96 (oF A64_ok func64 (oF A66_ok func66 (noFns _ _)))))))
noncomputable def L41_at5_at52_at65_0 : Nat → Option LoopD := fun _ => none
def shi41_at5_at52_at65 : List Fm := .box 100000 [.own (.pair (.pair (.int .i64) (.sl (.int .i64))) .str) 100001 false, .val .bool] :: .cell (.val (.pair (.int .i64) (.sl (.int .i64)))) :: .cell (.val .str) :: D 35 (.ali 100000 0 :: .cell (.val (.int .i64)) :: d :: d :: .box 104200 [.val (.int .i64), .val (.sl (.int .i64)), .val .str] :: d :: d :: .cell (.val (.int .i64)) :: .box 104600 [.val (.int .i64), .val (.sl (.int .i64)), .val .str] :: .box 104700 [.val (.int .i64), .val (.sl (.int .i64))] :: D 73 (.fnv 63 [] :: D 4 (.ali 100000 0 :: D 4 (.cell (.val (.int .i64)) :: D 58 []))))
def sho41_at5_at52_at65 : List Fm := .box 100000 [.own (.pair (.pair (.int .i64) (.sl (.int .i64))) .str) 100001 false, .val .bool] :: .cell (.val (.int .i64)) :: d :: d :: .box 100400 [.val (.int .i64), .val (.sl (.int .i64)), .val .str] :: d :: d :: .cell (.val (.int .i64)) :: .box 100800 [.val (.int .i64), .val (.sl (.int .i64)), .val .str] :: .box 100900 [.val (.int .i64), .val (.sl (.int .i64))] :: D 73 (.fnv 63 [] :: D 4 (.ali 100000 0 :: D 4 (.cell (.val (.int .i64)) :: D 58 [])))
noncomputable def impl_ElementsOf_at5_at52_at65 : (((List ((Int × (List Int)) × ByteArray)) × Bool × Unit) × (Int × (List Int)) × ByteArray × Int × (Int × (List Int) × ByteArray × Unit) × Int × (Int × (List Int) × ByteArray × Unit) × (Int × (List Int) × Unit) × Int × Unit) → Option (((List ((Int × (List Int)) × ByteArray)) × Bool × Unit) × Int × (Int × (List Int) × ByteArray × Unit) × Int × (Int × (List Int) × ByteArray × Unit) × (Int × (List Int) × Unit) × Int × Unit) := fun ((v0_0, v0_1, _), (v1_0, v1_1), v2, v39, (v42_0, v42_1, v42_2, _), v45, (v46_0, v46_1, v46_2, _), (v47_0, v47_1, _), v131, _) =>
 Option.bind (slices_ContainsFunc_Element (List.take (List.length v0_0) (List.drop 0 v0_0)) (fun y0 => (impl_found_put_1 y0.1 (v1_0, v1_1)))) fun r1 =>
  bif r1 then
   some (((List.take (List.length v0_0) (List.drop 0 v0_0)), v0_1, ()), v39, (v42_0, v42_1, v42_2, ()), v45, (v46_0, v46_1, v46_2, ()), (v47_0, v47_1, ()), v131, ())
  else
   bif (decide ((((List.length v0_0) : Nat) : Int) ≥ (120 : Int))) then
    some (((List.take (List.length v0_0) (List.drop 0 v0_0)), false, ()), v39, (v42_0, v42_1, v42_2, ()), v45, (v46_0, v46_1, v46_2, ()), (v47_0, v47_1, ()), v131, ())
   else
    bif (decide ((((ByteArray.size v2) : Nat) : Int) > (120 : Int))) then
     some (((List.take (List.length v0_0) (List.drop 0 v0_0)), false, ()), v39, (v42_0, v42_1, v42_2, ()), v45, (v46_0, v46_1, v46_2, ()), (v47_0, v47_1, ()), v131, ())
    else
     if (((0 + (List.length v0_0)) = (List.length v0_0)) ∧ ((((List.length v0_0) + (List.length (List.take 1 (List.drop 0 [((v1_0, v1_1), v2)])))) * 48) ≤ 140737488355328)) then
      some (((List.take ((List.length v0_0) + (List.length (List.take 1 (List.drop 0 [((v1_0, v1_1), v2)])))) (List.drop 0 ((List.drop 0 v0_0) ++ (List.take 1 (List.drop 0 [((v1_0, v1_1), v2)]))))), v0_1, ()), v39, (v42_0, v42_1, v42_2, ()), v45, (v46_0, v46_1, v46_2, ()), (v47_0, v47_1, ()), v131, ())
     else
      none
theorem impl_ElementsOf_at5_at52_at65_eq : inlStep f65.ntmps 82 65 E41_at5_at52_at65 L41_at5_at52_at65_0 f65.results.toList (codeOf f65) shi41_at5_at52_at65 sho41_at5_at52_at65 = impl_ElementsOf_at5_at52_at65 := by kernel_rfl
noncomputable def I41_at5_at52_at65 : CallD := ⟨f65.ntmps, shi41_at5_at52_at65, 82, sho41_at5_at52_at65, impl_ElementsOf_at5_at52_at65, 0⟩
theorem I41_at5_at52_at65_ok : InlOk prog 65 65 I41_at5_at52_at65 := inlOk_of (tysOk_of tyl_ok) E41_at5_at52_at65_ok (L := L41_at5_at52_at65_0) func65 (by kernel_rfl) (c := codeOf f65) (by kernel_rfl) (codeOk_in (L := L41_at5_at52_at65_0) (tysOk_of tyl_ok) E41_at5_at52_at65_ok mixed (c := codeOf f65) (bs := []) (by kernel_rfl) allNil (by kernel_rfl)) (by kernel_rfl) (by kernel_rfl) impl_ElementsOf_at5_at52_at65_eq
noncomputable def E41_at5_at52_at81 : Env := ⟨ty0, fun g => ifEq g 34 (some A34) (ifEq g 42 (some A42) (ifEq g 95 (some A95) (ifEq g 96 (some A96) (ifEq g 64 (some A64) (ifEq g 66 (some A66) (none)))))), fun _ => none, fun _ => none, fun _ => none⟩
theorem E41_at5_at52_at81_ok : FnsOk prog E41_at5_at52_at81 := (oF A34_ok func34 (oF A42_ok func42 (oF A95_ok func95 (oF A96_ok func96 (oF A64_ok func64 (oF A66_ok func66 (noFns _ _)))))))
noncomputable def L41_at5_at52_at81_0 : Nat → Option LoopD := fun _ => none
def shi41_at5_at52_at81 : List Fm := .box 100000 [.own (.pair (.pair (.int .i64) (.sl (.int .i64))) .str) 100001 false, .val .bool] :: .agg [.val (.int .i64), .own (.int .i64) 100102 false] :: .cell (.val .str) :: D 35 (.ali 100000 0 :: .cell (.val (.int .i64)) :: d :: d :: .box 104200 [.val (.int .i64), .val (.sl (.int .i64)), .val .str] :: d :: d :: .cell (.val (.int .i64)) :: D 75 (.fnv 63 [] :: D 4 (.ali 100000 0 :: D 4 (.cell (.val (.int .i64)) :: D 58 []))))
def sho41_at5_at52_at81 : List Fm := .box 100000 [.own (.pair (.pair (.int .i64) (.sl (.int .i64))) .str) 100001 false, .val .bool] :: .cell (.val (.int .i64)) :: d :: d :: .box 100400 [.val (.int .i64), .val (.sl (.int .i64)), .val .str] :: d :: d :: .cell (.val (.int .i64)) :: D 75 (.fnv 63 [] :: D 4 (.ali 100000 0 :: D 4 (.cell (.val (.int .i64)) :: D 58 [])))
noncomputable def impl_ElementsOf_at5_at52_at81 : (((List ((Int × (List Int)) × ByteArray)) × Bool × Unit) × (Int × (List Int) × Unit) × ByteArray × Int × (Int × (List Int) × ByteArray × Unit) × Int × Int × Unit) → Option (((List ((Int × (List Int)) × ByteArray)) × Bool × Unit) × Int × (Int × (List Int) × ByteArray × Unit) × Int × Int × Unit) := fun ((v0_0, v0_1, _), (v1_0, v1_1, _), v2, v39, (v42_0, v42_1, v42_2, _), v45, v131, _) =>
 Option.bind (slices_ContainsFunc_Element (List.take (List.length v0_0) (List.drop 0 v0_0)) (fun y0 => (impl_found_put_1 y0.1 (v1_0, (List.take (List.length v1_1) (List.drop 0 v1_1)))))) fun r1 =>
  bif r1 then
   some (((List.take (List.length v0_0) (List.drop 0 v0_0)), v0_1, ()), v39, (v42_0, v42_1, v42_2, ()), v45, v131, ())
  else
   bif (decide ((((List.length v0_0) : Nat) : Int) ≥ (120 : Int))) then
    some (((List.take (List.length v0_0) (List.drop 0 v0_0)), false, ()), v39, (v42_0, v42_1, v42_2, ()), v45, v131, ())
   else
    bif (decide ((((ByteArray.size v2) : Nat) : Int) > (120 : Int))) then
     some (((List.take (List.length v0_0) (List.drop 0 v0_0)), false, ()), v39, (v42_0, v42_1, v42_2, ()), v45, v131, ())
    else
     if (((0 + (List.length v0_0)) = (List.length v0_0)) ∧ ((((List.length v0_0) + (List.length (List.take 1 (List.drop 0 [((v1_0, (List.take (List.length v1_1) (List.drop 0 v1_1))), v2)])))) * 48) ≤ 140737488355328)) then
      some (((List.take ((List.length v0_0) + (List.length (List.take 1 (List.drop 0 [((v1_0, (List.take (List.length v1_1) (List.drop 0 v1_1))), v2)])))) (List.drop 0 ((List.drop 0 v0_0) ++ (List.take 1 (List.drop 0 [((v1_0, (List.take (List.length v1_1) (List.drop 0 v1_1))), v2)]))))), v0_1, ()), v39, (v42_0, v42_1, v42_2, ()), v45, v131, ())
     else
      none
theorem impl_ElementsOf_at5_at52_at81_eq : inlStep f65.ntmps 82 81 E41_at5_at52_at81 L41_at5_at52_at81_0 f65.results.toList (codeOf f65) shi41_at5_at52_at81 sho41_at5_at52_at81 = impl_ElementsOf_at5_at52_at81 := by kernel_rfl
noncomputable def I41_at5_at52_at81 : CallD := ⟨f65.ntmps, shi41_at5_at52_at81, 82, sho41_at5_at52_at81, impl_ElementsOf_at5_at52_at81, 0⟩
theorem I41_at5_at52_at81_ok : InlOk prog 81 65 I41_at5_at52_at81 := inlOk_of (tysOk_of tyl_ok) E41_at5_at52_at81_ok (L := L41_at5_at52_at81_0) func65 (by kernel_rfl) (c := codeOf f65) (by kernel_rfl) (codeOk_in (L := L41_at5_at52_at81_0) (tysOk_of tyl_ok) E41_at5_at52_at81_ok mixed (c := codeOf f65) (bs := []) (by kernel_rfl) allNil (by kernel_rfl)) (by kernel_rfl) (by kernel_rfl) impl_ElementsOf_at5_at52_at81_eq
noncomputable def E41_at5_at52 : Env := ⟨ty0, fun g => ifEq g 34 (some A34) (ifEq g 42 (some A42) (ifEq g 95 (some A95) (ifEq g 96 (some A96) (ifEq g 64 (some A64) (ifEq g 66 (some A66) (none)))))), fun _ => none, fun _ => none, fun d => ifI (Nat.beq d 31) (some (65, I41_at5_at52_at31)) (ifI (Nat.beq d 65) (some (65, I41_at5_at52_at65)) (ifI (Nat.beq d 81) (some (65, I41_at5_at52_at81)) (none)))⟩
theorem E41_at5_at52_ok : FnsOk prog E41_at5_at52 := (oneIl (d0 := 31) (g0 := 65) I41_at5_at52_at31_ok (oneIl (d0 := 65) (g0 := 65) I41_at5_at52_at65_ok (oneIl (d0 := 81) (g0 := 65) I41_at5_at52_at81_ok (oF A34_ok func34 (oF A42_ok func42 (oF A95_ok func95 (oF A96_ok func96 (oF A64_ok func64 (oF A66_ok func66 (noFns _ _))))))))))
noncomputable def L41_at5_at52_0 : Nat → Option LoopD := fun _ => none
def sh41_at5_at52_5 : List Fm := .box 100000 [.own (.pair (.pair (.int .i64) (.sl (.int .i64))) .str) 100001 false, .val .bool] :: .cell (.val (.int .i64)) :: d :: d :: .box 100400 [.val (.int .i64), .val (.sl (.int .i64)), .val .str] :: d :: d :: .cell (.val (.int .i64)) :: D 75 (.fnv 63 [] :: D 4 (.ali 100000 0 :: D 4 (.cell (.val (.int .i64)) :: D 58 [])))
def xs41_at5_at52_5 : List (Ex × List Fm) := [(.exit 0, [d, d, d, d, d, d, d, d, d, d, d, d, d, d, d, d, d, d, d, d, d, d, d, d, d, d, d, d, d, d, d, d, d, d, d, d, d, d, d, d, d, d, d, d, d, d, d, d, d, d, d, d, d, d, d, d, d, d, d, d, d, d, d, d, d, d, d, d, d, d, d, d, d, d, d, d, d, d, d, d, d, d, d, .fnv 63 [], d, d, d, d, .box 108800 [.own (.pair (.pair (.int .i64) (.sl (.int .i64))) .str) 108801 false, .val .bool], d, d, d, d, .cell (.val (.int .i64)), d, d, d, d, d, d, d, d, d, d, d, d, d, d, d, d, d, d, d, d, d, d, d, d, d, d, d, d, d, d, d, d, d, d, d, d, d, d, d, d, d, d, d, d, d, d, d, d, d, d, d, d, d, d, d, d, d, d])]
noncomputable def impl_ElementsOf_at5_at52_l5 : (((List ((Int × (List Int)) × ByteArray)) × Bool × Unit) × Int × (Int × (List Int) × ByteArray × Unit) × Int × Int × Unit) → Option ((((List ((Int × (List Int)) × ByteArray)) × Bool × Unit) × Int × (Int × (List Int) × ByteArray × Unit) × Int × Int × Unit) ⊕ ((((List ((Int × (List Int)) × ByteArray)) × Bool × Unit) × Int × Unit))) := fun ((v0_0, v0_1, _), v1, (v4_0, v4_1, v4_2, _), v7, v93, _) =>
 bif (decide (v7 ≤ v1)) then
  bif v0_1 then
   if (((0 : Int) ≤ v7) ∧ (v7 < (((List.length v0_0) : Nat) : Int))) then
    Option.bind (impl_MulGrades (v4_0, v4_1) ((List.getD v0_0 (0 + (Int.toNat v7)) (((0 : Int), []), (⟨Array.empty⟩ : ByteArray))).1.1, (List.getD v0_0 (0 + (Int.toNat v7)) (((0 : Int), []), (⟨Array.empty⟩ : ByteArray))).1.2)) fun ((r0, r1), r2) =>
     if (((ByteArray.size v4_2) + (ByteArray.size (List.getD v0_0 (0 + (Int.toNat v7)) (((0 : Int), []), (⟨Array.empty⟩ : ByteArray))).2)) ≤ 9223372036854775807) then
      Option.bind (impl_ElementsOf_at5_at52_at65 (((List.take (List.length v0_0) (List.drop 0 v0_0)), v0_1, ()), (r0, (List.take (List.length r1) (List.drop 0 r1))), (v4_2 ++ (List.getD v0_0 (0 + (Int.toNat v7)) (((0 : Int), []), (⟨Array.empty⟩ : ByteArray))).2), v1, (v4_0, v4_1, v4_2, ()), v7, ((List.getD v0_0 (0 + (Int.toNat v7)) (((0 : Int), []), (⟨Array.empty⟩ : ByteArray))).1.1, (List.getD v0_0 (0 + (Int.toNat v7)) (((0 : Int), []), (⟨Array.empty⟩ : ByteArray))).1.2, (List.getD v0_0 (0 + (Int.toNat v7)) (((0 : Int), []), (⟨Array.empty⟩ : ByteArray))).2, ()), (r0, (List.take (List.length r1) (List.drop 0 r1)), ()), v93, ())) fun ((r3, r4, _), r5, (r6, r7, r8, _), r9, (r10, r11, r12, _), (r13, r14, _), r15, _) =>
       Option.bind (impl_MulGrades (r10, r11) (r6, r7)) fun ((r16, r17), r18) =>
        if (((ByteArray.size r12) + (ByteArray.size r8)) ≤ 9223372036854775807) then
         Option.bind (impl_ElementsOf_at5_at52_at81 (((List.take (List.length r3) (List.drop 0 r3)), r4, ()), (r16, (List.take (List.length r17) (List.drop 0 r17)), ()), (r12 ++ r8), r5, (r6, r7, r8, ()), r9, r15, ())) fun ((r19, r20, _), r21, (r22, r23, r24, _), r25, r26, _) =>
          some (Sum.inl (((List.take (List.length r19) (List.drop 0 r19)), r20, ()), r21, (r22, r23, r24, ()), (IntKind.wrap .i64 (r25 + (1 : Int))), r26, ()))
        else
         none
     else
      none
   else
    none
  else
   some (Sum.inr (((List.take (List.length v0_0) (List.drop 0 v0_0)), v0_1, ()), v93, ()))
 else
  some (Sum.inr (((List.take (List.length v0_0) (List.drop 0 v0_0)), v0_1, ()), v93, ()))
theorem impl_ElementsOf_at5_at52_l5_eq : loopStep 82 E41_at5_at52 L41_at5_at52_0 (loopOf f63 5) sh41_at5_at52_5 xs41_at5_at52_5 = impl_ElementsOf_at5_at52_l5 := by kernel_rfl
theorem loop41_at5_at52_5 {L} (h : L 5 = some ⟨82, sh41_at5_at52_5, xs41_at5_at52_5, impl_ElementsOf_at5_at52_l5⟩) : LoopOk prog L (loopOf f63 5) := lo impl_ElementsOf_at5_at52_l5_eq E41_at5_at52_ok allNil h
noncomputable def L41_at5_at52_1 : Nat → Option LoopD := fun n => ifEq n 5 (some ⟨82, sh41_at5_at52_5, xs41_at5_at52_5, impl_ElementsOf_at5_at52_l5⟩) (L41_at5_at52_0 n)
def shi41_at5_at52 : List Fm := .box 100000 [.own (.pair (.pair (.int .i64) (.sl (.int .i64))) .str) 100001 false, .val .bool] :: .cell (.val (.int .i64)) :: D 81 (.fnv 63 [] :: D 4 (.ali 100000 0 :: D 4 (.cell (.val (.int .i64)) :: D 58 [])))
def sho41_at5_at52 : List Fm := d :: .fnv 63 [] :: D 4 (.box 100600 [.own (.pair (.pair (.int .i64) (.sl (.int .i64))) .str) 100601 false, .val .bool] :: D 4 (.cell (.val (.int .i64)) :: D 58 []))
noncomputable def impl_ElementsOf_at5_at52 : (((List ((Int × (List Int)) × ByteArray)) × Bool × Unit) × Int × Int × Unit) → Option (((List ((Int × (List Int)) × ByteArray)) × Bool × Unit) × Int × Unit) := fun ((v0_0, v0_1, _), v1, v93, _) =>
 if (((0 : Int) ≤ v1) ∧ (v1 < (((List.length v0_0) : Nat) : Int))) then
  Option.bind (impl_Stabilise ((List.getD v0_0 (0 + (Int.toNat v1)) (((0 : Int), []), (⟨Array.empty⟩ : ByteArray))).1.1, (List.getD v0_0 (0 + (Int.toNat v1)) (((0 : Int), []), (⟨Array.empty⟩ : ByteArray))).1.2)) fun ((r0, r1), r2) =>
   bif r2 then
    if (((ByteArray.size (⟨#[(40 : UInt8)]⟩ : ByteArray)) + (ByteArray.size (List.getD v0_0 (0 + (Int.toNat v1)) (((0 : Int), []), (⟨Array.empty⟩ : ByteArray))).2)) ≤ 9223372036854775807) then
     if (((ByteArray.size ((⟨#[(40 : UInt8)]⟩ : ByteArray) ++ (List.getD v0_0 (0 + (Int.toNat v1)) (((0 : Int), []), (⟨Array.empty⟩ : ByteArray))).2)) + (ByteArray.size (⟨#[(41 : UInt8), (35 : UInt8)]⟩ : ByteArray))) ≤ 9223372036854775807) then
      Option.bind (impl_ElementsOf_at5_at52_at31 (((List.take (List.length v0_0) (List.drop 0 v0_0)), v0_1, ()), (r0, (List.take (List.length r1) (List.drop 0 r1)), ()), (((⟨#[(40 : UInt8)]⟩ : ByteArray) ++ (List.getD v0_0 (0 + (Int.toNat v1)) (((0 : Int), []), (⟨Array.empty⟩ : ByteArray))).2) ++ (⟨#[(41 : UInt8), (35 : UInt8)]⟩ : ByteArray)), v1, ((List.getD v0_0 (0 + (Int.toNat v1)) (((0 : Int), []), (⟨Array.empty⟩ : ByteArray))).1.1, (List.getD v0_0 (0 + (Int.toNat v1)) (((0 : Int), []), (⟨Array.empty⟩ : ByteArray))).1.2, (List.getD v0_0 (0 + (Int.toNat v1)) (((0 : Int), []), (⟨Array.empty⟩ : ByteArray))).2, ()), v93, ())) fun ((r3, r4, _), r5, (r6, r7, r8, _), r9, _) =>
       Option.bind (loopF impl_ElementsOf_at5_at52_l5 (((List.take (List.length r3) (List.drop 0 r3)), r4, ()), r5, (r6, r7, r8, ()), (0 : Int), r9, ())) fun ((r10, r11, _), r12, _) =>
        some (((List.take (List.length r10) (List.drop 0 r10)), r11, ()), r12, ())
     else
      none
    else
     none
   else
    Option.bind (loopF impl_ElementsOf_at5_at52_l5 (((List.take (List.length v0_0) (List.drop 0 v0_0)), v0_1, ()), v1, ((List.getD v0_0 (0 + (Int.toNat v1)) (((0 : Int), []), (⟨Array.empty⟩ : ByteArray))).1.1, (List.getD v0_0 (0 + (Int.toNat v1)) (((0 : Int), []), (⟨Array.empty⟩ : ByteArray))).1.2, (List.getD v0_0 (0 + (Int.toNat v1)) (((0 : Int), []), (⟨Array.empty⟩ : ByteArray))).2, ()), (0 : Int), v93, ())) fun ((r13, r14, _), r15, _) =>
     some (((List.take (List.length r13) (List.drop 0 r13)), r14, ()), r15, ())
 else
  none
theorem impl_ElementsOf_at5_at52_eq : inlStep f63.ntmps 62 52 E41_at5_at52 L41_at5_at52_1 f63.results.toList (codeOf f63) shi41_at5_at52 sho41_at5_at52 = impl_ElementsOf_at5_at52 := by kernel_rfl
noncomputable def I41_at5_at52 : CallD := ⟨f63.ntmps, shi41_at5_at52, 62, sho41_at5_at52, impl_ElementsOf_at5_at52, 0⟩
theorem I41_at5_at52_ok : InlOk prog 52 63 I41_at5_at52 := inlOk_of (tysOk_of tyl_ok) E41_at5_at52_ok (L := L41_at5_at52_1) func63 (by kernel_rfl) (c := codeOf f63) (by kernel_rfl) (codeOk_in (L := L41_at5_at52_1) (tysOk_of tyl_ok) E41_at5_at52_ok mixed (c := codeOf f63) (bs := [loopOf f63 5]) (by kernel_rfl) (allCons (loop41_at5_at52_5 rfl) allNil) (by kernel_rfl)) (by kernel_rfl) (by kernel_rfl) impl_ElementsOf_at5_at52_eq
noncomputable def E41_at5 : Env := ⟨ty0, fun g => ifEq g 34 (some A34) (ifEq g 42 (some A42) (ifEq g 95 (some A95) (ifEq g 96 (some A96) (ifEq g 64 (some A64) (ifEq g 66 (some A66) (none)))))), fun _ => none, fun _ => none, fun d => ifI (Nat.beq d 32) (some (65, I41_at5_at32)) (ifI (Nat.beq d 52) (some (63, I41_at5_at52)) (none))⟩
theorem E41_at5_ok : FnsOk prog E41_at5 := (oneIl (d0 := 32) (g0 := 65) I41_at5_at32_ok (oneIl (d0 := 52) (g0 := 63) I41_at5_at52_ok (oF A34_ok func34 (oF A42_ok func42 (oF A95_ok func95 (oF A96_ok func96 (oF A64_ok func64 (oF A66_ok func66 (noFns _ _)))))))))
noncomputable def L41_at5_0 : Nat → Option LoopD := fun _ => none
def sh41_at5_5 : List Fm := d :: .fnv 63 [] :: .box 100200 [.val (.int .i64), .val (.sl (.int .i64)), .val (.sl (.int .i64)), .val (.sl (.pair (.int .i64) (.pair .str (.pair (.int .i64) (.int .i64)))))] :: d :: d :: d :: .box 100600 [.own (.pair (.pair (.int .i64) (.sl (.int .i64))) .str) 100601 false, .val .bool] :: D 10 (.cell (.own .str 101700 false) :: .cell (.val (.int .i64)) :: .cell (.val (.int .i64)) :: D 50 [])
def xs41_at5_5 : List (Ex × List Fm) := [(.exit 0, [d, .fnv 63 [], d, d, d, d, .box 100600 [.own (.pair (.pair (.int .i64) (.sl (.int .i64))) .str) 100601 false, .val .bool], d, d, d, d, d, d, d, d, d, d, d, d, d, d, d, d, d, d, d, d, d, d, d, d, d, d, d, d, d, d, d, d, d, d, d, d, d, d, d, d, d, d, d, d, d, d, d, d, d, d, d, d, d, d, d, d, d, d, d, d, d, d, d])]
noncomputable def impl_ElementsOf_at5_l5 : ((Int × (List Int) × (List Int) × (List (Int × (ByteArray × (Int × Int)))) × Unit) × ((List ((Int × (List Int)) × ByteArray)) × Bool × Unit) × (List ByteArray) × Int × Int × Unit) → Option (((Int × (List Int) × (List Int) × (List (Int × (ByteArray × (Int × Int)))) × Unit) × ((List ((Int × (List Int)) × ByteArray)) × Bool × Unit) × (List ByteArray) × Int × Int × Unit) ⊕ ((((List ((Int × (List Int)) × ByteArray)) × Bool × Unit) × Unit))) := fun ((v2_0, v2_1, v2_2, v2_3, _), (v6_0, v6_1, _), v17, v18, v19, _) =>
 bif (decide (v19 < v18)) then
  if (((0 : Int) ≤ v19) ∧ (v19 < (((List.length v17) : Nat) : Int))) then
   Option.bind (impl_ValueOf (v2_0, v2_1, v2_2, v2_3) (List.getD v17 (0 + (Int.toNat v19)) (⟨Array.empty⟩ : ByteArray))) fun ((r0, r1), r2) =>
    Option.bind (impl_ElementsOf_at5_at32 (((List.take (List.length v6_0) (List.drop 0 v6_0)), v6_1, ()), (r0, (List.take (List.length r1) (List.drop 0 r1)), ()), (List.getD v17 (0 + (Int.toNat v19)) (⟨Array.empty⟩ : ByteArray)), (v2_0, v2_1, v2_2, v2_3, ()), (List.take (List.length v17) (List.drop 0 v17)), v18, v19, ())) fun ((r3, r4, r5, r6, _), (r7, r8, _), r9, r10, r11, _) =>
     some (Sum.inl ((r3, r4, r5, r6, ()), ((List.take (List.length r7) (List.drop 0 r7)), r8, ()), (List.take (List.length r9) (List.drop 0 r9)), r10, (IntKind.wrap .i64 (r11 + (1 : Int))), ()))
  else
   none
 else
  some (Sum.inr (((List.take (List.length v6_0) (List.drop 0 v6_0)), v6_1, ()), ()))
theorem impl_ElementsOf_at5_l5_eq : loopStep 62 E41_at5 L41_at5_0 (loopOf f62 5) sh41_at5_5 xs41_at5_5 = impl_ElementsOf_at5_l5 := by kernel_rfl
theorem loop41_at5_5 {L} (h : L 5 = some ⟨62, sh41_at5_5, xs41_at5_5, impl_ElementsOf_at5_l5⟩) : LoopOk prog L (loopOf f62 5) := lo impl_ElementsOf_at5_l5_eq E41_at5_ok allNil h
noncomputable def L41_at5_1 : Nat → Option LoopD := fun n => ifEq n 5 (some ⟨62, sh41_at5_5, xs41_at5_5, impl_ElementsOf_at5_l5⟩) (L41_at5_0 n)
def sh41_at5_11 : List Fm := d :: .fnv 63 [] :: D 4 (.box 100600 [.own (.pair (.pair (.int .i64) (.sl (.int .i64))) .str) 100601 false, .val .bool] :: D 4 (.cell (.val (.int .i64)) :: D 58 []))
def xs41_at5_11 : List (Ex × List Fm) := [(.exit 2, [d, d, d, d, d, d, .box 100600 [.own (.pair (.pair (.int .i64) (.sl (.int .i64))) .str) 100601 false, .val .bool], d, d, d, d, d, d, d, d, d, d, d, d, d, d, d, d, d, d, d, d, d, d, d, d, d, d, d, d, d, d, d, d, d, d, d, d, d, d, d, d, d, d, d, d, d, d, d, d, d, d, d, d, d, d, d, d, d, d, d, d, d, d, d])]
noncomputable def impl_ElementsOf_at5_l11 : (((List ((Int × (List Int)) × ByteArray)) × Bool × Unit) × Int × Unit) → Option ((((List ((Int × (List Int)) × ByteArray)) × Bool × Unit) × Int × Unit) ⊕ ((((List ((Int × (List Int)) × ByteArray)) × Bool × Unit) × Unit))) := fun ((v6_0, v6_1, _), v11, _) =>
 bif (decide (v11 < (((List.length v6_0) : Nat) : Int))) then
  bif v6_1 then
   Option.bind (impl_ElementsOf_at5_at52 (((List.take (List.length v6_0) (List.drop 0 v6_0)), v6_1, ()), v11, v11, ())) fun ((r0, r1, _), r2, _) =>
    some (Sum.inl (((List.take (List.length r0) (List.drop 0 r0)), r1, ()), (IntKind.wrap .i64 (r2 + (1 : Int))), ()))
  else
   some (Sum.inr (((List.take (List.length v6_0) (List.drop 0 v6_0)), v6_1, ()), ()))
 else
  some (Sum.inr (((List.take (List.length v6_0) (List.drop 0 v6_0)), v6_1, ()), ()))
theorem impl_ElementsOf_at5_l11_eq : loopStep 62 E41_at5 L41_at5_1 (loopOf f62 11) sh41_at5_11 xs41_at5_11 = impl_ElementsOf_at5_l11 := by kernel_rfl
theorem loop41_at5_11 {L} (h : L 11 = some ⟨62, sh41_at5_11, xs41_at5_11, impl_ElementsOf_at5_l11⟩) : LoopOk prog L (loopOf f62 11) := lo impl_ElementsOf_at5_l11_eq E41_at5_ok allNil h
noncomputable def L41_at5_2 : Nat → Option LoopD := fun n => ifEq n 11 (some ⟨62, sh41_at5_11, xs41_at5_11, impl_ElementsOf_at5_l11⟩) (L41_at5_1 n)
def shi41_at5 : List Fm := .cell (.val (.pair (.int .i64) (.pair (.sl (.int .i64)) (.pair (.sl (.int .i64)) (.sl (.pair (.int .i64) (.pair .str (.pair (.int .i64) (.int .i64))))))))) :: .fnv 63 [] :: D 68 []
def sho41_at5 : List Fm := D 5 (.tup [.own (.pair (.pair (.int .i64) (.sl (.int .i64))) .str) 100501 false, .val .bool] :: d :: d :: [])
noncomputable def impl_ElementsOf_at5 : ((Int × ((List Int) × ((List Int) × (List (Int × (ByteArray × (Int × Int))))))) × Unit) → Option (((List ((Int × (List Int)) × ByteArray)) × Bool × Unit) × Unit) := fun ((v0_0, v0_1, v0_2, v0_3), _) =>
 Option.bind (impl_AutomatonValid (v0_0, v0_1, v0_2, v0_3)) fun r0 =>
  bif (!r0) then
   some (([], false, ()), ())
  else
   Option.bind (loopF impl_ElementsOf_at5_l5 ((v0_0, v0_1, v0_2, v0_3, ()), ([], true, ()), (List.take 2 (List.drop 0 [(⟨#[(97 : UInt8)]⟩ : ByteArray), (⟨#[(98 : UInt8)]⟩ : ByteArray)])), ((2 : Nat) : Int), (0 : Int), ())) fun ((r1, r2, _), _) =>
    Option.bind (loopF impl_ElementsOf_at5_l11 (((List.take (List.length r1) (List.drop 0 r1)), r2, ()), (0 : Int), ())) fun ((r3, r4, _), _) =>
     bif (!r4) then
      some (([], false, ()), ())
     else
      some (((List.take (List.length r3) (List.drop 0 r3)), true, ()), ())
theorem impl_ElementsOf_at5_eq : inlStep f62.ntmps 8 5 E41_at5 L41_at5_2 f62.results.toList (codeOf f62) shi41_at5 sho41_at5 = impl_ElementsOf_at5 := by kernel_rfl
noncomputable def I41_at5 : CallD := ⟨f62.ntmps, shi41_at5, 8, sho41_at5, impl_ElementsOf_at5, 0⟩
theorem I41_at5_ok : InlOk prog 5 62 I41_at5 := inlOk_of (tysOk_of tyl_ok) E41_at5_ok (L := L41_at5_2) func62 (by kernel_rfl) (c := codeOf f62) (by kernel_rfl) (codeOk_in (L := L41_at5_2) (tysOk_of tyl_ok) E41_at5_ok mixed (c := codeOf f62) (bs := [loopOf f62 5, loopOf f62 11]) (by kernel_rfl) (allCons (loop41_at5_5 rfl) (allCons (loop41_at5_11 rfl) allNil)) (by kernel_rfl)) (by kernel_rfl) (by kernel_rfl) impl_ElementsOf_at5_eq
noncomputable def E41 : Env := ⟨ty0, fun g => ifEq g 34 (some A34) (ifEq g 42 (some A42) (ifEq g 95 (some A95) (ifEq g 96 (some A96) (ifEq g 64 (some A64) (ifEq g 66 (some A66) (none)))))), fun _ => none, fun _ => none, fun d => ifI (Nat.beq d 5) (some (62, I41_at5)) (none)⟩
theorem E41_ok : FnsOk prog E41 := (oneIl (d0 := 5) (g0 := 62) I41_at5_ok (oF A34_ok func34 (oF A42_ok func42 (oF A95_ok func95 (oF A96_ok func96 (oF A64_ok func64 (oF A66_ok func66 (noFns _ _))))))))
noncomputable def L41_0 : Nat → Option LoopD := fun _ => none
noncomputable def impl_ElementsOf : (Int × ((List Int) × ((List Int) × (List (Int × (ByteArray × (Int × Int))))))) → Option ((List ((Int × (List Int)) × ByteArray)) × Bool) := fun (a0_0, a0_1, a0_2, a0_3) =>
 Option.bind (impl_ElementsOf_at5 ((a0_0, a0_1, a0_2, a0_3), ())) fun ((r0, r1, _), _) =>
  some ((List.take (List.length r0) (List.drop 0 r0)), r1)
noncomputable def A41 : FnA := ⟨[.v (.pair (.int .i64) (.pair (.sl (.int .i64)) (.pair (.sl (.int .i64)) (.sl (.pair (.int .i64) (.pair .str (.pair (.int .i64) (.int .i64))))))))], true, [.sl (.pair (.pair (.int .i64) (.sl (.int .i64))) .str), .bool], fun x => impl_ElementsOf x.1⟩
theorem impl_ElementsOf_eq : fnF E41 L41_0 [.v (.pair (.int .i64) (.pair (.sl (.int .i64)) (.pair (.sl (.int .i64)) (.sl (.pair (.int .i64) (.pair .str (.pair (.int .i64) (.int .i64))))))))] true [.sl (.pair (.pair (.int .i64) (.sl (.int .i64))) .str), .bool] f41.ntmps f41.results.toList (codeOf f41) = fun x => impl_ElementsOf x.1 := by kernel_rfl
theorem A41_ok : FnOk prog 41 A41 := fo impl_ElementsOf_eq func41 E41_ok allNil
/-! impl.firstWith -/
noncomputable def E31 : Env := ⟨ty0, fun g => ifEq g 41 (some A41) (none), fun _ => none, fun _ => none, fun _ => none⟩
theorem E31_ok : FnsOk prog E31 := (oF A41_ok func41 (noFns _ _))
noncomputable def L31_0 : Nat → Option LoopD := fun _ => none
def sh31_3 : List Fm := d :: .clo [.pair (.int .i64) (.sl (.int .i64))] .bool :: D 13 (.cell (.own (.pair (.pair (.int .i64) (.sl (.int .i64))) .str) 101500 false) :: .cell (.val (.int .i64)) :: .cell (.val (.int .i64)) :: D 10 [])
def xs31_3 : List (Ex × List Fm) := [(.ret, (D 4 (.cell (.val .str) :: .cell (.val .bool) :: D 22 []))), (.exit 0, (D 28 []))]
noncomputable def impl_firstWith_l3 : ((((Int × (List Int)) × Unit) → Option (Bool)) × (List ((Int × (List Int)) × ByteArray)) × Int × Int × Unit) → Option (((((Int × (List Int)) × Unit) → Option (Bool)) × (List ((Int × (List Int)) × ByteArray)) × Int × Int × Unit) ⊕ ((ByteArray × Bool × Unit) ⊕ (Unit))) := fun (v1, v15, v16, v17, _) =>
 bif (decide (v17 < v16)) then
  if (((0 : Int) ≤ v17) ∧ (v17 < (((List.length v15) : Nat) : Int))) then
   Option.bind (v1 (((List.getD v15 (0 + (Int.toNat v17)) (((0 : Int), []), (⟨Array.empty⟩ : ByteArray))).1.1, (List.getD v15 (0 + (Int.toNat v17)) (((0 : Int), []), (⟨Array.empty⟩ : ByteArray))).1.2), ())) fun r0 =>
    bif r0 then
     some (Sum.inr (Sum.inl ((List.getD v15 (0 + (Int.toNat v17)) (((0 : Int), []), (⟨Array.empty⟩ : ByteArray))).2, true, ())))
    else
     some (Sum.inl (v1, (List.take (List.length v15) (List.drop 0 v15)), v16, (IntKind.wrap .i64 (v17 + (1 : Int))), ()))
  else
   none
 else
  some (Sum.inr (Sum.inr ()))
theorem impl_firstWith_l3_eq : loopStep 28 E31 L31_0 (loopOf f31 3) sh31_3 xs31_3 = impl_firstWith_l3 := by kernel_rfl
theorem loop31_3 {L} (h : L 3 = some ⟨28, sh31_3, xs31_3, impl_firstWith_l3⟩) : LoopOk prog L (loopOf f31 3) := lo impl_firstWith_l3_eq E31_ok allNil h
noncomputable def L31_1 : Nat → Option LoopD := fun n => ifEq n 3 (some ⟨28, sh31_3, xs31_3, impl_firstWith_l3⟩) (L31_0 n)
noncomputable def impl_firstWith : (Int × ((List Int) × ((List Int) × (List (Int × (ByteArray × (Int × Int))))))) → (((Int × (List Int)) × Unit) → Option (Bool)) → Option (ByteArray × Bool) := fun (a0_0, a0_1, a0_2, a0_3) a1 =>
 Option.bind (impl_ElementsOf (a0_0, a0_1, a0_2, a0_3)) fun (r0, r1) =>
  Option.bind (loopF impl_firstWith_l3 (a1, (List.take (List.length r0) (List.drop 0 r0)), (((List.length r0) : Nat) : Int), (0 : Int), ())) fun r2 =>
   (match r2 with
   | .inl (d3, d4, _) =>
     some (d3, d4)
   | .inr _ =>
     some ((⟨#[]⟩ : ByteArray), false))
noncomputable def A31 : FnA := ⟨[.v (.pair (.int .i64) (.pair (.sl (.int .i64)) (.pair (.sl (.int .i64)) (.sl (.pair (.int .i64) (.pair .str (.pair (.int .i64) (.int .i64)))))))), .clo [.pair (.int .i64) (.sl (.int .i64))] .bool], true, [.str, .bool], fun x => impl_firstWith x.1 x.2.1⟩
theorem impl_firstWith_eq : fnF E31 L31_1 [.v (.pair (.int .i64) (.pair (.sl (.int .i64)) (.pair (.sl (.int .i64)) (.sl (.pair (.int .i64) (.pair .str (.pair (.int .i64) (.int .i64)))))))), .clo [.pair (.int .i64) (.sl (.int .i64))] .bool] true [.str, .bool] f31.ntmps f31.results.toList (codeOf f31) = fun x => impl_firstWith x.1 x.2.1 := by kernel_rfl
theorem A31_ok : FnOk prog 31 A31 := fo impl_firstWith_eq func31 E31_ok (allCons (loop31_3 rfl) allNil)
/-! impl.GradeBetween -/
noncomputable def E33 : Env := ⟨ty0, fun g => ifEq g 34 (some A34) (ifEq g 53 (some A53) (ifEq g 54 (some A54) (none))), fun _ => none, fun _ => none, fun _ => none⟩
theorem E33_ok : FnsOk prog E33 := (oF A34_ok func34 (oF A53_ok func53 (oF A54_ok func54 (noFns _ _))))
noncomputable def L33_0 : Nat → Option LoopD := fun _ => none
def sh33_8 : List Fm := d :: d :: .box 100200 [.val (.int .i64), .val (.sl (.int .i64)), .val (.sl (.int .i64)), .val (.sl (.pair (.int .i64) (.pair .str (.pair (.int .i64) (.int .i64)))))] :: .box 100300 [.val (.int .i64), .val (.sl (.int .i64))] :: d :: .cell (.val (.int .i64)) :: d :: .cell (.val (.int .i64)) :: D 18 (.cell (.val (.sl (.int .i64))) :: .cell (.val (.int .i64)) :: .cell (.val (.int .i64)) :: D 4 (.cell (.val (.sl (.int .i64))) :: .cell (.val (.int .i64)) :: .cell (.val (.int .i64)) :: D 12 []))
def xs33_8 : List (Ex × List Fm) := [(.exit 2, [d, d, .box 100200 [.val (.int .i64), .val (.sl (.int .i64)), .val (.sl (.int .i64)), .val (.sl (.pair (.int .i64) (.pair .str (.pair (.int .i64) (.int .i64)))))], .box 100300 [.val (.int .i64), .val (.sl (.int .i64))], d, .cell (.val (.int .i64)), d, d, d, d, d, d, d, d, d, d, d, d, d, d, d, d, d, d, d, d, .cell (.val (.sl (.int .i64))), .cell (.val (.int .i64)), .cell (.val (.int .i64)), d, d, d, d, d, d, d, d, d, d, d, d, d, d, d, d, d, d, d])]
noncomputable def impl_GradeBetween_l8 : ((Int × (List Int) × (List Int) × (List (Int × (ByteArray × (Int × Int)))) × Unit) × (Int × (List Int) × Unit) × Int × Int × (List Int) × Int × Int × (List Int) × Int × Int × Unit) → Option (((Int × (List Int) × (List Int) × (List (Int × (ByteArray × (Int × Int)))) × Unit) × (Int × (List Int) × Unit) × Int × Int × (List Int) × Int × Int × (List Int) × Int × Int × Unit) ⊕ (((Int × (List Int) × (List Int) × (List (Int × (ByteArray × (Int × Int)))) × Unit) × (Int × (List Int) × Unit) × Int × (List Int) × Int × Int × Unit))) := fun ((v2_0, v2_1, v2_2, v2_3, _), (v3_0, v3_1, _), v5, v7, v26, v27, v28, v33, v34, v35, _) =>
 bif (decide (v35 < v34)) then
  if (((0 : Int) ≤ v35) ∧ (v35 < (((List.length v33) : Nat) : Int))) then
   Option.bind (impl_Matrix_at (v3_0, v3_1) v7 (List.getD v33 (Int.toNat v35) (0 : Int))) fun r0 =>
    some (Sum.inl ((v2_0, v2_1, v2_2, v2_3, ()), (v3_0, v3_1, ()), (if (r0 < v5) then r0 else v5), v7, v26, v27, v28, v33, v34, (IntKind.wrap .i64 (v35 + (1 : Int))), ()))
  else
   none
 else
  some (Sum.inr ((v2_0, v2_1, v2_2, v2_3, ()), (v3_0, v3_1, ()), v5, v26, v27, v28, ()))
theorem impl_GradeBetween_l8_eq : loopStep 48 E33 L33_0 (loopOf f33 8) sh33_8 xs33_8 = impl_GradeBetween_l8 := by kernel_rfl
theorem loop33_8 {L} (h : L 8 = some ⟨48, sh33_8, xs33_8, impl_GradeBetween_l8⟩) : LoopOk prog L (loopOf f33 8) := lo impl_GradeBetween_l8_eq E33_ok allNil h
noncomputable def L33_1 : Nat → Option LoopD := fun n => ifEq n 8 (some ⟨48, sh33_8, xs33_8, impl_GradeBetween_l8⟩) (L33_0 n)
def sh33_5 : List Fm := d :: d :: .box 100200 [.val (.int .i64), .val (.sl (.int .i64)), .val (.sl (.int .i64)), .val (.sl (.pair (.int .i64) (.pair .str (.pair (.int .i64) (.int .i64)))))] :: .box 100300 [.val (.int .i64), .val (.sl (.int .i64))] :: d :: .cell (.val (.int .i64)) :: D 20 (.cell (.val (.sl (.int .i64))) :: .cell (.val (.int .i64)) :: .cell (.val (.int .i64)) :: D 19 [])
def xs33_5 : List (Ex × List Fm) := [(.exit 0, (D 5 (.cell (.val (.int .i64)) :: D 42 [])))]
noncomputable def impl_GradeBetween_l5 : ((Int × (List Int) × (List Int) × (List (Int × (ByteArray × (Int × Int)))) × Unit) × (Int × (List Int) × Unit) × Int × (List Int) × Int × Int × Unit) → Option (((Int × (List Int) × (List Int) × (List (Int × (ByteArray × (Int × Int)))) × Unit) × (Int × (List Int) × Unit) × Int × (List Int) × Int × Int × Unit) ⊕ ((Int × Unit))) := fun ((v2_0, v2_1, v2_2, v2_3, _), (v3_0, v3_1, _), v5, v26, v27, v28, _) =>
 bif (decide (v28 < v27)) then
  if (((0 : Int) ≤ v28) ∧ (v28 < (((List.length v26) : Nat) : Int))) then
   Option.bind (loopF impl_GradeBetween_l8 ((v2_0, v2_1, v2_2, v2_3, ()), (v3_0, v3_1, ()), v5, (List.getD v26 (Int.toNat v28) (0 : Int)), v26, v27, v28, v2_2, (((List.length v2_2) : Nat) : Int), (0 : Int), ())) fun ((r0, r1, r2, r3, _), (r4, r5, _), r6, r7, r8, r9, _) =>
    some (Sum.inl ((r0, r1, r2, r3, ()), (r4, r5, ()), r6, r7, r8, (IntKind.wrap .i64 (r9 + (1 : Int))), ()))
  else
   none
 else
  some (Sum.inr (v5, ()))
theorem impl_GradeBetween_l5_eq : loopStep 48 E33 L33_1 (loopOf f33 5) sh33_5 xs33_5 = impl_GradeBetween_l5 := by kernel_rfl
theorem loop33_5 {L} (h : L 5 = some ⟨48, sh33_5, xs33_5, impl_GradeBetween_l5⟩) : LoopOk prog L (loopOf f33 5) := lo impl_GradeBetween_l5_eq E33_ok (allCons (loop33_8 rfl) allNil) h
noncomputable def L33_2 : Nat → Option LoopD := fun n => ifEq n 5 (some ⟨48, sh33_5, xs33_5, impl_GradeBetween_l5⟩) (L33_1 n)
noncomputable def impl_GradeBetween : (Int × ((List Int) × ((List Int) × (List (Int × (ByteArray × (Int × Int))))))) → (Int × (List Int)) → Option (Int) := fun (a0_0, a0_1, a0_2, a0_3) (a1_0, a1_1) =>
 Option.bind (impl_AutomatonValid (a0_0, a0_1, a0_2, a0_3)) fun r0 =>
  bif (!r0) then
   some (-1 : Int)
  else
   Option.bind (impl_GradesValid (a1_0, a1_1)) fun r1 =>
    bif (!r1) then
     some (-1 : Int)
    else
     bif (a1_0 != a0_0) then
      some (-1 : Int)
     else
      Option.bind (loopF impl_GradeBetween_l5 ((a0_0, a0_1, a0_2, a0_3, ()), (a1_0, a1_1, ()), (3 : Int), a0_1, (((List.length a0_1) : Nat) : Int), (0 : Int), ())) fun (r2, _) =>
       some r2
noncomputable def A33 : FnA := ⟨[.v (.pair (.int .i64) (.pair (.sl (.int .i64)) (.pair (.sl (.int .i64)) (.sl (.pair (.int .i64) (.pair .str (.pair (.int .i64) (.int .i64)))))))), .v (.pair (.int .i64) (.sl (.int .i64)))], true, [.int .i64], fun x => impl_GradeBetween x.1 x.2.1⟩
theorem impl_GradeBetween_eq : fnF E33 L33_2 [.v (.pair (.int .i64) (.pair (.sl (.int .i64)) (.pair (.sl (.int .i64)) (.sl (.pair (.int .i64) (.pair .str (.pair (.int .i64) (.int .i64)))))))), .v (.pair (.int .i64) (.sl (.int .i64)))] true [.int .i64] f33.ntmps f33.results.toList (codeOf f33) = fun x => impl_GradeBetween x.1 x.2.1 := by kernel_rfl
theorem A33_ok : FnOk prog 33 A33 := fo impl_GradeBetween_eq func33 E33_ok (allCons (loop33_5 rfl) allNil)
/-! impl.GrowingOf$1 -/
noncomputable def E32 : Env := ⟨ty0, fun g => ifEq g 33 (some A33) (none), fun _ => none, fun _ => none, fun _ => none⟩
theorem E32_ok : FnsOk prog E32 := (oF A33_ok func33 (noFns _ _))
noncomputable def L32_0 : Nat → Option LoopD := fun _ => none
noncomputable def impl_GrowingOf_1 : (Int × (List Int)) → (Int × ((List Int) × ((List Int) × (List (Int × (ByteArray × (Int × Int))))))) → Option (Bool) := fun (a0_0, a0_1) (a1_0, a1_1, a1_2, a1_3) =>
 Option.bind (impl_GradeBetween (a1_0, a1_1, a1_2, a1_3) (a0_0, a0_1)) fun r0 =>
  some (r0 == (2 : Int))
noncomputable def A32 : FnA := ⟨[.v (.pair (.int .i64) (.sl (.int .i64))), .cap (.pair (.int .i64) (.pair (.sl (.int .i64)) (.pair (.sl (.int .i64)) (.sl (.pair (.int .i64) (.pair .str (.pair (.int .i64) (.int .i64))))))))], true, [.bool], fun x => impl_GrowingOf_1 x.1 x.2.1⟩
theorem impl_GrowingOf_1_eq : fnF E32 L32_0 [.v (.pair (.int .i64) (.sl (.int .i64))), .cap (.pair (.int .i64) (.pair (.sl (.int .i64)) (.pair (.sl (.int .i64)) (.sl (.pair (.int .i64) (.pair .str (.pair (.int .i64) (.int .i64))))))))] true [.bool] f32.ntmps f32.results.toList (codeOf f32) = fun x => impl_GrowingOf_1 x.1 x.2.1 := by kernel_rfl
theorem A32_ok : FnOk prog 32 A32 := fo impl_GrowingOf_1_eq func32 E32_ok allNil
/-! impl.GrowingOf -/
noncomputable def E12 : Env := ⟨ty0, fun g => ifEq g 31 (some A31) (ifEq g 32 (some A32) (none)), fun _ => none, fun _ => none, fun _ => none⟩
theorem E12_ok : FnsOk prog E12 := (oF A31_ok func31 (oF A32_ok func32 (noFns _ _)))
noncomputable def L12_0 : Nat → Option LoopD := fun _ => none
noncomputable def impl_GrowingOf : (Int × ((List Int) × ((List Int) × (List (Int × (ByteArray × (Int × Int))))))) → Option (ByteArray × Bool) := fun (a0_0, a0_1, a0_2, a0_3) =>
 Option.bind (impl_firstWith (a0_0, a0_1, a0_2, a0_3) (fun y0 => (impl_GrowingOf_1 y0.1 (a0_0, a0_1, a0_2, a0_3)))) fun (r1, r2) =>
  some (r1, r2)
noncomputable def A12 : FnA := ⟨[.v (.pair (.int .i64) (.pair (.sl (.int .i64)) (.pair (.sl (.int .i64)) (.sl (.pair (.int .i64) (.pair .str (.pair (.int .i64) (.int .i64))))))))], true, [.str, .bool], fun x => impl_GrowingOf x.1⟩
theorem impl_GrowingOf_eq : fnF E12 L12_0 [.v (.pair (.int .i64) (.pair (.sl (.int .i64)) (.pair (.sl (.int .i64)) (.sl (.pair (.int .i64) (.pair .str (.pair (.int .i64) (.int .i64))))))))] true [.str, .bool] f12.ntmps f12.results.toList (codeOf f12) = fun x => impl_GrowingOf x.1 := by kernel_rfl
theorem A12_ok : FnOk prog 12 A12 := fo impl_GrowingOf_eq func12 E12_ok allNil
/-! impl.expand -/
noncomputable def R38 (impl_expand_rec : (List (ByteArray × PT)) → Int → Option (ByteArray × Bool)) : FnA := ⟨[.v (.sl (.pair .str .pt)), .v (.int .i64)], true, [.str, .bool], fun x => impl_expand_rec x.1 x.2.1⟩
noncomputable def E38 (impl_expand_rec : (List (ByteArray × PT)) → Int → Option (ByteArray × Bool)) : Env := ⟨ty0, fun g => ifEq g 38 (some (R38 impl_expand_rec)) (ifEq g 59 (some A59) (none)), fun _ => none, fun _ => none, fun _ => none⟩
theorem E38_ok (impl_expand_rec : (List (ByteArray × PT)) → Int → Option (ByteArray × Bool)) (hrec : FnOk prog 38 (R38 impl_expand_rec)) : FnsOk prog (E38 impl_expand_rec) := (oF hrec func38 (oF A59_ok func59 (noFns _ _)))
noncomputable def L38_0 (impl_expand_rec : (List (ByteArray × PT)) → Int → Option (ByteArray × Bool)) : Nat → Option LoopD := fun _ => none
def sh38_3 : List Fm := d :: .cell (.val (.int .i64)) :: D 4 (.cell (.val .str) :: D 5 (.cell (.val (.sl (.pair .str .pt))) :: .cell (.val (.int .i64)) :: .cell (.val (.int .i64)) :: D 35 []))
def xs38_3 : List (Ex × List Fm) := [(.ret, (D 4 (.cell (.val .str) :: .cell (.val .bool) :: D 44 []))), (.exit 0, (D 6 (.cell (.val .str) :: D 43 [])))]
noncomputable def impl_expand_l3 (impl_expand_rec : (List (ByteArray × PT)) → Int → Option (ByteArray × Bool)) : (Int × ByteArray × (List (ByteArray × PT)) × Int × Int × Unit) → Option ((Int × ByteArray × (List (ByteArray × PT)) × Int × Int × Unit) ⊕ ((ByteArray × Bool × Unit) ⊕ (ByteArray × Unit))) := fun (v1, v6, v12, v13, v14, _) =>
 bif (decide (v14 < v13)) then
  if (((0 : Int) ≤ v14) ∧ (v14 < (((List.length v12) : Nat) : Int))) then
   bif ((ByteArray.toList (List.getD v12 (Int.toNat v14) ((⟨Array.empty⟩ : ByteArray), (PT.mk []))).1) == (ByteArray.toList (⟨#[]⟩ : ByteArray))) then
    Option.bind (impl_expand_rec (PT.l (List.getD v12 (Int.toNat v14) ((⟨Array.empty⟩ : ByteArray), (PT.mk []))).2) v1) fun (r0, r1) =>
     bif (!r1) then
      some (Sum.inr (Sum.inl ((⟨#[]⟩ : ByteArray), false, ())))
     else
      if ((((ByteArray.size r0) : Nat) : Int) = (0 : Int)) then
       none
      else
       bif (decide (v1 > (IntKind.wrap .i64 (Int.tdiv (IntKind.wrap .i64 ((1000 : Int) - (((ByteArray.size v6) : Nat) : Int))) (((ByteArray.size r0) : Nat) : Int))))) then
        some (Sum.inr (Sum.inl ((⟨#[]⟩ : ByteArray), false, ())))
       else
        Option.bind (strings_Repeat r0 v1) fun r2 =>
         if (((ByteArray.size v6) + (ByteArray.size r2)) ≤ 9223372036854775807) then
          some (Sum.inl (v1, (v6 ++ r2), v12, v13, (IntKind.wrap .i64 (v14 + (1 : Int))), ()))
         else
          none
   else
    if ((((ByteArray.size (List.getD v12 (Int.toNat v14) ((⟨Array.empty⟩ : ByteArray), (PT.mk []))).1) : Nat) : Int) = (0 : Int)) then
     none
    else
     bif (decide ((1 : Int) > (IntKind.wrap .i64 (Int.tdiv (IntKind.wrap .i64 ((1000 : Int) - (((ByteArray.size v6) : Nat) : Int))) (((ByteArray.size (List.getD v12 (Int.toNat v14) ((⟨Array.empty⟩ : ByteArray), (PT.mk []))).1) : Nat) : Int))))) then
      some (Sum.inr (Sum.inl ((⟨#[]⟩ : ByteArray), false, ())))
     else
      Option.bind (strings_Repeat (List.getD v12 (Int.toNat v14) ((⟨Array.empty⟩ : ByteArray), (PT.mk []))).1 (1 : Int)) fun r3 =>
       if (((ByteArray.size v6) + (ByteArray.size r3)) ≤ 9223372036854775807) then
        some (Sum.inl (v1, (v6 ++ r3), v12, v13, (IntKind.wrap .i64 (v14 + (1 : Int))), ()))
       else
        none
  else
   none
 else
  some (Sum.inr (Sum.inr (v6, ())))
theorem impl_expand_l3_eq (impl_expand_rec : (List (ByteArray × PT)) → Int → Option (ByteArray × Bool)) : loopStep 50 (E38 impl_expand_rec) (L38_0 impl_expand_rec) (loopOf f38 3) sh38_3 xs38_3 = (impl_expand_l3 impl_expand_rec) := by kernel_rfl
theorem loop38_3 (impl_expand_rec : (List (ByteArray × PT)) → Int → Option (ByteArray × Bool)) (hrec : FnOk prog 38 (R38 impl_expand_rec)) {L : Nat → Option LoopD} (h : L 3 = some ⟨50, sh38_3, xs38_3, (impl_expand_l3 impl_expand_rec)⟩) : LoopOk prog L (loopOf f38 3) :=
 loopOk (tysOk_of tyl_ok) (E38_ok impl_expand_rec hrec) (codeOk_in (L := (L38_0 impl_expand_rec)) (tysOk_of tyl_ok) (E38_ok impl_expand_rec hrec) mixed (c := loopOf f38 3) (bs := []) (by kernel_rfl) allNil (by kernel_rfl)) (by kernel_rfl) (by kernel_rfl) (impl_expand_l3_eq impl_expand_rec) (by rw [show firstId (loopOf f38 3) = 3 from by kernel_rfl]; exact h)
noncomputable def L38_1 (impl_expand_rec : (List (ByteArray × PT)) → Int → Option (ByteArray × Bool)) : Nat → Option LoopD := fun n => ifEq n 3 (some ⟨50, sh38_3, xs38_3, (impl_expand_l3 impl_expand_rec)⟩) ((L38_0 impl_expand_rec) n)
noncomputable def impl_expand_step (impl_expand_rec : (List (ByteArray × PT)) → Int → Option (ByteArray × Bool)) : (List (ByteArray × PT)) → Int → Option (ByteArray × Bool) := fun a0 a1 =>
 Option.bind (loopF (impl_expand_l3 impl_expand_rec) (a1, (⟨#[]⟩ : ByteArray), a0, (((List.length a0) : Nat) : Int), (0 : Int), ())) fun r0 =>
  (match r0 with
  | .inl (d1, d2, _) =>
    some (d1, d2)
  | .inr (d3, _) =>
    some (d3, true))
theorem impl_expand_step_eq (impl_expand_rec : (List (ByteArray × PT)) → Int → Option (ByteArray × Bool)) : fnF (E38 impl_expand_rec) (L38_1 impl_expand_rec) [.v (.sl (.pair .str .pt)), .v (.int .i64)] true [.str, .bool] f38.ntmps f38.results.toList (codeOf f38) = fun x => (impl_expand_step impl_expand_rec) x.1 x.2.1 := by kernel_rfl
theorem impl_expand_step_ok (impl_expand_rec : (List (ByteArray × PT)) → Int → Option (ByteArray × Bool)) (hrec : FnOk prog 38 (R38 impl_expand_rec)) : FnOk prog 38 ⟨[.v (.sl (.pair .str .pt)), .v (.int .i64)], true, [.str, .bool], fun x => (impl_expand_step impl_expand_rec) x.1 x.2.1⟩ := by
 have h := fnOk_of_run (P := prog) (E := (E38 impl_expand_rec)) (tysOk_of tyl_ok) (E38_ok impl_expand_rec hrec) (L := (L38_1 impl_expand_rec)) (ps := [.v (.sl (.pair .str .pt)), .v (.int .i64)]) (own := true) (outs := [.str, .bool]) func38 (c := codeOf f38) (by kernel_rfl) (codeOk_in (L := (L38_1 impl_expand_rec)) (tysOk_of tyl_ok) (E38_ok impl_expand_rec hrec) mixed (c := codeOf f38) (bs := [loopOf f38 3]) (by kernel_rfl) (allCons (loop38_3 impl_expand_rec hrec rfl) allNil) (by kernel_rfl))
 rw [(impl_expand_step_eq impl_expand_rec)] at h
 exact h
/-- so many calls within each other -/
noncomputable def impl_expand_fuel : Nat → (List (ByteArray × PT)) → Int → Option (ByteArray × Bool)
 | 0 => fun _ _ => none
 | n + 1 => impl_expand_step (impl_expand_fuel n)
theorem impl_expand_fuel_ok : ∀ n, FnOk prog 38 (R38 (impl_expand_fuel n))
 | 0 => fun xs r h => by cases h
 | n + 1 => impl_expand_step_ok (impl_expand_fuel n) (impl_expand_fuel_ok n)
noncomputable def impl_expand : (List (ByteArray × PT)) → Int → Option (ByteArray × Bool) := impl_expand_fuel 200
noncomputable def A38 : FnA := R38 impl_expand
theorem A38_ok : FnOk prog 38 A38 := impl_expand_fuel_ok 200
/-! impl.ExpandExpression -/
noncomputable def E14 : Env := ⟨ty0, fun g => ifEq g 37 (some A37) (ifEq g 38 (some A38) (none)), fun _ => none, fun _ => none, fun _ => none⟩
theorem E14_ok : FnsOk prog E14 := (oF A37_ok func37 (oF A38_ok func38 (noFns _ _)))
noncomputable def L14_0 : Nat → Option LoopD := fun _ => none
noncomputable def impl_ExpandExpression : ByteArray → Int → Option (ByteArray × Bool) := fun a0 a1 =>
 Option.bind (impl_parts a0) fun (r0, r1) =>
  bif (!r1) then
   some ((⟨#[]⟩ : ByteArray), false)
  else
   bif (decide (a1 < (1 : Int))) then
    some ((⟨#[]⟩ : ByteArray), false)
   else
    Option.bind (impl_expand (List.take (List.length r0) (List.drop 0 r0)) a1) fun (r2, r3) =>
     some (r2, r3)
noncomputable def A14 : FnA := ⟨[.v .str, .v (.int .i64)], true, [.str, .bool], fun x => impl_ExpandExpression x.1 x.2.1⟩
theorem impl_ExpandExpression_eq : fnF E14 L14_0 [.v .str, .v (.int .i64)] true [.str, .bool] f14.ntmps f14.results.toList (codeOf f14) = fun x => impl_ExpandExpression x.1 x.2.1 := by kernel_rfl
theorem A14_ok : FnOk prog 14 A14 := fo impl_ExpandExpression_eq func14 E14_ok allNil
/-! impl.WordValid -/
noncomputable def E35 : Env := ⟨ty0, fun _ => none, fun _ => none, fun _ => none, fun _ => none⟩
theorem E35_ok : FnsOk prog E35 := (noFns _ _)
noncomputable def L35_0 : Nat → Option LoopD := fun _ => none
def sh35_2 : List Fm := .cell (.val .str) :: D 4 (.cell (.val (.int .i64)) :: .cell (.val (.int .i64)) :: D 16 [])
def xs35_2 : List (Ex × List Fm) := [(.ret, (d :: d :: .cell (.val .bool) :: D 20 [])), (.exit 0, (.cell (.val .str) :: D 22 []))]
noncomputable def impl_WordValid_l2 : (ByteArray × Int × Int × Unit) → Option ((ByteArray × Int × Int × Unit) ⊕ ((Bool × Unit) ⊕ (ByteArray × Unit))) := fun (v0, v5, v6, _) =>
 bif (decide (v6 < v5)) then
  if (((0 : Int) ≤ v6) ∧ (v6 < (((ByteArray.size v0) : Nat) : Int))) then
   bif ((((UInt8.toNat (Array.getD (ByteArray.data v0) (Int.toNat v6) (0 : UInt8))) : Nat) : Int) != (97 : Int)) then
    if (((0 : Int) ≤ v6) ∧ (v6 < (((ByteArray.size v0) : Nat) : Int))) then
     bif ((((UInt8.toNat (Array.getD (ByteArray.data v0) (Int.toNat v6) (0 : UInt8))) : Nat) : Int) != (98 : Int)) then
      some (Sum.inr (Sum.inl (false, ())))
     else
      some (Sum.inl (v0, v5, (IntKind.wrap .i64 (v6 + (1 : Int))), ()))
    else
     none
   else
    some (Sum.inl (v0, v5, (IntKind.wrap .i64 (v6 + (1 : Int))), ()))
  else
   none
 else
  some (Sum.inr (Sum.inr (v0, ())))
theorem impl_WordValid_l2_eq : loopStep 23 E35 L35_0 (loopOf f35 2) sh35_2 xs35_2 = impl_WordValid_l2 := by kernel_rfl
theorem loop35_2 {L} (h : L 2 = some ⟨23, sh35_2, xs35_2, impl_WordValid_l2⟩) : LoopOk prog L (loopOf f35 2) := lo impl_WordValid_l2_eq E35_ok allNil h
noncomputable def L35_1 : Nat → Option LoopD := fun n => ifEq n 2 (some ⟨23, sh35_2, xs35_2, impl_WordValid_l2⟩) (L35_0 n)
noncomputable def impl_WordValid : ByteArray → Option (Bool) := fun a0 =>
 Option.bind (loopF impl_WordValid_l2 (a0, (((ByteArray.size a0) : Nat) : Int), (0 : Int), ())) fun r0 =>
  (match r0 with
  | .inl (d1, _) =>
    some d1
  | .inr (d2, _) =>
    some (decide ((((ByteArray.size d2) : Nat) : Int) ≤ (1000 : Int))))
noncomputable def A35 : FnA := ⟨[.v .str], true, [.bool], fun x => impl_WordValid x.1⟩
theorem impl_WordValid_eq : fnF E35 L35_1 [.v .str] true [.bool] f35.ntmps f35.results.toList (codeOf f35) = fun x => impl_WordValid x.1 := by kernel_rfl
theorem A35_ok : FnOk prog 35 A35 := fo impl_WordValid_eq func35 E35_ok (allCons (loop35_2 rfl) allNil)
/-! math/bits.Mul64 -/
noncomputable def E110 : Env := ⟨ty0, fun _ => none, fun _ => none, fun _ => none, fun _ => none⟩
theorem E110_ok : FnsOk prog E110 := (noFns _ _)
noncomputable def L110_0 : Nat → Option LoopD := fun _ => none
noncomputable def bits_Mul64 : Int → Int → Option (Int × Int) := fun a0 a1 =>
 if ((32 : Int) < (0 : Int)) then
  none
 else
  if ((32 : Int) < (0 : Int)) then
   none
  else
   if ((32 : Int) < (0 : Int)) then
    none
   else
    if ((32 : Int) < (0 : Int)) then
     none
    else
     if ((32 : Int) < (0 : Int)) then
      none
     else
      some ((IntKind.wrap .u64 ((IntKind.wrap .u64 ((IntKind.wrap .u64 ((Int.fdiv a0 ((2 : Int) ^ (Min.min (Int.toNat (32 : Int)) (IntKind.bits .u64)))) * (Int.fdiv a1 ((2 : Int) ^ (Min.min (Int.toNat (32 : Int)) (IntKind.bits .u64)))))) + (Int.fdiv (IntKind.wrap .u64 ((IntKind.wrap .u64 ((Int.fdiv a0 ((2 : Int) ^ (Min.min (Int.toNat (32 : Int)) (IntKind.bits .u64)))) * ((((BitVec.toNat ((BitVec.ofInt (IntKind.bits .u64) a1) &&& (BitVec.ofInt (IntKind.bits .u64) (4294967295 : Int)))) % (Int.natAbs ((2 : Int) ^ (IntKind.bits .u64)))) : Nat) : Int))) + (Int.fdiv (IntKind.wrap .u64 (((((BitVec.toNat ((BitVec.ofInt (IntKind.bits .u64) a0) &&& (BitVec.ofInt (IntKind.bits .u64) (4294967295 : Int)))) % (Int.natAbs ((2 : Int) ^ (IntKind.bits .u64)))) : Nat) : Int) * ((((BitVec.toNat ((BitVec.ofInt (IntKind.bits .u64) a1) &&& (BitVec.ofInt (IntKind.bits .u64) (4294967295 : Int)))) % (Int.natAbs ((2 : Int) ^ (IntKind.bits .u64)))) : Nat) : Int))) ((2 : Int) ^ (Min.min (Int.toNat (32 : Int)) (IntKind.bits .u64)))))) ((2 : Int) ^ (Min.min (Int.toNat (32 : Int)) (IntKind.bits .u64)))))) + (Int.fdiv (IntKind.wrap .u64 (((((BitVec.toNat ((BitVec.ofInt (IntKind.bits .u64) (IntKind.wrap .u64 ((IntKind.wrap .u64 ((Int.fdiv a0 ((2 : Int) ^ (Min.min (Int.toNat (32 : Int)) (IntKind.bits .u64)))) * ((((BitVec.toNat ((BitVec.ofInt (IntKind.bits .u64) a1) &&& (BitVec.ofInt (IntKind.bits .u64) (4294967295 : Int)))) % (Int.natAbs ((2 : Int) ^ (IntKind.bits .u64)))) : Nat) : Int))) + (Int.fdiv (IntKind.wrap .u64 (((((BitVec.toNat ((BitVec.ofInt (IntKind.bits .u64) a0) &&& (BitVec.ofInt (IntKind.bits .u64) (4294967295 : Int)))) % (Int.natAbs ((2 : Int) ^ (IntKind.bits .u64)))) : Nat) : Int) * ((((BitVec.toNat ((BitVec.ofInt (IntKind.bits .u64) a1) &&& (BitVec.ofInt (IntKind.bits .u64) (4294967295 : Int)))) % (Int.natAbs ((2 : Int) ^ (IntKind.bits .u64)))) : Nat) : Int))) ((2 : Int) ^ (Min.min (Int.toNat (32 : Int)) (IntKind.bits .u64))))))) &&& (BitVec.ofInt (IntKind.bits .u64) (4294967295 : Int)))) % (Int.natAbs ((2 : Int) ^ (IntKind.bits .u64)))) : Nat) : Int) + (IntKind.wrap .u64 (((((BitVec.toNat ((BitVec.ofInt (IntKind.bits .u64) a0) &&& (BitVec.ofInt (IntKind.bits .u64) (4294967295 : Int)))) % (Int.natAbs ((2 : Int) ^ (IntKind.bits .u64)))) : Nat) : Int) * (Int.fdiv a1 ((2 : Int) ^ (Min.min (Int.toNat (32 : Int)) (IntKind.bits .u64)))))))) ((2 : Int) ^ (Min.min (Int.toNat (32 : Int)) (IntKind.bits .u64)))))), (IntKind.wrap .u64 (a0 * a1)))
noncomputable def A110 : FnA := ⟨[.v (.int .u64), .v (.int .u64)], true, [.int .u64, .int .u64], fun x => bits_Mul64 x.1 x.2.1⟩
theorem bits_Mul64_eq : fnF E110 L110_0 [.v (.int .u64), .v (.int .u64)] true [.int .u64, .int .u64] f110.ntmps f110.results.toList (codeOf f110) = fun x => bits_Mul64 x.1 x.2.1 := by kernel_rfl
theorem A110_ok : FnOk prog 110 A110 := fo bits_Mul64_eq func110 E110_ok allNil
/-! math/bits.Mul -/
noncomputable def E83 : Env := ⟨ty0, fun g => ifEq g 110 (some A110) (none), fun _ => none, fun _ => none, fun _ => none⟩
theorem E83_ok : FnsOk prog E83 := (oF A110_ok func110 (noFns _ _))
noncomputable def L83_0 : Nat → Option LoopD := fun _ => none
noncomputable def bits_Mul : Int → Int → Option (Int × Int) := fun a0 a1 =>
 Option.bind (bits_Mul64 a0 a1) fun (r0, r1) =>
  some (r0, r1)
noncomputable def A83 : FnA := ⟨[.v (.int .u64), .v (.int .u64)], true, [.int .u64, .int .u64], fun x => bits_Mul x.1 x.2.1⟩
theorem bits_Mul_eq : fnF E83 L83_0 [.v (.int .u64), .v (.int .u64)] true [.int .u64, .int .u64] f83.ntmps f83.results.toList (codeOf f83) = fun x => bits_Mul x.1 x.2.1 := by kernel_rfl
theorem A83_ok : FnOk prog 83 A83 := fo bits_Mul_eq func83 E83_ok allNil
/-! slices.Repeat[[]int,int] -/
noncomputable def E57 : Env := ⟨ty0, fun g => ifEq g 83 (some A83) (none), fun _ => none, fun _ => none, fun _ => none⟩
theorem E57_ok : FnsOk prog E57 := (oF A83_ok func83 (noFns _ _))
noncomputable def L57_0 : Nat → Option LoopD := fun _ => none
def sh57_8 : List Fm := D 7 (.cell (.own (.int .i64) 100700 false) :: .cell (.val (.int .i64)) :: D 39 [])
def xs57_8 : List (Ex × List Fm) := [(.exit 0, (D 7 (.cell (.own (.int .i64) 100700 false) :: D 40 [])))]
noncomputable def slices_Repeat_l8 : ((List Int) × Int × Unit) → Option (((List Int) × Int × Unit) ⊕ (((List Int) × Unit))) := fun (v7, v8, _) =>
 bif (decide (v8 < (((List.length v7) : Nat) : Int))) then
  if (((0 : Int) ≤ v8) ∧ (v8 ≤ (((List.length v7) : Nat) : Int))) then
   if (((0 : Int) ≤ v8) ∧ (v8 ≤ (((List.length v7) : Nat) : Int))) then
    some (Sum.inl ((List.take (List.length v7) (List.drop 0 ((List.take (0 + (Int.toNat v8)) v7) ++ ((List.take ((List.length v7) - (Int.toNat v8)) (List.take ((Int.toNat v8) - 0) (List.drop (0 + 0) v7))) ++ (List.drop ((0 + (Int.toNat v8)) + (List.length (List.take ((List.length v7) - (Int.toNat v8)) (List.take ((Int.toNat v8) - 0) (List.drop (0 + 0) v7))))) v7))))), (IntKind.wrap .i64 (v8 + (((List.length (List.take ((List.length v7) - (Int.toNat v8)) (List.take ((Int.toNat v8) - 0) (List.drop (0 + 0) v7)))) : Nat) : Int))), ()))
   else
    none
  else
   none
 else
  some (Sum.inr ((List.take (List.length v7) (List.drop 0 v7)), ()))
theorem slices_Repeat_l8_eq : loopStep 48 E57 L57_0 (loopOf f57 8) sh57_8 xs57_8 = slices_Repeat_l8 := by kernel_rfl
theorem loop57_8 {L} (h : L 8 = some ⟨48, sh57_8, xs57_8, slices_Repeat_l8⟩) : LoopOk prog L (loopOf f57 8) := lo slices_Repeat_l8_eq E57_ok allNil h
noncomputable def L57_1 : Nat → Option LoopD := fun n => ifEq n 8 (some ⟨48, sh57_8, xs57_8, slices_Repeat_l8⟩) (L57_0 n)
noncomputable def slices_Repeat : (List Int) → Int → Option ((List Int)) := fun a0 a1 =>
 bif (decide (a1 < (0 : Int))) then
  none
 else
  Option.bind (bits_Mul (IntKind.wrap .u64 (((List.length a0) : Nat) : Int)) (IntKind.wrap .u64 a1)) fun (r0, r1) =>
   bif (decide (r0 > (0 : Int))) then
    none
   else
    bif (decide (r1 > (9223372036854775807 : Int))) then
     none
    else
     if (((0 : Int) ≤ (IntKind.wrap .i64 r1)) ∧ (((IntKind.wrap .i64 r1) = (IntKind.wrap .i64 r1)) ∧ (((IntKind.wrap .i64 r1) * ((8 : Nat) : Int)) ≤ (140737488355328 : Int)))) then
      Option.bind (loopF slices_Repeat_l8 ((List.take (Int.toNat (IntKind.wrap .i64 r1)) (List.drop 0 ((List.take 0 (List.replicate (Int.toNat (IntKind.wrap .i64 r1)) (0 : Int))) ++ ((List.take (Int.toNat (IntKind.wrap .i64 r1)) a0) ++ (List.drop (0 + (List.length (List.take (Int.toNat (IntKind.wrap .i64 r1)) a0))) (List.replicate (Int.toNat (IntKind.wrap .i64 r1)) (0 : Int))))))), (((List.length (List.take (Int.toNat (IntKind.wrap .i64 r1)) a0)) : Nat) : Int), ())) fun (r2, _) =>
       some (List.take (List.length r2) (List.drop 0 r2))
     else
      none
noncomputable def A57 : FnA := ⟨[.v (.sl (.int .i64)), .v (.int .i64)], true, [.sl (.int .i64)], fun x => slices_Repeat x.1 x.2.1⟩
theorem slices_Repeat_eq : fnF E57 L57_1 [.v (.sl (.int .i64)), .v (.int .i64)] true [.sl (.int .i64)] f57.ntmps f57.results.toList (codeOf f57) = fun x => slices_Repeat x.1 x.2.1 := by kernel_rfl
theorem A57_ok : FnOk prog 57 A57 := fo slices_Repeat_eq func57 E57_ok (allCons (loop57_8 rfl) allNil)
/-! impl.toEnd -/
noncomputable def E36 : Env := ⟨ty0, fun g => ifEq g 57 (some A57) (none), fun _ => none, fun _ => none, fun _ => none⟩
theorem E36_ok : FnsOk prog E36 := (oF A57_ok func57 (noFns _ _))
noncomputable def L36_0 : Nat → Option LoopD := fun _ => none
def sh36_3 : List Fm := d :: .cell (.val .str) :: .box 100200 [.val (.int .i64), .val (.sl (.int .i64)), .val (.sl (.int .i64)), .val (.sl (.pair (.int .i64) (.pair .str (.pair (.int .i64) (.int .i64)))))] :: d :: d :: .cell (.own (.int .i64) 100500 false) :: D 12 (.cell (.val (.sl (.int .i64))) :: .cell (.val (.int .i64)) :: .cell (.val (.int .i64)) :: D 60 [])
def xs36_3 : List (Ex × List Fm) := [(.exit 0, [d, .cell (.val .str), .box 100200 [.val (.int .i64), .val (.sl (.int .i64)), .val (.sl (.int .i64)), .val (.sl (.pair (.int .i64) (.pair .str (.pair (.int .i64) (.int .i64)))))], d, d, .cell (.own (.int .i64) 100500 false), d, d, d, d, d, d, d, d, d, d, d, d, d, d, d, d, d, d, d, d, d, d, d, d, d, d, d, d, d, d, d, d, d, d, d, d, d, d, d, d, d, d, d, d, d, d, d, d, d, d, d, d, d, d, d, d, d, d, d, d, d, d, d, d, d, d, d, d, d, d, d, d, d, d, d])]
noncomputable def impl_toEnd_l3 : (ByteArray × (Int × (List Int) × (List Int) × (List (Int × (ByteArray × (Int × Int)))) × Unit) × (List Int) × (List Int) × Int × Int × Unit) → Option ((ByteArray × (Int × (List Int) × (List Int) × (List (Int × (ByteArray × (Int × Int)))) × Unit) × (List Int) × (List Int) × Int × Int × Unit) ⊕ ((ByteArray × (Int × (List Int) × (List Int) × (List (Int × (ByteArray × (Int × Int)))) × Unit) × (List Int) × Unit))) := fun (v1, (v2_0, v2_1, v2_2, v2_3, _), v5, v18, v19, v20, _) =>
 bif (decide (v20 < v19)) then
  if (((0 : Int) ≤ v20) ∧ (v20 < (((List.length v18) : Nat) : Int))) then
   if (((0 : Int) ≤ (List.getD v18 (Int.toNat v20) (0 : Int))) ∧ ((List.getD v18 (Int.toNat v20) (0 : Int)) < (((List.length v5) : Nat) : Int))) then
    some (Sum.inl (v1, (v2_0, v2_1, v2_2, v2_3, ()), (List.take (List.length v5) (List.drop 0 (List.set v5 (0 + (Int.toNat (List.getD v18 (Int.toNat v20) (0 : Int)))) (0 : Int)))), v18, v19, (IntKind.wrap .i64 (v20 + (1 : Int))), ()))
   else
    none
  else
   none
 else
  some (Sum.inr (v1, (v2_0, v2_1, v2_2, v2_3, ()), (List.take (List.length v5) (List.drop 0 v5)), ()))
theorem impl_toEnd_l3_eq : loopStep 81 E36 L36_0 (loopOf f36 3) sh36_3 xs36_3 = impl_toEnd_l3 := by kernel_rfl
theorem loop36_3 {L} (h : L 3 = some ⟨81, sh36_3, xs36_3, impl_toEnd_l3⟩) : LoopOk prog L (loopOf f36 3) := lo impl_toEnd_l3_eq E36_ok allNil h
noncomputable def L36_1 : Nat → Option LoopD := fun n => ifEq n 3 (some ⟨81, sh36_3, xs36_3, impl_toEnd_l3⟩) (L36_0 n)
def sh36_13 : List Fm := d :: .cell (.val .str) :: .box 100200 [.val (.int .i64), .val (.sl (.int .i64)), .val (.sl (.int .i64)), .val (.sl (.pair (.int .i64) (.pair .str (.pair (.int .i64) (.int .i64)))))] :: d :: d :: .cell (.val (.sl (.int .i64))) :: d :: d :: .cell (.own (.sl (.int .i64)) 100800 false) :: .cell (.val (.int .i64)) :: .cell (.own (.int .i64) 101000 false) :: D 31 (.cell (.val (.sl (.pair (.int .i64) (.pair .str (.pair (.int .i64) (.int .i64)))))) :: .cell (.val (.int .i64)) :: .cell (.val (.int .i64)) :: D 36 [])
def xs36_13 : List (Ex × List Fm) := [(.exit 4, [d, .cell (.val .str), .box 100200 [.val (.int .i64), .val (.sl (.int .i64)), .val (.sl (.int .i64)), .val (.sl (.pair (.int .i64) (.pair .str (.pair (.int .i64) (.int .i64)))))], d, d, d, d, d, .cell (.own (.sl (.int .i64)) 100800 false), .cell (.val (.int .i64)), .cell (.own (.int .i64) 101000 false), d, d, d, d, d, d, d, d, d, d, d, d, d, d, d, d, d, d, d, d, d, d, d, d, d, d, d, d, d, d, d, d, d, d, d, d, d, d, d, d, d, d, d, d, d, d, d, d, d, d, d, d, d, d, d, d, d, d, d, d, d, d, d, d, d, d, d, d, d, d])]
noncomputable def impl_toEnd_l13 : (ByteArray × (Int × (List Int) × (List Int) × (List (Int × (ByteArray × (Int × Int)))) × Unit) × (List Int) × (List (List Int)) × Int × (List Int) × (List (Int × (ByteArray × (Int × Int)))) × Int × Int × Unit) → Option ((ByteArray × (Int × (List Int) × (List Int) × (List (Int × (ByteArray × (Int × Int)))) × Unit) × (List Int) × (List (List Int)) × Int × (List Int) × (List (Int × (ByteArray × (Int × Int)))) × Int × Int × Unit) ⊕ ((ByteArray × (Int × (List Int) × (List Int) × (List (Int × (ByteArray × (Int × Int)))) × Unit) × (List (List Int)) × Int × (List Int) × Unit))) := fun (v1, (v2_0, v2_1, v2_2, v2_3, _), v5, v8, v9, v10, v42, v43, v44, _) =>
 bif (decide (v44 < v43)) then
  if (((0 : Int) ≤ v44) ∧ (v44 < (((List.length v42) : Nat) : Int))) then
   if (((0 : Int) ≤ v9) ∧ ((v9 ≤ (IntKind.wrap .i64 (v9 + (1 : Int)))) ∧ ((IntKind.wrap .i64 (v9 + (1 : Int))) ≤ (((ByteArray.size v1) : Nat) : Int)))) then
    bif ((ByteArray.toList (List.getD v42 (Int.toNat v44) ((0 : Int), (⟨Array.empty⟩ : ByteArray), (0 : Int), (0 : Int))).2.1) == (ByteArray.toList (ByteArray.extract v1 (Int.toNat v9) (Int.toNat (IntKind.wrap .i64 (v9 + (1 : Int))))))) then
     if (((0 : Int) ≤ (List.getD v42 (Int.toNat v44) ((0 : Int), (⟨Array.empty⟩ : ByteArray), (0 : Int), (0 : Int))).1) ∧ ((List.getD v42 (Int.toNat v44) ((0 : Int), (⟨Array.empty⟩ : ByteArray), (0 : Int), (0 : Int))).1 < (((List.length v10) : Nat) : Int))) then
      if (((0 : Int) ≤ (List.getD v42 (Int.toNat v44) ((0 : Int), (⟨Array.empty⟩ : ByteArray), (0 : Int), (0 : Int))).2.2.1) ∧ ((List.getD v42 (Int.toNat v44) ((0 : Int), (⟨Array.empty⟩ : ByteArray), (0 : Int), (0 : Int))).2.2.1 < (((List.length v5) : Nat) : Int))) then
       if (((0 : Int) ≤ (List.getD v42 (Int.toNat v44) ((0 : Int), (⟨Array.empty⟩ : ByteArray), (0 : Int), (0 : Int))).1) ∧ ((List.getD v42 (Int.toNat v44) ((0 : Int), (⟨Array.empty⟩ : ByteArray), (0 : Int), (0 : Int))).1 < (((List.length v10) : Nat) : Int))) then
        some (Sum.inl (v1, (v2_0, v2_1, v2_2, v2_3, ()), v5, (List.take (List.length v8) (List.drop 0 v8)), v9, (List.take (List.length v10) (List.drop 0 (List.set v10 (0 + (Int.toNat (List.getD v42 (Int.toNat v44) ((0 : Int), (⟨Array.empty⟩ : ByteArray), (0 : Int), (0 : Int))).1)) (if ((IntKind.wrap .i64 ((List.getD v42 (Int.toNat v44) ((0 : Int), (⟨Array.empty⟩ : ByteArray), (0 : Int), (0 : Int))).2.2.2 + (List.getD v5 (Int.toNat (List.getD v42 (Int.toNat v44) ((0 : Int), (⟨Array.empty⟩ : ByteArray), (0 : Int), (0 : Int))).2.2.1) (0 : Int)))) < (List.getD v10 (0 + (Int.toNat (List.getD v42 (Int.toNat v44) ((0 : Int), (⟨Array.empty⟩ : ByteArray), (0 : Int), (0 : Int))).1)) (0 : Int))) then (IntKind.wrap .i64 ((List.getD v42 (Int.toNat v44) ((0 : Int), (⟨Array.empty⟩ : ByteArray), (0 : Int), (0 : Int))).2.2.2 + (List.getD v5 (Int.toNat (List.getD v42 (Int.toNat v44) ((0 : Int), (⟨Array.empty⟩ : ByteArray), (0 : Int), (0 : Int))).2.2.1) (0 : Int)))) else (List.getD v10 (0 + (Int.toNat (List.getD v42 (Int.toNat v44) ((0 : Int), (⟨Array.empty⟩ : ByteArray), (0 : Int), (0 : Int))).1)) (0 : Int)))))), v42, v43, (IntKind.wrap .i64 (v44 + (1 : Int))), ()))
       else
        none
      else
       none
     else
      none
    else
     some (Sum.inl (v1, (v2_0, v2_1, v2_2, v2_3, ()), v5, (List.take (List.length v8) (List.drop 0 v8)), v9, (List.take (List.length v10) (List.drop 0 v10)), v42, v43, (IntKind.wrap .i64 (v44 + (1 : Int))), ()))
   else
    none
  else
   none
 else
  some (Sum.inr (v1, (v2_0, v2_1, v2_2, v2_3, ()), (List.take (List.length v8) (List.drop 0 v8)), v9, (List.take (List.length v10) (List.drop 0 v10)), ()))
theorem impl_toEnd_l13_eq : loopStep 81 E36 L36_1 (loopOf f36 13) sh36_13 xs36_13 = impl_toEnd_l13 := by kernel_rfl
theorem loop36_13 {L} (h : L 13 = some ⟨81, sh36_13, xs36_13, impl_toEnd_l13⟩) : LoopOk prog L (loopOf f36 13) := lo impl_toEnd_l13_eq E36_ok allNil h
noncomputable def L36_2 : Nat → Option LoopD := fun n => ifEq n 13 (some ⟨81, sh36_13, xs36_13, impl_toEnd_l13⟩) (L36_1 n)
def sh36_9 : List Fm := d :: .cell (.val .str) :: .box 100200 [.val (.int .i64), .val (.sl (.int .i64)), .val (.sl (.int .i64)), .val (.sl (.pair (.int .i64) (.pair .str (.pair (.int .i64) (.int .i64)))))] :: d :: d :: .cell (.val (.sl (.int .i64))) :: d :: d :: .cell (.own (.sl (.int .i64)) 100800 false) :: .cell (.val (.int .i64)) :: D 71 []
def xs36_9 : List (Ex × List Fm) := [(.exit 2, (D 8 (.cell (.own (.sl (.int .i64)) 100800 false) :: D 72 [])))]
noncomputable def impl_toEnd_l9 : (ByteArray × (Int × (List Int) × (List Int) × (List (Int × (ByteArray × (Int × Int)))) × Unit) × (List Int) × (List (List Int)) × Int × Unit) → Option ((ByteArray × (Int × (List Int) × (List Int) × (List (Int × (ByteArray × (Int × Int)))) × Unit) × (List Int) × (List (List Int)) × Int × Unit) ⊕ (((List (List Int)) × Unit))) := fun (v1, (v2_0, v2_1, v2_2, v2_3, _), v5, v8, v9, _) =>
 bif (decide (v9 ≥ (0 : Int))) then
  Option.bind (slices_Repeat (List.take 1 (List.drop 0 [(1000000 : Int)])) v2_0) fun r0 =>
   Option.bind (loopF impl_toEnd_l13 (v1, (v2_0, v2_1, v2_2, v2_3, ()), v5, (List.take (List.length v8) (List.drop 0 v8)), v9, (List.take (List.length r0) (List.drop 0 r0)), v2_3, (((List.length v2_3) : Nat) : Int), (0 : Int), ())) fun (r1, (r2, r3, r4, r5, _), r6, r7, r8, _) =>
    if (((0 + (List.length r6)) = (List.length r6)) ∧ ((((List.length r6) + (List.length (List.take 1 (List.drop 0 [(List.take (List.length r8) (List.drop 0 r8))])))) * 24) ≤ 140737488355328)) then
     some (Sum.inl (r1, (r2, r3, r4, r5, ()), (List.take (List.length r8) (List.drop 0 r8)), (List.take ((List.length r6) + (List.length (List.take 1 (List.drop 0 [(List.take (List.length r8) (List.drop 0 r8))])))) (List.drop 0 ((List.drop 0 r6) ++ (List.take 1 (List.drop 0 [(List.take (List.length r8) (List.drop 0 r8))]))))), (IntKind.wrap .i64 (r7 - (1 : Int))), ()))
    else
     none
 else
  some (Sum.inr ((List.take (List.length v8) (List.drop 0 v8)), ()))
theorem impl_toEnd_l9_eq : loopStep 81 E36 L36_2 (loopOf f36 9) sh36_9 xs36_9 = impl_toEnd_l9 := by kernel_rfl
theorem loop36_9 {L} (h : L 9 = some ⟨81, sh36_9, xs36_9, impl_toEnd_l9⟩) : LoopOk prog L (loopOf f36 9) := lo impl_toEnd_l9_eq E36_ok (allCons (loop36_13 rfl) allNil) h
noncomputable def L36_3 : Nat → Option LoopD := fun n => ifEq n 9 (some ⟨81, sh36_9, xs36_9, impl_toEnd_l9⟩) (L36_2 n)
noncomputable def impl_toEnd : (Int × ((List Int) × ((List Int) × (List (Int × (ByteArray × (Int × Int))))))) → ByteArray → Option ((List (List Int))) := fun (a0_0, a0_1, a0_2, a0_3) a1 =>
 Option.bind (slices_Repeat (List.take 1 (List.drop 0 [(1000000 : Int)])) a0_0) fun r0 =>
  Option.bind (loopF impl_toEnd_l3 (a1, (a0_0, a0_1, a0_2, a0_3, ()), (List.take (List.length r0) (List.drop 0 r0)), a0_2, (((List.length a0_2) : Nat) : Int), (0 : Int), ())) fun (r1, (r2, r3, r4, r5, _), r6, _) =>
   Option.bind (loopF impl_toEnd_l9 (r1, (r2, r3, r4, r5, ()), (List.take (List.length r6) (List.drop 0 r6)), (List.take 1 (List.drop 0 [(List.take (List.length r6) (List.drop 0 r6))])), (IntKind.wrap .i64 ((((ByteArray.size r1) : Nat) : Int) - (1 : Int))), ())) fun (r7, _) =>
    some (List.take (List.length r7) (List.drop 0 r7))
noncomputable def A36 : FnA := ⟨[.v (.pair (.int .i64) (.pair (.sl (.int .i64)) (.pair (.sl (.int .i64)) (.sl (.pair (.int .i64) (.pair .str (.pair (.int .i64) (.int .i64)))))))), .v .str], true, [.sl (.sl (.int .i64))], fun x => impl_toEnd x.1 x.2.1⟩
theorem impl_toEnd_eq : fnF E36 L36_3 [.v (.pair (.int .i64) (.pair (.sl (.int .i64)) (.pair (.sl (.int .i64)) (.sl (.pair (.int .i64) (.pair .str (.pair (.int .i64) (.int .i64)))))))), .v .str] true [.sl (.sl (.int .i64))] f36.ntmps f36.results.toList (codeOf f36) = fun x => impl_toEnd x.1 x.2.1 := by kernel_rfl
theorem A36_ok : FnOk prog 36 A36 := fo impl_toEnd_eq func36 E36_ok (allCons (loop36_3 rfl) (allCons (loop36_9 rfl) allNil))
/-! impl.CostOf -/
noncomputable def E13 : Env := ⟨ty0, fun g => ifEq g 34 (some A34) (ifEq g 35 (some A35) (ifEq g 36 (some A36) (none))), fun _ => none, fun _ => none, fun _ => none⟩
theorem E13_ok : FnsOk prog E13 := (oF A34_ok func34 (oF A35_ok func35 (oF A36_ok func36 (noFns _ _))))
noncomputable def L13_0 : Nat → Option LoopD := fun _ => none
def sh13_6 : List Fm := d :: .cell (.val .str) :: d :: d :: d :: .cell (.own (.sl (.int .i64)) 100500 false) :: .cell (.val (.int .i64)) :: D 14 (.cell (.val (.sl (.int .i64))) :: .cell (.val (.int .i64)) :: .cell (.val (.int .i64)) :: D 15 [])
def xs13_6 : List (Ex × List Fm) := [(.exit 0, (D 6 (.cell (.val (.int .i64)) :: D 32 [])))]
noncomputable def impl_CostOf_l6 : (ByteArray × (List (List Int)) × Int × (List Int) × Int × Int × Unit) → Option ((ByteArray × (List (List Int)) × Int × (List Int) × Int × Int × Unit) ⊕ ((Int × Unit))) := fun (v1, v5, v6, v21, v22, v23, _) =>
 bif (decide (v23 < v22)) then
  if (((0 : Int) ≤ v23) ∧ (v23 < (((List.length v21) : Nat) : Int))) then
   if (((0 : Int) ≤ (((ByteArray.size v1) : Nat) : Int)) ∧ ((((ByteArray.size v1) : Nat) : Int) < (((List.length v5) : Nat) : Int))) then
    if (((0 : Int) ≤ (List.getD v21 (Int.toNat v23) (0 : Int))) ∧ ((List.getD v21 (Int.toNat v23) (0 : Int)) < (((List.length (List.getD v5 (0 + (Int.toNat (((ByteArray.size v1) : Nat) : Int))) [])) : Nat) : Int))) then
     some (Sum.inl (v1, (List.take (List.length v5) (List.drop 0 v5)), (if ((List.getD (List.getD v5 (0 + (Int.toNat (((ByteArray.size v1) : Nat) : Int))) []) (Int.toNat (List.getD v21 (Int.toNat v23) (0 : Int))) (0 : Int)) < v6) then (List.getD (List.getD v5 (0 + (Int.toNat (((ByteArray.size v1) : Nat) : Int))) []) (Int.toNat (List.getD v21 (Int.toNat v23) (0 : Int))) (0 : Int)) else v6), v21, v22, (IntKind.wrap .i64 (v23 + (1 : Int))), ()))
    else
     none
   else
    none
  else
   none
 else
  some (Sum.inr (v6, ()))
theorem impl_CostOf_l6_eq : loopStep 39 E13 L13_0 (loopOf f13 6) sh13_6 xs13_6 = impl_CostOf_l6 := by kernel_rfl
theorem loop13_6 {L} (h : L 6 = some ⟨39, sh13_6, xs13_6, impl_CostOf_l6⟩) : LoopOk prog L (loopOf f13 6) := lo impl_CostOf_l6_eq E13_ok allNil h
noncomputable def L13_1 : Nat → Option LoopD := fun n => ifEq n 6 (some ⟨39, sh13_6, xs13_6, impl_CostOf_l6⟩) (L13_0 n)
noncomputable def impl_CostOf : (Int × ((List Int) × ((List Int) × (List (Int × (ByteArray × (Int × Int))))))) → ByteArray → Option (Int) := fun (a0_0, a0_1, a0_2, a0_3) a1 =>
 Option.bind (impl_AutomatonValid (a0_0, a0_1, a0_2, a0_3)) fun r0 =>
  bif (!r0) then
   some (-1 : Int)
  else
   Option.bind (impl_WordValid a1) fun r1 =>
    bif (!r1) then
     some (-1 : Int)
    else
     Option.bind (impl_toEnd (a0_0, a0_1, a0_2, a0_3) a1) fun r2 =>
      Option.bind (loopF impl_CostOf_l6 (a1, (List.take (List.length r2) (List.drop 0 r2)), (1000000 : Int), a0_1, (((List.length a0_1) : Nat) : Int), (0 : Int), ())) fun (r3, _) =>
       some r3
noncomputable def A13 : FnA := ⟨[.v (.pair (.int .i64) (.pair (.sl (.int .i64)) (.pair (.sl (.int .i64)) (.sl (.pair (.int .i64) (.pair .str (.pair (.int .i64) (.int .i64)))))))), .v .str], true, [.int .i64], fun x => impl_CostOf x.1 x.2.1⟩
theorem impl_CostOf_eq : fnF E13 L13_1 [.v (.pair (.int .i64) (.pair (.sl (.int .i64)) (.pair (.sl (.int .i64)) (.sl (.pair (.int .i64) (.pair .str (.pair (.int .i64) (.int .i64)))))))), .v .str] true [.int .i64] f13.ntmps f13.results.toList (codeOf f13) = fun x => impl_CostOf x.1 x.2.1 := by kernel_rfl
theorem A13_ok : FnOk prog 13 A13 := fo impl_CostOf_eq func13 E13_ok (allCons (loop13_6 rfl) allNil)
/-! impl.WordOver -/
noncomputable def E9 : Env := ⟨ty0, fun g => ifEq g 12 (some A12) (ifEq g 14 (some A14) (ifEq g 13 (some A13) (none))), fun _ => none, fun _ => none, fun _ => none⟩
theorem E9_ok : FnsOk prog E9 := (oF A12_ok func12 (oF A14_ok func14 (oF A13_ok func13 (noFns _ _))))
noncomputable def L9_0 : Nat → Option LoopD := fun _ => none
def sh9_5 : List Fm := d :: .cell (.val (.int .i64)) :: .box 100200 [.val (.int .i64), .val (.sl (.int .i64)), .val (.sl (.int .i64)), .val (.sl (.pair (.int .i64) (.pair .str (.pair (.int .i64) (.int .i64)))))] :: d :: d :: d :: .cell (.val .str) :: d :: .cell (.val (.int .i64)) :: D 31 []
def xs9_5 : List (Ex × List Fm) := [(.exit 0, (D 40 [])), (.ret, (D 4 (.cell (.val .str) :: .cell (.val .bool) :: D 34 [])))]
noncomputable def impl_WordOver_l5 : (Int × (Int × (List Int) × (List Int) × (List (Int × (ByteArray × (Int × Int)))) × Unit) × ByteArray × Int × Unit) → Option ((Int × (Int × (List Int) × (List Int) × (List (Int × (ByteArray × (Int × Int)))) × Unit) × ByteArray × Int × Unit) ⊕ ((Unit) ⊕ (ByteArray × Bool × Unit))) := fun (v1, (v2_0, v2_1, v2_2, v2_3, _), v6, v8, _) =>
 bif (decide (v8 ≤ (60 : Int))) then
  Option.bind (impl_ExpandExpression v6 v8) fun (r0, r1) =>
   bif (!r1) then
    some (Sum.inr (Sum.inl ()))
   else
    Option.bind (impl_CostOf (v2_0, v2_1, v2_2, v2_3) r0) fun r2 =>
     bif (decide (r2 ≥ v1)) then
      some (Sum.inr (Sum.inr (r0, true, ())))
     else
      some (Sum.inl (v1, (v2_0, v2_1, v2_2, v2_3, ()), v6, (IntKind.wrap .i64 (v8 + (1 : Int))), ()))
 else
  some (Sum.inr (Sum.inl ()))
theorem impl_WordOver_l5_eq : loopStep 40 E9 L9_0 (loopOf f9 5) sh9_5 xs9_5 = impl_WordOver_l5 := by kernel_rfl
theorem loop9_5 {L} (h : L 5 = some ⟨40, sh9_5, xs9_5, impl_WordOver_l5⟩) : LoopOk prog L (loopOf f9 5) := lo impl_WordOver_l5_eq E9_ok allNil h
noncomputable def L9_1 : Nat → Option LoopD := fun n => ifEq n 5 (some ⟨40, sh9_5, xs9_5, impl_WordOver_l5⟩) (L9_0 n)
noncomputable def impl_WordOver : (Int × ((List Int) × ((List Int) × (List (Int × (ByteArray × (Int × Int))))))) → Int → Option (ByteArray × Bool) := fun (a0_0, a0_1, a0_2, a0_3) a1 =>
 Option.bind (impl_GrowingOf (a0_0, a0_1, a0_2, a0_3)) fun (r0, r1) =>
  bif (!r1) then
   some ((⟨#[]⟩ : ByteArray), false)
  else
   bif (decide (a1 < (0 : Int))) then
    some ((⟨#[]⟩ : ByteArray), false)
   else
    Option.bind (loopF impl_WordOver_l5 (a1, (a0_0, a0_1, a0_2, a0_3, ()), r0, (1 : Int), ())) fun r2 =>
     (match r2 with
     | .inl _ =>
       some ((⟨#[]⟩ : ByteArray), false)
     | .inr (d3, d4, _) =>
       some (d3, d4))
noncomputable def A9 : FnA := ⟨[.v (.pair (.int .i64) (.pair (.sl (.int .i64)) (.pair (.sl (.int .i64)) (.sl (.pair (.int .i64) (.pair .str (.pair (.int .i64) (.int .i64)))))))), .v (.int .i64)], true, [.str, .bool], fun x => impl_WordOver x.1 x.2.1⟩
theorem impl_WordOver_eq : fnF E9 L9_1 [.v (.pair (.int .i64) (.pair (.sl (.int .i64)) (.pair (.sl (.int .i64)) (.sl (.pair (.int .i64) (.pair .str (.pair (.int .i64) (.int .i64)))))))), .v (.int .i64)] true [.str, .bool] f9.ntmps f9.results.toList (codeOf f9) = fun x => impl_WordOver x.1 x.2.1 := by kernel_rfl
theorem A9_ok : FnOk prog 9 A9 := fo impl_WordOver_eq func9 E9_ok (allCons (loop9_5 rfl) allNil)
/-! laws.eqIntS -/
noncomputable def E26 : Env := ⟨ty0, fun _ => none, fun _ => none, fun _ => none, fun _ => none⟩
theorem E26_ok : FnsOk prog E26 := (noFns _ _)
noncomputable def L26_0 : Nat → Option LoopD := fun _ => none
def sh26_4 : List Fm := .cell (.val (.sl (.int .i64))) :: .cell (.val (.sl (.int .i64))) :: d :: d :: d :: .cell (.val (.int .i64)) :: D 20 []
def xs26_4 : List (Ex × List Fm) := [(.ret, (D 4 (.cell (.val .bool) :: D 21 []))), (.exit 0, (D 26 []))]
noncomputable def laws_eqIntS_l4 : ((List Int) × (List Int) × Int × Unit) → Option (((List Int) × (List Int) × Int × Unit) ⊕ ((Bool × Unit) ⊕ (Unit))) := fun (v0, v1, v5, _) =>
 bif (decide (v5 < (((List.length v0) : Nat) : Int))) then
  if (((0 : Int) ≤ v5) ∧ (v5 < (((List.length v0) : Nat) : Int))) then
   if (((0 : Int) ≤ v5) ∧ (v5 < (((List.length v1) : Nat) : Int))) then
    bif ((List.getD v0 (Int.toNat v5) (0 : Int)) != (List.getD v1 (Int.toNat v5) (0 : Int))) then
     some (Sum.inr (Sum.inl (false, ())))
    else
     some (Sum.inl (v0, v1, (IntKind.wrap .i64 (v5 + (1 : Int))), ()))
   else
    none
  else
   none
 else
  some (Sum.inr (Sum.inr ()))
theorem laws_eqIntS_l4_eq : loopStep 26 E26 L26_0 (loopOf f26 4) sh26_4 xs26_4 = laws_eqIntS_l4 := by kernel_rfl
theorem loop26_4 {L} (h : L 4 = some ⟨26, sh26_4, xs26_4, laws_eqIntS_l4⟩) : LoopOk prog L (loopOf f26 4) := lo laws_eqIntS_l4_eq E26_ok allNil h
noncomputable def L26_1 : Nat → Option LoopD := fun n => ifEq n 4 (some ⟨26, sh26_4, xs26_4, laws_eqIntS_l4⟩) (L26_0 n)
noncomputable def laws_eqIntS : (List Int) → (List Int) → Option (Bool) := fun a0 a1 =>
 bif ((((List.length a0) : Nat) : Int) != (((List.length a1) : Nat) : Int)) then
  some false
 else
  Option.bind (loopF laws_eqIntS_l4 (a0, a1, (0 : Int), ())) fun r0 =>
   (match r0 with
   | .inl (d1, _) =>
     some d1
   | .inr _ =>
     some true)
noncomputable def A26 : FnA := ⟨[.v (.sl (.int .i64)), .v (.sl (.int .i64))], true, [.bool], fun x => laws_eqIntS x.1 x.2.1⟩
theorem laws_eqIntS_eq : fnF E26 L26_1 [.v (.sl (.int .i64)), .v (.sl (.int .i64))] true [.bool] f26.ntmps f26.results.toList (codeOf f26) = fun x => laws_eqIntS x.1 x.2.1 := by kernel_rfl
theorem A26_ok : FnOk prog 26 A26 := fo laws_eqIntS_eq func26 E26_ok (allCons (loop26_4 rfl) allNil)
/-! laws.eqStep -/
noncomputable def E49 : Env := ⟨ty0, fun _ => none, fun _ => none, fun _ => none, fun _ => none⟩
theorem E49_ok : FnsOk prog E49 := (noFns _ _)
noncomputable def L49_0 : Nat → Option LoopD := fun _ => none
noncomputable def laws_eqStep : (Int × (ByteArray × (Int × Int))) → (Int × (ByteArray × (Int × Int))) → Option (Bool) := fun (a0_0, a0_1, a0_2, a0_3) (a1_0, a1_1, a1_2, a1_3) =>
 bif (a0_0 != a1_0) then
  some false
 else
  bif (!((ByteArray.toList a0_1) == (ByteArray.toList a1_1))) then
   some false
  else
   bif (a0_2 != a1_2) then
    some false
   else
    bif (a0_3 != a1_3) then
     some false
    else
     some true
noncomputable def A49 : FnA := ⟨[.v (.pair (.int .i64) (.pair .str (.pair (.int .i64) (.int .i64)))), .v (.pair (.int .i64) (.pair .str (.pair (.int .i64) (.int .i64))))], true, [.bool], fun x => laws_eqStep x.1 x.2.1⟩
theorem laws_eqStep_eq : fnF E49 L49_0 [.v (.pair (.int .i64) (.pair .str (.pair (.int .i64) (.int .i64)))), .v (.pair (.int .i64) (.pair .str (.pair (.int .i64) (.int .i64))))] true [.bool] f49.ntmps f49.results.toList (codeOf f49) = fun x => laws_eqStep x.1 x.2.1 := by kernel_rfl
theorem A49_ok : FnOk prog 49 A49 := fo laws_eqStep_eq func49 E49_ok allNil
/-! laws.eqStepS -/
noncomputable def E27 : Env := ⟨ty0, fun g => ifEq g 49 (some A49) (none), fun _ => none, fun _ => none, fun _ => none⟩
theorem E27_ok : FnsOk prog E27 := (oF A49_ok func49 (noFns _ _))
noncomputable def L27_0 : Nat → Option LoopD := fun _ => none
def sh27_4 : List Fm := .cell (.val (.sl (.pair (.int .i64) (.pair .str (.pair (.int .i64) (.int .i64)))))) :: .cell (.val (.sl (.pair (.int .i64) (.pair .str (.pair (.int .i64) (.int .i64)))))) :: d :: d :: d :: .cell (.val (.int .i64)) :: D 21 []
def xs27_4 : List (Ex × List Fm) := [(.ret, (D 4 (.cell (.val .bool) :: D 22 []))), (.exit 0, (D 27 []))]
noncomputable def laws_eqStepS_l4 : ((List (Int × (ByteArray × (Int × Int)))) × (List (Int × (ByteArray × (Int × Int)))) × Int × Unit) → Option (((List (Int × (ByteArray × (Int × Int)))) × (List (Int × (ByteArray × (Int × Int)))) × Int × Unit) ⊕ ((Bool × Unit) ⊕ (Unit))) := fun (v0, v1, v5, _) =>
 bif (decide (v5 < (((List.length v0) : Nat) : Int))) then
  if (((0 : Int) ≤ v5) ∧ (v5 < (((List.length v0) : Nat) : Int))) then
   if (((0 : Int) ≤ v5) ∧ (v5 < (((List.length v1) : Nat) : Int))) then
    Option.bind (laws_eqStep (List.getD v0 (Int.toNat v5) ((0 : Int), (⟨Array.empty⟩ : ByteArray), (0 : Int), (0 : Int))) (List.getD v1 (Int.toNat v5) ((0 : Int), (⟨Array.empty⟩ : ByteArray), (0 : Int), (0 : Int)))) fun r0 =>
     bif (!r0) then
      some (Sum.inr (Sum.inl (false, ())))
     else
      some (Sum.inl (v0, v1, (IntKind.wrap .i64 (v5 + (1 : Int))), ()))
   else
    none
  else
   none
 else
  some (Sum.inr (Sum.inr ()))
theorem laws_eqStepS_l4_eq : loopStep 27 E27 L27_0 (loopOf f27 4) sh27_4 xs27_4 = laws_eqStepS_l4 := by kernel_rfl
theorem loop27_4 {L} (h : L 4 = some ⟨27, sh27_4, xs27_4, laws_eqStepS_l4⟩) : LoopOk prog L (loopOf f27 4) := lo laws_eqStepS_l4_eq E27_ok allNil h
noncomputable def L27_1 : Nat → Option LoopD := fun n => ifEq n 4 (some ⟨27, sh27_4, xs27_4, laws_eqStepS_l4⟩) (L27_0 n)
noncomputable def laws_eqStepS : (List (Int × (ByteArray × (Int × Int)))) → (List (Int × (ByteArray × (Int × Int)))) → Option (Bool) := fun a0 a1 =>
 bif ((((List.length a0) : Nat) : Int) != (((List.length a1) : Nat) : Int)) then
  some false
 else
  Option.bind (loopF laws_eqStepS_l4 (a0, a1, (0 : Int), ())) fun r0 =>
   (match r0 with
   | .inl (d1, _) =>
     some d1
   | .inr _ =>
     some true)
noncomputable def A27 : FnA := ⟨[.v (.sl (.pair (.int .i64) (.pair .str (.pair (.int .i64) (.int .i64))))), .v (.sl (.pair (.int .i64) (.pair .str (.pair (.int .i64) (.int .i64)))))], true, [.bool], fun x => laws_eqStepS x.1 x.2.1⟩
theorem laws_eqStepS_eq : fnF E27 L27_1 [.v (.sl (.pair (.int .i64) (.pair .str (.pair (.int .i64) (.int .i64))))), .v (.sl (.pair (.int .i64) (.pair .str (.pair (.int .i64) (.int .i64)))))] true [.bool] f27.ntmps f27.results.toList (codeOf f27) = fun x => laws_eqStepS x.1 x.2.1 := by kernel_rfl
theorem A27_ok : FnOk prog 27 A27 := fo laws_eqStepS_eq func27 E27_ok (allCons (loop27_4 rfl) allNil)
/-! laws.eqAutomaton -/
noncomputable def E10 : Env := ⟨ty0, fun g => ifEq g 26 (some A26) (ifEq g 27 (some A27) (none)), fun _ => none, fun _ => none, fun _ => none⟩
theorem E10_ok : FnsOk prog E10 := (oF A26_ok func26 (oF A27_ok func27 (noFns _ _)))
noncomputable def L10_0 : Nat → Option LoopD := fun _ => none
noncomputable def laws_eqAutomaton : (Int × ((List Int) × ((List Int) × (List (Int × (ByteArray × (Int × Int))))))) → (Int × ((List Int) × ((List Int) × (List (Int × (ByteArray × (Int × Int))))))) → Option (Bool) := fun (a0_0, a0_1, a0_2, a0_3) (a1_0, a1_1, a1_2, a1_3) =>
 bif (a0_0 != a1_0) then
  some false
 else
  Option.bind (laws_eqIntS a0_1 a1_1) fun r0 =>
   bif (!r0) then
    some false
   else
    Option.bind (laws_eqIntS a0_2 a1_2) fun r1 =>
     bif (!r1) then
      some false
     else
      Option.bind (laws_eqStepS a0_3 a1_3) fun r2 =>
       bif (!r2) then
        some false
       else
        some true
noncomputable def A10 : FnA := ⟨[.v (.pair (.int .i64) (.pair (.sl (.int .i64)) (.pair (.sl (.int .i64)) (.sl (.pair (.int .i64) (.pair .str (.pair (.int .i64) (.int .i64)))))))), .v (.pair (.int .i64) (.pair (.sl (.int .i64)) (.pair (.sl (.int .i64)) (.sl (.pair (.int .i64) (.pair .str (.pair (.int .i64) (.int .i64))))))))], true, [.bool], fun x => laws_eqAutomaton x.1 x.2.1⟩
theorem laws_eqAutomaton_eq : fnF E10 L10_0 [.v (.pair (.int .i64) (.pair (.sl (.int .i64)) (.pair (.sl (.int .i64)) (.sl (.pair (.int .i64) (.pair .str (.pair (.int .i64) (.int .i64)))))))), .v (.pair (.int .i64) (.pair (.sl (.int .i64)) (.pair (.sl (.int .i64)) (.sl (.pair (.int .i64) (.pair .str (.pair (.int .i64) (.int .i64))))))))] true [.bool] f10.ntmps f10.results.toList (codeOf f10) = fun x => laws_eqAutomaton x.1 x.2.1 := by kernel_rfl
theorem A10_ok : FnOk prog 10 A10 := fo laws_eqAutomaton_eq func10 E10_ok allNil
end Go.Proofs.YtfdhmmnffahhgaaGreat
