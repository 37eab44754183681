/- What Go functions that the laws reach compute, and that they do: written by a program of this session. -/
import Derived.Test.YtbmlleocidldpaaGreatG2
import Derived.KernelRfl
set_option linter.unusedVariables false
namespace Go.Proofs.YtbmlleocidldpaaGreat
open Go Go.Proofs.YtbmlleocidldpaaGreat.Am Go.Proofs.Tryz
set_option maxRecDepth 100000
/-! impl.firstWith -/
noncomputable def E82 : Env := ⟨ty0, fun g => ifEq g 25 (some A25) (none), fun _ => none, fun _ => none, fun _ => none⟩
theorem E82_ok : FnsOk prog E82 := (oF A25_ok func25 (noFns _ _))
noncomputable def L82_0 : Nat → Option LoopD := fun _ => none
def sh82_3 : List Fm := d :: .clo [.pair (.int .i64) (.sl (.int .i64))] .bool :: D 13 (.cell (.own (.pair (.pair (.int .i64) (.sl (.int .i64))) .str) 101500 false) :: .cell (.val (.int .i64)) :: .cell (.val (.int .i64)) :: D 10 [])
def xs82_3 : List (Ex × List Fm) := [(.ret, (D 4 (.cell (.val .str) :: .cell (.val .bool) :: D 22 []))), (.exit 0, (D 28 []))]
noncomputable def impl_firstWith_l3 : ((((Int × (List Int)) × Unit) → Option (Bool)) × (List ((Int × (List Int)) × ByteArray)) × Int × Int × Unit) → Option (((((Int × (List Int)) × Unit) → Option (Bool)) × (List ((Int × (List Int)) × ByteArray)) × Int × Int × Unit) ⊕ ((ByteArray × Bool × Unit) ⊕ (Unit))) := fun (v1, v15, v16, v17, _) =>
 bif (decide (v17 < v16)) then
  if (((0 : Int) ≤ v17) ∧ (v17 < (((List.length v15) : Nat) : Int))) then
   Option.bind (v1 (((List.getD v15 (0 + (Int.toNat v17)) (((0 : Int), []), (⟨Array.empty⟩ : ByteArray))).1.1, (List.getD v15 (0 + (Int.toNat v17)) (((0 : Int), []), (⟨Array.empty⟩ : ByteArray))).1.2), ())) fun r0 =>
    bif r0 then
     some (Sum.inr (Sum.inl ((List.getD v15 (0 + (Int.toNat v17)) (((0 : Int), []), (⟨Array.empty⟩ : ByteArray))).2, true, ())))
    else
     some (Sum.inl (v1, (List.take (List.length v15) (List.drop 0 v15)), v16, (IntKind.wrap .i64 (v17 + (1 : Int))), ()))
  else
   none
 else
  some (Sum.inr (Sum.inr ()))
theorem impl_firstWith_l3_eq : loopStep 28 E82 L82_0 (loopOf f82 3) sh82_3 xs82_3 = impl_firstWith_l3 := by kernel_rfl
theorem loop82_3 {L} (h : L 3 = some ⟨28, sh82_3, xs82_3, impl_firstWith_l3⟩) : LoopOk prog L (loopOf f82 3) := lo impl_firstWith_l3_eq E82_ok allNil h
noncomputable def L82_1 : Nat → Option LoopD := fun n => ifEq n 3 (some ⟨28, sh82_3, xs82_3, impl_firstWith_l3⟩) (L82_0 n)
noncomputable def impl_firstWith : (Int × ((List Int) × ((List Int) × (List (Int × (ByteArray × (Int × Int))))))) → (((Int × (List Int)) × Unit) → Option (Bool)) → Option (ByteArray × Bool) := fun (a0_0, a0_1, a0_2, a0_3) a1 =>
 Option.bind (impl_ElementsOf (a0_0, a0_1, a0_2, a0_3)) fun (r0, r1) =>
  Option.bind (loopF impl_firstWith_l3 (a1, (List.take (List.length r0) (List.drop 0 r0)), (((List.length r0) : Nat) : Int), (0 : Int), ())) fun r2 =>
   (match r2 with
   | .inl (d3, d4, _) =>
     some (d3, d4)
   | .inr _ =>
     some ((⟨#[]⟩ : ByteArray), false))
noncomputable def A82 : FnA := ⟨[.v (.pair (.int .i64) (.pair (.sl (.int .i64)) (.pair (.sl (.int .i64)) (.sl (.pair (.int .i64) (.pair .str (.pair (.int .i64) (.int .i64)))))))), .clo [.pair (.int .i64) (.sl (.int .i64))] .bool], true, [.str, .bool], fun x => impl_firstWith x.1 x.2.1⟩
theorem impl_firstWith_eq : fnF E82 L82_1 [.v (.pair (.int .i64) (.pair (.sl (.int .i64)) (.pair (.sl (.int .i64)) (.sl (.pair (.int .i64) (.pair .str (.pair (.int .i64) (.int .i64)))))))), .clo [.pair (.int .i64) (.sl (.int .i64))] .bool] true [.str, .bool] f82.ntmps f82.results.toList (codeOf f82) = fun x => impl_firstWith x.1 x.2.1 := by kernel_rfl
theorem A82_ok : FnOk prog 82 A82 := fo impl_firstWith_eq func82 E82_ok (allCons (loop82_3 rfl) allNil)
/-! impl.GrowingOf$1 -/
noncomputable def E83 : Env := ⟨ty0, fun g => ifEq g 50 (some A50) (none), fun _ => none, fun _ => none, fun _ => none⟩
theorem E83_ok : FnsOk prog E83 := (oF A50_ok func50 (noFns _ _))
noncomputable def L83_0 : Nat → Option LoopD := fun _ => none
noncomputable def impl_GrowingOf_1 : (Int × (List Int)) → (Int × ((List Int) × ((List Int) × (List (Int × (ByteArray × (Int × Int))))))) → Option (Bool) := fun (a0_0, a0_1) (a1_0, a1_1, a1_2, a1_3) =>
 Option.bind (impl_GradeBetween (a1_0, a1_1, a1_2, a1_3) (a0_0, a0_1)) fun r0 =>
  some (r0 == (2 : Int))
noncomputable def A83 : FnA := ⟨[.v (.pair (.int .i64) (.sl (.int .i64))), .cap (.pair (.int .i64) (.pair (.sl (.int .i64)) (.pair (.sl (.int .i64)) (.sl (.pair (.int .i64) (.pair .str (.pair (.int .i64) (.int .i64))))))))], true, [.bool], fun x => impl_GrowingOf_1 x.1 x.2.1⟩
theorem impl_GrowingOf_1_eq : fnF E83 L83_0 [.v (.pair (.int .i64) (.sl (.int .i64))), .cap (.pair (.int .i64) (.pair (.sl (.int .i64)) (.pair (.sl (.int .i64)) (.sl (.pair (.int .i64) (.pair .str (.pair (.int .i64) (.int .i64))))))))] true [.bool] f83.ntmps f83.results.toList (codeOf f83) = fun x => impl_GrowingOf_1 x.1 x.2.1 := by kernel_rfl
theorem A83_ok : FnOk prog 83 A83 := fo impl_GrowingOf_1_eq func83 E83_ok allNil
/-! impl.GrowingOf -/
noncomputable def E35 : Env := ⟨ty0, fun g => ifEq g 82 (some A82) (ifEq g 83 (some A83) (none)), fun _ => none, fun _ => none, fun _ => none⟩
theorem E35_ok : FnsOk prog E35 := (oF A82_ok func82 (oF A83_ok func83 (noFns _ _)))
noncomputable def L35_0 : Nat → Option LoopD := fun _ => none
noncomputable def impl_GrowingOf : (Int × ((List Int) × ((List Int) × (List (Int × (ByteArray × (Int × Int))))))) → Option (ByteArray × Bool) := fun (a0_0, a0_1, a0_2, a0_3) =>
 Option.bind (impl_firstWith (a0_0, a0_1, a0_2, a0_3) (fun y0 => (impl_GrowingOf_1 y0.1 (a0_0, a0_1, a0_2, a0_3)))) fun (r1, r2) =>
  some (r1, r2)
noncomputable def A35 : FnA := ⟨[.v (.pair (.int .i64) (.pair (.sl (.int .i64)) (.pair (.sl (.int .i64)) (.sl (.pair (.int .i64) (.pair .str (.pair (.int .i64) (.int .i64))))))))], true, [.str, .bool], fun x => impl_GrowingOf x.1⟩
theorem impl_GrowingOf_eq : fnF E35 L35_0 [.v (.pair (.int .i64) (.pair (.sl (.int .i64)) (.pair (.sl (.int .i64)) (.sl (.pair (.int .i64) (.pair .str (.pair (.int .i64) (.int .i64))))))))] true [.str, .bool] f35.ntmps f35.results.toList (codeOf f35) = fun x => impl_GrowingOf x.1 := by kernel_rfl
theorem A35_ok : FnOk prog 35 A35 := fo impl_GrowingOf_eq func35 E35_ok allNil
/-! impl.IsBounded -/
noncomputable def E34 : Env := ⟨ty0, fun g => ifEq g 25 (some A25) (ifEq g 35 (some A35) (none)), fun _ => none, fun _ => none, fun _ => none⟩
theorem E34_ok : FnsOk prog E34 := (oF A25_ok func25 (oF A35_ok func35 (noFns _ _)))
noncomputable def L34_0 : Nat → Option LoopD := fun _ => none
noncomputable def impl_IsBounded : (Int × ((List Int) × ((List Int) × (List (Int × (ByteArray × (Int × Int))))))) → Option (Bool × Bool) := fun (a0_0, a0_1, a0_2, a0_3) =>
 Option.bind (impl_ElementsOf (a0_0, a0_1, a0_2, a0_3)) fun (r0, r1) =>
  Option.bind (impl_GrowingOf (a0_0, a0_1, a0_2, a0_3)) fun (r2, r3) =>
   bif r1 then
    some ((!r3), r1)
   else
    some (false, r1)
noncomputable def A34 : FnA := ⟨[.v (.pair (.int .i64) (.pair (.sl (.int .i64)) (.pair (.sl (.int .i64)) (.sl (.pair (.int .i64) (.pair .str (.pair (.int .i64) (.int .i64))))))))], true, [.bool, .bool], fun x => impl_IsBounded x.1⟩
theorem impl_IsBounded_eq : fnF E34 L34_0 [.v (.pair (.int .i64) (.pair (.sl (.int .i64)) (.pair (.sl (.int .i64)) (.sl (.pair (.int .i64) (.pair .str (.pair (.int .i64) (.int .i64))))))))] true [.bool, .bool] f34.ntmps f34.results.toList (codeOf f34) = fun x => impl_IsBounded x.1 := by kernel_rfl
theorem A34_ok : FnOk prog 34 A34 := fo impl_IsBounded_eq func34 E34_ok allNil
/-! spec.l7Draw -/
noncomputable def R132 (spec_l7Draw_rec : ((List Int) × Int) → Int → Option ((ByteArray) × (((List Int) × Int) × Unit))) : FnM := ⟨[.bx (.pair (.sl (.int .u8)) (.int .i64)), .v (.int .i64)], true, [.str], none, fun x => spec_l7Draw_rec x.1 x.2.1⟩
noncomputable def E132 (spec_l7Draw_rec : ((List Int) × Int) → Int → Option ((ByteArray) × (((List Int) × Int) × Unit))) : Env := ⟨ty0, fun _ => none, fun g => ifEq g 76 (some A76) (ifEq g 132 (some (R132 spec_l7Draw_rec)) (ifEq g 133 (some A133) (none))), fun _ => none, fun _ => none⟩
theorem E132_ok (spec_l7Draw_rec : ((List Int) × Int) → Int → Option ((ByteArray) × (((List Int) × Int) × Unit))) (hrec : FnMOk prog 132 (R132 spec_l7Draw_rec)) : FnsOk prog (E132 spec_l7Draw_rec) := (oneMs A76_ok (by kernel_rfl) func76 (by kernel_rfl) (by kernel_rfl) (oneMs hrec (by kernel_rfl) func132 (by kernel_rfl) (by kernel_rfl) (oneMs A133_ok (by kernel_rfl) func133 (by kernel_rfl) (by kernel_rfl) (noFns _ _))))
noncomputable def L132_0 (spec_l7Draw_rec : ((List Int) × Int) → Int → Option ((ByteArray) × (((List Int) × Int) × Unit))) : Nat → Option LoopD := fun _ => none
def sh132_3 : List Fm := .box 200000 [.val (.sl (.int .u8)), .val (.int .i64)] :: .cell (.val (.int .i64)) :: d :: d :: d :: .cell (.val .str) :: d :: d :: .cell (.val (.int .i64)) :: .cell (.val (.int .i64)) :: D 23 []
def xs132_3 : List (Ex × List Fm) := [(.exit 0, [.box 200000 [.val (.sl (.int .u8)), .val (.int .i64)], d, d, d, d, .cell (.val .str), d, d, d, d, d, d, d, d, d, d, d, d, d, d, d, d, d, d, d, d, d, d, d, d, d, d, d])]
noncomputable def spec_l7Draw_l3 (spec_l7Draw_rec : ((List Int) × Int) → Int → Option ((ByteArray) × (((List Int) × Int) × Unit))) : (((List Int) × Int × Unit) × Int × ByteArray × Int × Int × Unit) → Option ((((List Int) × Int × Unit) × Int × ByteArray × Int × Int × Unit) ⊕ ((((List Int) × Int × Unit) × ByteArray × Unit))) := fun ((v0_0, v0_1, _), v1, v5, v8, v9, _) =>
 bif (decide (v9 < v8)) then
  bif (decide (v1 > (0 : Int))) then
   Option.bind (spec_l13Rd_pick (v0_0, v0_1) (3 : Int)) fun (r0, (r1, r2), _) =>
    bif (r0 == (0 : Int)) then
     if (((ByteArray.size v5) + (ByteArray.size (⟨#[(40 : UInt8)]⟩ : ByteArray))) ≤ 9223372036854775807) then
      Option.bind (spec_l7Draw_rec (r1, r2) (IntKind.wrap .i64 (v1 - (1 : Int)))) fun (r3, (r4, r5), _) =>
       if (((ByteArray.size (v5 ++ (⟨#[(40 : UInt8)]⟩ : ByteArray))) + (ByteArray.size r3)) ≤ 9223372036854775807) then
        if (((ByteArray.size ((v5 ++ (⟨#[(40 : UInt8)]⟩ : ByteArray)) ++ r3)) + (ByteArray.size (⟨#[(41 : UInt8), (35 : UInt8)]⟩ : ByteArray))) ≤ 9223372036854775807) then
         some (Sum.inl ((r4, r5, ()), v1, (((v5 ++ (⟨#[(40 : UInt8)]⟩ : ByteArray)) ++ r3) ++ (⟨#[(41 : UInt8), (35 : UInt8)]⟩ : ByteArray)), v8, (IntKind.wrap .i64 (v9 + (1 : Int))), ()))
        else
         none
       else
        none
     else
      none
    else
     Option.bind (spec_l13Rd_of (r1, r2) (List.take 2 (List.drop 0 [(⟨#[(97 : UInt8)]⟩ : ByteArray), (⟨#[(98 : UInt8)]⟩ : ByteArray)]))) fun (r6, (r7, r8), _) =>
      if (((ByteArray.size v5) + (ByteArray.size r6)) ≤ 9223372036854775807) then
       some (Sum.inl ((r7, r8, ()), v1, (v5 ++ r6), v8, (IntKind.wrap .i64 (v9 + (1 : Int))), ()))
      else
       none
  else
   Option.bind (spec_l13Rd_of (v0_0, v0_1) (List.take 2 (List.drop 0 [(⟨#[(97 : UInt8)]⟩ : ByteArray), (⟨#[(98 : UInt8)]⟩ : ByteArray)]))) fun (r9, (r10, r11), _) =>
    if (((ByteArray.size v5) + (ByteArray.size r9)) ≤ 9223372036854775807) then
     some (Sum.inl ((r10, r11, ()), v1, (v5 ++ r9), v8, (IntKind.wrap .i64 (v9 + (1 : Int))), ()))
    else
     none
 else
  some (Sum.inr ((v0_0, v0_1, ()), v5, ()))
theorem spec_l7Draw_l3_eq (spec_l7Draw_rec : ((List Int) × Int) → Int → Option ((ByteArray) × (((List Int) × Int) × Unit))) : loopStep 33 (E132 spec_l7Draw_rec) (L132_0 spec_l7Draw_rec) (loopOf f132 3) sh132_3 xs132_3 = (spec_l7Draw_l3 spec_l7Draw_rec) := by kernel_rfl
theorem loop132_3 (spec_l7Draw_rec : ((List Int) × Int) → Int → Option ((ByteArray) × (((List Int) × Int) × Unit))) (hrec : FnMOk prog 132 (R132 spec_l7Draw_rec)) {L : Nat → Option LoopD} (h : L 3 = some ⟨33, sh132_3, xs132_3, (spec_l7Draw_l3 spec_l7Draw_rec)⟩) : LoopOk prog L (loopOf f132 3) :=
 loopOk (tysOk_of tyl_ok) (E132_ok spec_l7Draw_rec hrec) (codeOk_in (L := (L132_0 spec_l7Draw_rec)) (tysOk_of tyl_ok) (E132_ok spec_l7Draw_rec hrec) mixed (c := loopOf f132 3) (bs := []) (by kernel_rfl) allNil (by kernel_rfl)) (by kernel_rfl) (by kernel_rfl) (spec_l7Draw_l3_eq spec_l7Draw_rec) (by rw [show firstId (loopOf f132 3) = 3 from by kernel_rfl]; exact h)
noncomputable def L132_1 (spec_l7Draw_rec : ((List Int) × Int) → Int → Option ((ByteArray) × (((List Int) × Int) × Unit))) : Nat → Option LoopD := fun n => ifEq n 3 (some ⟨33, sh132_3, xs132_3, (spec_l7Draw_l3 spec_l7Draw_rec)⟩) ((L132_0 spec_l7Draw_rec) n)
noncomputable def spec_l7Draw_step (spec_l7Draw_rec : ((List Int) × Int) → Int → Option ((ByteArray) × (((List Int) × Int) × Unit))) : ((List Int) × Int) → Int → Option ((ByteArray) × (((List Int) × Int) × Unit)) := fun (a0_0, a0_1) a1 =>
 Option.bind (spec_l13Rd_pick (a0_0, a0_1) (3 : Int)) fun (r0, (r1, r2), _) =>
  Option.bind (loopF (spec_l7Draw_l3 spec_l7Draw_rec) ((r1, r2, ()), a1, (⟨#[]⟩ : ByteArray), (IntKind.wrap .i64 ((1 : Int) + r0)), (0 : Int), ())) fun ((r3, r4, _), r5, _) =>
   some (r5, (r3, r4), ())
theorem spec_l7Draw_step_eq (spec_l7Draw_rec : ((List Int) × Int) → Int → Option ((ByteArray) × (((List Int) × Int) × Unit))) : fnMF (E132 spec_l7Draw_rec) (L132_1 spec_l7Draw_rec) [.bx (.pair (.sl (.int .u8)) (.int .i64)), .v (.int .i64)] true [.str] f132.ntmps f132.results.toList (codeOf f132) = fun x => (spec_l7Draw_step spec_l7Draw_rec) x.1 x.2.1 := by kernel_rfl
theorem spec_l7Draw_step_ok (spec_l7Draw_rec : ((List Int) × Int) → Int → Option ((ByteArray) × (((List Int) × Int) × Unit))) (hrec : FnMOk prog 132 (R132 spec_l7Draw_rec)) : FnMOk prog 132 ⟨[.bx (.pair (.sl (.int .u8)) (.int .i64)), .v (.int .i64)], true, [.str], none, fun x => (spec_l7Draw_step spec_l7Draw_rec) x.1 x.2.1⟩ := by
 have h := fnMOk_of_run (P := prog) (E := (E132 spec_l7Draw_rec)) (tysOk_of tyl_ok) (E132_ok spec_l7Draw_rec hrec) (L := (L132_1 spec_l7Draw_rec)) (ps := [.bx (.pair (.sl (.int .u8)) (.int .i64)), .v (.int .i64)]) (own := true) (outs := [.str]) func132 (c := codeOf f132) (by kernel_rfl) (codeOk_in (L := (L132_1 spec_l7Draw_rec)) (tysOk_of tyl_ok) (E132_ok spec_l7Draw_rec hrec) mixed (c := codeOf f132) (bs := [loopOf f132 3]) (by kernel_rfl) (allCons (loop132_3 spec_l7Draw_rec hrec rfl) allNil) (by kernel_rfl)) (by kernel_rfl)
 rw [(spec_l7Draw_step_eq spec_l7Draw_rec)] at h
 exact h
/-- so many calls within each other -/
noncomputable def spec_l7Draw_fuel : Nat → ((List Int) × Int) → Int → Option ((ByteArray) × (((List Int) × Int) × Unit))
 | 0 => fun _ _ => none
 | n + 1 => spec_l7Draw_step (spec_l7Draw_fuel n)
theorem spec_l7Draw_fuel_ok : ∀ n, FnMOk prog 132 (R132 (spec_l7Draw_fuel n))
 | 0 => fun xs r h => by cases h
 | n + 1 => spec_l7Draw_step_ok (spec_l7Draw_fuel n) (spec_l7Draw_fuel_ok n)
noncomputable def spec_l7Draw : ((List Int) × Int) → Int → Option ((ByteArray) × (((List Int) × Int) × Unit)) := spec_l7Draw_fuel 200
noncomputable def A132 : FnM := R132 spec_l7Draw
theorem A132_ok : FnMOk prog 132 A132 := spec_l7Draw_fuel_ok 200
/-! spec.l7Text -/
noncomputable def E88 : Env := ⟨ty0, fun _ => none, fun g => ifEq g 76 (some A76) (ifEq g 132 (some A132) (ifEq g 133 (some A133) (none))), fun _ => none, fun _ => none⟩
theorem E88_ok : FnsOk prog E88 := (oneMs A76_ok (by kernel_rfl) func76 (by kernel_rfl) (by kernel_rfl) (oneMs A132_ok (by kernel_rfl) func132 (by kernel_rfl) (by kernel_rfl) (oneMs A133_ok (by kernel_rfl) func133 (by kernel_rfl) (by kernel_rfl) (noFns _ _))))
noncomputable def L88_0 : Nat → Option LoopD := fun _ => none
noncomputable def spec_l7Text : ((List Int) × Int) → Option ((ByteArray) × (((List Int) × Int) × Unit)) := fun (a0_0, a0_1) =>
 Option.bind (spec_l13Rd_pick (a0_0, a0_1) (3 : Int)) fun (r0, (r1, r2), _) =>
  Option.bind (spec_l7Draw (r1, r2) r0) fun (r3, (r4, r5), _) =>
   Option.bind (spec_l13Rd_pick (r4, r5) (12 : Int)) fun (r6, (r7, r8), _) =>
    bif (decide (r6 > (0 : Int))) then
     some (r3, (r7, r8), ())
    else
     Option.bind (spec_l13Rd_pick (r7, r8) (((ByteArray.size r3) : Nat) : Int)) fun (r9, (r10, r11), _) =>
      if (((0 : Int) ≤ r9) ∧ (r9 ≤ (((ByteArray.size r3) : Nat) : Int))) then
       Option.bind (spec_l13Rd_of (r10, r11) (List.take 6 (List.drop 0 [(⟨#[]⟩ : ByteArray), (⟨#[(40 : UInt8)]⟩ : ByteArray), (⟨#[(41 : UInt8)]⟩ : ByteArray), (⟨#[(35 : UInt8)]⟩ : ByteArray), (⟨#[(41 : UInt8), (35 : UInt8)]⟩ : ByteArray), (⟨#[(99 : UInt8)]⟩ : ByteArray)]))) fun (r12, (r13, r14), _) =>
        if (((ByteArray.size (ByteArray.extract r3 0 (Int.toNat r9))) + (ByteArray.size r12)) ≤ 9223372036854775807) then
         Option.bind (spec_l13Rd_pick (r13, r14) (2 : Int)) fun (r15, (r16, r17), _) =>
          if (((0 : Int) ≤ (IntKind.wrap .i64 (r9 + r15))) ∧ ((IntKind.wrap .i64 (r9 + r15)) ≤ (((ByteArray.size r3) : Nat) : Int))) then
           if (((ByteArray.size ((ByteArray.extract r3 0 (Int.toNat r9)) ++ r12)) + (ByteArray.size (ByteArray.extract r3 (Int.toNat (IntKind.wrap .i64 (r9 + r15))) (ByteArray.size r3)))) ≤ 9223372036854775807) then
            some ((((ByteArray.extract r3 0 (Int.toNat r9)) ++ r12) ++ (ByteArray.extract r3 (Int.toNat (IntKind.wrap .i64 (r9 + r15))) (ByteArray.size r3))), (r16, r17), ())
           else
            none
          else
           none
        else
         none
      else
       none
noncomputable def A88 : FnM := ⟨[.bx (.pair (.sl (.int .u8)) (.int .i64))], true, [.str], none, fun x => spec_l7Text x.1⟩
theorem spec_l7Text_eq : fnMF E88 L88_0 [.bx (.pair (.sl (.int .u8)) (.int .i64))] true [.str] f88.ntmps f88.results.toList (codeOf f88) = fun x => spec_l7Text x.1 := by kernel_rfl
theorem A88_ok : FnMOk prog 88 A88 := by
 have h := fnMOk_of_run (P := prog) (E := E88) (tysOk_of tyl_ok) E88_ok (L := L88_0) (ps := [.bx (.pair (.sl (.int .u8)) (.int .i64))]) (own := true) (outs := [.str]) func88 (c := codeOf f88) (by kernel_rfl) (codeOk_in (L := L88_0) (tysOk_of tyl_ok) E88_ok mixed (c := codeOf f88) (bs := []) (by kernel_rfl) allNil (by kernel_rfl)) (by kernel_rfl)
 rw [spec_l7Text_eq] at h
 exact h
/-! spec.DrawDepthOf -/
noncomputable def E41 : Env := ⟨ty0, fun _ => none, fun g => ifEq g 88 (some A88) (none), fun g => ifEq g 57 (some A57) (none), fun _ => none⟩
theorem E41_ok : FnsOk prog E41 := (oneBs A57_ok func57 (by kernel_rfl) (by kernel_rfl) (oneMs A88_ok (by kernel_rfl) func88 (by kernel_rfl) (by kernel_rfl) (noFns _ _)))
noncomputable def L41_0 : Nat → Option LoopD := fun _ => none
noncomputable def spec_DrawDepthOf : (List Int) → Option (ByteArray) := fun a0 =>
 Option.bind (spec_l13Open a0) fun (r0, r1) =>
  Option.bind (spec_l7Text (r0, r1)) fun (r2, (r3, r4), _) =>
   some r2
noncomputable def A41 : FnA := ⟨[.v (.sl (.int .u8))], true, [.str], fun x => spec_DrawDepthOf x.1⟩
theorem spec_DrawDepthOf_eq : fnF E41 L41_0 [.v (.sl (.int .u8))] true [.str] f41.ntmps f41.results.toList (codeOf f41) = fun x => spec_DrawDepthOf x.1 := by kernel_rfl
theorem A41_ok : FnOk prog 41 A41 := fo spec_DrawDepthOf_eq func41 E41_ok allNil
/-! impl.GradeOf -/
noncomputable def E26 : Env := ⟨ty0, fun g => ifEq g 22 (some A22) (ifEq g 50 (some A50) (none)), fun _ => none, fun _ => none, fun _ => none⟩
theorem E26_ok : FnsOk prog E26 := (oF A22_ok func22 (oF A50_ok func50 (noFns _ _)))
noncomputable def L26_0 : Nat → Option LoopD := fun _ => none
noncomputable def impl_GradeOf : (Int × ((List Int) × ((List Int) × (List (Int × (ByteArray × (Int × Int))))))) → ByteArray → Option (Int) := fun (a0_0, a0_1, a0_2, a0_3) a1 =>
 Option.bind (impl_ValueOf (a0_0, a0_1, a0_2, a0_3) a1) fun ((r0, r1), r2) =>
  bif (!r2) then
   some (-1 : Int)
  else
   Option.bind (impl_GradeBetween (a0_0, a0_1, a0_2, a0_3) (r0, (List.take (List.length r1) (List.drop 0 r1)))) fun r3 =>
    some r3
noncomputable def A26 : FnA := ⟨[.v (.pair (.int .i64) (.pair (.sl (.int .i64)) (.pair (.sl (.int .i64)) (.sl (.pair (.int .i64) (.pair .str (.pair (.int .i64) (.int .i64)))))))), .v .str], true, [.int .i64], fun x => impl_GradeOf x.1 x.2.1⟩
theorem impl_GradeOf_eq : fnF E26 L26_0 [.v (.pair (.int .i64) (.pair (.sl (.int .i64)) (.pair (.sl (.int .i64)) (.sl (.pair (.int .i64) (.pair .str (.pair (.int .i64) (.int .i64)))))))), .v .str] true [.int .i64] f26.ntmps f26.results.toList (codeOf f26) = fun x => impl_GradeOf x.1 x.2.1 := by kernel_rfl
theorem A26_ok : FnOk prog 26 A26 := fo impl_GradeOf_eq func26 E26_ok allNil
/-! impl.stepped -/
noncomputable def E91 : Env := ⟨ty0, fun _ => none, fun _ => none, fun _ => none, fun _ => none⟩
theorem E91_ok : FnsOk prog E91 := (noFns _ _)
noncomputable def L91_0 : Nat → Option LoopD := fun _ => none
def sh91_3 : List Fm := d :: .clo [.pair (.int .i64) (.pair .str (.pair (.int .i64) (.int .i64)))] (.pair (.int .i64) (.pair .str (.pair (.int .i64) (.int .i64)))) :: d :: d :: d :: .cell (.own (.pair (.int .i64) (.pair .str (.pair (.int .i64) (.int .i64)))) 100500 false) :: d :: d :: d :: .cell (.val (.sl (.pair (.int .i64) (.pair .str (.pair (.int .i64) (.int .i64)))))) :: .cell (.val (.int .i64)) :: .cell (.val (.int .i64)) :: D 11 []
def xs91_3 : List (Ex × List Fm) := [(.exit 0, (D 5 (.cell (.own (.pair (.int .i64) (.pair .str (.pair (.int .i64) (.int .i64)))) 100500 false) :: D 17 [])))]
noncomputable def impl_stepped_l3 : ((((Int × (ByteArray × (Int × Int))) × Unit) → Option ((Int × (ByteArray × (Int × Int))))) × (List (Int × (ByteArray × (Int × Int)))) × (List (Int × (ByteArray × (Int × Int)))) × Int × Int × Unit) → Option (((((Int × (ByteArray × (Int × Int))) × Unit) → Option ((Int × (ByteArray × (Int × Int))))) × (List (Int × (ByteArray × (Int × Int)))) × (List (Int × (ByteArray × (Int × Int)))) × Int × Int × Unit) ⊕ (((List (Int × (ByteArray × (Int × Int)))) × Unit))) := fun (v1, v5, v9, v10, v11, _) =>
 bif (decide (v11 < v10)) then
  if (((0 : Int) ≤ v11) ∧ (v11 < (((List.length v9) : Nat) : Int))) then
   Option.bind (v1 (((List.getD v9 (Int.toNat v11) ((0 : Int), (⟨Array.empty⟩ : ByteArray), (0 : Int), (0 : Int))).1, (List.getD v9 (Int.toNat v11) ((0 : Int), (⟨Array.empty⟩ : ByteArray), (0 : Int), (0 : Int))).2.1, (List.getD v9 (Int.toNat v11) ((0 : Int), (⟨Array.empty⟩ : ByteArray), (0 : Int), (0 : Int))).2.2.1, (List.getD v9 (Int.toNat v11) ((0 : Int), (⟨Array.empty⟩ : ByteArray), (0 : Int), (0 : Int))).2.2.2), ())) fun (r0, r1, r2, r3) =>
    if (((0 + (List.length v5)) = (List.length v5)) ∧ ((((List.length v5) + (List.length (List.take 1 (List.drop 0 [(r0, r1, r2, r3)])))) * 40) ≤ 140737488355328)) then
     some (Sum.inl (v1, (List.take ((List.length v5) + (List.length (List.take 1 (List.drop 0 [(r0, r1, r2, r3)])))) (List.drop 0 ((List.drop 0 v5) ++ (List.take 1 (List.drop 0 [(r0, r1, r2, r3)]))))), v9, v10, (IntKind.wrap .i64 (v11 + (1 : Int))), ()))
    else
     none
  else
   none
 else
  some (Sum.inr ((List.take (List.length v5) (List.drop 0 v5)), ()))
theorem impl_stepped_l3_eq : loopStep 23 E91 L91_0 (loopOf f91 3) sh91_3 xs91_3 = impl_stepped_l3 := by kernel_rfl
theorem loop91_3 {L} (h : L 3 = some ⟨23, sh91_3, xs91_3, impl_stepped_l3⟩) : LoopOk prog L (loopOf f91 3) := lo impl_stepped_l3_eq E91_ok allNil h
noncomputable def L91_1 : Nat → Option LoopD := fun n => ifEq n 3 (some ⟨23, sh91_3, xs91_3, impl_stepped_l3⟩) (L91_0 n)
noncomputable def impl_stepped : (List (Int × (ByteArray × (Int × Int)))) → (((Int × (ByteArray × (Int × Int))) × Unit) → Option ((Int × (ByteArray × (Int × Int))))) → Option ((List (Int × (ByteArray × (Int × Int))))) := fun a0 a1 =>
 Option.bind (loopF impl_stepped_l3 (a1, (List.take 0 (List.drop 0 [])), a0, (((List.length a0) : Nat) : Int), (0 : Int), ())) fun (r0, _) =>
  some (List.take (List.length r0) (List.drop 0 r0))
noncomputable def A91 : FnA := ⟨[.v (.sl (.pair (.int .i64) (.pair .str (.pair (.int .i64) (.int .i64))))), .clo [.pair (.int .i64) (.pair .str (.pair (.int .i64) (.int .i64)))] (.pair (.int .i64) (.pair .str (.pair (.int .i64) (.int .i64))))], true, [.sl (.pair (.int .i64) (.pair .str (.pair (.int .i64) (.int .i64))))], fun x => impl_stepped x.1 x.2.1⟩
theorem impl_stepped_eq : fnF E91 L91_1 [.v (.sl (.pair (.int .i64) (.pair .str (.pair (.int .i64) (.int .i64))))), .clo [.pair (.int .i64) (.pair .str (.pair (.int .i64) (.int .i64)))] (.pair (.int .i64) (.pair .str (.pair (.int .i64) (.int .i64))))] true [.sl (.pair (.int .i64) (.pair .str (.pair (.int .i64) (.int .i64))))] f91.ntmps f91.results.toList (codeOf f91) = fun x => impl_stepped x.1 x.2.1 := by kernel_rfl
theorem A91_ok : FnOk prog 91 A91 := fo impl_stepped_eq func91 E91_ok (allCons (loop91_3 rfl) allNil)
/-! impl.ScaleAutomaton$1 -/
noncomputable def E92 : Env := ⟨ty0, fun _ => none, fun _ => none, fun _ => none, fun _ => none⟩
theorem E92_ok : FnsOk prog E92 := (noFns _ _)
noncomputable def L92_0 : Nat → Option LoopD := fun _ => none
noncomputable def impl_ScaleAutomaton_1 : (Int × (ByteArray × (Int × Int))) → Int → Option ((Int × (ByteArray × (Int × Int)))) := fun (a0_0, a0_1, a0_2, a0_3) a1 =>
 some (a0_0, a0_1, a0_2, (IntKind.wrap .i64 (a0_3 * a1)))
noncomputable def A92 : FnA := ⟨[.v (.pair (.int .i64) (.pair .str (.pair (.int .i64) (.int .i64)))), .cap (.int .i64)], true, [.pair (.int .i64) (.pair .str (.pair (.int .i64) (.int .i64)))], fun x => impl_ScaleAutomaton_1 x.1 x.2.1⟩
theorem impl_ScaleAutomaton_1_eq : fnF E92 L92_0 [.v (.pair (.int .i64) (.pair .str (.pair (.int .i64) (.int .i64)))), .cap (.int .i64)] true [.pair (.int .i64) (.pair .str (.pair (.int .i64) (.int .i64)))] f92.ntmps f92.results.toList (codeOf f92) = fun x => impl_ScaleAutomaton_1 x.1 x.2.1 := by kernel_rfl
theorem A92_ok : FnOk prog 92 A92 := fo impl_ScaleAutomaton_1_eq func92 E92_ok allNil
/-! slices.Clone[[]int,int] -/
noncomputable def E136 : Env := ⟨ty0, fun _ => none, fun _ => none, fun _ => none, fun _ => none⟩
theorem E136_ok : FnsOk prog E136 := (noFns _ _)
noncomputable def L136_0 : Nat → Option LoopD := fun _ => none
noncomputable def slices_Clone : (List Int) → Option ((List Int)) := fun a0 =>
 ifSame (some [])
  (if (((0 + 0) = (List.length ([] : List Unit))) ∧ (((0 + (List.length a0)) * 8) ≤ 140737488355328)) then
   some (List.take (0 + (List.length a0)) (List.drop 0 ((List.drop 0 []) ++ a0)))
  else
   none)
  (bif (List.isEmpty a0) then
   none
  else
   if (((0 + 0) = (List.length ([] : List Unit))) ∧ (((0 + (List.length a0)) * 8) ≤ 140737488355328)) then
    some (List.take (0 + (List.length a0)) (List.drop 0 ((List.drop 0 []) ++ a0)))
   else
    none)
noncomputable def A136 : FnA := ⟨[.v (.sl (.int .i64))], true, [.sl (.int .i64)], fun x => slices_Clone x.1⟩
theorem slices_Clone_eq : fnF E136 L136_0 [.v (.sl (.int .i64))] true [.sl (.int .i64)] f136.ntmps f136.results.toList (codeOf f136) = fun x => slices_Clone x.1 := by kernel_rfl
theorem A136_ok : FnOk prog 136 A136 := fo slices_Clone_eq func136 E136_ok allNil
/-! slices.Clone[[]impl.Step,impl.Step] -/
noncomputable def E137 : Env := ⟨ty0, fun _ => none, fun _ => none, fun _ => none, fun _ => none⟩
theorem E137_ok : FnsOk prog E137 := (noFns _ _)
noncomputable def L137_0 : Nat → Option LoopD := fun _ => none
noncomputable def slices_Clone_Step : (List (Int × (ByteArray × (Int × Int)))) → Option ((List (Int × (ByteArray × (Int × Int))))) := fun a0 =>
 ifSame (some [])
  (if (((0 + 0) = (List.length ([] : List Unit))) ∧ (((0 + (List.length a0)) * 40) ≤ 140737488355328)) then
   some (List.take (0 + (List.length a0)) (List.drop 0 ((List.drop 0 []) ++ a0)))
  else
   none)
  (bif (List.isEmpty a0) then
   none
  else
   if (((0 + 0) = (List.length ([] : List Unit))) ∧ (((0 + (List.length a0)) * 40) ≤ 140737488355328)) then
    some (List.take (0 + (List.length a0)) (List.drop 0 ((List.drop 0 []) ++ a0)))
   else
    none)
noncomputable def A137 : FnA := ⟨[.v (.sl (.pair (.int .i64) (.pair .str (.pair (.int .i64) (.int .i64)))))], true, [.sl (.pair (.int .i64) (.pair .str (.pair (.int .i64) (.int .i64))))], fun x => slices_Clone_Step x.1⟩
theorem slices_Clone_Step_eq : fnF E137 L137_0 [.v (.sl (.pair (.int .i64) (.pair .str (.pair (.int .i64) (.int .i64)))))] true [.sl (.pair (.int .i64) (.pair .str (.pair (.int .i64) (.int .i64))))] f137.ntmps f137.results.toList (codeOf f137) = fun x => slices_Clone_Step x.1 := by kernel_rfl
theorem A137_ok : FnOk prog 137 A137 := fo slices_Clone_Step_eq func137 E137_ok allNil
/-! impl.made -/
noncomputable def E90 : Env := ⟨ty0, fun g => ifEq g 136 (some A136) (ifEq g 137 (some A137) (ifEq g 30 (some A30) (none))), fun g => ifEq g 51 (some A51) (ifEq g 138 (some A138) (none)), fun _ => none, fun _ => none⟩
theorem E90_ok : FnsOk prog E90 := (oF A136_ok func136 (oF A137_ok func137 (oF A30_ok func30 (oneMs A51_ok (by kernel_rfl) func51 (by kernel_rfl) (by kernel_rfl) (oneMs A138_ok (by kernel_rfl) func138 (by kernel_rfl) (by kernel_rfl) (noFns _ _))))))
noncomputable def L90_0 : Nat → Option LoopD := fun _ => none
noncomputable def impl_made : Int → (List Int) → (List Int) → (List (Int × (ByteArray × (Int × Int)))) → Option ((Int × ((List Int) × ((List Int) × (List (Int × (ByteArray × (Int × Int))))))) × Bool) := fun a0 a1 a2 a3 =>
 Option.bind (slices_Clone a1) fun r0 =>
  Option.bind (slices_Clone a2) fun r1 =>
   Option.bind (slices_Clone_Step a3) fun r2 =>
    if ((List.length r0) = (List.length r0)) then
     Option.bind (slices_Sort r0) fun (_, r3, _) =>
      if ((List.length r1) = (List.length r1)) then
       Option.bind (slices_Sort r1) fun (_, r4, _) =>
        if ((List.length r2) = (List.length r2)) then
         Option.bind (slices_SortFunc r2) fun (_, r5, _) =>
          Option.bind (impl_AutomatonValid (a0, (List.take (List.length r0) (List.drop 0 r3)), (List.take (List.length r1) (List.drop 0 r4)), (List.take (List.length r2) (List.drop 0 r5)))) fun r6 =>
           bif (!r6) then
            some (((0 : Int), [], [], []), false)
           else
            some ((a0, (List.take (List.length r0) (List.drop 0 r3)), (List.take (List.length r1) (List.drop 0 r4)), (List.take (List.length r2) (List.drop 0 r5))), true)
        else
         none
      else
       none
    else
     none
noncomputable def A90 : FnA := ⟨[.v (.int .i64), .v (.sl (.int .i64)), .v (.sl (.int .i64)), .v (.sl (.pair (.int .i64) (.pair .str (.pair (.int .i64) (.int .i64)))))], true, [.pair (.int .i64) (.pair (.sl (.int .i64)) (.pair (.sl (.int .i64)) (.sl (.pair (.int .i64) (.pair .str (.pair (.int .i64) (.int .i64))))))), .bool], fun x => impl_made x.1 x.2.1 x.2.2.1 x.2.2.2.1⟩
theorem impl_made_eq : fnF E90 L90_0 [.v (.int .i64), .v (.sl (.int .i64)), .v (.sl (.int .i64)), .v (.sl (.pair (.int .i64) (.pair .str (.pair (.int .i64) (.int .i64)))))] true [.pair (.int .i64) (.pair (.sl (.int .i64)) (.pair (.sl (.int .i64)) (.sl (.pair (.int .i64) (.pair .str (.pair (.int .i64) (.int .i64))))))), .bool] f90.ntmps f90.results.toList (codeOf f90) = fun x => impl_made x.1 x.2.1 x.2.2.1 x.2.2.2.1 := by kernel_rfl
theorem A90_ok : FnOk prog 90 A90 := fo impl_made_eq func90 E90_ok allNil
/-! impl.ScaleAutomaton -/
noncomputable def E43 : Env := ⟨ty0, fun g => ifEq g 30 (some A30) (ifEq g 91 (some A91) (ifEq g 92 (some A92) (ifEq g 90 (some A90) (none)))), fun _ => none, fun _ => none, fun _ => none⟩
theorem E43_ok : FnsOk prog E43 := (oF A30_ok func30 (oF A91_ok func91 (oF A92_ok func92 (oF A90_ok func90 (noFns _ _)))))
noncomputable def L43_0 : Nat → Option LoopD := fun _ => none
noncomputable def impl_ScaleAutomaton : (Int × ((List Int) × ((List Int) × (List (Int × (ByteArray × (Int × Int))))))) → Int → Option ((Int × ((List Int) × ((List Int) × (List (Int × (ByteArray × (Int × Int))))))) × Bool) := fun (a0_0, a0_1, a0_2, a0_3) a1 =>
 Option.bind (impl_AutomatonValid (a0_0, a0_1, a0_2, a0_3)) fun r0 =>
  bif (!r0) then
   some (((0 : Int), [], [], []), false)
  else
   bif (decide (a1 < (0 : Int))) then
    some (((0 : Int), [], [], []), false)
   else
    bif (decide (a1 > (3 : Int))) then
     some (((0 : Int), [], [], []), false)
    else
     Option.bind (impl_stepped a0_3 (fun y1 => (impl_ScaleAutomaton_1 y1.1 a1))) fun r2 =>
      Option.bind (impl_made a0_0 a0_1 a0_2 (List.take (List.length r2) (List.drop 0 r2))) fun ((r3, r4, r5, r6), r7) =>
       some ((r3, (List.take (List.length r4) (List.drop 0 r4)), (List.take (List.length r5) (List.drop 0 r5)), (List.take (List.length r6) (List.drop 0 r6))), r7)
noncomputable def A43 : FnA := ⟨[.v (.pair (.int .i64) (.pair (.sl (.int .i64)) (.pair (.sl (.int .i64)) (.sl (.pair (.int .i64) (.pair .str (.pair (.int .i64) (.int .i64)))))))), .v (.int .i64)], true, [.pair (.int .i64) (.pair (.sl (.int .i64)) (.pair (.sl (.int .i64)) (.sl (.pair (.int .i64) (.pair .str (.pair (.int .i64) (.int .i64))))))), .bool], fun x => impl_ScaleAutomaton x.1 x.2.1⟩
theorem impl_ScaleAutomaton_eq : fnF E43 L43_0 [.v (.pair (.int .i64) (.pair (.sl (.int .i64)) (.pair (.sl (.int .i64)) (.sl (.pair (.int .i64) (.pair .str (.pair (.int .i64) (.int .i64)))))))), .v (.int .i64)] true [.pair (.int .i64) (.pair (.sl (.int .i64)) (.pair (.sl (.int .i64)) (.sl (.pair (.int .i64) (.pair .str (.pair (.int .i64) (.int .i64))))))), .bool] f43.ntmps f43.results.toList (codeOf f43) = fun x => impl_ScaleAutomaton x.1 x.2.1 := by kernel_rfl
theorem A43_ok : FnOk prog 43 A43 := fo impl_ScaleAutomaton_eq func43 E43_ok allNil
/-! laws.FnBounded -/
noncomputable def E8 : Env := ⟨ty0, fun g => ifEq g 38 (some A38) (ifEq g 39 (some A39) (ifEq g 40 (some A40) (ifEq g 34 (some A34) (ifEq g 41 (some A41) (ifEq g 26 (some A26) (ifEq g 25 (some A25) (ifEq g 42 (some A42) (ifEq g 43 (some A43) (none))))))))), fun _ => none, fun _ => none, fun _ => none⟩
theorem E8_ok : FnsOk prog E8 := (oF A38_ok func38 (oF A39_ok func39 (oF A40_ok func40 (oF A34_ok func34 (oF A41_ok func41 (oF A26_ok func26 (oF A25_ok func25 (oF A42_ok func42 (oF A43_ok func43 (noFns _ _))))))))))
noncomputable def L8_0 : Nat → Option LoopD := fun _ => none
def sh8_14 : List Fm := D 5 (.box 100500 [.val (.int .i64), .val (.sl (.int .i64)), .val (.sl (.int .i64)), .val (.sl (.pair (.int .i64) (.pair .str (.pair (.int .i64) (.int .i64)))))] :: .cell (.val (.int .i64)) :: d :: .cell (.val .bool) :: D 57 (.cell (.own (.pair (.pair (.int .i64) (.sl (.int .i64))) .str) 106600 false) :: .cell (.val (.int .i64)) :: .cell (.val (.int .i64)) :: D 38 []))
def xs8_14 : List (Ex × List Fm) := [(.ret, (D 4 (.cell (.val .bool) :: D 102 []))), (.exit 0, [d, d, d, d, d, .box 100500 [.val (.int .i64), .val (.sl (.int .i64)), .val (.sl (.int .i64)), .val (.sl (.pair (.int .i64) (.pair .str (.pair (.int .i64) (.int .i64)))))], d, d, .cell (.val .bool), d, d, d, d, d, d, d, d, d, d, d, d, d, d, d, d, d, d, d, d, d, d, d, d, d, d, d, d, d, d, d, d, d, d, d, d, d, d, d, d, d, d, d, d, d, d, d, d, d, d, d, d, d, d, d, d, d, d, d, d, d, d, d, d, d, d, d, d, d, d, d, d, d, d, d, d, d, d, d, d, d, d, d, d, d, d, d, d, d, d, d, d, d, d, d, d, d, d])]
noncomputable def laws_FnBounded_l14 : ((Int × (List Int) × (List Int) × (List (Int × (ByteArray × (Int × Int)))) × Unit) × Int × Bool × (List ((Int × (List Int)) × ByteArray)) × Int × Int × Unit) → Option (((Int × (List Int) × (List Int) × (List (Int × (ByteArray × (Int × Int)))) × Unit) × Int × Bool × (List ((Int × (List Int)) × ByteArray)) × Int × Int × Unit) ⊕ ((Bool × Unit) ⊕ ((Int × (List Int) × (List Int) × (List (Int × (ByteArray × (Int × Int)))) × Unit) × Bool × Unit))) := fun ((v5_0, v5_1, v5_2, v5_3, _), v6, v8, v66, v67, v68, _) =>
 bif (decide (v68 < v67)) then
  if (((0 : Int) ≤ v68) ∧ (v68 < (((List.length v66) : Nat) : Int))) then
   Option.bind (impl_GradeOf (v5_0, v5_1, v5_2, v5_3) (List.getD v66 (0 + (Int.toNat v68)) (((0 : Int), []), (⟨Array.empty⟩ : ByteArray))).2) fun r0 =>
    bif (r0 == (1 : Int)) then
     Option.bind (impl_BoundOf (List.getD v66 (0 + (Int.toNat v68)) (((0 : Int), []), (⟨Array.empty⟩ : ByteArray))).2) fun r1 =>
      bif (decide (r1 > v6)) then
       some (Sum.inr (Sum.inl (false, ())))
      else
       some (Sum.inl ((v5_0, v5_1, v5_2, v5_3, ()), v6, v8, (List.take (List.length v66) (List.drop 0 v66)), v67, (IntKind.wrap .i64 (v68 + (1 : Int))), ()))
    else
     some (Sum.inl ((v5_0, v5_1, v5_2, v5_3, ()), v6, v8, (List.take (List.length v66) (List.drop 0 v66)), v67, (IntKind.wrap .i64 (v68 + (1 : Int))), ()))
  else
   none
 else
  some (Sum.inr (Sum.inr ((v5_0, v5_1, v5_2, v5_3, ()), v8, ())))
theorem laws_FnBounded_l14_eq : loopStep 107 E8 L8_0 (loopOf f8 14) sh8_14 xs8_14 = laws_FnBounded_l14 := by kernel_rfl
theorem loop8_14 {L} (h : L 14 = some ⟨107, sh8_14, xs8_14, laws_FnBounded_l14⟩) : LoopOk prog L (loopOf f8 14) := lo laws_FnBounded_l14_eq E8_ok allNil h
noncomputable def L8_1 : Nat → Option LoopD := fun n => ifEq n 14 (some ⟨107, sh8_14, xs8_14, laws_FnBounded_l14⟩) (L8_0 n)
noncomputable def laws_FnBounded : (List Int) → (List Int) → Option (Bool) := fun a0 a1 =>
 bif (decide ((((List.length a0) : Nat) : Int) > (1048576 : Int))) then
  some true
 else
  bif (decide ((((List.length a1) : Nat) : Int) > (1048576 : Int))) then
   some true
  else
   Option.bind (spec_DrawSomeOf a0) fun (r0, r1, r2, r3) =>
    Option.bind (impl_SomeOf (r0, r1, r2, r3)) fun r4 =>
     Option.bind (spec_SomeOf (r0, r1, r2, r3)) fun r5 =>
      bif (r4 != r5) then
       Option.bind (spec_SomeOf (r0, r1, r2, r3)) fun r6 =>
        some (r4 == r6)
      else
       bif (decide (r4 < (0 : Int))) then
        Option.bind (spec_SomeOf (r0, r1, r2, r3)) fun r7 =>
         some (r4 == r7)
       else
        Option.bind (impl_IsBounded (r0, r1, r2, r3)) fun (r8, r9) =>
         Option.bind (spec_DrawDepthOf a1) fun r10 =>
          Option.bind (impl_GradeOf (r0, r1, r2, r3) r10) fun r11 =>
           bif r9 then
            bif r8 then
             bif (r11 == (2 : Int)) then
              some false
             else
              Option.bind (impl_ElementsOf (r0, r1, r2, r3)) fun (r12, r13) =>
               Option.bind (loopF laws_FnBounded_l14 ((r0, r1, r2, r3, ()), r4, r9, (List.take (List.length r12) (List.drop 0 r12)), (((List.length r12) : Nat) : Int), (0 : Int), ())) fun r14 =>
                (match r14 with
                | .inl (d15, _) =>
                  some d15
                | .inr ((d16, d17, d18, d19, _), d20, _) =>
                  Option.bind (impl_ScaleAutomaton (d16, d17, d18, d19) (0 : Int)) fun ((r21, r22, r23, r24), r25) =>
                   Option.bind (impl_IsBounded (r21, (List.take (List.length r22) (List.drop 0 r22)), (List.take (List.length r23) (List.drop 0 r23)), (List.take (List.length r24) (List.drop 0 r24)))) fun (r26, r27) =>
                    bif d20 then
                     bif (!r25) then
                      some true
                     else
                      bif (!r27) then
                       some true
                      else
                       some r26
                    else
                     some false)
            else
             Option.bind (impl_ElementsOf (r0, r1, r2, r3)) fun (r28, r29) =>
              Option.bind (loopF laws_FnBounded_l14 ((r0, r1, r2, r3, ()), r4, r9, (List.take (List.length r28) (List.drop 0 r28)), (((List.length r28) : Nat) : Int), (0 : Int), ())) fun r30 =>
               (match r30 with
               | .inl (d31, _) =>
                 some d31
               | .inr ((d32, d33, d34, d35, _), d36, _) =>
                 Option.bind (impl_ScaleAutomaton (d32, d33, d34, d35) (0 : Int)) fun ((r37, r38, r39, r40), r41) =>
                  Option.bind (impl_IsBounded (r37, (List.take (List.length r38) (List.drop 0 r38)), (List.take (List.length r39) (List.drop 0 r39)), (List.take (List.length r40) (List.drop 0 r40)))) fun (r42, r43) =>
                   bif d36 then
                    bif (!r41) then
                     some true
                    else
                     bif (!r43) then
                      some true
                     else
                      some r42
                   else
                    some false)
           else
            Option.bind (impl_ElementsOf (r0, r1, r2, r3)) fun (r44, r45) =>
             Option.bind (loopF laws_FnBounded_l14 ((r0, r1, r2, r3, ()), r4, r9, (List.take (List.length r44) (List.drop 0 r44)), (((List.length r44) : Nat) : Int), (0 : Int), ())) fun r46 =>
              (match r46 with
              | .inl (d47, _) =>
                some d47
              | .inr ((d48, d49, d50, d51, _), d52, _) =>
                Option.bind (impl_ScaleAutomaton (d48, d49, d50, d51) (0 : Int)) fun ((r53, r54, r55, r56), r57) =>
                 Option.bind (impl_IsBounded (r53, (List.take (List.length r54) (List.drop 0 r54)), (List.take (List.length r55) (List.drop 0 r55)), (List.take (List.length r56) (List.drop 0 r56)))) fun (r58, r59) =>
                  bif d52 then
                   bif (!r57) then
                    some true
                   else
                    bif (!r59) then
                     some true
                    else
                     some r58
                  else
                   some false)
noncomputable def A8 : FnA := ⟨[.v (.sl (.int .u8)), .v (.sl (.int .u8))], true, [.bool], fun x => laws_FnBounded x.1 x.2.1⟩
theorem laws_FnBounded_eq : fnF E8 L8_1 [.v (.sl (.int .u8)), .v (.sl (.int .u8))] true [.bool] f8.ntmps f8.results.toList (codeOf f8) = fun x => laws_FnBounded x.1 x.2.1 := by kernel_rfl
theorem A8_ok : FnOk prog 8 A8 := fo laws_FnBounded_eq func8 E8_ok (allCons (loop8_14 rfl) allNil)
end Go.Proofs.YtbmlleocidldpaaGreat
