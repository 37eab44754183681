/- What Go functions that the laws reach compute, and that they do: written by a program of this session. -/
import Derived.Test.YtbmlleocidldpaaCmp
import Derived.KernelRfl
set_option linter.unusedVariables false
namespace Go.Proofs.Ytbmlleocidldpaa
open Go Go.Proofs.Ytbmlleocidldpaa.Am Go.Proofs.Try
set_option maxRecDepth 100000
def tyl : List (Nat × TyD) := [(3, {kd := .int .i64}),
  (4, {kd := .bool}),
  (5, {kd := .int .u8}),
  (9, {kd := .str}),
  (22, {kd := .sl (.int .u8), elt := .int .u8, bytes := 1}),
  (23, {kd := .sl (.int .i64), elt := .int .i64, bytes := 8}),
  (24, {kd := .sl (.pair (.int .i64) (.pair .str (.pair (.int .i64) (.int .i64)))), elt := .pair (.int .i64) (.pair .str (.pair (.int .i64) (.int .i64))), bytes := 40}),
  (26, {kd := .pair (.int .i64) (.pair (.sl (.int .i64)) (.pair (.sl (.int .i64)) (.sl (.pair (.int .i64) (.pair .str (.pair (.int .i64) (.int .i64))))))), flds := [(0, .int .i64), (1, .sl (.int .i64)), (2, .sl (.int .i64)), (3, .sl (.pair (.int .i64) (.pair .str (.pair (.int .i64) (.int .i64)))))]}),
  (38, {kd := .sl (.pair (.int .i64) (.pair .str (.pair (.int .i64) (.int .i64)))), elt := .pair (.int .i64) (.pair .str (.pair (.int .i64) (.int .i64))), bytes := 40}),
  (40, {kd := .pair (.int .i64) (.pair (.sl (.int .i64)) (.pair (.sl (.int .i64)) (.sl (.pair (.int .i64) (.pair .str (.pair (.int .i64) (.int .i64))))))), flds := [(0, .int .i64), (1, .sl (.int .i64)), (2, .sl (.int .i64)), (3, .sl (.pair (.int .i64) (.pair .str (.pair (.int .i64) (.int .i64)))))]}),
  (86, {kd := .pair (.int .i64) (.pair .str (.pair (.int .i64) (.int .i64))), flds := [(0, .int .i64), (1, .str), (2, .int .i64), (3, .int .i64)]}),
  (134, {kd := .pair (.int .i64) (.pair .str (.pair (.int .i64) (.int .i64))), flds := [(0, .int .i64), (1, .str), (2, .int .i64), (3, .int .i64)]})]
def ty0 : Nat → Option TyD := assoc tyl
theorem tyl_ok : tysOkB prog tyl = true := by kernel_rfl
theorem mixed : prog.follows .mixedOrders = true := by kernel_rfl
abbrev d : Fm := .cell .drop
/-! cmp.isNaN[int] -/
noncomputable def E148 : Env := ⟨ty0, fun _ => none, fun _ => none, fun _ => none, fun _ => none⟩
theorem E148_ok : FnsOk prog E148 := (noFns _ _)
noncomputable def L148_0 : Nat → Option LoopD := fun _ => none
noncomputable def cmp_isNaN : Int → Option (Bool) := fun a0 =>
  some (a0 != a0)
noncomputable def A148 : FnA := ⟨[.v (.int .i64)], true, [.bool], fun x => cmp_isNaN x.1⟩
theorem cmp_isNaN_eq : fnF E148 L148_0 [.v (.int .i64)] true [.bool] f148.ntmps f148.results.toList (codeOf f148) = fun x => cmp_isNaN x.1 := by kernel_rfl
theorem A148_ok : FnOk prog 148 A148 := by
  have h := fnOk_of_run (P := prog) (E := E148) (tysOk_of tyl_ok) E148_ok (L := L148_0) (ps := [.v (.int .i64)]) (own := true) (outs := [.bool]) func148 (c := codeOf f148) (by kernel_rfl) (codeOk_in (L := L148_0) (tysOk_of tyl_ok) E148_ok mixed (c := codeOf f148) (bs := []) (by kernel_rfl) allNil (by kernel_rfl))
  rw [cmp_isNaN_eq] at h
  exact h
/-! cmp.Compare[int] -/
noncomputable def E117 : Env := ⟨ty0, fun g => ifEq g 148 (some A148) (none), fun _ => none, fun _ => none, fun _ => none⟩
theorem E117_ok : FnsOk prog E117 := (oneFn A148_ok func148 (by kernel_rfl) (by kernel_rfl) (noFns _ _))
noncomputable def L117_0 : Nat → Option LoopD := fun _ => none
noncomputable def cmp_Compare : Int → Int → Option (Int) := fun a0 a1 =>
  Option.bind (cmp_isNaN a0) fun r0 =>
    Option.bind (cmp_isNaN a1) fun r1 =>
      bif r0 then
        bif r1 then
          some (0 : Int)
        else
          some (-1 : Int)
      else
        bif r1 then
          some (1 : Int)
        else
          bif (decide (a0 < a1)) then
            some (-1 : Int)
          else
            bif (decide (a0 > a1)) then
              some (1 : Int)
            else
              some (0 : Int)
noncomputable def A117 : FnA := ⟨[.v (.int .i64), .v (.int .i64)], true, [.int .i64], fun x => cmp_Compare x.1 x.2.1⟩
theorem cmp_Compare_eq : fnF E117 L117_0 [.v (.int .i64), .v (.int .i64)] true [.int .i64] f117.ntmps f117.results.toList (codeOf f117) = fun x => cmp_Compare x.1 x.2.1 := by kernel_rfl
theorem A117_ok : FnOk prog 117 A117 := by
  have h := fnOk_of_run (P := prog) (E := E117) (tysOk_of tyl_ok) E117_ok (L := L117_0) (ps := [.v (.int .i64), .v (.int .i64)]) (own := true) (outs := [.int .i64]) func117 (c := codeOf f117) (by kernel_rfl) (codeOk_in (L := L117_0) (tysOk_of tyl_ok) E117_ok mixed (c := codeOf f117) (bs := []) (by kernel_rfl) allNil (by kernel_rfl))
  rw [cmp_Compare_eq] at h
  exact h
/-! cmp.Or[int] -/
noncomputable def E116 : Env := ⟨ty0, fun _ => none, fun _ => none, fun _ => none, fun _ => none⟩
theorem E116_ok : FnsOk prog E116 := (noFns _ _)
noncomputable def L116_0 : Nat → Option LoopD := fun _ => none
def sh116_3 : List Fm := [d, d, d, .cell (.val (.int .i64)), d, d, .cell (.val (.sl (.int .i64))), .cell (.val (.int .i64)), .cell (.val (.int .i64)), d, d, d, d, d, d, d, d, d]
def xs116_3 : List (Ex × List Fm) := [(.ret, [d, d, .cell (.val (.int .i64)), d, d, d, d, d, d, d, d, d, d, d, d, d, d, d]), (.exit 0, [d, d, d, .cell (.val (.int .i64)), d, d, d, d, d, d, d, d, d, d, d, d, d, d])]
noncomputable def cmp_Or_l3 : (Int × (List Int) × Int × Int × Unit) → Option ((Int × (List Int) × Int × Int × Unit) ⊕ ((Int × Unit) ⊕ (Int × Unit))) := fun (v3, v6, v7, v8, _) =>
  bif (decide (v8 < v7)) then
    if (((0 : Int) ≤ v8) ∧ (v8 < (((List.length v6) : Nat) : Int))) then
      bif ((List.getD v6 (Int.toNat v8) (0 : Int)) != v3) then
        some (Sum.inr (Sum.inl ((List.getD v6 (Int.toNat v8) (0 : Int)), ())))
      else
        some (Sum.inl (v3, v6, v7, (IntKind.wrap .i64 (v8 + (1 : Int))), ()))
    else
      none
  else
    some (Sum.inr (Sum.inr (v3, ())))
theorem cmp_Or_l3_eq : loopStep 18 E116 L116_0 (loopOf f116 3) sh116_3 xs116_3 = cmp_Or_l3 := by kernel_rfl
theorem loop116_3 {L : Nat → Option LoopD} (h : L 3 = some ⟨18, sh116_3, xs116_3, cmp_Or_l3⟩) : LoopOk prog L (loopOf f116 3) :=
  loopOk (tysOk_of tyl_ok) E116_ok (codeOk_in (L := L116_0) (tysOk_of tyl_ok) E116_ok mixed (c := loopOf f116 3) (bs := []) (by kernel_rfl) allNil (by kernel_rfl)) (by kernel_rfl) (by kernel_rfl) cmp_Or_l3_eq (by rw [show firstId (loopOf f116 3) = 3 from by kernel_rfl]; exact h)
noncomputable def L116_1 : Nat → Option LoopD := fun n => ifEq n 3 (some ⟨18, sh116_3, xs116_3, cmp_Or_l3⟩) (L116_0 n)
noncomputable def cmp_Or : (List Int) → Option (Int) := fun a0 =>
  Option.bind (loopF cmp_Or_l3 ((0 : Int), a0, (((List.length a0) : Nat) : Int), (0 : Int), ())) fun r0 =>
    (match r0 with
    | .inl (d1, _) =>
        some d1
    | .inr (d2, _) =>
        some d2)
noncomputable def A116 : FnA := ⟨[.v (.sl (.int .i64))], true, [.int .i64], fun x => cmp_Or x.1⟩
theorem cmp_Or_eq : fnF E116 L116_1 [.v (.sl (.int .i64))] true [.int .i64] f116.ntmps f116.results.toList (codeOf f116) = fun x => cmp_Or x.1 := by kernel_rfl
theorem A116_ok : FnOk prog 116 A116 := by
  have h := fnOk_of_run (P := prog) (E := E116) (tysOk_of tyl_ok) E116_ok (L := L116_1) (ps := [.v (.sl (.int .i64))]) (own := true) (outs := [.int .i64]) func116 (c := codeOf f116) (by kernel_rfl) (codeOk_in (L := L116_1) (tysOk_of tyl_ok) E116_ok mixed (c := codeOf f116) (bs := [loopOf f116 3]) (by kernel_rfl) (allCons (loop116_3 rfl) allNil) (by kernel_rfl))
  rw [cmp_Or_eq] at h
  exact h
/-! impl.stepOrder -/
noncomputable def E68 : Env := ⟨ty0, fun g => ifEq g 117 (some A117) (ifEq g 118 (some A118) (ifEq g 116 (some A116) (none))), fun _ => none, fun _ => none, fun _ => none⟩
theorem E68_ok : FnsOk prog E68 := (oneFn A117_ok func117 (by kernel_rfl) (by kernel_rfl) (oneFn A118_ok func118 (by kernel_rfl) (by kernel_rfl) (oneFn A116_ok func116 (by kernel_rfl) (by kernel_rfl) (noFns _ _))))
noncomputable def L68_0 : Nat → Option LoopD := fun _ => none
noncomputable def impl_stepOrder : (Int × (ByteArray × (Int × Int))) → (Int × (ByteArray × (Int × Int))) → Option (Int) := fun (a0_0, a0_1, a0_2, a0_3) (a1_0, a1_1, a1_2, a1_3) =>
  Option.bind (cmp_Compare a0_0 a1_0) fun r0 =>
    Option.bind (strings_Compare a0_1 a1_1) fun r1 =>
      Option.bind (cmp_Compare a0_2 a1_2) fun r2 =>
        Option.bind (cmp_Or (List.take 3 (List.drop 0 [r0, r1, r2]))) fun r3 =>
          some r3
noncomputable def A68 : FnA := ⟨[.v (.pair (.int .i64) (.pair .str (.pair (.int .i64) (.int .i64)))), .v (.pair (.int .i64) (.pair .str (.pair (.int .i64) (.int .i64))))], true, [.int .i64], fun x => impl_stepOrder x.1 x.2.1⟩
theorem impl_stepOrder_eq : fnF E68 L68_0 [.v (.pair (.int .i64) (.pair .str (.pair (.int .i64) (.int .i64)))), .v (.pair (.int .i64) (.pair .str (.pair (.int .i64) (.int .i64))))] true [.int .i64] f68.ntmps f68.results.toList (codeOf f68) = fun x => impl_stepOrder x.1 x.2.1 := by kernel_rfl
theorem A68_ok : FnOk prog 68 A68 := by
  have h := fnOk_of_run (P := prog) (E := E68) (tysOk_of tyl_ok) E68_ok (L := L68_0) (ps := [.v (.pair (.int .i64) (.pair .str (.pair (.int .i64) (.int .i64)))), .v (.pair (.int .i64) (.pair .str (.pair (.int .i64) (.int .i64))))]) (own := true) (outs := [.int .i64]) func68 (c := codeOf f68) (by kernel_rfl) (codeOk_in (L := L68_0) (tysOk_of tyl_ok) E68_ok mixed (c := codeOf f68) (bs := []) (by kernel_rfl) allNil (by kernel_rfl))
  rw [impl_stepOrder_eq] at h
  exact h
end Go.Proofs.Ytbmlleocidldpaa
