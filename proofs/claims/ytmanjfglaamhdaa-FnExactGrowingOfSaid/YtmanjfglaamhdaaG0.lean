/- What Go functions that the laws reach compute, and that they do: written by a program of this session. -/
import Derived.Test.YtmanjfglaamhdaaCmp
import Derived.KernelRfl
set_option linter.unusedVariables false
namespace Go.Proofs.Ytmanjfglaamhdaa
open Go Go.Proofs.Ytmanjfglaamhdaa.Am Go.Proofs.Try
set_option maxRecDepth 100000
def tyl : List (Nat × TyD) := [(3, {kd := .int .i64}),
  (4, {kd := .bool}),
  (9, {kd := .str}),
  (22, {kd := .sl (.int .i64), elt := .int .i64, bytes := 8}),
  (23, {kd := .sl (.pair (.int .i64) (.pair .str (.pair (.int .i64) (.int .i64)))), elt := .pair (.int .i64) (.pair .str (.pair (.int .i64) (.int .i64))), bytes := 40}),
  (25, {kd := .pair (.int .i64) (.pair (.sl (.int .i64)) (.pair (.sl (.int .i64)) (.sl (.pair (.int .i64) (.pair .str (.pair (.int .i64) (.int .i64))))))), flds := [(0, .int .i64), (1, .sl (.int .i64)), (2, .sl (.int .i64)), (3, .sl (.pair (.int .i64) (.pair .str (.pair (.int .i64) (.int .i64)))))]}),
  (29, {kd := .sl (.pair (.int .i64) (.pair .str (.pair (.int .i64) (.int .i64)))), elt := .pair (.int .i64) (.pair .str (.pair (.int .i64) (.int .i64))), bytes := 40}),
  (31, {kd := .pair (.int .i64) (.pair (.sl (.int .i64)) (.pair (.sl (.int .i64)) (.sl (.pair (.int .i64) (.pair .str (.pair (.int .i64) (.int .i64))))))), flds := [(0, .int .i64), (1, .sl (.int .i64)), (2, .sl (.int .i64)), (3, .sl (.pair (.int .i64) (.pair .str (.pair (.int .i64) (.int .i64)))))]}),
  (37, {kd := .sl (.pair (.pair (.int .i64) (.sl (.int .i64))) .str), elt := .pair (.pair (.int .i64) (.sl (.int .i64))) .str, bytes := 48}),
  (41, {kd := .pair (.int .i64) (.sl (.int .i64)), flds := [(0, .int .i64), (1, .sl (.int .i64))]}),
  (43, {kd := .pair (.pair (.int .i64) (.sl (.int .i64))) .str, flds := [(0, .pair (.int .i64) (.sl (.int .i64))), (2, .str)]}),
  (53, {kd := .pair (.int .i64) (.pair .str (.pair (.int .i64) (.int .i64))), flds := [(0, .int .i64), (1, .str), (2, .int .i64), (3, .int .i64)]}),
  (55, {kd := .pair (.int .i64) (.pair .str (.pair (.int .i64) (.int .i64))), flds := [(0, .int .i64), (1, .str), (2, .int .i64), (3, .int .i64)]}),
  (65, {kd := .pair (.sl (.pair (.pair (.int .i64) (.sl (.int .i64))) .str)) .bool, flds := [(0, .sl (.pair (.pair (.int .i64) (.sl (.int .i64))) .str)), (1, .bool)]}),
  (80, {kd := .pair (.sl (.pair (.pair (.int .i64) (.sl (.int .i64))) .str)) .bool, flds := [(0, .sl (.pair (.pair (.int .i64) (.sl (.int .i64))) .str)), (1, .bool)]}),
  (81, {kd := .sl .str, elt := .str, bytes := 16}),
  (94, {kd := .sl (.pair .str .pt), elt := .pair .str .pt, bytes := 40}),
  (102, {kd := .pair .str .pt, flds := [(0, .str), (1, .pt)]})]
def ty0 : Nat → Option TyD := assoc tyl
theorem tyl_ok : tysOkB prog tyl = true := by kernel_rfl
theorem mixed : prog.follows .mixedOrders = true := by kernel_rfl
abbrev d : Fm := .cell .drop
/-! laws.szIntS -/
noncomputable def E9 : Env := ⟨ty0, fun _ => none, fun _ => none, fun _ => none, fun _ => none⟩
theorem E9_ok : FnsOk prog E9 := (noFns _ _)
noncomputable def L9_0 : Nat → Option LoopD := fun _ => none
noncomputable def laws_szIntS : (List Int) → Int → Option (Int) := fun a0 a1 =>
  bif (decide ((IntKind.wrap .i64 (a1 - (((List.length a0) : Nat) : Int))) < (0 : Int))) then
    some (-1 : Int)
  else
    some (IntKind.wrap .i64 (a1 - (((List.length a0) : Nat) : Int)))
noncomputable def A9 : FnA := ⟨[.v (.sl (.int .i64)), .v (.int .i64)], true, [.int .i64], fun x => laws_szIntS x.1 x.2.1⟩
theorem laws_szIntS_eq : fnF E9 L9_0 [.v (.sl (.int .i64)), .v (.int .i64)] true [.int .i64] f9.ntmps f9.results.toList (codeOf f9) = fun x => laws_szIntS x.1 x.2.1 := by kernel_rfl
theorem A9_ok : FnOk prog 9 A9 := by
  have h := fnOk_of_run (P := prog) (E := E9) (tysOk_of tyl_ok) E9_ok (L := L9_0) (ps := [.v (.sl (.int .i64)), .v (.int .i64)]) (own := true) (outs := [.int .i64]) func9 (c := codeOf f9) (by kernel_rfl) (codeOk_in (L := L9_0) (tysOk_of tyl_ok) E9_ok mixed (c := codeOf f9) (bs := []) (by kernel_rfl) allNil (by kernel_rfl))
  rw [laws_szIntS_eq] at h
  exact h
/-! laws.szStep -/
noncomputable def E20 : Env := ⟨ty0, fun _ => none, fun _ => none, fun _ => none, fun _ => none⟩
theorem E20_ok : FnsOk prog E20 := (noFns _ _)
noncomputable def L20_0 : Nat → Option LoopD := fun _ => none
noncomputable def laws_szStep : (Int × (ByteArray × (Int × Int))) → Int → Option (Int) := fun (a0_0, a0_1, a0_2, a0_3) a1 =>
  bif (decide ((IntKind.wrap .i64 (a1 - (((ByteArray.size a0_1) : Nat) : Int))) < (0 : Int))) then
    some (-1 : Int)
  else
    some (IntKind.wrap .i64 (a1 - (((ByteArray.size a0_1) : Nat) : Int)))
noncomputable def A20 : FnA := ⟨[.v (.pair (.int .i64) (.pair .str (.pair (.int .i64) (.int .i64)))), .v (.int .i64)], true, [.int .i64], fun x => laws_szStep x.1 x.2.1⟩
theorem laws_szStep_eq : fnF E20 L20_0 [.v (.pair (.int .i64) (.pair .str (.pair (.int .i64) (.int .i64)))), .v (.int .i64)] true [.int .i64] f20.ntmps f20.results.toList (codeOf f20) = fun x => laws_szStep x.1 x.2.1 := by kernel_rfl
theorem A20_ok : FnOk prog 20 A20 := by
  have h := fnOk_of_run (P := prog) (E := E20) (tysOk_of tyl_ok) E20_ok (L := L20_0) (ps := [.v (.pair (.int .i64) (.pair .str (.pair (.int .i64) (.int .i64)))), .v (.int .i64)]) (own := true) (outs := [.int .i64]) func20 (c := codeOf f20) (by kernel_rfl) (codeOk_in (L := L20_0) (tysOk_of tyl_ok) E20_ok mixed (c := codeOf f20) (bs := []) (by kernel_rfl) allNil (by kernel_rfl))
  rw [laws_szStep_eq] at h
  exact h
/-! laws.szStepS -/
noncomputable def E10 : Env := ⟨ty0, fun g => ifEq g 20 (some A20) (none), fun _ => none, fun _ => none, fun _ => none⟩
theorem E10_ok : FnsOk prog E10 := (oneFn A20_ok func20 (by kernel_rfl) (by kernel_rfl) (noFns _ _))
noncomputable def L10_0 : Nat → Option LoopD := fun _ => none
def sh10_5 : List Fm := [.cell (.val (.sl (.pair (.int .i64) (.pair .str (.pair (.int .i64) (.int .i64)))))), .cell (.val (.int .i64)), d, d, d, .cell (.val (.int .i64)), d, d, d, d, d, d, d, d, d, d, d, d, d, d, d, d, d, d, d, d, d]
def xs10_5 : List (Ex × List Fm) := [(.ret, [d, d, d, d, .cell (.val (.int .i64)), d, d, d, d, d, d, d, d, d, d, d, d, d, d, d, d, d, d, d, d, d, d]), (.exit 0, [d, .cell (.val (.int .i64)), d, d, d, d, d, d, d, d, d, d, d, d, d, d, d, d, d, d, d, d, d, d, d, d, d])]
noncomputable def laws_szStepS_l5 : ((List (Int × (ByteArray × (Int × Int)))) × Int × Int × Unit) → Option (((List (Int × (ByteArray × (Int × Int)))) × Int × Int × Unit) ⊕ ((Int × Unit) ⊕ (Int × Unit))) := fun (v0, v1, v5, _) =>
  bif (decide (v5 < (((List.length v0) : Nat) : Int))) then
    if (((0 : Int) ≤ v5) ∧ (v5 < (((List.length v0) : Nat) : Int))) then
      Option.bind (laws_szStep (List.getD v0 (Int.toNat v5) ((0 : Int), (⟨Array.empty⟩ : ByteArray), (0 : Int), (0 : Int))) v1) fun r0 =>
        bif (decide (r0 < (0 : Int))) then
          some (Sum.inr (Sum.inl ((-1 : Int), ())))
        else
          some (Sum.inl (v0, r0, (IntKind.wrap .i64 (v5 + (1 : Int))), ()))
    else
      none
  else
    some (Sum.inr (Sum.inr (v1, ())))
theorem laws_szStepS_l5_eq : loopStep 27 E10 L10_0 (loopOf f10 5) sh10_5 xs10_5 = laws_szStepS_l5 := by kernel_rfl
theorem loop10_5 {L : Nat → Option LoopD} (h : L 5 = some ⟨27, sh10_5, xs10_5, laws_szStepS_l5⟩) : LoopOk prog L (loopOf f10 5) :=
  loopOk (tysOk_of tyl_ok) E10_ok (codeOk_in (L := L10_0) (tysOk_of tyl_ok) E10_ok mixed (c := loopOf f10 5) (bs := []) (by kernel_rfl) allNil (by kernel_rfl)) (by kernel_rfl) (by kernel_rfl) laws_szStepS_l5_eq (by rw [show firstId (loopOf f10 5) = 5 from by kernel_rfl]; exact h)
noncomputable def L10_1 : Nat → Option LoopD := fun n => ifEq n 5 (some ⟨27, sh10_5, xs10_5, laws_szStepS_l5⟩) (L10_0 n)
noncomputable def laws_szStepS : (List (Int × (ByteArray × (Int × Int)))) → Int → Option (Int) := fun a0 a1 =>
  bif (decide ((IntKind.wrap .i64 (a1 - (((List.length a0) : Nat) : Int))) < (0 : Int))) then
    some (-1 : Int)
  else
    Option.bind (loopF laws_szStepS_l5 (a0, (IntKind.wrap .i64 (a1 - (((List.length a0) : Nat) : Int))), (0 : Int), ())) fun r0 =>
      (match r0 with
      | .inl (d1, _) =>
          some d1
      | .inr (d2, _) =>
          some d2)
noncomputable def A10 : FnA := ⟨[.v (.sl (.pair (.int .i64) (.pair .str (.pair (.int .i64) (.int .i64))))), .v (.int .i64)], true, [.int .i64], fun x => laws_szStepS x.1 x.2.1⟩
theorem laws_szStepS_eq : fnF E10 L10_1 [.v (.sl (.pair (.int .i64) (.pair .str (.pair (.int .i64) (.int .i64))))), .v (.int .i64)] true [.int .i64] f10.ntmps f10.results.toList (codeOf f10) = fun x => laws_szStepS x.1 x.2.1 := by kernel_rfl
theorem A10_ok : FnOk prog 10 A10 := by
  have h := fnOk_of_run (P := prog) (E := E10) (tysOk_of tyl_ok) E10_ok (L := L10_1) (ps := [.v (.sl (.pair (.int .i64) (.pair .str (.pair (.int .i64) (.int .i64))))), .v (.int .i64)]) (own := true) (outs := [.int .i64]) func10 (c := codeOf f10) (by kernel_rfl) (codeOk_in (L := L10_1) (tysOk_of tyl_ok) E10_ok mixed (c := codeOf f10) (bs := [loopOf f10 5]) (by kernel_rfl) (allCons (loop10_5 rfl) allNil) (by kernel_rfl))
  rw [laws_szStepS_eq] at h
  exact h
/-! laws.szAutomaton -/
noncomputable def E4 : Env := ⟨ty0, fun g => ifEq g 9 (some A9) (ifEq g 10 (some A10) (none)), fun _ => none, fun _ => none, fun _ => none⟩
theorem E4_ok : FnsOk prog E4 := (oneFn A9_ok func9 (by kernel_rfl) (by kernel_rfl) (oneFn A10_ok func10 (by kernel_rfl) (by kernel_rfl) (noFns _ _)))
noncomputable def L4_0 : Nat → Option LoopD := fun _ => none
noncomputable def laws_szAutomaton : (Int × ((List Int) × ((List Int) × (List (Int × (ByteArray × (Int × Int))))))) → Int → Option (Int) := fun (a0_0, a0_1, a0_2, a0_3) a1 =>
  Option.bind (laws_szIntS a0_1 a1) fun r0 =>
    bif (decide (r0 < (0 : Int))) then
      some (-1 : Int)
    else
      Option.bind (laws_szIntS a0_2 r0) fun r1 =>
        bif (decide (r1 < (0 : Int))) then
          some (-1 : Int)
        else
          Option.bind (laws_szStepS a0_3 r1) fun r2 =>
            bif (decide (r2 < (0 : Int))) then
              some (-1 : Int)
            else
              some r2
noncomputable def A4 : FnA := ⟨[.v (.pair (.int .i64) (.pair (.sl (.int .i64)) (.pair (.sl (.int .i64)) (.sl (.pair (.int .i64) (.pair .str (.pair (.int .i64) (.int .i64)))))))), .v (.int .i64)], true, [.int .i64], fun x => laws_szAutomaton x.1 x.2.1⟩
theorem laws_szAutomaton_eq : fnF E4 L4_0 [.v (.pair (.int .i64) (.pair (.sl (.int .i64)) (.pair (.sl (.int .i64)) (.sl (.pair (.int .i64) (.pair .str (.pair (.int .i64) (.int .i64)))))))), .v (.int .i64)] true [.int .i64] f4.ntmps f4.results.toList (codeOf f4) = fun x => laws_szAutomaton x.1 x.2.1 := by kernel_rfl
theorem A4_ok : FnOk prog 4 A4 := by
  have h := fnOk_of_run (P := prog) (E := E4) (tysOk_of tyl_ok) E4_ok (L := L4_0) (ps := [.v (.pair (.int .i64) (.pair (.sl (.int .i64)) (.pair (.sl (.int .i64)) (.sl (.pair (.int .i64) (.pair .str (.pair (.int .i64) (.int .i64)))))))), .v (.int .i64)]) (own := true) (outs := [.int .i64]) func4 (c := codeOf f4) (by kernel_rfl) (codeOk_in (L := L4_0) (tysOk_of tyl_ok) E4_ok mixed (c := codeOf f4) (bs := []) (by kernel_rfl) allNil (by kernel_rfl))
  rw [laws_szAutomaton_eq] at h
  exact h
/-! laws.toIntS -/
noncomputable def E13 : Env := ⟨ty0, fun _ => none, fun _ => none, fun _ => none, fun _ => none⟩
theorem E13_ok : FnsOk prog E13 := (noFns _ _)
noncomputable def L13_0 : Nat → Option LoopD := fun _ => none
def sh13_3 : List Fm := [.cell (.val (.sl (.int .i64))), d, d, .cell (.own (.int .i64) 100300 false), .cell (.val (.int .i64)), d, d, d, d, d, d, d, d, d, d, d, d, d, d, d, d, d]
def xs13_3 : List (Ex × List Fm) := [(.exit 0, [d, d, d, .cell (.own (.int .i64) 100300 false), d, d, d, d, d, d, d, d, d, d, d, d, d, d, d, d, d, d])]
noncomputable def laws_toIntS_l3 : ((List Int) × (List Int) × Int × Unit) → Option (((List Int) × (List Int) × Int × Unit) ⊕ (((List Int) × Unit))) := fun (v0, v3, v4, _) =>
  bif (decide (v4 < (((List.length v0) : Nat) : Int))) then
    if (((0 : Int) ≤ v4) ∧ (v4 < (((List.length v0) : Nat) : Int))) then
      if (((0 : Int) ≤ v4) ∧ (v4 < (((List.length v3) : Nat) : Int))) then
        some (Sum.inl (v0, (List.take (List.length v3) (List.drop 0 (List.set v3 (0 + (Int.toNat v4)) (List.getD v0 (Int.toNat v4) (0 : Int))))), (IntKind.wrap .i64 (v4 + (1 : Int))), ()))
      else
        none
    else
      none
  else
    some (Sum.inr ((List.take (List.length v3) (List.drop 0 v3)), ()))
theorem laws_toIntS_l3_eq : loopStep 22 E13 L13_0 (loopOf f13 3) sh13_3 xs13_3 = laws_toIntS_l3 := by kernel_rfl
theorem loop13_3 {L : Nat → Option LoopD} (h : L 3 = some ⟨22, sh13_3, xs13_3, laws_toIntS_l3⟩) : LoopOk prog L (loopOf f13 3) :=
  loopOk (tysOk_of tyl_ok) E13_ok (codeOk_in (L := L13_0) (tysOk_of tyl_ok) E13_ok mixed (c := loopOf f13 3) (bs := []) (by kernel_rfl) allNil (by kernel_rfl)) (by kernel_rfl) (by kernel_rfl) laws_toIntS_l3_eq (by rw [show firstId (loopOf f13 3) = 3 from by kernel_rfl]; exact h)
noncomputable def L13_1 : Nat → Option LoopD := fun n => ifEq n 3 (some ⟨22, sh13_3, xs13_3, laws_toIntS_l3⟩) (L13_0 n)
noncomputable def laws_toIntS : (List Int) → Option ((List Int)) := fun a0 =>
  if (((0 : Int) ≤ (((List.length a0) : Nat) : Int)) ∧ (((((List.length a0) : Nat) : Int) = (((List.length a0) : Nat) : Int)) ∧ (((((List.length a0) : Nat) : Int) * ((8 : Nat) : Int)) ≤ (140737488355328 : Int)))) then
    Option.bind (loopF laws_toIntS_l3 (a0, (List.take (Int.toNat (((List.length a0) : Nat) : Int)) (List.drop 0 (List.replicate (Int.toNat (((List.length a0) : Nat) : Int)) (0 : Int)))), (0 : Int), ())) fun (r0, _) =>
      some (List.take (List.length r0) (List.drop 0 r0))
  else
    none
noncomputable def A13 : FnA := ⟨[.v (.sl (.int .i64))], true, [.sl (.int .i64)], fun x => laws_toIntS x.1⟩
theorem laws_toIntS_eq : fnF E13 L13_1 [.v (.sl (.int .i64))] true [.sl (.int .i64)] f13.ntmps f13.results.toList (codeOf f13) = fun x => laws_toIntS x.1 := by kernel_rfl
theorem A13_ok : FnOk prog 13 A13 := by
  have h := fnOk_of_run (P := prog) (E := E13) (tysOk_of tyl_ok) E13_ok (L := L13_1) (ps := [.v (.sl (.int .i64))]) (own := true) (outs := [.sl (.int .i64)]) func13 (c := codeOf f13) (by kernel_rfl) (codeOk_in (L := L13_1) (tysOk_of tyl_ok) E13_ok mixed (c := codeOf f13) (bs := [loopOf f13 3]) (by kernel_rfl) (allCons (loop13_3 rfl) allNil) (by kernel_rfl))
  rw [laws_toIntS_eq] at h
  exact h
/-! laws.toStep -/
noncomputable def E23 : Env := ⟨ty0, fun _ => none, fun _ => none, fun _ => none, fun _ => none⟩
theorem E23_ok : FnsOk prog E23 := (noFns _ _)
noncomputable def L23_0 : Nat → Option LoopD := fun _ => none
noncomputable def laws_toStep : (Int × (ByteArray × (Int × Int))) → Option ((Int × (ByteArray × (Int × Int)))) := fun (a0_0, a0_1, a0_2, a0_3) =>
  some (a0_0, a0_1, a0_2, a0_3)
noncomputable def A23 : FnA := ⟨[.v (.pair (.int .i64) (.pair .str (.pair (.int .i64) (.int .i64))))], true, [.pair (.int .i64) (.pair .str (.pair (.int .i64) (.int .i64)))], fun x => laws_toStep x.1⟩
theorem laws_toStep_eq : fnF E23 L23_0 [.v (.pair (.int .i64) (.pair .str (.pair (.int .i64) (.int .i64))))] true [.pair (.int .i64) (.pair .str (.pair (.int .i64) (.int .i64)))] f23.ntmps f23.results.toList (codeOf f23) = fun x => laws_toStep x.1 := by kernel_rfl
theorem A23_ok : FnOk prog 23 A23 := by
  have h := fnOk_of_run (P := prog) (E := E23) (tysOk_of tyl_ok) E23_ok (L := L23_0) (ps := [.v (.pair (.int .i64) (.pair .str (.pair (.int .i64) (.int .i64))))]) (own := true) (outs := [.pair (.int .i64) (.pair .str (.pair (.int .i64) (.int .i64)))]) func23 (c := codeOf f23) (by kernel_rfl) (codeOk_in (L := L23_0) (tysOk_of tyl_ok) E23_ok mixed (c := codeOf f23) (bs := []) (by kernel_rfl) allNil (by kernel_rfl))
  rw [laws_toStep_eq] at h
  exact h
/-! laws.toStepS -/
noncomputable def E14 : Env := ⟨ty0, fun g => ifEq g 23 (some A23) (none), fun _ => none, fun _ => none, fun _ => none⟩
theorem E14_ok : FnsOk prog E14 := (oneFn A23_ok func23 (by kernel_rfl) (by kernel_rfl) (noFns _ _))
noncomputable def L14_0 : Nat → Option LoopD := fun _ => none
def sh14_3 : List Fm := [.cell (.val (.sl (.pair (.int .i64) (.pair .str (.pair (.int .i64) (.int .i64)))))), d, d, .cell (.own (.pair (.int .i64) (.pair .str (.pair (.int .i64) (.int .i64)))) 100300 false), .cell (.val (.int .i64)), d, d, d, d, d, d, d, d, d, d, d, d, d, d, d, d, d, d]
def xs14_3 : List (Ex × List Fm) := [(.exit 0, [d, d, d, .cell (.own (.pair (.int .i64) (.pair .str (.pair (.int .i64) (.int .i64)))) 100300 false), d, d, d, d, d, d, d, d, d, d, d, d, d, d, d, d, d, d, d])]
noncomputable def laws_toStepS_l3 : ((List (Int × (ByteArray × (Int × Int)))) × (List (Int × (ByteArray × (Int × Int)))) × Int × Unit) → Option (((List (Int × (ByteArray × (Int × Int)))) × (List (Int × (ByteArray × (Int × Int)))) × Int × Unit) ⊕ (((List (Int × (ByteArray × (Int × Int)))) × Unit))) := fun (v0, v3, v4, _) =>
  bif (decide (v4 < (((List.length v0) : Nat) : Int))) then
    if (((0 : Int) ≤ v4) ∧ (v4 < (((List.length v0) : Nat) : Int))) then
      Option.bind (laws_toStep (List.getD v0 (Int.toNat v4) ((0 : Int), (⟨Array.empty⟩ : ByteArray), (0 : Int), (0 : Int)))) fun (r0, r1, r2, r3) =>
        if (((0 : Int) ≤ v4) ∧ (v4 < (((List.length v3) : Nat) : Int))) then
          some (Sum.inl (v0, (List.take (List.length v3) (List.drop 0 (List.set v3 (0 + (Int.toNat v4)) (r0, r1, r2, r3)))), (IntKind.wrap .i64 (v4 + (1 : Int))), ()))
        else
          none
    else
      none
  else
    some (Sum.inr ((List.take (List.length v3) (List.drop 0 v3)), ()))
theorem laws_toStepS_l3_eq : loopStep 23 E14 L14_0 (loopOf f14 3) sh14_3 xs14_3 = laws_toStepS_l3 := by kernel_rfl
theorem loop14_3 {L : Nat → Option LoopD} (h : L 3 = some ⟨23, sh14_3, xs14_3, laws_toStepS_l3⟩) : LoopOk prog L (loopOf f14 3) :=
  loopOk (tysOk_of tyl_ok) E14_ok (codeOk_in (L := L14_0) (tysOk_of tyl_ok) E14_ok mixed (c := loopOf f14 3) (bs := []) (by kernel_rfl) allNil (by kernel_rfl)) (by kernel_rfl) (by kernel_rfl) laws_toStepS_l3_eq (by rw [show firstId (loopOf f14 3) = 3 from by kernel_rfl]; exact h)
noncomputable def L14_1 : Nat → Option LoopD := fun n => ifEq n 3 (some ⟨23, sh14_3, xs14_3, laws_toStepS_l3⟩) (L14_0 n)
noncomputable def laws_toStepS : (List (Int × (ByteArray × (Int × Int)))) → Option ((List (Int × (ByteArray × (Int × Int))))) := fun a0 =>
  if (((0 : Int) ≤ (((List.length a0) : Nat) : Int)) ∧ (((((List.length a0) : Nat) : Int) = (((List.length a0) : Nat) : Int)) ∧ (((((List.length a0) : Nat) : Int) * ((40 : Nat) : Int)) ≤ (140737488355328 : Int)))) then
    Option.bind (loopF laws_toStepS_l3 (a0, (List.take (Int.toNat (((List.length a0) : Nat) : Int)) (List.drop 0 (List.replicate (Int.toNat (((List.length a0) : Nat) : Int)) ((0 : Int), (⟨Array.empty⟩ : ByteArray), (0 : Int), (0 : Int))))), (0 : Int), ())) fun (r0, _) =>
      some (List.take (List.length r0) (List.drop 0 r0))
  else
    none
noncomputable def A14 : FnA := ⟨[.v (.sl (.pair (.int .i64) (.pair .str (.pair (.int .i64) (.int .i64)))))], true, [.sl (.pair (.int .i64) (.pair .str (.pair (.int .i64) (.int .i64))))], fun x => laws_toStepS x.1⟩
theorem laws_toStepS_eq : fnF E14 L14_1 [.v (.sl (.pair (.int .i64) (.pair .str (.pair (.int .i64) (.int .i64)))))] true [.sl (.pair (.int .i64) (.pair .str (.pair (.int .i64) (.int .i64))))] f14.ntmps f14.results.toList (codeOf f14) = fun x => laws_toStepS x.1 := by kernel_rfl
theorem A14_ok : FnOk prog 14 A14 := by
  have h := fnOk_of_run (P := prog) (E := E14) (tysOk_of tyl_ok) E14_ok (L := L14_1) (ps := [.v (.sl (.pair (.int .i64) (.pair .str (.pair (.int .i64) (.int .i64)))))]) (own := true) (outs := [.sl (.pair (.int .i64) (.pair .str (.pair (.int .i64) (.int .i64))))]) func14 (c := codeOf f14) (by kernel_rfl) (codeOk_in (L := L14_1) (tysOk_of tyl_ok) E14_ok mixed (c := codeOf f14) (bs := [loopOf f14 3]) (by kernel_rfl) (allCons (loop14_3 rfl) allNil) (by kernel_rfl))
  rw [laws_toStepS_eq] at h
  exact h
/-! laws.toAutomaton -/
noncomputable def E6 : Env := ⟨ty0, fun g => ifEq g 13 (some A13) (ifEq g 14 (some A14) (none)), fun _ => none, fun _ => none, fun _ => none⟩
theorem E6_ok : FnsOk prog E6 := (oneFn A13_ok func13 (by kernel_rfl) (by kernel_rfl) (oneFn A14_ok func14 (by kernel_rfl) (by kernel_rfl) (noFns _ _)))
noncomputable def L6_0 : Nat → Option LoopD := fun _ => none
noncomputable def laws_toAutomaton : (Int × ((List Int) × ((List Int) × (List (Int × (ByteArray × (Int × Int))))))) → Option ((Int × ((List Int) × ((List Int) × (List (Int × (ByteArray × (Int × Int)))))))) := fun (a0_0, a0_1, a0_2, a0_3) =>
  Option.bind (laws_toIntS a0_1) fun r0 =>
    Option.bind (laws_toIntS a0_2) fun r1 =>
      Option.bind (laws_toStepS a0_3) fun r2 =>
        some (a0_0, (List.take (List.length r0) (List.drop 0 r0)), (List.take (List.length r1) (List.drop 0 r1)), (List.take (List.length r2) (List.drop 0 r2)))
noncomputable def A6 : FnA := ⟨[.v (.pair (.int .i64) (.pair (.sl (.int .i64)) (.pair (.sl (.int .i64)) (.sl (.pair (.int .i64) (.pair .str (.pair (.int .i64) (.int .i64))))))))], true, [.pair (.int .i64) (.pair (.sl (.int .i64)) (.pair (.sl (.int .i64)) (.sl (.pair (.int .i64) (.pair .str (.pair (.int .i64) (.int .i64)))))))], fun x => laws_toAutomaton x.1⟩
theorem laws_toAutomaton_eq : fnF E6 L6_0 [.v (.pair (.int .i64) (.pair (.sl (.int .i64)) (.pair (.sl (.int .i64)) (.sl (.pair (.int .i64) (.pair .str (.pair (.int .i64) (.int .i64))))))))] true [.pair (.int .i64) (.pair (.sl (.int .i64)) (.pair (.sl (.int .i64)) (.sl (.pair (.int .i64) (.pair .str (.pair (.int .i64) (.int .i64)))))))] f6.ntmps f6.results.toList (codeOf f6) = fun x => laws_toAutomaton x.1 := by kernel_rfl
theorem A6_ok : FnOk prog 6 A6 := by
  have h := fnOk_of_run (P := prog) (E := E6) (tysOk_of tyl_ok) E6_ok (L := L6_0) (ps := [.v (.pair (.int .i64) (.pair (.sl (.int .i64)) (.pair (.sl (.int .i64)) (.sl (.pair (.int .i64) (.pair .str (.pair (.int .i64) (.int .i64))))))))]) (own := true) (outs := [.pair (.int .i64) (.pair (.sl (.int .i64)) (.pair (.sl (.int .i64)) (.sl (.pair (.int .i64) (.pair .str (.pair (.int .i64) (.int .i64)))))))]) func6 (c := codeOf f6) (by kernel_rfl) (codeOk_in (L := L6_0) (tysOk_of tyl_ok) E6_ok mixed (c := codeOf f6) (bs := []) (by kernel_rfl) allNil (by kernel_rfl))
  rw [laws_toAutomaton_eq] at h
  exact h
/-! spec.l1In -/
noncomputable def E42 : Env := ⟨ty0, fun _ => none, fun _ => none, fun _ => none, fun _ => none⟩
theorem E42_ok : FnsOk prog E42 := (noFns _ _)
noncomputable def L42_0 : Nat → Option LoopD := fun _ => none
noncomputable def spec_l1In : Int → Int → Int → Option (Bool) := fun a0 a1 a2 =>
  bif (decide (a0 ≥ a1)) then
    some (decide (a0 ≤ a2))
  else
    some false
noncomputable def A42 : FnA := ⟨[.v (.int .i64), .v (.int .i64), .v (.int .i64)], true, [.bool], fun x => spec_l1In x.1 x.2.1 x.2.2.1⟩
theorem spec_l1In_eq : fnF E42 L42_0 [.v (.int .i64), .v (.int .i64), .v (.int .i64)] true [.bool] f42.ntmps f42.results.toList (codeOf f42) = fun x => spec_l1In x.1 x.2.1 x.2.2.1 := by kernel_rfl
theorem A42_ok : FnOk prog 42 A42 := by
  have h := fnOk_of_run (P := prog) (E := E42) (tysOk_of tyl_ok) E42_ok (L := L42_0) (ps := [.v (.int .i64), .v (.int .i64), .v (.int .i64)]) (own := true) (outs := [.bool]) func42 (c := codeOf f42) (by kernel_rfl) (codeOk_in (L := L42_0) (tysOk_of tyl_ok) E42_ok mixed (c := codeOf f42) (bs := []) (by kernel_rfl) allNil (by kernel_rfl))
  rw [spec_l1In_eq] at h
  exact h
/-! spec.l3Marks -/
noncomputable def E43 : Env := ⟨ty0, fun g => ifEq g 42 (some A42) (none), fun _ => none, fun _ => none, fun _ => none⟩
theorem E43_ok : FnsOk prog E43 := (oneFn A42_ok func42 (by kernel_rfl) (by kernel_rfl) (noFns _ _))
noncomputable def L43_0 : Nat → Option LoopD := fun _ => none
def sh43_2 : List Fm := [.cell (.val (.int .i64)), .cell (.val (.sl (.int .i64))), d, d, d, d, d, .cell (.val (.sl (.int .i64))), .cell (.val (.int .i64)), .cell (.val (.int .i64)), d, d, d, d, d, d, d, d, d, d, d, d, d, d, d, d, d, d, d, d, d, d, d]
def xs43_2 : List (Ex × List Fm) := [(.ret, [d, d, d, d, .cell (.val .bool), d, d, d, d, d, d, d, d, d, d, d, d, d, d, d, d, d, d, d, d, d, d, d, d, d, d, d, d]), (.exit 0, [d, d, d, d, d, d, d, d, d, d, d, d, d, d, d, d, d, d, d, d, d, d, d, d, d, d, d, d, d, d, d, d, d])]
noncomputable def spec_l3Marks_l2 : (Int × (List Int) × (List Int) × Int × Int × Unit) → Option ((Int × (List Int) × (List Int) × Int × Int × Unit) ⊕ ((Bool × Unit) ⊕ (Unit))) := fun (v0, v1, v7, v8, v9, _) =>
  bif (decide (v9 < v8)) then
    if (((0 : Int) ≤ v9) ∧ (v9 < (((List.length v7) : Nat) : Int))) then
      Option.bind (spec_l1In (List.getD v7 (Int.toNat v9) (0 : Int)) (0 : Int) (IntKind.wrap .i64 (v0 - (1 : Int)))) fun r0 =>
        bif (!r0) then
          some (Sum.inr (Sum.inl (false, ())))
        else
          bif (decide (v9 > (0 : Int))) then
            if (((0 : Int) ≤ (IntKind.wrap .i64 (v9 - (1 : Int)))) ∧ ((IntKind.wrap .i64 (v9 - (1 : Int))) < (((List.length v1) : Nat) : Int))) then
              bif (decide ((List.getD v1 (Int.toNat (IntKind.wrap .i64 (v9 - (1 : Int)))) (0 : Int)) ≥ (List.getD v7 (Int.toNat v9) (0 : Int)))) then
                some (Sum.inr (Sum.inl (false, ())))
              else
                some (Sum.inl (v0, v1, v7, v8, (IntKind.wrap .i64 (v9 + (1 : Int))), ()))
            else
              none
          else
            some (Sum.inl (v0, v1, v7, v8, (IntKind.wrap .i64 (v9 + (1 : Int))), ()))
    else
      none
  else
    some (Sum.inr (Sum.inr ()))
theorem spec_l3Marks_l2_eq : loopStep 33 E43 L43_0 (loopOf f43 2) sh43_2 xs43_2 = spec_l3Marks_l2 := by kernel_rfl
theorem loop43_2 {L : Nat → Option LoopD} (h : L 2 = some ⟨33, sh43_2, xs43_2, spec_l3Marks_l2⟩) : LoopOk prog L (loopOf f43 2) :=
  loopOk (tysOk_of tyl_ok) E43_ok (codeOk_in (L := L43_0) (tysOk_of tyl_ok) E43_ok mixed (c := loopOf f43 2) (bs := []) (by kernel_rfl) allNil (by kernel_rfl)) (by kernel_rfl) (by kernel_rfl) spec_l3Marks_l2_eq (by rw [show firstId (loopOf f43 2) = 2 from by kernel_rfl]; exact h)
noncomputable def L43_1 : Nat → Option LoopD := fun n => ifEq n 2 (some ⟨33, sh43_2, xs43_2, spec_l3Marks_l2⟩) (L43_0 n)
noncomputable def spec_l3Marks : Int → (List Int) → Option (Bool) := fun a0 a1 =>
  Option.bind (loopF spec_l3Marks_l2 (a0, a1, a1, (((List.length a1) : Nat) : Int), (0 : Int), ())) fun r0 =>
    (match r0 with
    | .inl (d1, _) =>
        some d1
    | .inr _ =>
        some true)
noncomputable def A43 : FnA := ⟨[.v (.int .i64), .v (.sl (.int .i64))], true, [.bool], fun x => spec_l3Marks x.1 x.2.1⟩
theorem spec_l3Marks_eq : fnF E43 L43_1 [.v (.int .i64), .v (.sl (.int .i64))] true [.bool] f43.ntmps f43.results.toList (codeOf f43) = fun x => spec_l3Marks x.1 x.2.1 := by kernel_rfl
theorem A43_ok : FnOk prog 43 A43 := by
  have h := fnOk_of_run (P := prog) (E := E43) (tysOk_of tyl_ok) E43_ok (L := L43_1) (ps := [.v (.int .i64), .v (.sl (.int .i64))]) (own := true) (outs := [.bool]) func43 (c := codeOf f43) (by kernel_rfl) (codeOk_in (L := L43_1) (tysOk_of tyl_ok) E43_ok mixed (c := codeOf f43) (bs := [loopOf f43 2]) (by kernel_rfl) (allCons (loop43_2 rfl) allNil) (by kernel_rfl))
  rw [spec_l3Marks_eq] at h
  exact h
/-! spec.l3Step -/
noncomputable def E44 : Env := ⟨ty0, fun g => ifEq g 42 (some A42) (none), fun _ => none, fun _ => none, fun _ => none⟩
theorem E44_ok : FnsOk prog E44 := (oneFn A42_ok func42 (by kernel_rfl) (by kernel_rfl) (noFns _ _))
noncomputable def L44_0 : Nat → Option LoopD := fun _ => none
noncomputable def spec_l3Step : Int → (Int × (ByteArray × (Int × Int))) → Option (Bool) := fun a0 (a1_0, a1_1, a1_2, a1_3) =>
  Option.bind (spec_l1In a1_0 (0 : Int) (IntKind.wrap .i64 (a0 - (1 : Int)))) fun r0 =>
    bif r0 then
      Option.bind (spec_l1In a1_2 (0 : Int) (IntKind.wrap .i64 (a0 - (1 : Int)))) fun r1 =>
        bif r1 then
          Option.bind (spec_l1In a1_3 (0 : Int) (3 : Int)) fun r2 =>
            bif r2 then
              bif ((ByteArray.toList a1_1) == (ByteArray.toList (⟨#[(97 : UInt8)]⟩ : ByteArray))) then
                some true
              else
                some ((ByteArray.toList a1_1) == (ByteArray.toList (⟨#[(98 : UInt8)]⟩ : ByteArray)))
            else
              some false
        else
          some false
    else
      some false
noncomputable def A44 : FnA := ⟨[.v (.int .i64), .v (.pair (.int .i64) (.pair .str (.pair (.int .i64) (.int .i64))))], true, [.bool], fun x => spec_l3Step x.1 x.2.1⟩
theorem spec_l3Step_eq : fnF E44 L44_0 [.v (.int .i64), .v (.pair (.int .i64) (.pair .str (.pair (.int .i64) (.int .i64))))] true [.bool] f44.ntmps f44.results.toList (codeOf f44) = fun x => spec_l3Step x.1 x.2.1 := by kernel_rfl
theorem A44_ok : FnOk prog 44 A44 := by
  have h := fnOk_of_run (P := prog) (E := E44) (tysOk_of tyl_ok) E44_ok (L := L44_0) (ps := [.v (.int .i64), .v (.pair (.int .i64) (.pair .str (.pair (.int .i64) (.int .i64))))]) (own := true) (outs := [.bool]) func44 (c := codeOf f44) (by kernel_rfl) (codeOk_in (L := L44_0) (tysOk_of tyl_ok) E44_ok mixed (c := codeOf f44) (bs := []) (by kernel_rfl) allNil (by kernel_rfl))
  rw [spec_l3Step_eq] at h
  exact h
/-! spec.l3Before -/
noncomputable def E45 : Env := ⟨ty0, fun _ => none, fun _ => none, fun _ => none, fun _ => none⟩
theorem E45_ok : FnsOk prog E45 := (noFns _ _)
noncomputable def L45_0 : Nat → Option LoopD := fun _ => none
noncomputable def spec_l3Before : (Int × (ByteArray × (Int × Int))) → (Int × (ByteArray × (Int × Int))) → Option (Bool) := fun (a0_0, a0_1, a0_2, a0_3) (a1_0, a1_1, a1_2, a1_3) =>
  bif (a0_0 != a1_0) then
    some (decide (a0_0 < a1_0))
  else
    bif (!((ByteArray.toList a0_1) == (ByteArray.toList a1_1))) then
      some (Op.bytesLess (ByteArray.toList a0_1) (ByteArray.toList a1_1))
    else
      some (decide (a0_2 < a1_2))
noncomputable def A45 : FnA := ⟨[.v (.pair (.int .i64) (.pair .str (.pair (.int .i64) (.int .i64)))), .v (.pair (.int .i64) (.pair .str (.pair (.int .i64) (.int .i64))))], true, [.bool], fun x => spec_l3Before x.1 x.2.1⟩
theorem spec_l3Before_eq : fnF E45 L45_0 [.v (.pair (.int .i64) (.pair .str (.pair (.int .i64) (.int .i64)))), .v (.pair (.int .i64) (.pair .str (.pair (.int .i64) (.int .i64))))] true [.bool] f45.ntmps f45.results.toList (codeOf f45) = fun x => spec_l3Before x.1 x.2.1 := by kernel_rfl
theorem A45_ok : FnOk prog 45 A45 := by
  have h := fnOk_of_run (P := prog) (E := E45) (tysOk_of tyl_ok) E45_ok (L := L45_0) (ps := [.v (.pair (.int .i64) (.pair .str (.pair (.int .i64) (.int .i64)))), .v (.pair (.int .i64) (.pair .str (.pair (.int .i64) (.int .i64))))]) (own := true) (outs := [.bool]) func45 (c := codeOf f45) (by kernel_rfl) (codeOk_in (L := L45_0) (tysOk_of tyl_ok) E45_ok mixed (c := codeOf f45) (bs := []) (by kernel_rfl) allNil (by kernel_rfl))
  rw [spec_l3Before_eq] at h
  exact h
/-! spec.AutomatonValid -/
noncomputable def E29 : Env := ⟨ty0, fun g => ifEq g 42 (some A42) (ifEq g 43 (some A43) (ifEq g 44 (some A44) (ifEq g 45 (some A45) (none)))), fun _ => none, fun _ => none, fun _ => none⟩
theorem E29_ok : FnsOk prog E29 := (oneFn A42_ok func42 (by kernel_rfl) (by kernel_rfl) (oneFn A43_ok func43 (by kernel_rfl) (by kernel_rfl) (oneFn A44_ok func44 (by kernel_rfl) (by kernel_rfl) (oneFn A45_ok func45 (by kernel_rfl) (by kernel_rfl) (noFns _ _)))))
noncomputable def L29_0 : Nat → Option LoopD := fun _ => none
def sh29_4 : List Fm := [d, .box 100100 [.val (.int .i64), .val (.sl (.int .i64)), .val (.sl (.int .i64)), .val (.sl (.pair (.int .i64) (.pair .str (.pair (.int .i64) (.int .i64)))))], d, d, d, d, d, d, d, d, d, d, d, d, d, d, d, d, d, d, d, d, d, d, d, d, d, d, d, d, d, d, .cell (.val (.sl (.pair (.int .i64) (.pair .str (.pair (.int .i64) (.int .i64)))))), .cell (.val (.int .i64)), .cell (.val (.int .i64)), d, d, d, d, d, d, d, d, d, d, d, d, d, d, d, d, d, d, d, d, d, d, d, d, d]
def xs29_4 : List (Ex × List Fm) := [(.ret, [d, d, .cell (.val .bool), d, d, d, d, d, d, d, d, d, d, d, d, d, d, d, d, d, d, d, d, d, d, d, d, d, d, d, d, d, d, d, d, d, d, d, d, d, d, d, d, d, d, d, d, d, d, d, d, d, d, d, d, d, d, d, d, d]), (.exit 0, [d, d, d, d, d, d, d, d, d, d, d, d, d, d, d, d, d, d, d, d, d, d, d, d, d, d, d, d, d, d, d, d, d, d, d, d, d, d, d, d, d, d, d, d, d, d, d, d, d, d, d, d, d, d, d, d, d, d, d, d])]
noncomputable def spec_AutomatonValid_l4 : ((Int × (List Int) × (List Int) × (List (Int × (ByteArray × (Int × Int)))) × Unit) × (List (Int × (ByteArray × (Int × Int)))) × Int × Int × Unit) → Option (((Int × (List Int) × (List Int) × (List (Int × (ByteArray × (Int × Int)))) × Unit) × (List (Int × (ByteArray × (Int × Int)))) × Int × Int × Unit) ⊕ ((Bool × Unit) ⊕ (Unit))) := fun ((v1_0, v1_1, v1_2, v1_3, _), v32, v33, v34, _) =>
  bif (decide (v34 < v33)) then
    if (((0 : Int) ≤ v34) ∧ (v34 < (((List.length v32) : Nat) : Int))) then
      Option.bind (spec_l3Step v1_0 ((List.getD v32 (Int.toNat v34) ((0 : Int), (⟨Array.empty⟩ : ByteArray), (0 : Int), (0 : Int))).1, (List.getD v32 (Int.toNat v34) ((0 : Int), (⟨Array.empty⟩ : ByteArray), (0 : Int), (0 : Int))).2.1, (List.getD v32 (Int.toNat v34) ((0 : Int), (⟨Array.empty⟩ : ByteArray), (0 : Int), (0 : Int))).2.2.1, (List.getD v32 (Int.toNat v34) ((0 : Int), (⟨Array.empty⟩ : ByteArray), (0 : Int), (0 : Int))).2.2.2)) fun r0 =>
        bif (!r0) then
          some (Sum.inr (Sum.inl (false, ())))
        else
          bif (decide (v34 > (0 : Int))) then
            if (((0 : Int) ≤ (IntKind.wrap .i64 (v34 - (1 : Int)))) ∧ ((IntKind.wrap .i64 (v34 - (1 : Int))) < (((List.length v1_3) : Nat) : Int))) then
              Option.bind (spec_l3Before (List.getD v1_3 (Int.toNat (IntKind.wrap .i64 (v34 - (1 : Int)))) ((0 : Int), (⟨Array.empty⟩ : ByteArray), (0 : Int), (0 : Int))) ((List.getD v32 (Int.toNat v34) ((0 : Int), (⟨Array.empty⟩ : ByteArray), (0 : Int), (0 : Int))).1, (List.getD v32 (Int.toNat v34) ((0 : Int), (⟨Array.empty⟩ : ByteArray), (0 : Int), (0 : Int))).2.1, (List.getD v32 (Int.toNat v34) ((0 : Int), (⟨Array.empty⟩ : ByteArray), (0 : Int), (0 : Int))).2.2.1, (List.getD v32 (Int.toNat v34) ((0 : Int), (⟨Array.empty⟩ : ByteArray), (0 : Int), (0 : Int))).2.2.2)) fun r1 =>
                bif (!r1) then
                  some (Sum.inr (Sum.inl (false, ())))
                else
                  some (Sum.inl ((v1_0, v1_1, v1_2, v1_3, ()), v32, v33, (IntKind.wrap .i64 (v34 + (1 : Int))), ()))
            else
              none
          else
            some (Sum.inl ((v1_0, v1_1, v1_2, v1_3, ()), v32, v33, (IntKind.wrap .i64 (v34 + (1 : Int))), ()))
    else
      none
  else
    some (Sum.inr (Sum.inr ()))
theorem spec_AutomatonValid_l4_eq : loopStep 60 E29 L29_0 (loopOf f29 4) sh29_4 xs29_4 = spec_AutomatonValid_l4 := by kernel_rfl
theorem loop29_4 {L : Nat → Option LoopD} (h : L 4 = some ⟨60, sh29_4, xs29_4, spec_AutomatonValid_l4⟩) : LoopOk prog L (loopOf f29 4) :=
  loopOk (tysOk_of tyl_ok) E29_ok (codeOk_in (L := L29_0) (tysOk_of tyl_ok) E29_ok mixed (c := loopOf f29 4) (bs := []) (by kernel_rfl) allNil (by kernel_rfl)) (by kernel_rfl) (by kernel_rfl) spec_AutomatonValid_l4_eq (by rw [show firstId (loopOf f29 4) = 4 from by kernel_rfl]; exact h)
noncomputable def L29_1 : Nat → Option LoopD := fun n => ifEq n 4 (some ⟨60, sh29_4, xs29_4, spec_AutomatonValid_l4⟩) (L29_0 n)
noncomputable def spec_AutomatonValid : (Int × ((List Int) × ((List Int) × (List (Int × (ByteArray × (Int × Int))))))) → Option (Bool) := fun (a0_0, a0_1, a0_2, a0_3) =>
  Option.bind (spec_l1In a0_0 (1 : Int) (4 : Int)) fun r0 =>
    bif (!r0) then
      some false
    else
      Option.bind (spec_l3Marks a0_0 a0_1) fun r1 =>
        bif (!r1) then
          some false
        else
          Option.bind (spec_l3Marks a0_0 a0_2) fun r2 =>
            bif (!r2) then
              some false
            else
              bif (decide ((((List.length a0_3) : Nat) : Int) > (24 : Int))) then
                some false
              else
                Option.bind (loopF spec_AutomatonValid_l4 ((a0_0, a0_1, a0_2, a0_3, ()), a0_3, (((List.length a0_3) : Nat) : Int), (0 : Int), ())) fun r3 =>
                  (match r3 with
                  | .inl (d4, _) =>
                      some d4
                  | .inr _ =>
                      some true)
noncomputable def A29 : FnA := ⟨[.v (.pair (.int .i64) (.pair (.sl (.int .i64)) (.pair (.sl (.int .i64)) (.sl (.pair (.int .i64) (.pair .str (.pair (.int .i64) (.int .i64))))))))], true, [.bool], fun x => spec_AutomatonValid x.1⟩
theorem spec_AutomatonValid_eq : fnF E29 L29_1 [.v (.pair (.int .i64) (.pair (.sl (.int .i64)) (.pair (.sl (.int .i64)) (.sl (.pair (.int .i64) (.pair .str (.pair (.int .i64) (.int .i64))))))))] true [.bool] f29.ntmps f29.results.toList (codeOf f29) = fun x => spec_AutomatonValid x.1 := by kernel_rfl
theorem A29_ok : FnOk prog 29 A29 := by
  have h := fnOk_of_run (P := prog) (E := E29) (tysOk_of tyl_ok) E29_ok (L := L29_1) (ps := [.v (.pair (.int .i64) (.pair (.sl (.int .i64)) (.pair (.sl (.int .i64)) (.sl (.pair (.int .i64) (.pair .str (.pair (.int .i64) (.int .i64))))))))]) (own := true) (outs := [.bool]) func29 (c := codeOf f29) (by kernel_rfl) (codeOk_in (L := L29_1) (tysOk_of tyl_ok) E29_ok mixed (c := codeOf f29) (bs := [loopOf f29 4]) (by kernel_rfl) (allCons (loop29_4 rfl) allNil) (by kernel_rfl))
  rw [spec_AutomatonValid_eq] at h
  exact h
/-! spec.l3Matrix -/
noncomputable def E47 : Env := ⟨ty0, fun _ => none, fun _ => none, fun _ => none, fun _ => none⟩
theorem E47_ok : FnsOk prog E47 := (noFns _ _)
noncomputable def L47_0 : Nat → Option LoopD := fun _ => none
def sh47_3 : List Fm := [d, .cell (.val .str), .box 100200 [.val (.int .i64), .val (.sl (.int .i64)), .val (.sl (.int .i64)), .val (.sl (.pair (.int .i64) (.pair .str (.pair (.int .i64) (.int .i64)))))], d, .box 100400 [.val (.int .i64), .own (.int .i64) 100402 false], .box 100500 [.val (.int .i64), .own (.int .i64) 100502 false], d, d, d, d, d, d, d, d, d, .cell (.val (.int .i64)), .cell (.val (.int .i64)), d, d, d, d, d, d, d, d, d, d, d, d, d, d, d, d, d, d, d, d, d, d, d, d, d, d, d, d, d, d, d, d, d]
def xs47_3 : List (Ex × List Fm) := [(.exit 0, [d, .cell (.val .str), .box 100200 [.val (.int .i64), .val (.sl (.int .i64)), .val (.sl (.int .i64)), .val (.sl (.pair (.int .i64) (.pair .str (.pair (.int .i64) (.int .i64)))))], d, .box 100400 [.val (.int .i64), .own (.int .i64) 100402 false], .box 100500 [.val (.int .i64), .own (.int .i64) 100502 false], d, d, d, d, d, d, d, d, d, d, d, d, d, d, d, d, d, d, d, d, d, d, d, d, d, d, d, d, d, d, d, d, d, d, d, d, d, d, d, d, d, d, d, d])]
noncomputable def spec_l3Matrix_l3 : (ByteArray × (Int × (List Int) × (List Int) × (List (Int × (ByteArray × (Int × Int)))) × Unit) × (Int × (List Int) × Unit) × (Int × (List Int) × Unit) × Int × Int × Unit) → Option ((ByteArray × (Int × (List Int) × (List Int) × (List (Int × (ByteArray × (Int × Int)))) × Unit) × (Int × (List Int) × Unit) × (Int × (List Int) × Unit) × Int × Int × Unit) ⊕ ((ByteArray × (Int × (List Int) × (List Int) × (List (Int × (ByteArray × (Int × Int)))) × Unit) × (Int × (List Int) × Unit) × (Int × (List Int) × Unit) × Unit))) := fun (v1, (v2_0, v2_1, v2_2, v2_3, _), (v4_0, v4_1, _), (v5_0, v5_1, _), v15, v16, _) =>
  bif (decide (v16 < v15)) then
    if (((0 + (List.length v5_1)) = (List.length v5_1)) ∧ ((((List.length v5_1) + (List.length (List.take 1 (List.drop 0 [(1000000 : Int)])))) * 8) ≤ 140737488355328)) then
      some (Sum.inl (v1, (v2_0, v2_1, v2_2, v2_3, ()), (v4_0, (List.take (List.length v4_1) (List.drop 0 v4_1)), ()), (v5_0, (List.take ((List.length v5_1) + (List.length (List.take 1 (List.drop 0 [(1000000 : Int)])))) (List.drop 0 ((List.drop 0 v5_1) ++ (List.take 1 (List.drop 0 [(1000000 : Int)]))))), ()), v15, (IntKind.wrap .i64 (v16 + (1 : Int))), ()))
    else
      none
  else
    some (Sum.inr (v1, (v2_0, v2_1, v2_2, v2_3, ()), (v4_0, (List.take (List.length v4_1) (List.drop 0 v4_1)), ()), (v5_0, (List.take (List.length v5_1) (List.drop 0 v5_1)), ()), ()))
theorem spec_l3Matrix_l3_eq : loopStep 50 E47 L47_0 (loopOf f47 3) sh47_3 xs47_3 = spec_l3Matrix_l3 := by kernel_rfl
theorem loop47_3 {L : Nat → Option LoopD} (h : L 3 = some ⟨50, sh47_3, xs47_3, spec_l3Matrix_l3⟩) : LoopOk prog L (loopOf f47 3) :=
  loopOk (tysOk_of tyl_ok) E47_ok (codeOk_in (L := L47_0) (tysOk_of tyl_ok) E47_ok mixed (c := loopOf f47 3) (bs := []) (by kernel_rfl) allNil (by kernel_rfl)) (by kernel_rfl) (by kernel_rfl) spec_l3Matrix_l3_eq (by rw [show firstId (loopOf f47 3) = 3 from by kernel_rfl]; exact h)
noncomputable def L47_1 : Nat → Option LoopD := fun n => ifEq n 3 (some ⟨50, sh47_3, xs47_3, spec_l3Matrix_l3⟩) (L47_0 n)
def sh47_7 : List Fm := [d, .cell (.val .str), .box 100200 [.val (.int .i64), .val (.sl (.int .i64)), .val (.sl (.int .i64)), .val (.sl (.pair (.int .i64) (.pair .str (.pair (.int .i64) (.int .i64)))))], d, .box 100400 [.val (.int .i64), .own (.int .i64) 100402 false], .box 100500 [.val (.int .i64), .own (.int .i64) 100502 false], d, d, d, d, d, d, d, d, d, d, d, d, d, d, d, d, d, d, d, .cell (.val (.sl (.pair (.int .i64) (.pair .str (.pair (.int .i64) (.int .i64)))))), .cell (.val (.int .i64)), .cell (.val (.int .i64)), d, d, d, d, d, d, d, d, d, d, d, d, d, d, d, d, d, d, d, d, d, d]
def xs47_7 : List (Ex × List Fm) := [(.exit 2, [d, d, d, d, .box 100400 [.val (.int .i64), .own (.int .i64) 100402 false], .box 100500 [.val (.int .i64), .own (.int .i64) 100502 false], d, d, d, d, d, d, d, d, d, d, d, d, d, d, d, d, d, d, d, d, d, d, d, d, d, d, d, d, d, d, d, d, d, d, d, d, d, d, d, d, d, d, d, d])]
noncomputable def spec_l3Matrix_l7 : (ByteArray × (Int × (List Int) × (List Int) × (List (Int × (ByteArray × (Int × Int)))) × Unit) × (Int × (List Int) × Unit) × (Int × (List Int) × Unit) × (List (Int × (ByteArray × (Int × Int)))) × Int × Int × Unit) → Option ((ByteArray × (Int × (List Int) × (List Int) × (List (Int × (ByteArray × (Int × Int)))) × Unit) × (Int × (List Int) × Unit) × (Int × (List Int) × Unit) × (List (Int × (ByteArray × (Int × Int)))) × Int × Int × Unit) ⊕ (((Int × (List Int) × Unit) × (Int × (List Int) × Unit) × Unit))) := fun (v1, (v2_0, v2_1, v2_2, v2_3, _), (v4_0, v4_1, _), (v5_0, v5_1, _), v25, v26, v27, _) =>
  bif (decide (v27 < v26)) then
    if (((0 : Int) ≤ v27) ∧ (v27 < (((List.length v25) : Nat) : Int))) then
      bif ((ByteArray.toList (List.getD v25 (Int.toNat v27) ((0 : Int), (⟨Array.empty⟩ : ByteArray), (0 : Int), (0 : Int))).2.1) == (ByteArray.toList v1)) then
        if (((0 : Int) ≤ (IntKind.wrap .i64 ((IntKind.wrap .i64 ((List.getD v25 (Int.toNat v27) ((0 : Int), (⟨Array.empty⟩ : ByteArray), (0 : Int), (0 : Int))).1 * v2_0)) + (List.getD v25 (Int.toNat v27) ((0 : Int), (⟨Array.empty⟩ : ByteArray), (0 : Int), (0 : Int))).2.2.1))) ∧ ((IntKind.wrap .i64 ((IntKind.wrap .i64 ((List.getD v25 (Int.toNat v27) ((0 : Int), (⟨Array.empty⟩ : ByteArray), (0 : Int), (0 : Int))).1 * v2_0)) + (List.getD v25 (Int.toNat v27) ((0 : Int), (⟨Array.empty⟩ : ByteArray), (0 : Int), (0 : Int))).2.2.1)) < (((List.length v5_1) : Nat) : Int))) then
          some (Sum.inl (v1, (v2_0, v2_1, v2_2, v2_3, ()), (v4_0, (List.take (List.length v4_1) (List.drop 0 v4_1)), ()), (v5_0, (List.take (List.length v5_1) (List.drop 0 (List.set v5_1 (0 + (Int.toNat (IntKind.wrap .i64 ((IntKind.wrap .i64 ((List.getD v25 (Int.toNat v27) ((0 : Int), (⟨Array.empty⟩ : ByteArray), (0 : Int), (0 : Int))).1 * v2_0)) + (List.getD v25 (Int.toNat v27) ((0 : Int), (⟨Array.empty⟩ : ByteArray), (0 : Int), (0 : Int))).2.2.1)))) (List.getD v25 (Int.toNat v27) ((0 : Int), (⟨Array.empty⟩ : ByteArray), (0 : Int), (0 : Int))).2.2.2))), ()), v25, v26, (IntKind.wrap .i64 (v27 + (1 : Int))), ()))
        else
          none
      else
        some (Sum.inl (v1, (v2_0, v2_1, v2_2, v2_3, ()), (v4_0, (List.take (List.length v4_1) (List.drop 0 v4_1)), ()), (v5_0, (List.take (List.length v5_1) (List.drop 0 v5_1)), ()), v25, v26, (IntKind.wrap .i64 (v27 + (1 : Int))), ()))
    else
      none
  else
    some (Sum.inr ((v4_0, (List.take (List.length v4_1) (List.drop 0 v4_1)), ()), (v5_0, (List.take (List.length v5_1) (List.drop 0 v5_1)), ()), ()))
theorem spec_l3Matrix_l7_eq : loopStep 50 E47 L47_1 (loopOf f47 7) sh47_7 xs47_7 = spec_l3Matrix_l7 := by kernel_rfl
theorem loop47_7 {L : Nat → Option LoopD} (h : L 7 = some ⟨50, sh47_7, xs47_7, spec_l3Matrix_l7⟩) : LoopOk prog L (loopOf f47 7) :=
  loopOk (tysOk_of tyl_ok) E47_ok (codeOk_in (L := L47_1) (tysOk_of tyl_ok) E47_ok mixed (c := loopOf f47 7) (bs := []) (by kernel_rfl) allNil (by kernel_rfl)) (by kernel_rfl) (by kernel_rfl) spec_l3Matrix_l7_eq (by rw [show firstId (loopOf f47 7) = 7 from by kernel_rfl]; exact h)
noncomputable def L47_2 : Nat → Option LoopD := fun n => ifEq n 7 (some ⟨50, sh47_7, xs47_7, spec_l3Matrix_l7⟩) (L47_1 n)
noncomputable def spec_l3Matrix : (Int × ((List Int) × ((List Int) × (List (Int × (ByteArray × (Int × Int))))))) → ByteArray → Option ((Int × (List Int))) := fun (a0_0, a0_1, a0_2, a0_3) a1 =>
  Option.bind (loopF spec_l3Matrix_l3 (a1, (a0_0, a0_1, a0_2, a0_3, ()), ((0 : Int), [], ()), (a0_0, [], ()), (IntKind.wrap .i64 (a0_0 * a0_0)), (0 : Int), ())) fun (r0, (r1, r2, r3, r4, _), (r5, r6, _), (r7, r8, _), _) =>
    Option.bind (loopF spec_l3Matrix_l7 (r0, (r1, r2, r3, r4, ()), (r5, (List.take (List.length r6) (List.drop 0 r6)), ()), (r7, (List.take (List.length r8) (List.drop 0 r8)), ()), r4, (((List.length r4) : Nat) : Int), (0 : Int), ())) fun ((r9, r10, _), (r11, r12, _), _) =>
      some (r11, (List.take (List.length r12) (List.drop 0 r12)))
noncomputable def A47 : FnA := ⟨[.v (.pair (.int .i64) (.pair (.sl (.int .i64)) (.pair (.sl (.int .i64)) (.sl (.pair (.int .i64) (.pair .str (.pair (.int .i64) (.int .i64)))))))), .v .str], true, [.pair (.int .i64) (.sl (.int .i64))], fun x => spec_l3Matrix x.1 x.2.1⟩
theorem spec_l3Matrix_eq : fnF E47 L47_2 [.v (.pair (.int .i64) (.pair (.sl (.int .i64)) (.pair (.sl (.int .i64)) (.sl (.pair (.int .i64) (.pair .str (.pair (.int .i64) (.int .i64)))))))), .v .str] true [.pair (.int .i64) (.sl (.int .i64))] f47.ntmps f47.results.toList (codeOf f47) = fun x => spec_l3Matrix x.1 x.2.1 := by kernel_rfl
theorem A47_ok : FnOk prog 47 A47 := by
  have h := fnOk_of_run (P := prog) (E := E47) (tysOk_of tyl_ok) E47_ok (L := L47_2) (ps := [.v (.pair (.int .i64) (.pair (.sl (.int .i64)) (.pair (.sl (.int .i64)) (.sl (.pair (.int .i64) (.pair .str (.pair (.int .i64) (.int .i64)))))))), .v .str]) (own := true) (outs := [.pair (.int .i64) (.sl (.int .i64))]) func47 (c := codeOf f47) (by kernel_rfl) (codeOk_in (L := L47_2) (tysOk_of tyl_ok) E47_ok mixed (c := codeOf f47) (bs := [loopOf f47 3, loopOf f47 7]) (by kernel_rfl) (allCons (loop47_3 rfl) (allCons (loop47_7 rfl) allNil)) (by kernel_rfl))
  rw [spec_l3Matrix_eq] at h
  exact h
/-! spec.l6Grades -/
noncomputable def E46 : Env := ⟨ty0, fun _ => none, fun _ => none, fun _ => none, fun _ => none⟩
theorem E46_ok : FnsOk prog E46 := (noFns _ _)
noncomputable def L46_0 : Nat → Option LoopD := fun _ => none
def sh46_3 : List Fm := [d, d, .box 100200 [.val (.int .i64), .own (.int .i64) 100202 false], .box 100300 [.val (.int .i64), .own (.int .i64) 100302 false], d, d, d, d, d, d, .cell (.val (.sl (.int .i64))), .cell (.val (.int .i64)), .cell (.val (.int .i64)), d, d, d, d, d, d, d, d, d, d, d, d, d, d, d, d, d, d, d, d, d, d, d, d, d]
def xs46_3 : List (Ex × List Fm) := [(.exit 0, [d, d, .box 100200 [.val (.int .i64), .own (.int .i64) 100202 false], .box 100300 [.val (.int .i64), .own (.int .i64) 100302 false], d, d, d, d, d, d, d, d, d, d, d, d, d, d, d, d, d, d, d, d, d, d, d, d, d, d, d, d, d, d, d, d, d, d])]
noncomputable def spec_l6Grades_l3 : ((Int × (List Int) × Unit) × (Int × (List Int) × Unit) × (List Int) × Int × Int × Unit) → Option (((Int × (List Int) × Unit) × (Int × (List Int) × Unit) × (List Int) × Int × Int × Unit) ⊕ (((Int × (List Int) × Unit) × (Int × (List Int) × Unit) × Unit))) := fun ((v2_0, v2_1, _), (v3_0, v3_1, _), v10, v11, v12, _) =>
  bif (decide (v12 < v11)) then
    if (((0 : Int) ≤ v12) ∧ (v12 < (((List.length v10) : Nat) : Int))) then
      bif ((List.getD v10 (Int.toNat v12) (0 : Int)) == (0 : Int)) then
        if (((0 + (List.length v3_1)) = (List.length v3_1)) ∧ ((((List.length v3_1) + (List.length (List.take 1 (List.drop 0 [(0 : Int)])))) * 8) ≤ 140737488355328)) then
          some (Sum.inl ((v2_0, (List.take (List.length v2_1) (List.drop 0 v2_1)), ()), (v3_0, (List.take ((List.length v3_1) + (List.length (List.take 1 (List.drop 0 [(0 : Int)])))) (List.drop 0 ((List.drop 0 v3_1) ++ (List.take 1 (List.drop 0 [(0 : Int)]))))), ()), v10, v11, (IntKind.wrap .i64 (v12 + (1 : Int))), ()))
        else
          none
      else
        bif ((List.getD v10 (Int.toNat v12) (0 : Int)) == (1000000 : Int)) then
          if (((0 + (List.length v3_1)) = (List.length v3_1)) ∧ ((((List.length v3_1) + (List.length (List.take 1 (List.drop 0 [(3 : Int)])))) * 8) ≤ 140737488355328)) then
            some (Sum.inl ((v2_0, (List.take (List.length v2_1) (List.drop 0 v2_1)), ()), (v3_0, (List.take ((List.length v3_1) + (List.length (List.take 1 (List.drop 0 [(3 : Int)])))) (List.drop 0 ((List.drop 0 v3_1) ++ (List.take 1 (List.drop 0 [(3 : Int)]))))), ()), v10, v11, (IntKind.wrap .i64 (v12 + (1 : Int))), ()))
          else
            none
        else
          if (((0 + (List.length v3_1)) = (List.length v3_1)) ∧ ((((List.length v3_1) + (List.length (List.take 1 (List.drop 0 [(1 : Int)])))) * 8) ≤ 140737488355328)) then
            some (Sum.inl ((v2_0, (List.take (List.length v2_1) (List.drop 0 v2_1)), ()), (v3_0, (List.take ((List.length v3_1) + (List.length (List.take 1 (List.drop 0 [(1 : Int)])))) (List.drop 0 ((List.drop 0 v3_1) ++ (List.take 1 (List.drop 0 [(1 : Int)]))))), ()), v10, v11, (IntKind.wrap .i64 (v12 + (1 : Int))), ()))
          else
            none
    else
      none
  else
    some (Sum.inr ((v2_0, (List.take (List.length v2_1) (List.drop 0 v2_1)), ()), (v3_0, (List.take (List.length v3_1) (List.drop 0 v3_1)), ()), ()))
theorem spec_l6Grades_l3_eq : loopStep 38 E46 L46_0 (loopOf f46 3) sh46_3 xs46_3 = spec_l6Grades_l3 := by kernel_rfl
theorem loop46_3 {L : Nat → Option LoopD} (h : L 3 = some ⟨38, sh46_3, xs46_3, spec_l6Grades_l3⟩) : LoopOk prog L (loopOf f46 3) :=
  loopOk (tysOk_of tyl_ok) E46_ok (codeOk_in (L := L46_0) (tysOk_of tyl_ok) E46_ok mixed (c := loopOf f46 3) (bs := []) (by kernel_rfl) allNil (by kernel_rfl)) (by kernel_rfl) (by kernel_rfl) spec_l6Grades_l3_eq (by rw [show firstId (loopOf f46 3) = 3 from by kernel_rfl]; exact h)
noncomputable def L46_1 : Nat → Option LoopD := fun n => ifEq n 3 (some ⟨38, sh46_3, xs46_3, spec_l6Grades_l3⟩) (L46_0 n)
noncomputable def spec_l6Grades : (Int × (List Int)) → Option ((Int × (List Int))) := fun (a0_0, a0_1) =>
  Option.bind (loopF spec_l6Grades_l3 (((0 : Int), [], ()), (a0_0, [], ()), a0_1, (((List.length a0_1) : Nat) : Int), (0 : Int), ())) fun ((r0, r1, _), (r2, r3, _), _) =>
    some (r2, (List.take (List.length r3) (List.drop 0 r3)))
noncomputable def A46 : FnA := ⟨[.v (.pair (.int .i64) (.sl (.int .i64)))], true, [.pair (.int .i64) (.sl (.int .i64))], fun x => spec_l6Grades x.1⟩
theorem spec_l6Grades_eq : fnF E46 L46_1 [.v (.pair (.int .i64) (.sl (.int .i64)))] true [.pair (.int .i64) (.sl (.int .i64))] f46.ntmps f46.results.toList (codeOf f46) = fun x => spec_l6Grades x.1 := by kernel_rfl
theorem A46_ok : FnOk prog 46 A46 := by
  have h := fnOk_of_run (P := prog) (E := E46) (tysOk_of tyl_ok) E46_ok (L := L46_1) (ps := [.v (.pair (.int .i64) (.sl (.int .i64)))]) (own := true) (outs := [.pair (.int .i64) (.sl (.int .i64))]) func46 (c := codeOf f46) (by kernel_rfl) (codeOk_in (L := L46_1) (tysOk_of tyl_ok) E46_ok mixed (c := codeOf f46) (bs := [loopOf f46 3]) (by kernel_rfl) (allCons (loop46_3 rfl) allNil) (by kernel_rfl))
  rw [spec_l6Grades_eq] at h
  exact h
/-! spec.l2Same -/
noncomputable def E67 : Env := ⟨ty0, fun _ => none, fun _ => none, fun _ => none, fun _ => none⟩
theorem E67_ok : FnsOk prog E67 := (noFns _ _)
noncomputable def L67_0 : Nat → Option LoopD := fun _ => none
def sh67_2 : List Fm := [.cell (.val (.sl (.int .i64))), .cell (.val (.sl (.int .i64))), d, d, d, d, d, d, d, d, .cell (.val (.int .i64)), .cell (.val (.int .i64)), d, d, d, d, d, d, d, d, d, d, d, d, d, d, d, d, d]
def xs67_2 : List (Ex × List Fm) := [(.ret, [d, d, d, d, .cell (.val .bool), d, d, d, d, d, d, d, d, d, d, d, d, d, d, d, d, d, d, d, d, d, d, d, d]), (.exit 0, [.cell (.val (.sl (.int .i64))), .cell (.val (.sl (.int .i64))), d, d, d, d, d, d, d, d, d, d, d, d, d, d, d, d, d, d, d, d, d, d, d, d, d, d, d])]
noncomputable def spec_l2Same_l2 : ((List Int) × (List Int) × Int × Int × Unit) → Option (((List Int) × (List Int) × Int × Int × Unit) ⊕ ((Bool × Unit) ⊕ ((List Int) × (List Int) × Unit))) := fun (v0, v1, v10, v11, _) =>
  bif (decide (v11 < v10)) then
    if (((0 : Int) ≤ v11) ∧ (v11 < (((List.length v0) : Nat) : Int))) then
      if (((0 : Int) ≤ v11) ∧ (v11 < (((List.length v1) : Nat) : Int))) then
        bif ((List.getD v0 (Int.toNat v11) (0 : Int)) != (List.getD v1 (Int.toNat v11) (0 : Int))) then
          some (Sum.inr (Sum.inl (false, ())))
        else
          some (Sum.inl (v0, v1, v10, (IntKind.wrap .i64 (v11 + (1 : Int))), ()))
      else
        none
    else
      none
  else
    some (Sum.inr (Sum.inr (v0, v1, ())))
theorem spec_l2Same_l2_eq : loopStep 29 E67 L67_0 (loopOf f67 2) sh67_2 xs67_2 = spec_l2Same_l2 := by kernel_rfl
theorem loop67_2 {L : Nat → Option LoopD} (h : L 2 = some ⟨29, sh67_2, xs67_2, spec_l2Same_l2⟩) : LoopOk prog L (loopOf f67 2) :=
  loopOk (tysOk_of tyl_ok) E67_ok (codeOk_in (L := L67_0) (tysOk_of tyl_ok) E67_ok mixed (c := loopOf f67 2) (bs := []) (by kernel_rfl) allNil (by kernel_rfl)) (by kernel_rfl) (by kernel_rfl) spec_l2Same_l2_eq (by rw [show firstId (loopOf f67 2) = 2 from by kernel_rfl]; exact h)
noncomputable def L67_1 : Nat → Option LoopD := fun n => ifEq n 2 (some ⟨29, sh67_2, xs67_2, spec_l2Same_l2⟩) (L67_0 n)
noncomputable def spec_l2Same : (List Int) → (List Int) → Option (Bool) := fun a0 a1 =>
  Option.bind (loopF spec_l2Same_l2 (a0, a1, (if ((((List.length a1) : Nat) : Int) < (((List.length a0) : Nat) : Int)) then (((List.length a1) : Nat) : Int) else (((List.length a0) : Nat) : Int)), (0 : Int), ())) fun r0 =>
    (match r0 with
    | .inl (d1, _) =>
        some d1
    | .inr (d2, d3, _) =>
        some ((((List.length d2) : Nat) : Int) == (((List.length d3) : Nat) : Int)))
noncomputable def A67 : FnA := ⟨[.v (.sl (.int .i64)), .v (.sl (.int .i64))], true, [.bool], fun x => spec_l2Same x.1 x.2.1⟩
theorem spec_l2Same_eq : fnF E67 L67_1 [.v (.sl (.int .i64)), .v (.sl (.int .i64))] true [.bool] f67.ntmps f67.results.toList (codeOf f67) = fun x => spec_l2Same x.1 x.2.1 := by kernel_rfl
theorem A67_ok : FnOk prog 67 A67 := by
  have h := fnOk_of_run (P := prog) (E := E67) (tysOk_of tyl_ok) E67_ok (L := L67_1) (ps := [.v (.sl (.int .i64)), .v (.sl (.int .i64))]) (own := true) (outs := [.bool]) func67 (c := codeOf f67) (by kernel_rfl) (codeOk_in (L := L67_1) (tysOk_of tyl_ok) E67_ok mixed (c := codeOf f67) (bs := [loopOf f67 2]) (by kernel_rfl) (allCons (loop67_2 rfl) allNil) (by kernel_rfl))
  rw [spec_l2Same_eq] at h
  exact h
/-! spec.l6Mul -/
noncomputable def E51 : Env := ⟨ty0, fun _ => none, fun _ => none, fun _ => none, fun _ => none⟩
theorem E51_ok : FnsOk prog E51 := (noFns _ _)
noncomputable def L51_0 : Nat → Option LoopD := fun _ => none
def sh51_7 : List Fm := [d, d, .box 100200 [.val (.int .i64), .val (.sl (.int .i64))], .box 100300 [.val (.int .i64), .val (.sl (.int .i64))], .box 100400 [.val (.int .i64), .own (.int .i64) 100402 false], .box 100500 [.val (.int .i64), .own (.int .i64) 100502 false], .cell (.val (.int .i64)), .cell (.val (.int .i64)), d, d, d, d, d, d, d, d, .cell (.val (.int .i64)), .cell (.val (.int .i64)), d, d, d, .cell (.val (.int .i64)), .cell (.val (.int .i64)), d, d, d, d, d, d, d, d, d, d, d, d, d, d, d, d, d, d, d, d, d, d, d, d, d, d, d, d, d, d, d, d, d, d, d, d, d, d, d, d]
def xs51_7 : List (Ex × List Fm) := [(.exit 2, [d, d, .box 100200 [.val (.int .i64), .val (.sl (.int .i64))], .box 100300 [.val (.int .i64), .val (.sl (.int .i64))], .box 100400 [.val (.int .i64), .own (.int .i64) 100402 false], .box 100500 [.val (.int .i64), .own (.int .i64) 100502 false], d, .cell (.val (.int .i64)), d, d, d, d, d, d, d, d, .cell (.val (.int .i64)), .cell (.val (.int .i64)), d, d, d, d, d, d, d, d, d, d, d, d, d, d, d, d, d, d, d, d, d, d, d, d, d, d, d, d, d, d, d, d, d, d, d, d, d, d, d, d, d, d, d, d, d])]
noncomputable def spec_l6Mul_l7 : ((Int × (List Int) × Unit) × (Int × (List Int) × Unit) × (Int × (List Int) × Unit) × (Int × (List Int) × Unit) × Int × Int × Int × Int × Int × Int × Unit) → Option (((Int × (List Int) × Unit) × (Int × (List Int) × Unit) × (Int × (List Int) × Unit) × (Int × (List Int) × Unit) × Int × Int × Int × Int × Int × Int × Unit) ⊕ (((Int × (List Int) × Unit) × (Int × (List Int) × Unit) × (Int × (List Int) × Unit) × (Int × (List Int) × Unit) × Int × Int × Int × Unit))) := fun ((v2_0, v2_1, _), (v3_0, v3_1, _), (v4_0, v4_1, _), (v5_0, v5_1, _), v6, v7, v16, v17, v21, v22, _) =>
  bif (decide (v22 < v21)) then
    if (v2_0 = (0 : Int)) then
      none
    else
      if (((0 : Int) ≤ (IntKind.wrap .i64 ((IntKind.wrap .i64 ((IntKind.wrap .i64 (Int.tdiv v6 v2_0)) * v2_0)) + v22))) ∧ ((IntKind.wrap .i64 ((IntKind.wrap .i64 ((IntKind.wrap .i64 (Int.tdiv v6 v2_0)) * v2_0)) + v22)) < (((List.length v2_1) : Nat) : Int))) then
        if (v2_0 = (0 : Int)) then
          none
        else
          if (((0 : Int) ≤ (IntKind.wrap .i64 ((IntKind.wrap .i64 (v22 * v2_0)) + (Int.tmod v6 v2_0)))) ∧ ((IntKind.wrap .i64 ((IntKind.wrap .i64 (v22 * v2_0)) + (Int.tmod v6 v2_0))) < (((List.length v3_1) : Nat) : Int))) then
            some (Sum.inl ((v2_0, v2_1, ()), (v3_0, v3_1, ()), (v4_0, (List.take (List.length v4_1) (List.drop 0 v4_1)), ()), (v5_0, (List.take (List.length v5_1) (List.drop 0 v5_1)), ()), v6, (if ((if ((List.getD v3_1 (Int.toNat (IntKind.wrap .i64 ((IntKind.wrap .i64 (v22 * v2_0)) + (Int.tmod v6 v2_0)))) (0 : Int)) > (List.getD v2_1 (Int.toNat (IntKind.wrap .i64 ((IntKind.wrap .i64 ((IntKind.wrap .i64 (Int.tdiv v6 v2_0)) * v2_0)) + v22))) (0 : Int))) then (List.getD v3_1 (Int.toNat (IntKind.wrap .i64 ((IntKind.wrap .i64 (v22 * v2_0)) + (Int.tmod v6 v2_0)))) (0 : Int)) else (List.getD v2_1 (Int.toNat (IntKind.wrap .i64 ((IntKind.wrap .i64 ((IntKind.wrap .i64 (Int.tdiv v6 v2_0)) * v2_0)) + v22))) (0 : Int))) < v7) then (if ((List.getD v3_1 (Int.toNat (IntKind.wrap .i64 ((IntKind.wrap .i64 (v22 * v2_0)) + (Int.tmod v6 v2_0)))) (0 : Int)) > (List.getD v2_1 (Int.toNat (IntKind.wrap .i64 ((IntKind.wrap .i64 ((IntKind.wrap .i64 (Int.tdiv v6 v2_0)) * v2_0)) + v22))) (0 : Int))) then (List.getD v3_1 (Int.toNat (IntKind.wrap .i64 ((IntKind.wrap .i64 (v22 * v2_0)) + (Int.tmod v6 v2_0)))) (0 : Int)) else (List.getD v2_1 (Int.toNat (IntKind.wrap .i64 ((IntKind.wrap .i64 ((IntKind.wrap .i64 (Int.tdiv v6 v2_0)) * v2_0)) + v22))) (0 : Int))) else v7), v16, v17, v21, (IntKind.wrap .i64 (v22 + (1 : Int))), ()))
          else
            none
      else
        none
  else
    some (Sum.inr ((v2_0, v2_1, ()), (v3_0, v3_1, ()), (v4_0, (List.take (List.length v4_1) (List.drop 0 v4_1)), ()), (v5_0, (List.take (List.length v5_1) (List.drop 0 v5_1)), ()), v7, v16, v17, ()))
theorem spec_l6Mul_l7_eq : loopStep 63 E51 L51_0 (loopOf f51 7) sh51_7 xs51_7 = spec_l6Mul_l7 := by kernel_rfl
theorem loop51_7 {L : Nat → Option LoopD} (h : L 7 = some ⟨63, sh51_7, xs51_7, spec_l6Mul_l7⟩) : LoopOk prog L (loopOf f51 7) :=
  loopOk (tysOk_of tyl_ok) E51_ok (codeOk_in (L := L51_0) (tysOk_of tyl_ok) E51_ok mixed (c := loopOf f51 7) (bs := []) (by kernel_rfl) allNil (by kernel_rfl)) (by kernel_rfl) (by kernel_rfl) spec_l6Mul_l7_eq (by rw [show firstId (loopOf f51 7) = 7 from by kernel_rfl]; exact h)
noncomputable def L51_1 : Nat → Option LoopD := fun n => ifEq n 7 (some ⟨63, sh51_7, xs51_7, spec_l6Mul_l7⟩) (L51_0 n)
def sh51_3 : List Fm := [d, d, .box 100200 [.val (.int .i64), .val (.sl (.int .i64))], .box 100300 [.val (.int .i64), .val (.sl (.int .i64))], .box 100400 [.val (.int .i64), .own (.int .i64) 100402 false], .box 100500 [.val (.int .i64), .own (.int .i64) 100502 false], d, d, d, d, d, d, d, d, d, d, .cell (.val (.int .i64)), .cell (.val (.int .i64)), d, d, d, d, d, d, d, d, d, d, d, d, d, d, d, d, d, d, d, d, d, d, d, d, d, d, d, d, d, d, d, d, d, d, d, d, d, d, d, d, d, d, d, d, d]
def xs51_3 : List (Ex × List Fm) := [(.exit 0, [d, d, d, d, .box 100400 [.val (.int .i64), .own (.int .i64) 100402 false], .box 100500 [.val (.int .i64), .own (.int .i64) 100502 false], d, d, d, d, d, d, d, d, d, d, d, d, d, d, d, d, d, d, d, d, d, d, d, d, d, d, d, d, d, d, d, d, d, d, d, d, d, d, d, d, d, d, d, d, d, d, d, d, d, d, d, d, d, d, d, d, d])]
noncomputable def spec_l6Mul_l3 : ((Int × (List Int) × Unit) × (Int × (List Int) × Unit) × (Int × (List Int) × Unit) × (Int × (List Int) × Unit) × Int × Int × Unit) → Option (((Int × (List Int) × Unit) × (Int × (List Int) × Unit) × (Int × (List Int) × Unit) × (Int × (List Int) × Unit) × Int × Int × Unit) ⊕ (((Int × (List Int) × Unit) × (Int × (List Int) × Unit) × Unit))) := fun ((v2_0, v2_1, _), (v3_0, v3_1, _), (v4_0, v4_1, _), (v5_0, v5_1, _), v16, v17, _) =>
  bif (decide (v17 < v16)) then
    Option.bind (loopF spec_l6Mul_l7 ((v2_0, v2_1, ()), (v3_0, v3_1, ()), (v4_0, (List.take (List.length v4_1) (List.drop 0 v4_1)), ()), (v5_0, (List.take (List.length v5_1) (List.drop 0 v5_1)), ()), v17, (3 : Int), v16, v17, v2_0, (0 : Int), ())) fun ((r0, r1, _), (r2, r3, _), (r4, r5, _), (r6, r7, _), r8, r9, r10, _) =>
      if (((0 + (List.length r7)) = (List.length r7)) ∧ ((((List.length r7) + (List.length (List.take 1 (List.drop 0 [r8])))) * 8) ≤ 140737488355328)) then
        some (Sum.inl ((r0, r1, ()), (r2, r3, ()), (r4, (List.take (List.length r5) (List.drop 0 r5)), ()), (r6, (List.take ((List.length r7) + (List.length (List.take 1 (List.drop 0 [r8])))) (List.drop 0 ((List.drop 0 r7) ++ (List.take 1 (List.drop 0 [r8]))))), ()), r9, (IntKind.wrap .i64 (r10 + (1 : Int))), ()))
      else
        none
  else
    some (Sum.inr ((v4_0, (List.take (List.length v4_1) (List.drop 0 v4_1)), ()), (v5_0, (List.take (List.length v5_1) (List.drop 0 v5_1)), ()), ()))
theorem spec_l6Mul_l3_eq : loopStep 63 E51 L51_1 (loopOf f51 3) sh51_3 xs51_3 = spec_l6Mul_l3 := by kernel_rfl
theorem loop51_3 {L : Nat → Option LoopD} (h : L 3 = some ⟨63, sh51_3, xs51_3, spec_l6Mul_l3⟩) : LoopOk prog L (loopOf f51 3) :=
  loopOk (tysOk_of tyl_ok) E51_ok (codeOk_in (L := L51_1) (tysOk_of tyl_ok) E51_ok mixed (c := loopOf f51 3) (bs := [loopOf f51 7]) (by kernel_rfl) (allCons (loop51_7 rfl) allNil) (by kernel_rfl)) (by kernel_rfl) (by kernel_rfl) spec_l6Mul_l3_eq (by rw [show firstId (loopOf f51 3) = 3 from by kernel_rfl]; exact h)
noncomputable def L51_2 : Nat → Option LoopD := fun n => ifEq n 3 (some ⟨63, sh51_3, xs51_3, spec_l6Mul_l3⟩) (L51_1 n)
noncomputable def spec_l6Mul : (Int × (List Int)) → (Int × (List Int)) → Option ((Int × (List Int))) := fun (a0_0, a0_1) (a1_0, a1_1) =>
  Option.bind (loopF spec_l6Mul_l3 ((a0_0, a0_1, ()), (a1_0, a1_1, ()), ((0 : Int), [], ()), (a0_0, [], ()), (IntKind.wrap .i64 (a0_0 * a0_0)), (0 : Int), ())) fun ((r0, r1, _), (r2, r3, _), _) =>
    some (r2, (List.take (List.length r3) (List.drop 0 r3)))
noncomputable def A51 : FnA := ⟨[.v (.pair (.int .i64) (.sl (.int .i64))), .v (.pair (.int .i64) (.sl (.int .i64)))], true, [.pair (.int .i64) (.sl (.int .i64))], fun x => spec_l6Mul x.1 x.2.1⟩
theorem spec_l6Mul_eq : fnF E51 L51_2 [.v (.pair (.int .i64) (.sl (.int .i64))), .v (.pair (.int .i64) (.sl (.int .i64)))] true [.pair (.int .i64) (.sl (.int .i64))] f51.ntmps f51.results.toList (codeOf f51) = fun x => spec_l6Mul x.1 x.2.1 := by kernel_rfl
theorem A51_ok : FnOk prog 51 A51 := by
  have h := fnOk_of_run (P := prog) (E := E51) (tysOk_of tyl_ok) E51_ok (L := L51_2) (ps := [.v (.pair (.int .i64) (.sl (.int .i64))), .v (.pair (.int .i64) (.sl (.int .i64)))]) (own := true) (outs := [.pair (.int .i64) (.sl (.int .i64))]) func51 (c := codeOf f51) (by kernel_rfl) (codeOk_in (L := L51_2) (tysOk_of tyl_ok) E51_ok mixed (c := codeOf f51) (bs := [loopOf f51 3]) (by kernel_rfl) (allCons (loop51_3 rfl) allNil) (by kernel_rfl))
  rw [spec_l6Mul_eq] at h
  exact h
/-! spec.l6Idempotent -/
noncomputable def E49 : Env := ⟨ty0, fun g => ifEq g 51 (some A51) (ifEq g 67 (some A67) (none)), fun _ => none, fun _ => none, fun _ => none⟩
theorem E49_ok : FnsOk prog E49 := (oneFn A51_ok func51 (by kernel_rfl) (by kernel_rfl) (oneFn A67_ok func67 (by kernel_rfl) (by kernel_rfl) (noFns _ _)))
noncomputable def L49_0 : Nat → Option LoopD := fun _ => none
noncomputable def spec_l6Idempotent : (Int × (List Int)) → Option (Bool) := fun (a0_0, a0_1) =>
  Option.bind (spec_l6Mul (a0_0, a0_1) (a0_0, a0_1)) fun (r0, r1) =>
    Option.bind (spec_l2Same (List.take (List.length r1) (List.drop 0 r1)) a0_1) fun r2 =>
      some r2
noncomputable def A49 : FnA := ⟨[.v (.pair (.int .i64) (.sl (.int .i64)))], true, [.bool], fun x => spec_l6Idempotent x.1⟩
theorem spec_l6Idempotent_eq : fnF E49 L49_0 [.v (.pair (.int .i64) (.sl (.int .i64)))] true [.bool] f49.ntmps f49.results.toList (codeOf f49) = fun x => spec_l6Idempotent x.1 := by kernel_rfl
theorem A49_ok : FnOk prog 49 A49 := by
  have h := fnOk_of_run (P := prog) (E := E49) (tysOk_of tyl_ok) E49_ok (L := L49_0) (ps := [.v (.pair (.int .i64) (.sl (.int .i64)))]) (own := true) (outs := [.bool]) func49 (c := codeOf f49) (by kernel_rfl) (codeOk_in (L := L49_0) (tysOk_of tyl_ok) E49_ok mixed (c := codeOf f49) (bs := []) (by kernel_rfl) allNil (by kernel_rfl))
  rw [spec_l6Idempotent_eq] at h
  exact h
/-! spec.l6Again -/
noncomputable def E68 : Env := ⟨ty0, fun _ => none, fun _ => none, fun _ => none, fun _ => none⟩
theorem E68_ok : FnsOk prog E68 := (noFns _ _)
noncomputable def L68_0 : Nat → Option LoopD := fun _ => none
noncomputable def spec_l6Again : Int → Option (Int) := fun a0 =>
  bif (a0 == (1 : Int)) then
    some (2 : Int)
  else
    some a0
noncomputable def A68 : FnA := ⟨[.v (.int .i64)], true, [.int .i64], fun x => spec_l6Again x.1⟩
theorem spec_l6Again_eq : fnF E68 L68_0 [.v (.int .i64)] true [.int .i64] f68.ntmps f68.results.toList (codeOf f68) = fun x => spec_l6Again x.1 := by kernel_rfl
theorem A68_ok : FnOk prog 68 A68 := by
  have h := fnOk_of_run (P := prog) (E := E68) (tysOk_of tyl_ok) E68_ok (L := L68_0) (ps := [.v (.int .i64)]) (own := true) (outs := [.int .i64]) func68 (c := codeOf f68) (by kernel_rfl) (codeOk_in (L := L68_0) (tysOk_of tyl_ok) E68_ok mixed (c := codeOf f68) (bs := []) (by kernel_rfl) allNil (by kernel_rfl))
  rw [spec_l6Again_eq] at h
  exact h
/-! spec.l6Stable -/
noncomputable def E50 : Env := ⟨ty0, fun g => ifEq g 68 (some A68) (none), fun _ => none, fun _ => none, fun _ => none⟩
theorem E50_ok : FnsOk prog E50 := (oneFn A68_ok func68 (by kernel_rfl) (by kernel_rfl) (noFns _ _))
noncomputable def L50_0 : Nat → Option LoopD := fun _ => none
def sh50_7 : List Fm := [d, .box 100100 [.val (.int .i64), .val (.sl (.int .i64))], .box 100200 [.val (.int .i64), .own (.int .i64) 100202 false], .box 100300 [.val (.int .i64), .own (.int .i64) 100302 false], .cell (.val (.int .i64)), .cell (.val (.int .i64)), d, d, d, d, d, d, d, d, .cell (.val (.int .i64)), .cell (.val (.int .i64)), d, d, d, .cell (.val (.int .i64)), .cell (.val (.int .i64)), d, d, d, d, d, d, d, d, d, d, d, d, d, d, d, d, d, d, d, d, d, d, d, d, d, d, d, d, d, d, d, d, d, d, d, d, d, d, d, d, d, d, d, d, d, d, d, d, d, d, d]
def xs50_7 : List (Ex × List Fm) := [(.exit 2, [d, .box 100100 [.val (.int .i64), .val (.sl (.int .i64))], .box 100200 [.val (.int .i64), .own (.int .i64) 100202 false], .box 100300 [.val (.int .i64), .own (.int .i64) 100302 false], d, .cell (.val (.int .i64)), d, d, d, d, d, d, d, d, .cell (.val (.int .i64)), .cell (.val (.int .i64)), d, d, d, d, d, d, d, d, d, d, d, d, d, d, d, d, d, d, d, d, d, d, d, d, d, d, d, d, d, d, d, d, d, d, d, d, d, d, d, d, d, d, d, d, d, d, d, d, d, d, d, d, d, d, d, d])]
noncomputable def spec_l6Stable_l7 : ((Int × (List Int) × Unit) × (Int × (List Int) × Unit) × (Int × (List Int) × Unit) × Int × Int × Int × Int × Int × Int × Unit) → Option (((Int × (List Int) × Unit) × (Int × (List Int) × Unit) × (Int × (List Int) × Unit) × Int × Int × Int × Int × Int × Int × Unit) ⊕ (((Int × (List Int) × Unit) × (Int × (List Int) × Unit) × (Int × (List Int) × Unit) × Int × Int × Int × Unit))) := fun ((v1_0, v1_1, _), (v2_0, v2_1, _), (v3_0, v3_1, _), v4, v5, v14, v15, v19, v20, _) =>
  bif (decide (v20 < v19)) then
    if (v1_0 = (0 : Int)) then
      none
    else
      if (((0 : Int) ≤ (IntKind.wrap .i64 ((IntKind.wrap .i64 ((IntKind.wrap .i64 (Int.tdiv v4 v1_0)) * v1_0)) + v20))) ∧ ((IntKind.wrap .i64 ((IntKind.wrap .i64 ((IntKind.wrap .i64 (Int.tdiv v4 v1_0)) * v1_0)) + v20)) < (((List.length v1_1) : Nat) : Int))) then
        if (((0 : Int) ≤ (IntKind.wrap .i64 ((IntKind.wrap .i64 (v20 * v1_0)) + v20))) ∧ ((IntKind.wrap .i64 ((IntKind.wrap .i64 (v20 * v1_0)) + v20)) < (((List.length v1_1) : Nat) : Int))) then
          Option.bind (spec_l6Again (List.getD v1_1 (Int.toNat (IntKind.wrap .i64 ((IntKind.wrap .i64 (v20 * v1_0)) + v20))) (0 : Int))) fun r0 =>
            if (v1_0 = (0 : Int)) then
              none
            else
              if (((0 : Int) ≤ (IntKind.wrap .i64 ((IntKind.wrap .i64 (v20 * v1_0)) + (Int.tmod v4 v1_0)))) ∧ ((IntKind.wrap .i64 ((IntKind.wrap .i64 (v20 * v1_0)) + (Int.tmod v4 v1_0))) < (((List.length v1_1) : Nat) : Int))) then
                some (Sum.inl ((v1_0, v1_1, ()), (v2_0, (List.take (List.length v2_1) (List.drop 0 v2_1)), ()), (v3_0, (List.take (List.length v3_1) (List.drop 0 v3_1)), ()), v4, (if ((if ((List.getD v1_1 (Int.toNat (IntKind.wrap .i64 ((IntKind.wrap .i64 (v20 * v1_0)) + (Int.tmod v4 v1_0)))) (0 : Int)) > (if (r0 > (List.getD v1_1 (Int.toNat (IntKind.wrap .i64 ((IntKind.wrap .i64 ((IntKind.wrap .i64 (Int.tdiv v4 v1_0)) * v1_0)) + v20))) (0 : Int))) then r0 else (List.getD v1_1 (Int.toNat (IntKind.wrap .i64 ((IntKind.wrap .i64 ((IntKind.wrap .i64 (Int.tdiv v4 v1_0)) * v1_0)) + v20))) (0 : Int)))) then (List.getD v1_1 (Int.toNat (IntKind.wrap .i64 ((IntKind.wrap .i64 (v20 * v1_0)) + (Int.tmod v4 v1_0)))) (0 : Int)) else (if (r0 > (List.getD v1_1 (Int.toNat (IntKind.wrap .i64 ((IntKind.wrap .i64 ((IntKind.wrap .i64 (Int.tdiv v4 v1_0)) * v1_0)) + v20))) (0 : Int))) then r0 else (List.getD v1_1 (Int.toNat (IntKind.wrap .i64 ((IntKind.wrap .i64 ((IntKind.wrap .i64 (Int.tdiv v4 v1_0)) * v1_0)) + v20))) (0 : Int)))) < v5) then (if ((List.getD v1_1 (Int.toNat (IntKind.wrap .i64 ((IntKind.wrap .i64 (v20 * v1_0)) + (Int.tmod v4 v1_0)))) (0 : Int)) > (if (r0 > (List.getD v1_1 (Int.toNat (IntKind.wrap .i64 ((IntKind.wrap .i64 ((IntKind.wrap .i64 (Int.tdiv v4 v1_0)) * v1_0)) + v20))) (0 : Int))) then r0 else (List.getD v1_1 (Int.toNat (IntKind.wrap .i64 ((IntKind.wrap .i64 ((IntKind.wrap .i64 (Int.tdiv v4 v1_0)) * v1_0)) + v20))) (0 : Int)))) then (List.getD v1_1 (Int.toNat (IntKind.wrap .i64 ((IntKind.wrap .i64 (v20 * v1_0)) + (Int.tmod v4 v1_0)))) (0 : Int)) else (if (r0 > (List.getD v1_1 (Int.toNat (IntKind.wrap .i64 ((IntKind.wrap .i64 ((IntKind.wrap .i64 (Int.tdiv v4 v1_0)) * v1_0)) + v20))) (0 : Int))) then r0 else (List.getD v1_1 (Int.toNat (IntKind.wrap .i64 ((IntKind.wrap .i64 ((IntKind.wrap .i64 (Int.tdiv v4 v1_0)) * v1_0)) + v20))) (0 : Int)))) else v5), v14, v15, v19, (IntKind.wrap .i64 (v20 + (1 : Int))), ()))
              else
                none
        else
          none
      else
        none
  else
    some (Sum.inr ((v1_0, v1_1, ()), (v2_0, (List.take (List.length v2_1) (List.drop 0 v2_1)), ()), (v3_0, (List.take (List.length v3_1) (List.drop 0 v3_1)), ()), v5, v14, v15, ()))
theorem spec_l6Stable_l7_eq : loopStep 72 E50 L50_0 (loopOf f50 7) sh50_7 xs50_7 = spec_l6Stable_l7 := by kernel_rfl
theorem loop50_7 {L : Nat → Option LoopD} (h : L 7 = some ⟨72, sh50_7, xs50_7, spec_l6Stable_l7⟩) : LoopOk prog L (loopOf f50 7) :=
  loopOk (tysOk_of tyl_ok) E50_ok (codeOk_in (L := L50_0) (tysOk_of tyl_ok) E50_ok mixed (c := loopOf f50 7) (bs := []) (by kernel_rfl) allNil (by kernel_rfl)) (by kernel_rfl) (by kernel_rfl) spec_l6Stable_l7_eq (by rw [show firstId (loopOf f50 7) = 7 from by kernel_rfl]; exact h)
noncomputable def L50_1 : Nat → Option LoopD := fun n => ifEq n 7 (some ⟨72, sh50_7, xs50_7, spec_l6Stable_l7⟩) (L50_0 n)
def sh50_3 : List Fm := [d, .box 100100 [.val (.int .i64), .val (.sl (.int .i64))], .box 100200 [.val (.int .i64), .own (.int .i64) 100202 false], .box 100300 [.val (.int .i64), .own (.int .i64) 100302 false], d, d, d, d, d, d, d, d, d, d, .cell (.val (.int .i64)), .cell (.val (.int .i64)), d, d, d, d, d, d, d, d, d, d, d, d, d, d, d, d, d, d, d, d, d, d, d, d, d, d, d, d, d, d, d, d, d, d, d, d, d, d, d, d, d, d, d, d, d, d, d, d, d, d, d, d, d, d, d, d]
def xs50_3 : List (Ex × List Fm) := [(.exit 0, [d, d, .box 100200 [.val (.int .i64), .own (.int .i64) 100202 false], .box 100300 [.val (.int .i64), .own (.int .i64) 100302 false], d, d, d, d, d, d, d, d, d, d, d, d, d, d, d, d, d, d, d, d, d, d, d, d, d, d, d, d, d, d, d, d, d, d, d, d, d, d, d, d, d, d, d, d, d, d, d, d, d, d, d, d, d, d, d, d, d, d, d, d, d, d, d, d, d, d, d, d])]
noncomputable def spec_l6Stable_l3 : ((Int × (List Int) × Unit) × (Int × (List Int) × Unit) × (Int × (List Int) × Unit) × Int × Int × Unit) → Option (((Int × (List Int) × Unit) × (Int × (List Int) × Unit) × (Int × (List Int) × Unit) × Int × Int × Unit) ⊕ (((Int × (List Int) × Unit) × (Int × (List Int) × Unit) × Unit))) := fun ((v1_0, v1_1, _), (v2_0, v2_1, _), (v3_0, v3_1, _), v14, v15, _) =>
  bif (decide (v15 < v14)) then
    Option.bind (loopF spec_l6Stable_l7 ((v1_0, v1_1, ()), (v2_0, (List.take (List.length v2_1) (List.drop 0 v2_1)), ()), (v3_0, (List.take (List.length v3_1) (List.drop 0 v3_1)), ()), v15, (3 : Int), v14, v15, v1_0, (0 : Int), ())) fun ((r0, r1, _), (r2, r3, _), (r4, r5, _), r6, r7, r8, _) =>
      if (((0 + (List.length r5)) = (List.length r5)) ∧ ((((List.length r5) + (List.length (List.take 1 (List.drop 0 [r6])))) * 8) ≤ 140737488355328)) then
        some (Sum.inl ((r0, r1, ()), (r2, (List.take (List.length r3) (List.drop 0 r3)), ()), (r4, (List.take ((List.length r5) + (List.length (List.take 1 (List.drop 0 [r6])))) (List.drop 0 ((List.drop 0 r5) ++ (List.take 1 (List.drop 0 [r6]))))), ()), r7, (IntKind.wrap .i64 (r8 + (1 : Int))), ()))
      else
        none
  else
    some (Sum.inr ((v2_0, (List.take (List.length v2_1) (List.drop 0 v2_1)), ()), (v3_0, (List.take (List.length v3_1) (List.drop 0 v3_1)), ()), ()))
theorem spec_l6Stable_l3_eq : loopStep 72 E50 L50_1 (loopOf f50 3) sh50_3 xs50_3 = spec_l6Stable_l3 := by kernel_rfl
theorem loop50_3 {L : Nat → Option LoopD} (h : L 3 = some ⟨72, sh50_3, xs50_3, spec_l6Stable_l3⟩) : LoopOk prog L (loopOf f50 3) :=
  loopOk (tysOk_of tyl_ok) E50_ok (codeOk_in (L := L50_1) (tysOk_of tyl_ok) E50_ok mixed (c := loopOf f50 3) (bs := [loopOf f50 7]) (by kernel_rfl) (allCons (loop50_7 rfl) allNil) (by kernel_rfl)) (by kernel_rfl) (by kernel_rfl) spec_l6Stable_l3_eq (by rw [show firstId (loopOf f50 3) = 3 from by kernel_rfl]; exact h)
noncomputable def L50_2 : Nat → Option LoopD := fun n => ifEq n 3 (some ⟨72, sh50_3, xs50_3, spec_l6Stable_l3⟩) (L50_1 n)
noncomputable def spec_l6Stable : (Int × (List Int)) → Option ((Int × (List Int))) := fun (a0_0, a0_1) =>
  Option.bind (loopF spec_l6Stable_l3 ((a0_0, a0_1, ()), ((0 : Int), [], ()), (a0_0, [], ()), (IntKind.wrap .i64 (a0_0 * a0_0)), (0 : Int), ())) fun ((r0, r1, _), (r2, r3, _), _) =>
    some (r2, (List.take (List.length r3) (List.drop 0 r3)))
noncomputable def A50 : FnA := ⟨[.v (.pair (.int .i64) (.sl (.int .i64)))], true, [.pair (.int .i64) (.sl (.int .i64))], fun x => spec_l6Stable x.1⟩
theorem spec_l6Stable_eq : fnF E50 L50_2 [.v (.pair (.int .i64) (.sl (.int .i64)))] true [.pair (.int .i64) (.sl (.int .i64))] f50.ntmps f50.results.toList (codeOf f50) = fun x => spec_l6Stable x.1 := by kernel_rfl
theorem A50_ok : FnOk prog 50 A50 := by
  have h := fnOk_of_run (P := prog) (E := E50) (tysOk_of tyl_ok) E50_ok (L := L50_2) (ps := [.v (.pair (.int .i64) (.sl (.int .i64)))]) (own := true) (outs := [.pair (.int .i64) (.sl (.int .i64))]) func50 (c := codeOf f50) (by kernel_rfl) (codeOk_in (L := L50_2) (tysOk_of tyl_ok) E50_ok mixed (c := codeOf f50) (bs := [loopOf f50 3]) (by kernel_rfl) (allCons (loop50_3 rfl) allNil) (by kernel_rfl))
  rw [spec_l6Stable_eq] at h
  exact h
/-! spec.l8Elements -/
noncomputable def E30_at39 : Env := ⟨ty0, fun g => ifEq g 47 (some A47) (ifEq g 46 (some A46) (ifEq g 67 (some A67) (ifEq g 49 (some A49) (ifEq g 50 (some A50) (ifEq g 51 (some A51) (none)))))), fun _ => none, fun _ => none, fun _ => none⟩
theorem E30_at39_ok : FnsOk prog E30_at39 := (oneFn A47_ok func47 (by kernel_rfl) (by kernel_rfl) (oneFn A46_ok func46 (by kernel_rfl) (by kernel_rfl) (oneFn A67_ok func67 (by kernel_rfl) (by kernel_rfl) (oneFn A49_ok func49 (by kernel_rfl) (by kernel_rfl) (oneFn A50_ok func50 (by kernel_rfl) (by kernel_rfl) (oneFn A51_ok func51 (by kernel_rfl) (by kernel_rfl) (noFns _ _)))))))
noncomputable def L30_at39_0 : Nat → Option LoopD := fun _ => none
def sh30_at39_2 : List Fm := [.box 100000 [.own (.pair (.pair (.int .i64) (.sl (.int .i64))) .str) 100001 true, .val .bool], d, .cell (.val .str), d, .box 100400 [.val (.int .i64), .val (.sl (.int .i64))], d, d, d, d, d, d, .cell (.val (.sl (.pair (.pair (.int .i64) (.sl (.int .i64))) .str))), .cell (.val (.int .i64)), .cell (.val (.int .i64)), d, d, d, d, d, d, d, d, d, d, d, d, d, d, d, d, d, d, d, d, d, d, d, d, d, d, d, d, d, d, d, d, d, d, d, d, d, d, d, d, d, d, d, d, d, d, d, d, .cell (.val .bool), .box 106300 [.val (.int .i64), .val (.sl (.int .i64)), .val (.sl (.int .i64)), .val (.sl (.pair (.int .i64) (.pair .str (.pair (.int .i64) (.int .i64)))))], d, d, d, .ali 100000 0, .cell (.own (.pair (.pair (.int .i64) (.sl (.int .i64))) .str) 106800 false), d, d, d, d, d, d, d, d, d, d, d, d, .cell (.own .str 108100 false), .cell (.val (.int .i64)), .cell (.val (.int .i64)), d, d, d, d, d, d, d, d, d, d, d, d, d, d, d, d, d, d, d, d, d, d, d, d, d, d, d, d, d, d, d, d, d, d, d, d, d, d, d, d, d, d, d, d, d, d, d, d, d, d, d, d, d, d, d, d, d, d, d, d, d, d, d, d, d, d, d, d, d, d, d, d, d, d, d, d, d, d, d, d, d, d, d, d, d, d, d, d, d, d, d, d, d, d, d, d, d, d, d, d, d, d, d, d, d, d, d, d]
def xs30_at39_2 : List (Ex × List Fm) := [(.ret, [d, d, d, d, d, d, d, d, d, d, d, d, d, d, d, d, d, d, d, d, d, d, d, d, d, d, d, d, d, d, d, d, d, d, d, d, d, d, d, d, d, d, d, d, d, d, d, d, d, d, d, d, d, d, d, d, d, d, d, d, d, d, .cell (.val .bool), .box 106300 [.val (.int .i64), .val (.sl (.int .i64)), .val (.sl (.int .i64)), .val (.sl (.pair (.int .i64) (.pair .str (.pair (.int .i64) (.int .i64)))))], d, d, d, .box 106700 [.own (.pair (.pair (.int .i64) (.sl (.int .i64))) .str) 106701 true, .val .bool], .cell (.own (.pair (.pair (.int .i64) (.sl (.int .i64))) .str) 106800 false), d, d, d, d, d, d, d, d, d, d, d, d, .cell (.own .str 108100 false), .cell (.val (.int .i64)), .cell (.val (.int .i64)), d, d, d, d, d, d, d, d, d, d, d, d, d, d, d, d, d, d, d, d, d, d, d, d, d, d, d, d, d, d, d, d, d, d, d, d, d, d, d, d, d, d, d, d, d, d, d, d, d, d, d, d, d, d, d, d, d, d, d, d, d, d, d, d, d, d, d, d, d, d, d, d, d, d, d, d, d, d, d, d, d, d, d, d, d, d, d, d, d, d, d, d, d, d, d, d, d, d, d, d, d, d, d, d, d, d, d, d]), (.exit 0, [.box 100000 [.own (.pair (.pair (.int .i64) (.sl (.int .i64))) .str) 100001 true, .val .bool], d, .cell (.val .str), d, .box 100400 [.val (.int .i64), .val (.sl (.int .i64))], d, d, d, d, d, d, d, d, d, d, d, d, d, d, d, d, d, d, d, d, d, d, d, d, d, d, d, d, d, d, d, d, d, d, d, d, d, d, d, d, d, d, d, d, d, d, d, d, d, d, d, d, d, d, d, d, d, .cell (.val .bool), .box 106300 [.val (.int .i64), .val (.sl (.int .i64)), .val (.sl (.int .i64)), .val (.sl (.pair (.int .i64) (.pair .str (.pair (.int .i64) (.int .i64)))))], d, d, d, .ali 100000 0, .cell (.own (.pair (.pair (.int .i64) (.sl (.int .i64))) .str) 106800 false), d, d, d, d, d, d, d, d, d, d, d, d, .cell (.own .str 108100 false), .cell (.val (.int .i64)), .cell (.val (.int .i64)), d, d, d, d, d, d, d, d, d, d, d, d, d, d, d, d, d, d, d, d, d, d, d, d, d, d, d, d, d, d, d, d, d, d, d, d, d, d, d, d, d, d, d, d, d, d, d, d, d, d, d, d, d, d, d, d, d, d, d, d, d, d, d, d, d, d, d, d, d, d, d, d, d, d, d, d, d, d, d, d, d, d, d, d, d, d, d, d, d, d, d, d, d, d, d, d, d, d, d, d, d, d, d, d, d, d, d, d])]
noncomputable def spec_l8Elements_at39_l2 : (((List ((Int × (List Int)) × ByteArray)) × Bool × Unit) × ByteArray × (Int × (List Int) × Unit) × (List ((Int × (List Int)) × ByteArray)) × Int × Int × Bool × (Int × (List Int) × (List Int) × (List (Int × (ByteArray × (Int × Int)))) × Unit) × (List ((Int × (List Int)) × ByteArray)) × (List ByteArray) × Int × Int × Unit) → Option ((((List ((Int × (List Int)) × ByteArray)) × Bool × Unit) × ByteArray × (Int × (List Int) × Unit) × (List ((Int × (List Int)) × ByteArray)) × Int × Int × Bool × (Int × (List Int) × (List Int) × (List (Int × (ByteArray × (Int × Int)))) × Unit) × (List ((Int × (List Int)) × ByteArray)) × (List ByteArray) × Int × Int × Unit) ⊕ ((Bool × (Int × (List Int) × (List Int) × (List (Int × (ByteArray × (Int × Int)))) × Unit) × ((List ((Int × (List Int)) × ByteArray)) × Bool × Unit) × (List ((Int × (List Int)) × ByteArray)) × (List ByteArray) × Int × Int × Unit) ⊕ (((List ((Int × (List Int)) × ByteArray)) × Bool × Unit) × ByteArray × (Int × (List Int) × Unit) × Bool × (Int × (List Int) × (List Int) × (List (Int × (ByteArray × (Int × Int)))) × Unit) × (List ((Int × (List Int)) × ByteArray)) × (List ByteArray) × Int × Int × Unit))) := fun ((v0_0, v0_1, _), v2, (v4_0, v4_1, _), v11, v12, v13, v62, (v63_0, v63_1, v63_2, v63_3, _), v68, v81, v82, v83, _) =>
  bif (decide (v13 < v12)) then
    if (((0 : Int) ≤ v13) ∧ (v13 < (((List.length v11) : Nat) : Int))) then
      Option.bind (spec_l2Same (List.getD v11 (Int.toNat v13) (((0 : Int), []), (⟨Array.empty⟩ : ByteArray))).1.2 v4_1) fun r0 =>
        bif r0 then
          if ((0 + (List.length v0_0)) = (List.length v0_0)) then
            some (Sum.inr (Sum.inl (v62, (v63_0, v63_1, v63_2, v63_3, ()), ((List.drop 0 v0_0), v0_1, ()), (List.take (List.length v68) (List.drop 0 v68)), (List.take (List.length v81) (List.drop 0 v81)), v82, v83, ())))
          else
            none
        else
          if ((0 + (List.length v0_0)) = (List.length v0_0)) then
            some (Sum.inl (((List.drop 0 v0_0), v0_1, ()), v2, (v4_0, v4_1, ()), v11, v12, (IntKind.wrap .i64 (v13 + (1 : Int))), v62, (v63_0, v63_1, v63_2, v63_3, ()), (List.take (List.length v68) (List.drop 0 v68)), (List.take (List.length v81) (List.drop 0 v81)), v82, v83, ()))
          else
            none
    else
      none
  else
    if ((0 + (List.length v0_0)) = (List.length v0_0)) then
      some (Sum.inr (Sum.inr (((List.drop 0 v0_0), v0_1, ()), v2, (v4_0, v4_1, ()), v62, (v63_0, v63_1, v63_2, v63_3, ()), (List.take (List.length v68) (List.drop 0 v68)), (List.take (List.length v81) (List.drop 0 v81)), v82, v83, ())))
    else
      none
theorem spec_l8Elements_at39_l2_eq : loopStep 61 E30_at39 L30_at39_0 (loopOf f48 2) sh30_at39_2 xs30_at39_2 = spec_l8Elements_at39_l2 := by kernel_rfl
theorem loop30_at39_2 {L : Nat → Option LoopD} (h : L 2 = some ⟨61, sh30_at39_2, xs30_at39_2, spec_l8Elements_at39_l2⟩) : LoopOk prog L (loopOf f48 2) :=
  loopOk (tysOk_of tyl_ok) E30_at39_ok (codeOk_in (L := L30_at39_0) (tysOk_of tyl_ok) E30_at39_ok mixed (c := loopOf f48 2) (bs := []) (by kernel_rfl) allNil (by kernel_rfl)) (by kernel_rfl) (by kernel_rfl) spec_l8Elements_at39_l2_eq (by rw [show firstId (loopOf f48 2) = 2 from by kernel_rfl]; exact h)
noncomputable def L30_at39_1 : Nat → Option LoopD := fun n => ifEq n 2 (some ⟨61, sh30_at39_2, xs30_at39_2, spec_l8Elements_at39_l2⟩) (L30_at39_0 n)
def shi30_at39 : List Fm := [.box 100000 [.own (.pair (.pair (.int .i64) (.sl (.int .i64))) .str) 100001 true, .val .bool], .cell (.val (.pair (.int .i64) (.sl (.int .i64)))), .cell (.val .str), d, d, d, d, d, d, d, d, d, d, d, d, d, d, d, d, d, d, d, d, d, d, d, d, d, d, d, d, d, d, d, d, d, d, d, d, d, d, d, d, d, d, d, d, d, d, d, d, d, d, d, d, d, d, d, d, d, d, d, .cell (.val .bool), .box 106300 [.val (.int .i64), .val (.sl (.int .i64)), .val (.sl (.int .i64)), .val (.sl (.pair (.int .i64) (.pair .str (.pair (.int .i64) (.int .i64)))))], d, d, d, .ali 100000 0, .cell (.own (.pair (.pair (.int .i64) (.sl (.int .i64))) .str) 106800 false), d, d, d, d, d, d, d, d, d, d, d, d, .cell (.own .str 108100 false), .cell (.val (.int .i64)), .cell (.val (.int .i64)), d, d, d, d, d, d, d, d, d, d, d, d, d, d, d, d, d, d, d, d, d, d, d, d, d, d, d, d, d, d, d, d, d, d, d, d, d, d, d, d, d, d, d, d, d, d, d, d, d, d, d, d, d, d, d, d, d, d, d, d, d, d, d, d, d, d, d, d, d, d, d, d, d, d, d, d, d, d, d, d, d, d, d, d, d, d, d, d, d, d, d, d, d, d, d, d, d, d, d, d, d, d, d, d, d, d, d, d]
def sho30_at39 : List Fm := [d, .cell (.val .bool), .box 100200 [.val (.int .i64), .val (.sl (.int .i64)), .val (.sl (.int .i64)), .val (.sl (.pair (.int .i64) (.pair .str (.pair (.int .i64) (.int .i64)))))], d, d, d, .box 100600 [.own (.pair (.pair (.int .i64) (.sl (.int .i64))) .str) 100601 true, .val .bool], .cell (.own (.pair (.pair (.int .i64) (.sl (.int .i64))) .str) 100700 false), d, d, d, d, d, d, d, d, d, d, d, d, .cell (.own .str 102000 false), .cell (.val (.int .i64)), .cell (.val (.int .i64)), d, d, d, d, d, d, d, d, d, d, d, d, d, d, d, d, d, d, d, d, d, d, d, d, d, d, d, d, d, d, d, d, d, d, d, d, d, d, d, d, d, d, d, d, d, d, d, d, d, d, d, d, d, d, d, d, d, d, d, d, d, d, d, d, d, d, d, d, d, d, d, d, d, d, d, d, d, d, d, d, d, d, d, d, d, d, d, d, d, d, d, d, d, d, d, d, d, d, d, d, d, d, d, d, d, d, d, d]
noncomputable def spec_l8Elements_at39 : (((List ((Int × (List Int)) × ByteArray)) × Bool × Unit) × (Int × (List Int)) × ByteArray × Bool × (Int × (List Int) × (List Int) × (List (Int × (ByteArray × (Int × Int)))) × Unit) × (List ((Int × (List Int)) × ByteArray)) × (List ByteArray) × Int × Int × Unit) → Option (Bool × (Int × (List Int) × (List Int) × (List (Int × (ByteArray × (Int × Int)))) × Unit) × ((List ((Int × (List Int)) × ByteArray)) × Bool × Unit) × (List ((Int × (List Int)) × ByteArray)) × (List ByteArray) × Int × Int × Unit) := fun ((v0_0, v0_1, _), (v1_0, v1_1), v2, v62, (v63_0, v63_1, v63_2, v63_3, _), v68, v81, v82, v83, _) =>
  if ((0 + (List.length v0_0)) = (List.length v0_0)) then
    Option.bind (loopF spec_l8Elements_at39_l2 (((List.drop 0 v0_0), v0_1, ()), v2, (v1_0, v1_1, ()), (List.take (List.length v0_0) (List.drop 0 v0_0)), (((List.length v0_0) : Nat) : Int), (0 : Int), v62, (v63_0, v63_1, v63_2, v63_3, ()), (List.take (List.length v68) (List.drop 0 v68)), (List.take (List.length v81) (List.drop 0 v81)), v82, v83, ())) fun r0 =>
      (match r0 with
      | .inl (d1, (d2, d3, d4, d5, _), (d6, d7, _), d8, d9, d10, d11, _) =>
          if ((0 + (List.length d6)) = (List.length d6)) then
            some (d1, (d2, d3, d4, d5, ()), ((List.drop 0 d6), d7, ()), (List.take (List.length d8) (List.drop 0 d8)), (List.take (List.length d9) (List.drop 0 d9)), d10, d11, ())
          else
            none
      | .inr ((d12, d13, _), d14, (d15, d16, _), d17, (d18, d19, d20, d21, _), d22, d23, d24, d25, _) =>
          bif d13 then
            if ((0 + (List.length d12)) = (List.length d12)) then
              some (d17, (d18, d19, d20, d21, ()), ((List.drop 0 d12), true, ()), (List.take (List.length d22) (List.drop 0 d22)), (List.take (List.length d23) (List.drop 0 d23)), d24, d25, ())
            else
              none
          else
            bif (decide ((((List.length d12) : Nat) : Int) ≥ (120 : Int))) then
              if ((0 + (List.length d12)) = (List.length d12)) then
                some (d17, (d18, d19, d20, d21, ()), ((List.drop 0 d12), true, ()), (List.take (List.length d22) (List.drop 0 d22)), (List.take (List.length d23) (List.drop 0 d23)), d24, d25, ())
              else
                none
            else
              bif (!(decide ((((ByteArray.size d14) : Nat) : Int) > (120 : Int)))) then
                if (((0 + (List.length d12)) = (List.length d12)) ∧ ((((List.length d12) + (List.length (List.take 1 (List.drop 0 [((d15, d16), d14)])))) * 48) ≤ 140737488355328)) then
                  if ((0 + ((List.length d12) + (List.length (List.take 1 (List.drop 0 [((d15, d16), d14)]))))) = (List.length ((List.drop 0 d12) ++ (List.take 1 (List.drop 0 [((d15, d16), d14)]))))) then
                    some (d17, (d18, d19, d20, d21, ()), ((List.drop 0 ((List.drop 0 d12) ++ (List.take 1 (List.drop 0 [((d15, d16), d14)])))), (decide ((((ByteArray.size d14) : Nat) : Int) > (120 : Int))), ()), (List.take (List.length d22) (List.drop 0 d22)), (List.take (List.length d23) (List.drop 0 d23)), d24, d25, ())
                  else
                    none
                else
                  none
              else
                if ((0 + (List.length d12)) = (List.length d12)) then
                  some (d17, (d18, d19, d20, d21, ()), ((List.drop 0 d12), (decide ((((ByteArray.size d14) : Nat) : Int) > (120 : Int))), ()), (List.take (List.length d22) (List.drop 0 d22)), (List.take (List.length d23) (List.drop 0 d23)), d24, d25, ())
                else
                  none)
  else
    none
theorem spec_l8Elements_at39_eq : inlStep f48.ntmps 131 39 E30_at39 L30_at39_1 f48.results.toList (codeOf f48) shi30_at39 sho30_at39 = spec_l8Elements_at39 := by kernel_rfl
noncomputable def I30_at39 : CallD := ⟨f48.ntmps, shi30_at39, 131, sho30_at39, spec_l8Elements_at39⟩
theorem I30_at39_ok : InlOk prog 39 48 I30_at39 := inlOk_of (tysOk_of tyl_ok) E30_at39_ok (L := L30_at39_1) func48 (by kernel_rfl) (c := codeOf f48) (by kernel_rfl) (codeOk_in (L := L30_at39_1) (tysOk_of tyl_ok) E30_at39_ok mixed (c := codeOf f48) (bs := [loopOf f48 2]) (by kernel_rfl) (allCons (loop30_at39_2 rfl) allNil) (by kernel_rfl)) (by kernel_rfl) (by kernel_rfl) spec_l8Elements_at39_eq
noncomputable def E30_at78 : Env := ⟨ty0, fun g => ifEq g 47 (some A47) (ifEq g 46 (some A46) (ifEq g 67 (some A67) (ifEq g 49 (some A49) (ifEq g 50 (some A50) (ifEq g 51 (some A51) (none)))))), fun _ => none, fun _ => none, fun _ => none⟩
theorem E30_at78_ok : FnsOk prog E30_at78 := (oneFn A47_ok func47 (by kernel_rfl) (by kernel_rfl) (oneFn A46_ok func46 (by kernel_rfl) (by kernel_rfl) (oneFn A67_ok func67 (by kernel_rfl) (by kernel_rfl) (oneFn A49_ok func49 (by kernel_rfl) (by kernel_rfl) (oneFn A50_ok func50 (by kernel_rfl) (by kernel_rfl) (oneFn A51_ok func51 (by kernel_rfl) (by kernel_rfl) (noFns _ _)))))))
noncomputable def L30_at78_0 : Nat → Option LoopD := fun _ => none
def sh30_at78_2 : List Fm := [.box 100000 [.own (.pair (.pair (.int .i64) (.sl (.int .i64))) .str) 100001 true, .val .bool], d, .cell (.val .str), d, .box 100400 [.val (.int .i64), .own (.int .i64) 100402 false], d, d, d, d, d, d, .cell (.val (.sl (.pair (.pair (.int .i64) (.sl (.int .i64))) .str))), .cell (.val (.int .i64)), .cell (.val (.int .i64)), d, d, d, d, d, d, d, d, d, d, d, d, d, d, d, d, d, d, d, d, d, d, d, d, d, d, d, d, d, d, d, d, d, d, d, d, d, d, d, d, d, d, d, d, d, d, d, d, .cell (.val .bool), d, d, d, d, .ali 100000 0, .cell (.val (.sl (.pair (.pair (.int .i64) (.sl (.int .i64))) .str))), d, d, d, .cell (.val (.int .i64)), .box 107300 [.val (.int .i64), .val (.sl (.int .i64)), .val .str], d, d, d, d, d, d, d, d, d, d, d, d, d, d, d, d, d, d, d, d, d, d, d, d, d, d, d, d, d, d, d, d, d, d, d, d, d, d, d, d, d, d, d, d, d, d, d, d, d, d, d, d, d, d, d, d, d, d, d, d, d, d, d, d, d, d, d, d, d, d, d, d, d, d, d, d, d, d, d, d, d, d, d, d, d, d, d, d, d, d, d, d, d, d, d, d, d, d, d, d, d, d, d, d, d, d, d, d, d, d, d, d, d, d, d, d, d, d]
def xs30_at78_2 : List (Ex × List Fm) := [(.ret, [d, d, d, d, d, d, d, d, d, d, d, d, d, d, d, d, d, d, d, d, d, d, d, d, d, d, d, d, d, d, d, d, d, d, d, d, d, d, d, d, d, d, d, d, d, d, d, d, d, d, d, d, d, d, d, d, d, d, d, d, d, d, .cell (.val .bool), d, d, d, d, .box 106700 [.own (.pair (.pair (.int .i64) (.sl (.int .i64))) .str) 106701 true, .val .bool], .cell (.val (.sl (.pair (.pair (.int .i64) (.sl (.int .i64))) .str))), d, d, d, .cell (.val (.int .i64)), .box 107300 [.val (.int .i64), .val (.sl (.int .i64)), .val .str], d, d, d, d, d, d, d, d, d, d, d, d, d, d, d, d, d, d, d, d, d, d, d, d, d, d, d, d, d, d, d, d, d, d, d, d, d, d, d, d, d, d, d, d, d, d, d, d, d, d, d, d, d, d, d, d, d, d, d, d, d, d, d, d, d, d, d, d, d, d, d, d, d, d, d, d, d, d, d, d, d, d, d, d, d, d, d, d, d, d, d, d, d, d, d, d, d, d, d, d, d, d, d, d, d, d, d, d, d, d, d, d, d, d, d, d, d, d]), (.exit 0, [.box 100000 [.own (.pair (.pair (.int .i64) (.sl (.int .i64))) .str) 100001 true, .val .bool], d, .cell (.val .str), d, .box 100400 [.val (.int .i64), .own (.int .i64) 100402 false], d, d, d, d, d, d, d, d, d, d, d, d, d, d, d, d, d, d, d, d, d, d, d, d, d, d, d, d, d, d, d, d, d, d, d, d, d, d, d, d, d, d, d, d, d, d, d, d, d, d, d, d, d, d, d, d, d, .cell (.val .bool), d, d, d, d, .ali 100000 0, .cell (.val (.sl (.pair (.pair (.int .i64) (.sl (.int .i64))) .str))), d, d, d, .cell (.val (.int .i64)), .box 107300 [.val (.int .i64), .val (.sl (.int .i64)), .val .str], d, d, d, d, d, d, d, d, d, d, d, d, d, d, d, d, d, d, d, d, d, d, d, d, d, d, d, d, d, d, d, d, d, d, d, d, d, d, d, d, d, d, d, d, d, d, d, d, d, d, d, d, d, d, d, d, d, d, d, d, d, d, d, d, d, d, d, d, d, d, d, d, d, d, d, d, d, d, d, d, d, d, d, d, d, d, d, d, d, d, d, d, d, d, d, d, d, d, d, d, d, d, d, d, d, d, d, d, d, d, d, d, d, d, d, d, d, d])]
noncomputable def spec_l8Elements_at78_l2 : (((List ((Int × (List Int)) × ByteArray)) × Bool × Unit) × ByteArray × (Int × (List Int) × Unit) × (List ((Int × (List Int)) × ByteArray)) × Int × Int × Bool × (List ((Int × (List Int)) × ByteArray)) × Int × (Int × (List Int) × ByteArray × Unit) × Unit) → Option ((((List ((Int × (List Int)) × ByteArray)) × Bool × Unit) × ByteArray × (Int × (List Int) × Unit) × (List ((Int × (List Int)) × ByteArray)) × Int × Int × Bool × (List ((Int × (List Int)) × ByteArray)) × Int × (Int × (List Int) × ByteArray × Unit) × Unit) ⊕ ((Bool × ((List ((Int × (List Int)) × ByteArray)) × Bool × Unit) × (List ((Int × (List Int)) × ByteArray)) × Int × (Int × (List Int) × ByteArray × Unit) × Unit) ⊕ (((List ((Int × (List Int)) × ByteArray)) × Bool × Unit) × ByteArray × (Int × (List Int) × Unit) × Bool × (List ((Int × (List Int)) × ByteArray)) × Int × (Int × (List Int) × ByteArray × Unit) × Unit))) := fun ((v0_0, v0_1, _), v2, (v4_0, v4_1, _), v11, v12, v13, v62, v68, v72, (v73_0, v73_1, v73_2, _), _) =>
  bif (decide (v13 < v12)) then
    if (((0 : Int) ≤ v13) ∧ (v13 < (((List.length v11) : Nat) : Int))) then
      Option.bind (spec_l2Same (List.getD v11 (Int.toNat v13) (((0 : Int), []), (⟨Array.empty⟩ : ByteArray))).1.2 (List.take (List.length v4_1) (List.drop 0 v4_1))) fun r0 =>
        bif r0 then
          if ((0 + (List.length v0_0)) = (List.length v0_0)) then
            some (Sum.inr (Sum.inl (v62, ((List.drop 0 v0_0), v0_1, ()), v68, v72, (v73_0, v73_1, v73_2, ()), ())))
          else
            none
        else
          if ((0 + (List.length v0_0)) = (List.length v0_0)) then
            some (Sum.inl (((List.drop 0 v0_0), v0_1, ()), v2, (v4_0, (List.take (List.length v4_1) (List.drop 0 v4_1)), ()), v11, v12, (IntKind.wrap .i64 (v13 + (1 : Int))), v62, v68, v72, (v73_0, v73_1, v73_2, ()), ()))
          else
            none
    else
      none
  else
    if ((0 + (List.length v0_0)) = (List.length v0_0)) then
      some (Sum.inr (Sum.inr (((List.drop 0 v0_0), v0_1, ()), v2, (v4_0, (List.take (List.length v4_1) (List.drop 0 v4_1)), ()), v62, v68, v72, (v73_0, v73_1, v73_2, ()), ())))
    else
      none
theorem spec_l8Elements_at78_l2_eq : loopStep 61 E30_at78 L30_at78_0 (loopOf f48 2) sh30_at78_2 xs30_at78_2 = spec_l8Elements_at78_l2 := by kernel_rfl
theorem loop30_at78_2 {L : Nat → Option LoopD} (h : L 2 = some ⟨61, sh30_at78_2, xs30_at78_2, spec_l8Elements_at78_l2⟩) : LoopOk prog L (loopOf f48 2) :=
  loopOk (tysOk_of tyl_ok) E30_at78_ok (codeOk_in (L := L30_at78_0) (tysOk_of tyl_ok) E30_at78_ok mixed (c := loopOf f48 2) (bs := []) (by kernel_rfl) allNil (by kernel_rfl)) (by kernel_rfl) (by kernel_rfl) spec_l8Elements_at78_l2_eq (by rw [show firstId (loopOf f48 2) = 2 from by kernel_rfl]; exact h)
noncomputable def L30_at78_1 : Nat → Option LoopD := fun n => ifEq n 2 (some ⟨61, sh30_at78_2, xs30_at78_2, spec_l8Elements_at78_l2⟩) (L30_at78_0 n)
def shi30_at78 : List Fm := [.box 100000 [.own (.pair (.pair (.int .i64) (.sl (.int .i64))) .str) 100001 true, .val .bool], .agg [.val (.int .i64), .own (.int .i64) 100102 false], .cell (.val .str), d, d, d, d, d, d, d, d, d, d, d, d, d, d, d, d, d, d, d, d, d, d, d, d, d, d, d, d, d, d, d, d, d, d, d, d, d, d, d, d, d, d, d, d, d, d, d, d, d, d, d, d, d, d, d, d, d, d, d, .cell (.val .bool), d, d, d, d, .ali 100000 0, .cell (.val (.sl (.pair (.pair (.int .i64) (.sl (.int .i64))) .str))), d, d, d, .cell (.val (.int .i64)), .box 107300 [.val (.int .i64), .val (.sl (.int .i64)), .val .str], d, d, d, d, d, d, d, d, d, d, d, d, d, d, d, d, d, d, d, d, d, d, d, d, d, d, d, d, d, d, d, d, d, d, d, d, d, d, d, d, d, d, d, d, d, d, d, d, d, d, d, d, d, d, d, d, d, d, d, d, d, d, d, d, d, d, d, d, d, d, d, d, d, d, d, d, d, d, d, d, d, d, d, d, d, d, d, d, d, d, d, d, d, d, d, d, d, d, d, d, d, d, d, d, d, d, d, d, d, d, d, d, d, d, d, d, d, d]
def sho30_at78 : List Fm := [d, .cell (.val .bool), d, d, d, d, .box 100600 [.own (.pair (.pair (.int .i64) (.sl (.int .i64))) .str) 100601 true, .val .bool], .cell (.val (.sl (.pair (.pair (.int .i64) (.sl (.int .i64))) .str))), d, d, d, .cell (.val (.int .i64)), .box 101200 [.val (.int .i64), .val (.sl (.int .i64)), .val .str], d, d, d, d, d, d, d, d, d, d, d, d, d, d, d, d, d, d, d, d, d, d, d, d, d, d, d, d, d, d, d, d, d, d, d, d, d, d, d, d, d, d, d, d, d, d, d, d, d, d, d, d, d, d, d, d, d, d, d, d, d, d, d, d, d, d, d, d, d, d, d, d, d, d, d, d, d, d, d, d, d, d, d, d, d, d, d, d, d, d, d, d, d, d, d, d, d, d, d, d, d, d, d, d, d, d, d, d, d, d, d, d, d, d, d, d, d, d]
noncomputable def spec_l8Elements_at78 : (((List ((Int × (List Int)) × ByteArray)) × Bool × Unit) × (Int × (List Int) × Unit) × ByteArray × Bool × (List ((Int × (List Int)) × ByteArray)) × Int × (Int × (List Int) × ByteArray × Unit) × Unit) → Option (Bool × ((List ((Int × (List Int)) × ByteArray)) × Bool × Unit) × (List ((Int × (List Int)) × ByteArray)) × Int × (Int × (List Int) × ByteArray × Unit) × Unit) := fun ((v0_0, v0_1, _), (v1_0, v1_1, _), v2, v62, v68, v72, (v73_0, v73_1, v73_2, _), _) =>
  if ((0 + (List.length v0_0)) = (List.length v0_0)) then
    Option.bind (loopF spec_l8Elements_at78_l2 (((List.drop 0 v0_0), v0_1, ()), v2, (v1_0, (List.take (List.length v1_1) (List.drop 0 v1_1)), ()), (List.take (List.length v0_0) (List.drop 0 v0_0)), (((List.length v0_0) : Nat) : Int), (0 : Int), v62, v68, v72, (v73_0, v73_1, v73_2, ()), ())) fun r0 =>
      (match r0 with
      | .inl (d1, (d2, d3, _), d4, d5, (d6, d7, d8, _), _) =>
          if ((0 + (List.length d2)) = (List.length d2)) then
            some (d1, ((List.drop 0 d2), d3, ()), d4, d5, (d6, d7, d8, ()), ())
          else
            none
      | .inr ((d9, d10, _), d11, (d12, d13, _), d14, d15, d16, (d17, d18, d19, _), _) =>
          bif d10 then
            if ((0 + (List.length d9)) = (List.length d9)) then
              some (d14, ((List.drop 0 d9), true, ()), d15, d16, (d17, d18, d19, ()), ())
            else
              none
          else
            bif (decide ((((List.length d9) : Nat) : Int) ≥ (120 : Int))) then
              if ((0 + (List.length d9)) = (List.length d9)) then
                some (d14, ((List.drop 0 d9), true, ()), d15, d16, (d17, d18, d19, ()), ())
              else
                none
            else
              bif (!(decide ((((ByteArray.size d11) : Nat) : Int) > (120 : Int)))) then
                if (((0 + (List.length d9)) = (List.length d9)) ∧ ((((List.length d9) + (List.length (List.take 1 (List.drop 0 [((d12, (List.take (List.length d13) (List.drop 0 d13))), d11)])))) * 48) ≤ 140737488355328)) then
                  if ((0 + ((List.length d9) + (List.length (List.take 1 (List.drop 0 [((d12, (List.take (List.length d13) (List.drop 0 d13))), d11)]))))) = (List.length ((List.drop 0 d9) ++ (List.take 1 (List.drop 0 [((d12, (List.take (List.length d13) (List.drop 0 d13))), d11)]))))) then
                    some (d14, ((List.drop 0 ((List.drop 0 d9) ++ (List.take 1 (List.drop 0 [((d12, (List.take (List.length d13) (List.drop 0 d13))), d11)])))), (decide ((((ByteArray.size d11) : Nat) : Int) > (120 : Int))), ()), d15, d16, (d17, d18, d19, ()), ())
                  else
                    none
                else
                  none
              else
                if ((0 + (List.length d9)) = (List.length d9)) then
                  some (d14, ((List.drop 0 d9), (decide ((((ByteArray.size d11) : Nat) : Int) > (120 : Int))), ()), d15, d16, (d17, d18, d19, ()), ())
                else
                  none)
  else
    none
theorem spec_l8Elements_at78_eq : inlStep f48.ntmps 131 78 E30_at78 L30_at78_1 f48.results.toList (codeOf f48) shi30_at78 sho30_at78 = spec_l8Elements_at78 := by kernel_rfl
noncomputable def I30_at78 : CallD := ⟨f48.ntmps, shi30_at78, 131, sho30_at78, spec_l8Elements_at78⟩
theorem I30_at78_ok : InlOk prog 78 48 I30_at78 := inlOk_of (tysOk_of tyl_ok) E30_at78_ok (L := L30_at78_1) func48 (by kernel_rfl) (c := codeOf f48) (by kernel_rfl) (codeOk_in (L := L30_at78_1) (tysOk_of tyl_ok) E30_at78_ok mixed (c := codeOf f48) (bs := [loopOf f48 2]) (by kernel_rfl) (allCons (loop30_at78_2 rfl) allNil) (by kernel_rfl)) (by kernel_rfl) (by kernel_rfl) spec_l8Elements_at78_eq
noncomputable def E30_at107 : Env := ⟨ty0, fun g => ifEq g 47 (some A47) (ifEq g 46 (some A46) (ifEq g 67 (some A67) (ifEq g 49 (some A49) (ifEq g 50 (some A50) (ifEq g 51 (some A51) (none)))))), fun _ => none, fun _ => none, fun _ => none⟩
theorem E30_at107_ok : FnsOk prog E30_at107 := (oneFn A47_ok func47 (by kernel_rfl) (by kernel_rfl) (oneFn A46_ok func46 (by kernel_rfl) (by kernel_rfl) (oneFn A67_ok func67 (by kernel_rfl) (by kernel_rfl) (oneFn A49_ok func49 (by kernel_rfl) (by kernel_rfl) (oneFn A50_ok func50 (by kernel_rfl) (by kernel_rfl) (oneFn A51_ok func51 (by kernel_rfl) (by kernel_rfl) (noFns _ _)))))))
noncomputable def L30_at107_0 : Nat → Option LoopD := fun _ => none
def sh30_at107_2 : List Fm := [.box 100000 [.own (.pair (.pair (.int .i64) (.sl (.int .i64))) .str) 100001 true, .val .bool], d, .cell (.val .str), d, .box 100400 [.val (.int .i64), .own (.int .i64) 100402 false], d, d, d, d, d, d, .cell (.val (.sl (.pair (.pair (.int .i64) (.sl (.int .i64))) .str))), .cell (.val (.int .i64)), .cell (.val (.int .i64)), d, d, d, d, d, d, d, d, d, d, d, d, d, d, d, d, d, d, d, d, d, d, d, d, d, d, d, d, d, d, d, d, d, d, d, d, d, d, d, d, d, d, d, d, d, d, d, d, .cell (.val .bool), d, d, d, d, .ali 100000 0, .cell (.val (.sl (.pair (.pair (.int .i64) (.sl (.int .i64))) .str))), d, d, d, .cell (.val (.int .i64)), .box 107300 [.val (.int .i64), .val (.sl (.int .i64)), .val .str], d, d, .box 107600 [.val (.int .i64), .val (.sl (.int .i64)), .val .str], d, d, d, d, d, d, d, d, d, d, d, d, d, d, d, d, d, d, d, d, d, d, d, d, d, d, d, d, d, d, d, d, d, d, d, d, d, d, d, d, d, d, d, d, d, d, d, d, d, d, d, d, d, d, d, d, d, d, d, d, d, d, d, d, d, d, d, d, d, d, d, d, d, d, .cell (.val (.sl (.pair (.pair (.int .i64) (.sl (.int .i64))) .str))), .cell (.val (.int .i64)), .cell (.val (.int .i64)), d, d, d, d, d, d, d, d, d, d, d, d, d, d, d, d, d, d, d, d, d, d, d, d, d, d, d, d, d, d, d, d, d, d, d, d, d, d]
def xs30_at107_2 : List (Ex × List Fm) := [(.ret, [d, d, d, d, d, d, d, d, d, d, d, d, d, d, d, d, d, d, d, d, d, d, d, d, d, d, d, d, d, d, d, d, d, d, d, d, d, d, d, d, d, d, d, d, d, d, d, d, d, d, d, d, d, d, d, d, d, d, d, d, d, d, .cell (.val .bool), d, d, d, d, .box 106700 [.own (.pair (.pair (.int .i64) (.sl (.int .i64))) .str) 106701 true, .val .bool], .cell (.val (.sl (.pair (.pair (.int .i64) (.sl (.int .i64))) .str))), d, d, d, .cell (.val (.int .i64)), .box 107300 [.val (.int .i64), .val (.sl (.int .i64)), .val .str], d, d, .box 107600 [.val (.int .i64), .val (.sl (.int .i64)), .val .str], d, d, d, d, d, d, d, d, d, d, d, d, d, d, d, d, d, d, d, d, d, d, d, d, d, d, d, d, d, d, d, d, d, d, d, d, d, d, d, d, d, d, d, d, d, d, d, d, d, d, d, d, d, d, d, d, d, d, d, d, d, d, d, d, d, d, d, d, d, d, d, d, d, d, .cell (.val (.sl (.pair (.pair (.int .i64) (.sl (.int .i64))) .str))), .cell (.val (.int .i64)), .cell (.val (.int .i64)), d, d, d, d, d, d, d, d, d, d, d, d, d, d, d, d, d, d, d, d, d, d, d, d, d, d, d, d, d, d, d, d, d, d, d, d, d, d]), (.exit 0, [.box 100000 [.own (.pair (.pair (.int .i64) (.sl (.int .i64))) .str) 100001 true, .val .bool], d, .cell (.val .str), d, .box 100400 [.val (.int .i64), .own (.int .i64) 100402 false], d, d, d, d, d, d, d, d, d, d, d, d, d, d, d, d, d, d, d, d, d, d, d, d, d, d, d, d, d, d, d, d, d, d, d, d, d, d, d, d, d, d, d, d, d, d, d, d, d, d, d, d, d, d, d, d, d, .cell (.val .bool), d, d, d, d, .ali 100000 0, .cell (.val (.sl (.pair (.pair (.int .i64) (.sl (.int .i64))) .str))), d, d, d, .cell (.val (.int .i64)), .box 107300 [.val (.int .i64), .val (.sl (.int .i64)), .val .str], d, d, .box 107600 [.val (.int .i64), .val (.sl (.int .i64)), .val .str], d, d, d, d, d, d, d, d, d, d, d, d, d, d, d, d, d, d, d, d, d, d, d, d, d, d, d, d, d, d, d, d, d, d, d, d, d, d, d, d, d, d, d, d, d, d, d, d, d, d, d, d, d, d, d, d, d, d, d, d, d, d, d, d, d, d, d, d, d, d, d, d, d, d, .cell (.val (.sl (.pair (.pair (.int .i64) (.sl (.int .i64))) .str))), .cell (.val (.int .i64)), .cell (.val (.int .i64)), d, d, d, d, d, d, d, d, d, d, d, d, d, d, d, d, d, d, d, d, d, d, d, d, d, d, d, d, d, d, d, d, d, d, d, d, d, d])]
noncomputable def spec_l8Elements_at107_l2 : (((List ((Int × (List Int)) × ByteArray)) × Bool × Unit) × ByteArray × (Int × (List Int) × Unit) × (List ((Int × (List Int)) × ByteArray)) × Int × Int × Bool × (List ((Int × (List Int)) × ByteArray)) × Int × (Int × (List Int) × ByteArray × Unit) × (Int × (List Int) × ByteArray × Unit) × (List ((Int × (List Int)) × ByteArray)) × Int × Int × Unit) → Option ((((List ((Int × (List Int)) × ByteArray)) × Bool × Unit) × ByteArray × (Int × (List Int) × Unit) × (List ((Int × (List Int)) × ByteArray)) × Int × Int × Bool × (List ((Int × (List Int)) × ByteArray)) × Int × (Int × (List Int) × ByteArray × Unit) × (Int × (List Int) × ByteArray × Unit) × (List ((Int × (List Int)) × ByteArray)) × Int × Int × Unit) ⊕ ((Bool × ((List ((Int × (List Int)) × ByteArray)) × Bool × Unit) × (List ((Int × (List Int)) × ByteArray)) × Int × (Int × (List Int) × ByteArray × Unit) × (Int × (List Int) × ByteArray × Unit) × (List ((Int × (List Int)) × ByteArray)) × Int × Int × Unit) ⊕ (((List ((Int × (List Int)) × ByteArray)) × Bool × Unit) × ByteArray × (Int × (List Int) × Unit) × Bool × (List ((Int × (List Int)) × ByteArray)) × Int × (Int × (List Int) × ByteArray × Unit) × (Int × (List Int) × ByteArray × Unit) × (List ((Int × (List Int)) × ByteArray)) × Int × Int × Unit))) := fun ((v0_0, v0_1, _), v2, (v4_0, v4_1, _), v11, v12, v13, v62, v68, v72, (v73_0, v73_1, v73_2, _), (v76_0, v76_1, v76_2, _), v151, v152, v153, _) =>
  bif (decide (v13 < v12)) then
    if (((0 : Int) ≤ v13) ∧ (v13 < (((List.length v11) : Nat) : Int))) then
      Option.bind (spec_l2Same (List.getD v11 (Int.toNat v13) (((0 : Int), []), (⟨Array.empty⟩ : ByteArray))).1.2 (List.take (List.length v4_1) (List.drop 0 v4_1))) fun r0 =>
        bif r0 then
          if ((0 + (List.length v0_0)) = (List.length v0_0)) then
            some (Sum.inr (Sum.inl (v62, ((List.drop 0 v0_0), v0_1, ()), v68, v72, (v73_0, v73_1, v73_2, ()), (v76_0, v76_1, v76_2, ()), v151, v152, v153, ())))
          else
            none
        else
          if ((0 + (List.length v0_0)) = (List.length v0_0)) then
            some (Sum.inl (((List.drop 0 v0_0), v0_1, ()), v2, (v4_0, (List.take (List.length v4_1) (List.drop 0 v4_1)), ()), v11, v12, (IntKind.wrap .i64 (v13 + (1 : Int))), v62, v68, v72, (v73_0, v73_1, v73_2, ()), (v76_0, v76_1, v76_2, ()), v151, v152, v153, ()))
          else
            none
    else
      none
  else
    if ((0 + (List.length v0_0)) = (List.length v0_0)) then
      some (Sum.inr (Sum.inr (((List.drop 0 v0_0), v0_1, ()), v2, (v4_0, (List.take (List.length v4_1) (List.drop 0 v4_1)), ()), v62, v68, v72, (v73_0, v73_1, v73_2, ()), (v76_0, v76_1, v76_2, ()), v151, v152, v153, ())))
    else
      none
theorem spec_l8Elements_at107_l2_eq : loopStep 61 E30_at107 L30_at107_0 (loopOf f48 2) sh30_at107_2 xs30_at107_2 = spec_l8Elements_at107_l2 := by kernel_rfl
theorem loop30_at107_2 {L : Nat → Option LoopD} (h : L 2 = some ⟨61, sh30_at107_2, xs30_at107_2, spec_l8Elements_at107_l2⟩) : LoopOk prog L (loopOf f48 2) :=
  loopOk (tysOk_of tyl_ok) E30_at107_ok (codeOk_in (L := L30_at107_0) (tysOk_of tyl_ok) E30_at107_ok mixed (c := loopOf f48 2) (bs := []) (by kernel_rfl) allNil (by kernel_rfl)) (by kernel_rfl) (by kernel_rfl) spec_l8Elements_at107_l2_eq (by rw [show firstId (loopOf f48 2) = 2 from by kernel_rfl]; exact h)
noncomputable def L30_at107_1 : Nat → Option LoopD := fun n => ifEq n 2 (some ⟨61, sh30_at107_2, xs30_at107_2, spec_l8Elements_at107_l2⟩) (L30_at107_0 n)
def shi30_at107 : List Fm := [.box 100000 [.own (.pair (.pair (.int .i64) (.sl (.int .i64))) .str) 100001 true, .val .bool], .agg [.val (.int .i64), .own (.int .i64) 100102 false], .cell (.val .str), d, d, d, d, d, d, d, d, d, d, d, d, d, d, d, d, d, d, d, d, d, d, d, d, d, d, d, d, d, d, d, d, d, d, d, d, d, d, d, d, d, d, d, d, d, d, d, d, d, d, d, d, d, d, d, d, d, d, d, .cell (.val .bool), d, d, d, d, .ali 100000 0, .cell (.val (.sl (.pair (.pair (.int .i64) (.sl (.int .i64))) .str))), d, d, d, .cell (.val (.int .i64)), .box 107300 [.val (.int .i64), .val (.sl (.int .i64)), .val .str], d, d, .box 107600 [.val (.int .i64), .val (.sl (.int .i64)), .val .str], d, d, d, d, d, d, d, d, d, d, d, d, d, d, d, d, d, d, d, d, d, d, d, d, d, d, d, d, d, d, d, d, d, d, d, d, d, d, d, d, d, d, d, d, d, d, d, d, d, d, d, d, d, d, d, d, d, d, d, d, d, d, d, d, d, d, d, d, d, d, d, d, d, d, .cell (.val (.sl (.pair (.pair (.int .i64) (.sl (.int .i64))) .str))), .cell (.val (.int .i64)), .cell (.val (.int .i64)), d, d, d, d, d, d, d, d, d, d, d, d, d, d, d, d, d, d, d, d, d, d, d, d, d, d, d, d, d, d, d, d, d, d, d, d, d, d]
def sho30_at107 : List Fm := [d, .cell (.val .bool), d, d, d, d, .box 100600 [.own (.pair (.pair (.int .i64) (.sl (.int .i64))) .str) 100601 true, .val .bool], .cell (.val (.sl (.pair (.pair (.int .i64) (.sl (.int .i64))) .str))), d, d, d, .cell (.val (.int .i64)), .box 101200 [.val (.int .i64), .val (.sl (.int .i64)), .val .str], d, d, .box 101500 [.val (.int .i64), .val (.sl (.int .i64)), .val .str], d, d, d, d, d, d, d, d, d, d, d, d, d, d, d, d, d, d, d, d, d, d, d, d, d, d, d, d, d, d, d, d, d, d, d, d, d, d, d, d, d, d, d, d, d, d, d, d, d, d, d, d, d, d, d, d, d, d, d, d, d, d, d, d, d, d, d, d, d, d, d, d, d, d, .cell (.val (.sl (.pair (.pair (.int .i64) (.sl (.int .i64))) .str))), .cell (.val (.int .i64)), .cell (.val (.int .i64)), d, d, d, d, d, d, d, d, d, d, d, d, d, d, d, d, d, d, d, d, d, d, d, d, d, d, d, d, d, d, d, d, d, d, d, d, d, d]
noncomputable def spec_l8Elements_at107 : (((List ((Int × (List Int)) × ByteArray)) × Bool × Unit) × (Int × (List Int) × Unit) × ByteArray × Bool × (List ((Int × (List Int)) × ByteArray)) × Int × (Int × (List Int) × ByteArray × Unit) × (Int × (List Int) × ByteArray × Unit) × (List ((Int × (List Int)) × ByteArray)) × Int × Int × Unit) → Option (Bool × ((List ((Int × (List Int)) × ByteArray)) × Bool × Unit) × (List ((Int × (List Int)) × ByteArray)) × Int × (Int × (List Int) × ByteArray × Unit) × (Int × (List Int) × ByteArray × Unit) × (List ((Int × (List Int)) × ByteArray)) × Int × Int × Unit) := fun ((v0_0, v0_1, _), (v1_0, v1_1, _), v2, v62, v68, v72, (v73_0, v73_1, v73_2, _), (v76_0, v76_1, v76_2, _), v151, v152, v153, _) =>
  if ((0 + (List.length v0_0)) = (List.length v0_0)) then
    Option.bind (loopF spec_l8Elements_at107_l2 (((List.drop 0 v0_0), v0_1, ()), v2, (v1_0, (List.take (List.length v1_1) (List.drop 0 v1_1)), ()), (List.take (List.length v0_0) (List.drop 0 v0_0)), (((List.length v0_0) : Nat) : Int), (0 : Int), v62, v68, v72, (v73_0, v73_1, v73_2, ()), (v76_0, v76_1, v76_2, ()), v151, v152, v153, ())) fun r0 =>
      (match r0 with
      | .inl (d1, (d2, d3, _), d4, d5, (d6, d7, d8, _), (d9, d10, d11, _), d12, d13, d14, _) =>
          if ((0 + (List.length d2)) = (List.length d2)) then
            some (d1, ((List.drop 0 d2), d3, ()), d4, d5, (d6, d7, d8, ()), (d9, d10, d11, ()), d12, d13, d14, ())
          else
            none
      | .inr ((d15, d16, _), d17, (d18, d19, _), d20, d21, d22, (d23, d24, d25, _), (d26, d27, d28, _), d29, d30, d31, _) =>
          bif d16 then
            if ((0 + (List.length d15)) = (List.length d15)) then
              some (d20, ((List.drop 0 d15), true, ()), d21, d22, (d23, d24, d25, ()), (d26, d27, d28, ()), d29, d30, d31, ())
            else
              none
          else
            bif (decide ((((List.length d15) : Nat) : Int) ≥ (120 : Int))) then
              if ((0 + (List.length d15)) = (List.length d15)) then
                some (d20, ((List.drop 0 d15), true, ()), d21, d22, (d23, d24, d25, ()), (d26, d27, d28, ()), d29, d30, d31, ())
              else
                none
            else
              bif (!(decide ((((ByteArray.size d17) : Nat) : Int) > (120 : Int)))) then
                if (((0 + (List.length d15)) = (List.length d15)) ∧ ((((List.length d15) + (List.length (List.take 1 (List.drop 0 [((d18, (List.take (List.length d19) (List.drop 0 d19))), d17)])))) * 48) ≤ 140737488355328)) then
                  if ((0 + ((List.length d15) + (List.length (List.take 1 (List.drop 0 [((d18, (List.take (List.length d19) (List.drop 0 d19))), d17)]))))) = (List.length ((List.drop 0 d15) ++ (List.take 1 (List.drop 0 [((d18, (List.take (List.length d19) (List.drop 0 d19))), d17)]))))) then
                    some (d20, ((List.drop 0 ((List.drop 0 d15) ++ (List.take 1 (List.drop 0 [((d18, (List.take (List.length d19) (List.drop 0 d19))), d17)])))), (decide ((((ByteArray.size d17) : Nat) : Int) > (120 : Int))), ()), d21, d22, (d23, d24, d25, ()), (d26, d27, d28, ()), d29, d30, d31, ())
                  else
                    none
                else
                  none
              else
                if ((0 + (List.length d15)) = (List.length d15)) then
                  some (d20, ((List.drop 0 d15), (decide ((((ByteArray.size d17) : Nat) : Int) > (120 : Int))), ()), d21, d22, (d23, d24, d25, ()), (d26, d27, d28, ()), d29, d30, d31, ())
                else
                  none)
  else
    none
theorem spec_l8Elements_at107_eq : inlStep f48.ntmps 131 107 E30_at107 L30_at107_1 f48.results.toList (codeOf f48) shi30_at107 sho30_at107 = spec_l8Elements_at107 := by kernel_rfl
noncomputable def I30_at107 : CallD := ⟨f48.ntmps, shi30_at107, 131, sho30_at107, spec_l8Elements_at107⟩
theorem I30_at107_ok : InlOk prog 107 48 I30_at107 := inlOk_of (tysOk_of tyl_ok) E30_at107_ok (L := L30_at107_1) func48 (by kernel_rfl) (c := codeOf f48) (by kernel_rfl) (codeOk_in (L := L30_at107_1) (tysOk_of tyl_ok) E30_at107_ok mixed (c := codeOf f48) (bs := [loopOf f48 2]) (by kernel_rfl) (allCons (loop30_at107_2 rfl) allNil) (by kernel_rfl)) (by kernel_rfl) (by kernel_rfl) spec_l8Elements_at107_eq
noncomputable def E30_at120 : Env := ⟨ty0, fun g => ifEq g 47 (some A47) (ifEq g 46 (some A46) (ifEq g 67 (some A67) (ifEq g 49 (some A49) (ifEq g 50 (some A50) (ifEq g 51 (some A51) (none)))))), fun _ => none, fun _ => none, fun _ => none⟩
theorem E30_at120_ok : FnsOk prog E30_at120 := (oneFn A47_ok func47 (by kernel_rfl) (by kernel_rfl) (oneFn A46_ok func46 (by kernel_rfl) (by kernel_rfl) (oneFn A67_ok func67 (by kernel_rfl) (by kernel_rfl) (oneFn A49_ok func49 (by kernel_rfl) (by kernel_rfl) (oneFn A50_ok func50 (by kernel_rfl) (by kernel_rfl) (oneFn A51_ok func51 (by kernel_rfl) (by kernel_rfl) (noFns _ _)))))))
noncomputable def L30_at120_0 : Nat → Option LoopD := fun _ => none
def sh30_at120_2 : List Fm := [.box 100000 [.own (.pair (.pair (.int .i64) (.sl (.int .i64))) .str) 100001 true, .val .bool], d, .cell (.val .str), d, .box 100400 [.val (.int .i64), .own (.int .i64) 100402 false], d, d, d, d, d, d, .cell (.val (.sl (.pair (.pair (.int .i64) (.sl (.int .i64))) .str))), .cell (.val (.int .i64)), .cell (.val (.int .i64)), d, d, d, d, d, d, d, d, d, d, d, d, d, d, d, d, d, d, d, d, d, d, d, d, d, d, d, d, d, d, d, d, d, d, d, d, d, d, d, d, d, d, d, d, d, d, d, d, .cell (.val .bool), d, d, d, d, .ali 100000 0, .cell (.val (.sl (.pair (.pair (.int .i64) (.sl (.int .i64))) .str))), d, d, d, .cell (.val (.int .i64)), .box 107300 [.val (.int .i64), .val (.sl (.int .i64)), .val .str], d, d, d, d, d, d, d, d, d, d, d, d, d, d, d, d, d, d, d, d, d, d, d, d, d, d, d, d, d, d, d, d, d, d, d, d, d, d, d, d, d, d, d, d, d, d, d, d, d, d, d, d, d, d, d, d, d, d, d, d, d, d, d, d, d, d, d, d, d, d, d, d, d, d, d, d, d, .cell (.val (.sl (.pair (.pair (.int .i64) (.sl (.int .i64))) .str))), .cell (.val (.int .i64)), .cell (.val (.int .i64)), d, d, d, d, d, d, d, d, d, d, d, d, d, d, d, d, d, d, d, d, d, d, d, d, d, d, d, d, d, d, d, d, d, d, d, d, d, d]
def xs30_at120_2 : List (Ex × List Fm) := [(.ret, [d, d, d, d, d, d, d, d, d, d, d, d, d, d, d, d, d, d, d, d, d, d, d, d, d, d, d, d, d, d, d, d, d, d, d, d, d, d, d, d, d, d, d, d, d, d, d, d, d, d, d, d, d, d, d, d, d, d, d, d, d, d, .cell (.val .bool), d, d, d, d, .box 106700 [.own (.pair (.pair (.int .i64) (.sl (.int .i64))) .str) 106701 true, .val .bool], .cell (.val (.sl (.pair (.pair (.int .i64) (.sl (.int .i64))) .str))), d, d, d, .cell (.val (.int .i64)), .box 107300 [.val (.int .i64), .val (.sl (.int .i64)), .val .str], d, d, d, d, d, d, d, d, d, d, d, d, d, d, d, d, d, d, d, d, d, d, d, d, d, d, d, d, d, d, d, d, d, d, d, d, d, d, d, d, d, d, d, d, d, d, d, d, d, d, d, d, d, d, d, d, d, d, d, d, d, d, d, d, d, d, d, d, d, d, d, d, d, d, d, d, d, .cell (.val (.sl (.pair (.pair (.int .i64) (.sl (.int .i64))) .str))), .cell (.val (.int .i64)), .cell (.val (.int .i64)), d, d, d, d, d, d, d, d, d, d, d, d, d, d, d, d, d, d, d, d, d, d, d, d, d, d, d, d, d, d, d, d, d, d, d, d, d, d]), (.exit 0, [.box 100000 [.own (.pair (.pair (.int .i64) (.sl (.int .i64))) .str) 100001 true, .val .bool], d, .cell (.val .str), d, .box 100400 [.val (.int .i64), .own (.int .i64) 100402 false], d, d, d, d, d, d, d, d, d, d, d, d, d, d, d, d, d, d, d, d, d, d, d, d, d, d, d, d, d, d, d, d, d, d, d, d, d, d, d, d, d, d, d, d, d, d, d, d, d, d, d, d, d, d, d, d, d, .cell (.val .bool), d, d, d, d, .ali 100000 0, .cell (.val (.sl (.pair (.pair (.int .i64) (.sl (.int .i64))) .str))), d, d, d, .cell (.val (.int .i64)), .box 107300 [.val (.int .i64), .val (.sl (.int .i64)), .val .str], d, d, d, d, d, d, d, d, d, d, d, d, d, d, d, d, d, d, d, d, d, d, d, d, d, d, d, d, d, d, d, d, d, d, d, d, d, d, d, d, d, d, d, d, d, d, d, d, d, d, d, d, d, d, d, d, d, d, d, d, d, d, d, d, d, d, d, d, d, d, d, d, d, d, d, d, d, .cell (.val (.sl (.pair (.pair (.int .i64) (.sl (.int .i64))) .str))), .cell (.val (.int .i64)), .cell (.val (.int .i64)), d, d, d, d, d, d, d, d, d, d, d, d, d, d, d, d, d, d, d, d, d, d, d, d, d, d, d, d, d, d, d, d, d, d, d, d, d, d])]
noncomputable def spec_l8Elements_at120_l2 : (((List ((Int × (List Int)) × ByteArray)) × Bool × Unit) × ByteArray × (Int × (List Int) × Unit) × (List ((Int × (List Int)) × ByteArray)) × Int × Int × Bool × (List ((Int × (List Int)) × ByteArray)) × Int × (Int × (List Int) × ByteArray × Unit) × (List ((Int × (List Int)) × ByteArray)) × Int × Int × Unit) → Option ((((List ((Int × (List Int)) × ByteArray)) × Bool × Unit) × ByteArray × (Int × (List Int) × Unit) × (List ((Int × (List Int)) × ByteArray)) × Int × Int × Bool × (List ((Int × (List Int)) × ByteArray)) × Int × (Int × (List Int) × ByteArray × Unit) × (List ((Int × (List Int)) × ByteArray)) × Int × Int × Unit) ⊕ ((Bool × ((List ((Int × (List Int)) × ByteArray)) × Bool × Unit) × (List ((Int × (List Int)) × ByteArray)) × Int × (Int × (List Int) × ByteArray × Unit) × (List ((Int × (List Int)) × ByteArray)) × Int × Int × Unit) ⊕ (((List ((Int × (List Int)) × ByteArray)) × Bool × Unit) × ByteArray × (Int × (List Int) × Unit) × Bool × (List ((Int × (List Int)) × ByteArray)) × Int × (Int × (List Int) × ByteArray × Unit) × (List ((Int × (List Int)) × ByteArray)) × Int × Int × Unit))) := fun ((v0_0, v0_1, _), v2, (v4_0, v4_1, _), v11, v12, v13, v62, v68, v72, (v73_0, v73_1, v73_2, _), v151, v152, v153, _) =>
  bif (decide (v13 < v12)) then
    if (((0 : Int) ≤ v13) ∧ (v13 < (((List.length v11) : Nat) : Int))) then
      Option.bind (spec_l2Same (List.getD v11 (Int.toNat v13) (((0 : Int), []), (⟨Array.empty⟩ : ByteArray))).1.2 (List.take (List.length v4_1) (List.drop 0 v4_1))) fun r0 =>
        bif r0 then
          if ((0 + (List.length v0_0)) = (List.length v0_0)) then
            some (Sum.inr (Sum.inl (v62, ((List.drop 0 v0_0), v0_1, ()), v68, v72, (v73_0, v73_1, v73_2, ()), v151, v152, v153, ())))
          else
            none
        else
          if ((0 + (List.length v0_0)) = (List.length v0_0)) then
            some (Sum.inl (((List.drop 0 v0_0), v0_1, ()), v2, (v4_0, (List.take (List.length v4_1) (List.drop 0 v4_1)), ()), v11, v12, (IntKind.wrap .i64 (v13 + (1 : Int))), v62, v68, v72, (v73_0, v73_1, v73_2, ()), v151, v152, v153, ()))
          else
            none
    else
      none
  else
    if ((0 + (List.length v0_0)) = (List.length v0_0)) then
      some (Sum.inr (Sum.inr (((List.drop 0 v0_0), v0_1, ()), v2, (v4_0, (List.take (List.length v4_1) (List.drop 0 v4_1)), ()), v62, v68, v72, (v73_0, v73_1, v73_2, ()), v151, v152, v153, ())))
    else
      none
theorem spec_l8Elements_at120_l2_eq : loopStep 61 E30_at120 L30_at120_0 (loopOf f48 2) sh30_at120_2 xs30_at120_2 = spec_l8Elements_at120_l2 := by kernel_rfl
theorem loop30_at120_2 {L : Nat → Option LoopD} (h : L 2 = some ⟨61, sh30_at120_2, xs30_at120_2, spec_l8Elements_at120_l2⟩) : LoopOk prog L (loopOf f48 2) :=
  loopOk (tysOk_of tyl_ok) E30_at120_ok (codeOk_in (L := L30_at120_0) (tysOk_of tyl_ok) E30_at120_ok mixed (c := loopOf f48 2) (bs := []) (by kernel_rfl) allNil (by kernel_rfl)) (by kernel_rfl) (by kernel_rfl) spec_l8Elements_at120_l2_eq (by rw [show firstId (loopOf f48 2) = 2 from by kernel_rfl]; exact h)
noncomputable def L30_at120_1 : Nat → Option LoopD := fun n => ifEq n 2 (some ⟨61, sh30_at120_2, xs30_at120_2, spec_l8Elements_at120_l2⟩) (L30_at120_0 n)
def shi30_at120 : List Fm := [.box 100000 [.own (.pair (.pair (.int .i64) (.sl (.int .i64))) .str) 100001 true, .val .bool], .agg [.val (.int .i64), .own (.int .i64) 100102 false], .cell (.val .str), d, d, d, d, d, d, d, d, d, d, d, d, d, d, d, d, d, d, d, d, d, d, d, d, d, d, d, d, d, d, d, d, d, d, d, d, d, d, d, d, d, d, d, d, d, d, d, d, d, d, d, d, d, d, d, d, d, d, d, .cell (.val .bool), d, d, d, d, .ali 100000 0, .cell (.val (.sl (.pair (.pair (.int .i64) (.sl (.int .i64))) .str))), d, d, d, .cell (.val (.int .i64)), .box 107300 [.val (.int .i64), .val (.sl (.int .i64)), .val .str], d, d, d, d, d, d, d, d, d, d, d, d, d, d, d, d, d, d, d, d, d, d, d, d, d, d, d, d, d, d, d, d, d, d, d, d, d, d, d, d, d, d, d, d, d, d, d, d, d, d, d, d, d, d, d, d, d, d, d, d, d, d, d, d, d, d, d, d, d, d, d, d, d, d, d, d, d, .cell (.val (.sl (.pair (.pair (.int .i64) (.sl (.int .i64))) .str))), .cell (.val (.int .i64)), .cell (.val (.int .i64)), d, d, d, d, d, d, d, d, d, d, d, d, d, d, d, d, d, d, d, d, d, d, d, d, d, d, d, d, d, d, d, d, d, d, d, d, d, d]
def sho30_at120 : List Fm := [d, .cell (.val .bool), d, d, d, d, .box 100600 [.own (.pair (.pair (.int .i64) (.sl (.int .i64))) .str) 100601 true, .val .bool], .cell (.val (.sl (.pair (.pair (.int .i64) (.sl (.int .i64))) .str))), d, d, d, .cell (.val (.int .i64)), .box 101200 [.val (.int .i64), .val (.sl (.int .i64)), .val .str], d, d, d, d, d, d, d, d, d, d, d, d, d, d, d, d, d, d, d, d, d, d, d, d, d, d, d, d, d, d, d, d, d, d, d, d, d, d, d, d, d, d, d, d, d, d, d, d, d, d, d, d, d, d, d, d, d, d, d, d, d, d, d, d, d, d, d, d, d, d, d, d, d, d, d, d, d, .cell (.val (.sl (.pair (.pair (.int .i64) (.sl (.int .i64))) .str))), .cell (.val (.int .i64)), .cell (.val (.int .i64)), d, d, d, d, d, d, d, d, d, d, d, d, d, d, d, d, d, d, d, d, d, d, d, d, d, d, d, d, d, d, d, d, d, d, d, d, d, d]
noncomputable def spec_l8Elements_at120 : (((List ((Int × (List Int)) × ByteArray)) × Bool × Unit) × (Int × (List Int) × Unit) × ByteArray × Bool × (List ((Int × (List Int)) × ByteArray)) × Int × (Int × (List Int) × ByteArray × Unit) × (List ((Int × (List Int)) × ByteArray)) × Int × Int × Unit) → Option (Bool × ((List ((Int × (List Int)) × ByteArray)) × Bool × Unit) × (List ((Int × (List Int)) × ByteArray)) × Int × (Int × (List Int) × ByteArray × Unit) × (List ((Int × (List Int)) × ByteArray)) × Int × Int × Unit) := fun ((v0_0, v0_1, _), (v1_0, v1_1, _), v2, v62, v68, v72, (v73_0, v73_1, v73_2, _), v151, v152, v153, _) =>
  if ((0 + (List.length v0_0)) = (List.length v0_0)) then
    Option.bind (loopF spec_l8Elements_at120_l2 (((List.drop 0 v0_0), v0_1, ()), v2, (v1_0, (List.take (List.length v1_1) (List.drop 0 v1_1)), ()), (List.take (List.length v0_0) (List.drop 0 v0_0)), (((List.length v0_0) : Nat) : Int), (0 : Int), v62, v68, v72, (v73_0, v73_1, v73_2, ()), v151, v152, v153, ())) fun r0 =>
      (match r0 with
      | .inl (d1, (d2, d3, _), d4, d5, (d6, d7, d8, _), d9, d10, d11, _) =>
          if ((0 + (List.length d2)) = (List.length d2)) then
            some (d1, ((List.drop 0 d2), d3, ()), d4, d5, (d6, d7, d8, ()), d9, d10, d11, ())
          else
            none
      | .inr ((d12, d13, _), d14, (d15, d16, _), d17, d18, d19, (d20, d21, d22, _), d23, d24, d25, _) =>
          bif d13 then
            if ((0 + (List.length d12)) = (List.length d12)) then
              some (d17, ((List.drop 0 d12), true, ()), d18, d19, (d20, d21, d22, ()), d23, d24, d25, ())
            else
              none
          else
            bif (decide ((((List.length d12) : Nat) : Int) ≥ (120 : Int))) then
              if ((0 + (List.length d12)) = (List.length d12)) then
                some (d17, ((List.drop 0 d12), true, ()), d18, d19, (d20, d21, d22, ()), d23, d24, d25, ())
              else
                none
            else
              bif (!(decide ((((ByteArray.size d14) : Nat) : Int) > (120 : Int)))) then
                if (((0 + (List.length d12)) = (List.length d12)) ∧ ((((List.length d12) + (List.length (List.take 1 (List.drop 0 [((d15, (List.take (List.length d16) (List.drop 0 d16))), d14)])))) * 48) ≤ 140737488355328)) then
                  if ((0 + ((List.length d12) + (List.length (List.take 1 (List.drop 0 [((d15, (List.take (List.length d16) (List.drop 0 d16))), d14)]))))) = (List.length ((List.drop 0 d12) ++ (List.take 1 (List.drop 0 [((d15, (List.take (List.length d16) (List.drop 0 d16))), d14)]))))) then
                    some (d17, ((List.drop 0 ((List.drop 0 d12) ++ (List.take 1 (List.drop 0 [((d15, (List.take (List.length d16) (List.drop 0 d16))), d14)])))), (decide ((((ByteArray.size d14) : Nat) : Int) > (120 : Int))), ()), d18, d19, (d20, d21, d22, ()), d23, d24, d25, ())
                  else
                    none
                else
                  none
              else
                if ((0 + (List.length d12)) = (List.length d12)) then
                  some (d17, ((List.drop 0 d12), (decide ((((ByteArray.size d14) : Nat) : Int) > (120 : Int))), ()), d18, d19, (d20, d21, d22, ()), d23, d24, d25, ())
                else
                  none)
  else
    none
theorem spec_l8Elements_at120_eq : inlStep f48.ntmps 131 120 E30_at120 L30_at120_1 f48.results.toList (codeOf f48) shi30_at120 sho30_at120 = spec_l8Elements_at120 := by kernel_rfl
noncomputable def I30_at120 : CallD := ⟨f48.ntmps, shi30_at120, 131, sho30_at120, spec_l8Elements_at120⟩
theorem I30_at120_ok : InlOk prog 120 48 I30_at120 := inlOk_of (tysOk_of tyl_ok) E30_at120_ok (L := L30_at120_1) func48 (by kernel_rfl) (c := codeOf f48) (by kernel_rfl) (codeOk_in (L := L30_at120_1) (tysOk_of tyl_ok) E30_at120_ok mixed (c := codeOf f48) (bs := [loopOf f48 2]) (by kernel_rfl) (allCons (loop30_at120_2 rfl) allNil) (by kernel_rfl)) (by kernel_rfl) (by kernel_rfl) spec_l8Elements_at120_eq
noncomputable def E30 : Env := ⟨ty0, fun g => ifEq g 47 (some A47) (ifEq g 46 (some A46) (ifEq g 67 (some A67) (ifEq g 49 (some A49) (ifEq g 50 (some A50) (ifEq g 51 (some A51) (none)))))), fun _ => none, fun _ => none, fun d => ifI (Nat.beq d 39) (some (48, I30_at39)) (ifI (Nat.beq d 78) (some (48, I30_at78)) (ifI (Nat.beq d 107) (some (48, I30_at107)) (ifI (Nat.beq d 120) (some (48, I30_at120)) (none))))⟩
theorem E30_ok : FnsOk prog E30 := (oneIl (d0 := 39) (g0 := 48) I30_at39_ok (oneIl (d0 := 78) (g0 := 48) I30_at78_ok (oneIl (d0 := 107) (g0 := 48) I30_at107_ok (oneIl (d0 := 120) (g0 := 48) I30_at120_ok (oneFn A47_ok func47 (by kernel_rfl) (by kernel_rfl) (oneFn A46_ok func46 (by kernel_rfl) (by kernel_rfl) (oneFn A67_ok func67 (by kernel_rfl) (by kernel_rfl) (oneFn A49_ok func49 (by kernel_rfl) (by kernel_rfl) (oneFn A50_ok func50 (by kernel_rfl) (by kernel_rfl) (oneFn A51_ok func51 (by kernel_rfl) (by kernel_rfl) (noFns _ _)))))))))))
noncomputable def L30_0 : Nat → Option LoopD := fun _ => none
def sh30_4 : List Fm := [d, .cell (.val .bool), .box 100200 [.val (.int .i64), .val (.sl (.int .i64)), .val (.sl (.int .i64)), .val (.sl (.pair (.int .i64) (.pair .str (.pair (.int .i64) (.int .i64)))))], d, d, d, .box 100600 [.own (.pair (.pair (.int .i64) (.sl (.int .i64))) .str) 100601 true, .val .bool], .cell (.own (.pair (.pair (.int .i64) (.sl (.int .i64))) .str) 100700 false), d, d, d, d, d, d, d, d, d, d, d, d, .cell (.own .str 102000 false), .cell (.val (.int .i64)), .cell (.val (.int .i64)), d, d, d, d, d, d, d, d, d, d, d, d, d, d, d, d, d, d, d, d, d, d, d, d, d, d, d, d, d, d, d, d, d, d, d, d, d, d, d, d, d, d, d, d, d, d, d, d, d, d, d, d, d, d, d, d, d, d, d, d, d, d, d, d, d, d, d, d, d, d, d, d, d, d, d, d, d, d, d, d, d, d, d, d, d, d, d, d, d, d, d, d, d, d, d, d, d, d, d, d, d, d, d, d, d, d, d, d]
def xs30_4 : List (Ex × List Fm) := [(.exit 0, [d, .cell (.val .bool), d, d, d, d, .box 100600 [.own (.pair (.pair (.int .i64) (.sl (.int .i64))) .str) 100601 true, .val .bool], .cell (.own (.pair (.pair (.int .i64) (.sl (.int .i64))) .str) 100700 false), d, d, d, d, d, d, d, d, d, d, d, d, d, d, d, d, d, d, d, d, d, d, d, d, d, d, d, d, d, d, d, d, d, d, d, d, d, d, d, d, d, d, d, d, d, d, d, d, d, d, d, d, d, d, d, d, d, d, d, d, d, d, d, d, d, d, d, d, d, d, d, d, d, d, d, d, d, d, d, d, d, d, d, d, d, d, d, d, d, d, d, d, d, d, d, d, d, d, d, d, d, d, d, d, d, d, d, d, d, d, d, d, d, d, d, d, d, d, d, d, d, d, d])]
noncomputable def spec_l8Elements_l4 : (Bool × (Int × (List Int) × (List Int) × (List (Int × (ByteArray × (Int × Int)))) × Unit) × ((List ((Int × (List Int)) × ByteArray)) × Bool × Unit) × (List ((Int × (List Int)) × ByteArray)) × (List ByteArray) × Int × Int × Unit) → Option ((Bool × (Int × (List Int) × (List Int) × (List (Int × (ByteArray × (Int × Int)))) × Unit) × ((List ((Int × (List Int)) × ByteArray)) × Bool × Unit) × (List ((Int × (List Int)) × ByteArray)) × (List ByteArray) × Int × Int × Unit) ⊕ ((Bool × ((List ((Int × (List Int)) × ByteArray)) × Bool × Unit) × (List ((Int × (List Int)) × ByteArray)) × Unit))) := fun (v1, (v2_0, v2_1, v2_2, v2_3, _), (v6_0, v6_1, _), v7, v20, v21, v22, _) =>
  bif (decide (v22 < v21)) then
    if (((0 : Int) ≤ v22) ∧ (v22 < (((List.length v20) : Nat) : Int))) then
      Option.bind (spec_l3Matrix (v2_0, v2_1, v2_2, v2_3) (List.getD v20 (0 + (Int.toNat v22)) (⟨Array.empty⟩ : ByteArray))) fun (r0, r1) =>
        Option.bind (spec_l6Grades (r0, (List.take (List.length r1) (List.drop 0 r1)))) fun (r2, r3) =>
          if (((0 + (List.length v7)) = (List.length v7)) ∧ ((((List.length v7) + (List.length (List.take 1 (List.drop 0 [((r2, (List.take (List.length r3) (List.drop 0 r3))), (List.getD v20 (0 + (Int.toNat v22)) (⟨Array.empty⟩ : ByteArray)))])))) * 48) ≤ 140737488355328)) then
            if ((0 + (List.length v6_0)) = (List.length v6_0)) then
              Option.bind (spec_l8Elements_at39 (((List.drop 0 v6_0), v6_1, ()), (r2, (List.take (List.length r3) (List.drop 0 r3))), (List.getD v20 (0 + (Int.toNat v22)) (⟨Array.empty⟩ : ByteArray)), v1, (v2_0, v2_1, v2_2, v2_3, ()), (List.take ((List.length v7) + (List.length (List.take 1 (List.drop 0 [((r2, (List.take (List.length r3) (List.drop 0 r3))), (List.getD v20 (0 + (Int.toNat v22)) (⟨Array.empty⟩ : ByteArray)))])))) (List.drop 0 ((List.drop 0 v7) ++ (List.take 1 (List.drop 0 [((r2, (List.take (List.length r3) (List.drop 0 r3))), (List.getD v20 (0 + (Int.toNat v22)) (⟨Array.empty⟩ : ByteArray)))]))))), (List.take (List.length v20) (List.drop 0 v20)), v21, v22, ())) fun (r4, (r5, r6, r7, r8, _), (r9, r10, _), r11, r12, r13, r14, _) =>
                if ((0 + (List.length r9)) = (List.length r9)) then
                  some (Sum.inl (r4, (r5, r6, r7, r8, ()), ((List.drop 0 r9), r10, ()), (List.take (List.length r11) (List.drop 0 r11)), (List.take (List.length r12) (List.drop 0 r12)), r13, (IntKind.wrap .i64 (r14 + (1 : Int))), ()))
                else
                  none
            else
              none
          else
            none
    else
      none
  else
    if ((0 + (List.length v6_0)) = (List.length v6_0)) then
      some (Sum.inr (v1, ((List.drop 0 v6_0), v6_1, ()), (List.take (List.length v7) (List.drop 0 v7)), ()))
    else
      none
theorem spec_l8Elements_l4_eq : loopStep 131 E30 L30_0 (loopOf f30 4) sh30_4 xs30_4 = spec_l8Elements_l4 := by kernel_rfl
theorem loop30_4 {L : Nat → Option LoopD} (h : L 4 = some ⟨131, sh30_4, xs30_4, spec_l8Elements_l4⟩) : LoopOk prog L (loopOf f30 4) :=
  loopOk (tysOk_of tyl_ok) E30_ok (codeOk_in (L := L30_0) (tysOk_of tyl_ok) E30_ok mixed (c := loopOf f30 4) (bs := []) (by kernel_rfl) allNil (by kernel_rfl)) (by kernel_rfl) (by kernel_rfl) spec_l8Elements_l4_eq (by rw [show firstId (loopOf f30 4) = 4 from by kernel_rfl]; exact h)
noncomputable def L30_1 : Nat → Option LoopD := fun n => ifEq n 4 (some ⟨131, sh30_4, xs30_4, spec_l8Elements_l4⟩) (L30_0 n)
def sh30_20 : List Fm := [d, .cell (.val .bool), d, d, d, d, .box 100600 [.own (.pair (.pair (.int .i64) (.sl (.int .i64))) .str) 100601 true, .val .bool], .cell (.val (.sl (.pair (.pair (.int .i64) (.sl (.int .i64))) .str))), d, d, d, .cell (.val (.int .i64)), .box 101200 [.val (.int .i64), .val (.sl (.int .i64)), .val .str], d, d, d, d, d, d, d, d, d, d, d, d, d, d, d, d, d, d, d, d, d, d, d, d, d, d, d, d, d, d, d, d, d, d, d, d, d, d, d, d, d, d, d, d, d, d, d, d, d, d, d, d, d, d, d, d, d, d, d, d, d, d, d, d, d, d, d, d, d, d, d, d, d, d, d, d, d, .cell (.val (.sl (.pair (.pair (.int .i64) (.sl (.int .i64))) .str))), .cell (.val (.int .i64)), .cell (.val (.int .i64)), d, d, d, d, d, d, d, d, d, d, d, d, d, d, d, d, d, d, d, d, d, d, d, d, d, d, d, d, d, d, d, d, d, d, d, d, d, d]
def xs30_20 : List (Ex × List Fm) := [(.exit 4, [d, .cell (.val .bool), d, d, d, d, .box 100600 [.own (.pair (.pair (.int .i64) (.sl (.int .i64))) .str) 100601 true, .val .bool], .cell (.val (.sl (.pair (.pair (.int .i64) (.sl (.int .i64))) .str))), d, d, d, .cell (.val (.int .i64)), d, d, d, d, d, d, d, d, d, d, d, d, d, d, d, d, d, d, d, d, d, d, d, d, d, d, d, d, d, d, d, d, d, d, d, d, d, d, d, d, d, d, d, d, d, d, d, d, d, d, d, d, d, d, d, d, d, d, d, d, d, d, d, d, d, d, d, d, d, d, d, d, d, d, d, d, d, d, d, d, d, d, d, d, d, d, d, d, d, d, d, d, d, d, d, d, d, d, d, d, d, d, d, d, d, d, d, d, d, d, d, d, d, d, d, d, d, d, d])]
noncomputable def spec_l8Elements_l20 : (Bool × ((List ((Int × (List Int)) × ByteArray)) × Bool × Unit) × (List ((Int × (List Int)) × ByteArray)) × Int × (Int × (List Int) × ByteArray × Unit) × (List ((Int × (List Int)) × ByteArray)) × Int × Int × Unit) → Option ((Bool × ((List ((Int × (List Int)) × ByteArray)) × Bool × Unit) × (List ((Int × (List Int)) × ByteArray)) × Int × (Int × (List Int) × ByteArray × Unit) × (List ((Int × (List Int)) × ByteArray)) × Int × Int × Unit) ⊕ ((Bool × ((List ((Int × (List Int)) × ByteArray)) × Bool × Unit) × (List ((Int × (List Int)) × ByteArray)) × Int × Unit))) := fun (v1, (v6_0, v6_1, _), v7, v11, (v12_0, v12_1, v12_2, _), v90, v91, v92, _) =>
  bif (decide (v92 < v91)) then
    if (((0 : Int) ≤ v92) ∧ (v92 < (((List.length v90) : Nat) : Int))) then
      Option.bind (spec_l6Mul (v12_0, v12_1) ((List.getD v90 (Int.toNat v92) (((0 : Int), []), (⟨Array.empty⟩ : ByteArray))).1.1, (List.getD v90 (Int.toNat v92) (((0 : Int), []), (⟨Array.empty⟩ : ByteArray))).1.2)) fun (r0, r1) =>
        if (((ByteArray.size v12_2) + (ByteArray.size (List.getD v90 (Int.toNat v92) (((0 : Int), []), (⟨Array.empty⟩ : ByteArray))).2)) ≤ 9223372036854775807) then
          if ((0 + (List.length v6_0)) = (List.length v6_0)) then
            Option.bind (spec_l8Elements_at107 (((List.drop 0 v6_0), v6_1, ()), (r0, (List.take (List.length r1) (List.drop 0 r1)), ()), (v12_2 ++ (List.getD v90 (Int.toNat v92) (((0 : Int), []), (⟨Array.empty⟩ : ByteArray))).2), v1, v7, v11, (v12_0, v12_1, v12_2, ()), ((List.getD v90 (Int.toNat v92) (((0 : Int), []), (⟨Array.empty⟩ : ByteArray))).1.1, (List.getD v90 (Int.toNat v92) (((0 : Int), []), (⟨Array.empty⟩ : ByteArray))).1.2, (List.getD v90 (Int.toNat v92) (((0 : Int), []), (⟨Array.empty⟩ : ByteArray))).2, ()), v90, v91, v92, ())) fun (r2, (r3, r4, _), r5, r6, (r7, r8, r9, _), (r10, r11, r12, _), r13, r14, r15, _) =>
              bif r2 then
                Option.bind (spec_l6Mul (r10, r11) (r7, r8)) fun (r16, r17) =>
                  if (((ByteArray.size r12) + (ByteArray.size r9)) ≤ 9223372036854775807) then
                    if ((0 + (List.length r3)) = (List.length r3)) then
                      Option.bind (spec_l8Elements_at120 (((List.drop 0 r3), r4, ()), (r16, (List.take (List.length r17) (List.drop 0 r17)), ()), (r12 ++ r9), r2, r5, r6, (r7, r8, r9, ()), r13, r14, r15, ())) fun (r18, (r19, r20, _), r21, r22, (r23, r24, r25, _), r26, r27, r28, _) =>
                        if ((0 + (List.length r19)) = (List.length r19)) then
                          some (Sum.inl (r18, ((List.drop 0 r19), r20, ()), r21, r22, (r23, r24, r25, ()), r26, r27, (IntKind.wrap .i64 (r28 + (1 : Int))), ()))
                        else
                          none
                    else
                      none
                  else
                    none
              else
                if ((0 + (List.length r3)) = (List.length r3)) then
                  some (Sum.inl (r2, ((List.drop 0 r3), r4, ()), r5, r6, (r7, r8, r9, ()), r13, r14, (IntKind.wrap .i64 (r15 + (1 : Int))), ()))
                else
                  none
          else
            none
        else
          none
    else
      none
  else
    if ((0 + (List.length v6_0)) = (List.length v6_0)) then
      some (Sum.inr (v1, ((List.drop 0 v6_0), v6_1, ()), v7, v11, ()))
    else
      none
theorem spec_l8Elements_l20_eq : loopStep 131 E30 L30_1 (loopOf f30 20) sh30_20 xs30_20 = spec_l8Elements_l20 := by kernel_rfl
theorem loop30_20 {L : Nat → Option LoopD} (h : L 20 = some ⟨131, sh30_20, xs30_20, spec_l8Elements_l20⟩) : LoopOk prog L (loopOf f30 20) :=
  loopOk (tysOk_of tyl_ok) E30_ok (codeOk_in (L := L30_1) (tysOk_of tyl_ok) E30_ok mixed (c := loopOf f30 20) (bs := []) (by kernel_rfl) allNil (by kernel_rfl)) (by kernel_rfl) (by kernel_rfl) spec_l8Elements_l20_eq (by rw [show firstId (loopOf f30 20) = 20 from by kernel_rfl]; exact h)
noncomputable def L30_2 : Nat → Option LoopD := fun n => ifEq n 20 (some ⟨131, sh30_20, xs30_20, spec_l8Elements_l20⟩) (L30_1 n)
def sh30_11 : List Fm := [d, .cell (.val .bool), d, d, d, d, .box 100600 [.own (.pair (.pair (.int .i64) (.sl (.int .i64))) .str) 100601 true, .val .bool], .cell (.val (.sl (.pair (.pair (.int .i64) (.sl (.int .i64))) .str))), d, d, d, .cell (.val (.int .i64)), d, d, d, d, d, d, d, d, d, d, d, d, d, d, d, d, d, d, d, d, d, d, d, d, d, d, d, d, d, d, d, d, d, d, d, d, d, d, d, d, d, d, d, d, d, d, d, d, d, d, d, d, d, d, d, d, d, d, d, d, d, d, d, d, d, d, d, d, d, d, d, d, d, d, d, d, d, d, d, d, d, d, d, d, d, d, d, d, d, d, d, d, d, d, d, d, d, d, d, d, d, d, d, d, d, d, d, d, d, d, d, d, d, d, d, d, d, d, d]
def xs30_11 : List (Ex × List Fm) := [(.exit 2, [d, d, d, d, d, d, .box 100600 [.val (.sl (.pair (.pair (.int .i64) (.sl (.int .i64))) .str)), .val .bool], d, d, d, d, d, d, d, d, d, d, d, d, d, d, d, d, d, d, d, d, d, d, d, d, d, d, d, d, d, d, d, d, d, d, d, d, d, d, d, d, d, d, d, d, d, d, d, d, d, d, d, d, d, d, d, d, d, d, d, d, d, d, d, d, d, d, d, d, d, d, d, d, d, d, d, d, d, d, d, d, d, d, d, d, d, d, d, d, d, d, d, d, d, d, d, d, d, d, d, d, d, d, d, d, d, d, d, d, d, d, d, d, d, d, d, d, d, d, d, d, d, d, d, d])]
noncomputable def spec_l8Elements_l11 : (Bool × ((List ((Int × (List Int)) × ByteArray)) × Bool × Unit) × (List ((Int × (List Int)) × ByteArray)) × Int × Unit) → Option ((Bool × ((List ((Int × (List Int)) × ByteArray)) × Bool × Unit) × (List ((Int × (List Int)) × ByteArray)) × Int × Unit) ⊕ ((((List ((Int × (List Int)) × ByteArray)) × Bool × Unit) × Unit))) := fun (v1, (v6_0, v6_1, _), v7, v11, _) =>
  bif (decide (v11 < (((List.length v6_0) : Nat) : Int))) then
    bif (!v6_1) then
      if (((0 : Int) ≤ v11) ∧ (v11 < (((List.length v6_0) : Nat) : Int))) then
        bif v1 then
          Option.bind (spec_l6Idempotent ((List.getD v6_0 (0 + (Int.toNat v11)) (((0 : Int), []), (⟨Array.empty⟩ : ByteArray))).1.1, (List.getD v6_0 (0 + (Int.toNat v11)) (((0 : Int), []), (⟨Array.empty⟩ : ByteArray))).1.2)) fun r0 =>
            bif r0 then
              Option.bind (spec_l6Stable ((List.getD v6_0 (0 + (Int.toNat v11)) (((0 : Int), []), (⟨Array.empty⟩ : ByteArray))).1.1, (List.getD v6_0 (0 + (Int.toNat v11)) (((0 : Int), []), (⟨Array.empty⟩ : ByteArray))).1.2)) fun (r1, r2) =>
                if (((ByteArray.size (⟨#[(40 : UInt8)]⟩ : ByteArray)) + (ByteArray.size (List.getD v6_0 (0 + (Int.toNat v11)) (((0 : Int), []), (⟨Array.empty⟩ : ByteArray))).2)) ≤ 9223372036854775807) then
                  if (((ByteArray.size ((⟨#[(40 : UInt8)]⟩ : ByteArray) ++ (List.getD v6_0 (0 + (Int.toNat v11)) (((0 : Int), []), (⟨Array.empty⟩ : ByteArray))).2)) + (ByteArray.size (⟨#[(41 : UInt8), (35 : UInt8)]⟩ : ByteArray))) ≤ 9223372036854775807) then
                    if ((0 + (List.length v6_0)) = (List.length v6_0)) then
                      Option.bind (spec_l8Elements_at78 (((List.drop 0 v6_0), v6_1, ()), (r1, (List.take (List.length r2) (List.drop 0 r2)), ()), (((⟨#[(40 : UInt8)]⟩ : ByteArray) ++ (List.getD v6_0 (0 + (Int.toNat v11)) (((0 : Int), []), (⟨Array.empty⟩ : ByteArray))).2) ++ (⟨#[(41 : UInt8), (35 : UInt8)]⟩ : ByteArray)), v1, v7, v11, ((List.getD v6_0 (0 + (Int.toNat v11)) (((0 : Int), []), (⟨Array.empty⟩ : ByteArray))).1.1, (List.getD v6_0 (0 + (Int.toNat v11)) (((0 : Int), []), (⟨Array.empty⟩ : ByteArray))).1.2, (List.getD v6_0 (0 + (Int.toNat v11)) (((0 : Int), []), (⟨Array.empty⟩ : ByteArray))).2, ()), ())) fun (r3, (r4, r5, _), r6, r7, (r8, r9, r10, _), _) =>
                        bif r3 then
                          if (((0 : Int) ≤ (IntKind.wrap .i64 (r7 + (1 : Int)))) ∧ ((IntKind.wrap .i64 (r7 + (1 : Int))) ≤ (((List.length r4) : Nat) : Int))) then
                            if (((0 + 0) = (List.length ([] : List Unit))) ∧ (((0 + (List.length (List.take ((Int.toNat (IntKind.wrap .i64 (r7 + (1 : Int)))) - 0) (List.drop (0 + 0) r4)))) * 48) ≤ 140737488355328)) then
                              if ((0 + (List.length r4)) = (List.length r4)) then
                                Option.bind (loopF spec_l8Elements_l20 (r3, ((List.drop 0 r4), r5, ()), r6, r7, (r8, r9, r10, ()), (List.take (0 + (List.length (List.take ((Int.toNat (IntKind.wrap .i64 (r7 + (1 : Int)))) - 0) (List.drop (0 + 0) r4)))) (List.drop 0 ((List.drop 0 []) ++ (List.take ((Int.toNat (IntKind.wrap .i64 (r7 + (1 : Int)))) - 0) (List.drop (0 + 0) r4))))), (((0 + (List.length (List.take ((Int.toNat (IntKind.wrap .i64 (r7 + (1 : Int)))) - 0) (List.drop (0 + 0) r4)))) : Nat) : Int), (0 : Int), ())) fun (r11, (r12, r13, _), r14, r15, _) =>
                                  if ((0 + (List.length r12)) = (List.length r12)) then
                                    some (Sum.inl (r11, ((List.drop 0 r12), r13, ()), r14, (IntKind.wrap .i64 (r15 + (1 : Int))), ()))
                                  else
                                    none
                              else
                                none
                            else
                              none
                          else
                            none
                        else
                          if ((0 + (List.length r4)) = (List.length r4)) then
                            Option.bind (loopF spec_l8Elements_l20 (r3, ((List.drop 0 r4), r5, ()), r6, r7, (r8, r9, r10, ()), r6, (((List.length r6) : Nat) : Int), (0 : Int), ())) fun (r16, (r17, r18, _), r19, r20, _) =>
                              if ((0 + (List.length r17)) = (List.length r17)) then
                                some (Sum.inl (r16, ((List.drop 0 r17), r18, ()), r19, (IntKind.wrap .i64 (r20 + (1 : Int))), ()))
                              else
                                none
                          else
                            none
                    else
                      none
                  else
                    none
                else
                  none
            else
              bif v1 then
                if (((0 : Int) ≤ (IntKind.wrap .i64 (v11 + (1 : Int)))) ∧ ((IntKind.wrap .i64 (v11 + (1 : Int))) ≤ (((List.length v6_0) : Nat) : Int))) then
                  if (((0 + 0) = (List.length ([] : List Unit))) ∧ (((0 + (List.length (List.take ((Int.toNat (IntKind.wrap .i64 (v11 + (1 : Int)))) - 0) (List.drop (0 + 0) v6_0)))) * 48) ≤ 140737488355328)) then
                    if ((0 + (List.length v6_0)) = (List.length v6_0)) then
                      Option.bind (loopF spec_l8Elements_l20 (v1, ((List.drop 0 v6_0), v6_1, ()), v7, v11, ((List.getD v6_0 (0 + (Int.toNat v11)) (((0 : Int), []), (⟨Array.empty⟩ : ByteArray))).1.1, (List.getD v6_0 (0 + (Int.toNat v11)) (((0 : Int), []), (⟨Array.empty⟩ : ByteArray))).1.2, (List.getD v6_0 (0 + (Int.toNat v11)) (((0 : Int), []), (⟨Array.empty⟩ : ByteArray))).2, ()), (List.take (0 + (List.length (List.take ((Int.toNat (IntKind.wrap .i64 (v11 + (1 : Int)))) - 0) (List.drop (0 + 0) v6_0)))) (List.drop 0 ((List.drop 0 []) ++ (List.take ((Int.toNat (IntKind.wrap .i64 (v11 + (1 : Int)))) - 0) (List.drop (0 + 0) v6_0))))), (((0 + (List.length (List.take ((Int.toNat (IntKind.wrap .i64 (v11 + (1 : Int)))) - 0) (List.drop (0 + 0) v6_0)))) : Nat) : Int), (0 : Int), ())) fun (r21, (r22, r23, _), r24, r25, _) =>
                        if ((0 + (List.length r22)) = (List.length r22)) then
                          some (Sum.inl (r21, ((List.drop 0 r22), r23, ()), r24, (IntKind.wrap .i64 (r25 + (1 : Int))), ()))
                        else
                          none
                    else
                      none
                  else
                    none
                else
                  none
              else
                if ((0 + (List.length v6_0)) = (List.length v6_0)) then
                  Option.bind (loopF spec_l8Elements_l20 (v1, ((List.drop 0 v6_0), v6_1, ()), v7, v11, ((List.getD v6_0 (0 + (Int.toNat v11)) (((0 : Int), []), (⟨Array.empty⟩ : ByteArray))).1.1, (List.getD v6_0 (0 + (Int.toNat v11)) (((0 : Int), []), (⟨Array.empty⟩ : ByteArray))).1.2, (List.getD v6_0 (0 + (Int.toNat v11)) (((0 : Int), []), (⟨Array.empty⟩ : ByteArray))).2, ()), v7, (((List.length v7) : Nat) : Int), (0 : Int), ())) fun (r26, (r27, r28, _), r29, r30, _) =>
                    if ((0 + (List.length r27)) = (List.length r27)) then
                      some (Sum.inl (r26, ((List.drop 0 r27), r28, ()), r29, (IntKind.wrap .i64 (r30 + (1 : Int))), ()))
                    else
                      none
                else
                  none
        else
          bif v1 then
            if (((0 : Int) ≤ (IntKind.wrap .i64 (v11 + (1 : Int)))) ∧ ((IntKind.wrap .i64 (v11 + (1 : Int))) ≤ (((List.length v6_0) : Nat) : Int))) then
              if (((0 + 0) = (List.length ([] : List Unit))) ∧ (((0 + (List.length (List.take ((Int.toNat (IntKind.wrap .i64 (v11 + (1 : Int)))) - 0) (List.drop (0 + 0) v6_0)))) * 48) ≤ 140737488355328)) then
                if ((0 + (List.length v6_0)) = (List.length v6_0)) then
                  Option.bind (loopF spec_l8Elements_l20 (v1, ((List.drop 0 v6_0), v6_1, ()), v7, v11, ((List.getD v6_0 (0 + (Int.toNat v11)) (((0 : Int), []), (⟨Array.empty⟩ : ByteArray))).1.1, (List.getD v6_0 (0 + (Int.toNat v11)) (((0 : Int), []), (⟨Array.empty⟩ : ByteArray))).1.2, (List.getD v6_0 (0 + (Int.toNat v11)) (((0 : Int), []), (⟨Array.empty⟩ : ByteArray))).2, ()), (List.take (0 + (List.length (List.take ((Int.toNat (IntKind.wrap .i64 (v11 + (1 : Int)))) - 0) (List.drop (0 + 0) v6_0)))) (List.drop 0 ((List.drop 0 []) ++ (List.take ((Int.toNat (IntKind.wrap .i64 (v11 + (1 : Int)))) - 0) (List.drop (0 + 0) v6_0))))), (((0 + (List.length (List.take ((Int.toNat (IntKind.wrap .i64 (v11 + (1 : Int)))) - 0) (List.drop (0 + 0) v6_0)))) : Nat) : Int), (0 : Int), ())) fun (r31, (r32, r33, _), r34, r35, _) =>
                    if ((0 + (List.length r32)) = (List.length r32)) then
                      some (Sum.inl (r31, ((List.drop 0 r32), r33, ()), r34, (IntKind.wrap .i64 (r35 + (1 : Int))), ()))
                    else
                      none
                else
                  none
              else
                none
            else
              none
          else
            if ((0 + (List.length v6_0)) = (List.length v6_0)) then
              Option.bind (loopF spec_l8Elements_l20 (v1, ((List.drop 0 v6_0), v6_1, ()), v7, v11, ((List.getD v6_0 (0 + (Int.toNat v11)) (((0 : Int), []), (⟨Array.empty⟩ : ByteArray))).1.1, (List.getD v6_0 (0 + (Int.toNat v11)) (((0 : Int), []), (⟨Array.empty⟩ : ByteArray))).1.2, (List.getD v6_0 (0 + (Int.toNat v11)) (((0 : Int), []), (⟨Array.empty⟩ : ByteArray))).2, ()), v7, (((List.length v7) : Nat) : Int), (0 : Int), ())) fun (r36, (r37, r38, _), r39, r40, _) =>
                if ((0 + (List.length r37)) = (List.length r37)) then
                  some (Sum.inl (r36, ((List.drop 0 r37), r38, ()), r39, (IntKind.wrap .i64 (r40 + (1 : Int))), ()))
                else
                  none
            else
              none
      else
        none
    else
      some (Sum.inr (((List.take (List.length v6_0) (List.drop 0 v6_0)), v6_1, ()), ()))
  else
    some (Sum.inr (((List.take (List.length v6_0) (List.drop 0 v6_0)), v6_1, ()), ()))
theorem spec_l8Elements_l11_eq : loopStep 131 E30 L30_2 (loopOf f30 11) sh30_11 xs30_11 = spec_l8Elements_l11 := by kernel_rfl
theorem loop30_11 {L : Nat → Option LoopD} (h : L 11 = some ⟨131, sh30_11, xs30_11, spec_l8Elements_l11⟩) : LoopOk prog L (loopOf f30 11) :=
  loopOk (tysOk_of tyl_ok) E30_ok (codeOk_in (L := L30_2) (tysOk_of tyl_ok) E30_ok mixed (c := loopOf f30 11) (bs := [loopOf f30 20]) (by kernel_rfl) (allCons (loop30_20 rfl) allNil) (by kernel_rfl)) (by kernel_rfl) (by kernel_rfl) spec_l8Elements_l11_eq (by rw [show firstId (loopOf f30 11) = 11 from by kernel_rfl]; exact h)
noncomputable def L30_3 : Nat → Option LoopD := fun n => ifEq n 11 (some ⟨131, sh30_11, xs30_11, spec_l8Elements_l11⟩) (L30_2 n)
noncomputable def spec_l8Elements : (Int × ((List Int) × ((List Int) × (List (Int × (ByteArray × (Int × Int))))))) → Bool → Option ((List ((Int × (List Int)) × ByteArray)) × Bool) := fun (a0_0, a0_1, a0_2, a0_3) a1 =>
  if ((0 + 0) = (List.length ([] : List Unit))) then
    Option.bind (loopF spec_l8Elements_l4 (a1, (a0_0, a0_1, a0_2, a0_3, ()), ((List.drop 0 []), false, ()), (List.take 0 (List.drop 0 [])), (List.take 2 (List.drop 0 [(⟨#[(97 : UInt8)]⟩ : ByteArray), (⟨#[(98 : UInt8)]⟩ : ByteArray)])), ((2 : Nat) : Int), (0 : Int), ())) fun (r0, (r1, r2, _), r3, _) =>
      if ((0 + (List.length r1)) = (List.length r1)) then
        Option.bind (loopF spec_l8Elements_l11 (r0, ((List.drop 0 r1), r2, ()), (List.take (List.length r3) (List.drop 0 r3)), (0 : Int), ())) fun ((r4, r5, _), _) =>
          some (r4, (!r5))
      else
        none
  else
    none
noncomputable def A30 : FnA := ⟨[.v (.pair (.int .i64) (.pair (.sl (.int .i64)) (.pair (.sl (.int .i64)) (.sl (.pair (.int .i64) (.pair .str (.pair (.int .i64) (.int .i64)))))))), .v .bool], false, [.sl (.pair (.pair (.int .i64) (.sl (.int .i64))) .str), .bool], fun x => spec_l8Elements x.1 x.2.1⟩
theorem spec_l8Elements_eq : fnF E30 L30_3 [.v (.pair (.int .i64) (.pair (.sl (.int .i64)) (.pair (.sl (.int .i64)) (.sl (.pair (.int .i64) (.pair .str (.pair (.int .i64) (.int .i64)))))))), .v .bool] false [.sl (.pair (.pair (.int .i64) (.sl (.int .i64))) .str), .bool] f30.ntmps f30.results.toList (codeOf f30) = fun x => spec_l8Elements x.1 x.2.1 := by kernel_rfl
theorem A30_ok : FnOk prog 30 A30 := by
  have h := fnOk_of_run (P := prog) (E := E30) (tysOk_of tyl_ok) E30_ok (L := L30_3) (ps := [.v (.pair (.int .i64) (.pair (.sl (.int .i64)) (.pair (.sl (.int .i64)) (.sl (.pair (.int .i64) (.pair .str (.pair (.int .i64) (.int .i64)))))))), .v .bool]) (own := false) (outs := [.sl (.pair (.pair (.int .i64) (.sl (.int .i64))) .str), .bool]) func30 (c := codeOf f30) (by kernel_rfl) (codeOk_in (L := L30_3) (tysOk_of tyl_ok) E30_ok mixed (c := codeOf f30) (bs := [loopOf f30 4, loopOf f30 11]) (by kernel_rfl) (allCons (loop30_4 rfl) (allCons (loop30_11 rfl) allNil)) (by kernel_rfl))
  rw [spec_l8Elements_eq] at h
  exact h
/-! spec.l8RawElementsOf -/
noncomputable def E21 : Env := ⟨ty0, fun g => ifEq g 29 (some A29) (ifEq g 30 (some A30) (none)), fun _ => none, fun _ => none, fun _ => none⟩
theorem E21_ok : FnsOk prog E21 := (oneFn A29_ok func29 (by kernel_rfl) (by kernel_rfl) (oneFn A30_ok func30 (by kernel_rfl) (by kernel_rfl) (noFns _ _)))
noncomputable def L21_0 : Nat → Option LoopD := fun _ => none
noncomputable def spec_l8RawElementsOf : (Int × ((List Int) × ((List Int) × (List (Int × (ByteArray × (Int × Int))))))) → Option ((List ((Int × (List Int)) × ByteArray)) × Bool) := fun (a0_0, a0_1, a0_2, a0_3) =>
  Option.bind (spec_AutomatonValid (a0_0, a0_1, a0_2, a0_3)) fun r0 =>
    bif (!r0) then
      some ((List.take 0 (List.drop 0 [])), false)
    else
      Option.bind (spec_l8Elements (a0_0, a0_1, a0_2, a0_3) true) fun (r1, r2) =>
        bif (!r2) then
          some ((List.take 0 (List.drop 0 [])), false)
        else
          some (r1, true)
noncomputable def A21 : FnA := ⟨[.v (.pair (.int .i64) (.pair (.sl (.int .i64)) (.pair (.sl (.int .i64)) (.sl (.pair (.int .i64) (.pair .str (.pair (.int .i64) (.int .i64))))))))], false, [.sl (.pair (.pair (.int .i64) (.sl (.int .i64))) .str), .bool], fun x => spec_l8RawElementsOf x.1⟩
theorem spec_l8RawElementsOf_eq : fnF E21 L21_0 [.v (.pair (.int .i64) (.pair (.sl (.int .i64)) (.pair (.sl (.int .i64)) (.sl (.pair (.int .i64) (.pair .str (.pair (.int .i64) (.int .i64))))))))] false [.sl (.pair (.pair (.int .i64) (.sl (.int .i64))) .str), .bool] f21.ntmps f21.results.toList (codeOf f21) = fun x => spec_l8RawElementsOf x.1 := by kernel_rfl
theorem A21_ok : FnOk prog 21 A21 := by
  have h := fnOk_of_run (P := prog) (E := E21) (tysOk_of tyl_ok) E21_ok (L := L21_0) (ps := [.v (.pair (.int .i64) (.pair (.sl (.int .i64)) (.pair (.sl (.int .i64)) (.sl (.pair (.int .i64) (.pair .str (.pair (.int .i64) (.int .i64))))))))]) (own := false) (outs := [.sl (.pair (.pair (.int .i64) (.sl (.int .i64))) .str), .bool]) func21 (c := codeOf f21) (by kernel_rfl) (codeOk_in (L := L21_0) (tysOk_of tyl_ok) E21_ok mixed (c := codeOf f21) (bs := []) (by kernel_rfl) allNil (by kernel_rfl))
  rw [spec_l8RawElementsOf_eq] at h
  exact h
/-! spec.l13OwnMatrix -/
noncomputable def E52 : Env := ⟨ty0, fun _ => none, fun _ => none, fun _ => none, fun _ => none⟩
theorem E52_ok : FnsOk prog E52 := (noFns _ _)
noncomputable def L52_0 : Nat → Option LoopD := fun _ => none
noncomputable def spec_l13OwnMatrix : (Int × (List Int)) → Option ((Int × (List Int))) := fun (a0_0, a0_1) =>
  if (((0 + 0) = (List.length ([] : List Unit))) ∧ (((0 + (List.length a0_1)) * 8) ≤ 140737488355328)) then
    some (a0_0, (List.take (0 + (List.length a0_1)) (List.drop 0 ((List.drop 0 []) ++ a0_1))))
  else
    none
noncomputable def A52 : FnA := ⟨[.v (.pair (.int .i64) (.sl (.int .i64)))], true, [.pair (.int .i64) (.sl (.int .i64))], fun x => spec_l13OwnMatrix x.1⟩
theorem spec_l13OwnMatrix_eq : fnF E52 L52_0 [.v (.pair (.int .i64) (.sl (.int .i64)))] true [.pair (.int .i64) (.sl (.int .i64))] f52.ntmps f52.results.toList (codeOf f52) = fun x => spec_l13OwnMatrix x.1 := by kernel_rfl
theorem A52_ok : FnOk prog 52 A52 := by
  have h := fnOk_of_run (P := prog) (E := E52) (tysOk_of tyl_ok) E52_ok (L := L52_0) (ps := [.v (.pair (.int .i64) (.sl (.int .i64)))]) (own := true) (outs := [.pair (.int .i64) (.sl (.int .i64))]) func52 (c := codeOf f52) (by kernel_rfl) (codeOk_in (L := L52_0) (tysOk_of tyl_ok) E52_ok mixed (c := codeOf f52) (bs := []) (by kernel_rfl) allNil (by kernel_rfl))
  rw [spec_l13OwnMatrix_eq] at h
  exact h
/-! spec.l13OwnElement -/
noncomputable def E31 : Env := ⟨ty0, fun g => ifEq g 52 (some A52) (none), fun _ => none, fun _ => none, fun _ => none⟩
theorem E31_ok : FnsOk prog E31 := (oneFn A52_ok func52 (by kernel_rfl) (by kernel_rfl) (noFns _ _))
noncomputable def L31_0 : Nat → Option LoopD := fun _ => none
noncomputable def spec_l13OwnElement : ((Int × (List Int)) × ByteArray) → Option (((Int × (List Int)) × ByteArray)) := fun ((a0_0, a0_1), a0_2) =>
  Option.bind (spec_l13OwnMatrix (a0_0, a0_1)) fun (r0, r1) =>
    some ((r0, (List.take (List.length r1) (List.drop 0 r1))), a0_2)
noncomputable def A31 : FnA := ⟨[.v (.pair (.pair (.int .i64) (.sl (.int .i64))) .str)], true, [.pair (.pair (.int .i64) (.sl (.int .i64))) .str], fun x => spec_l13OwnElement x.1⟩
theorem spec_l13OwnElement_eq : fnF E31 L31_0 [.v (.pair (.pair (.int .i64) (.sl (.int .i64))) .str)] true [.pair (.pair (.int .i64) (.sl (.int .i64))) .str] f31.ntmps f31.results.toList (codeOf f31) = fun x => spec_l13OwnElement x.1 := by kernel_rfl
theorem A31_ok : FnOk prog 31 A31 := by
  have h := fnOk_of_run (P := prog) (E := E31) (tysOk_of tyl_ok) E31_ok (L := L31_0) (ps := [.v (.pair (.pair (.int .i64) (.sl (.int .i64))) .str)]) (own := true) (outs := [.pair (.pair (.int .i64) (.sl (.int .i64))) .str]) func31 (c := codeOf f31) (by kernel_rfl) (codeOk_in (L := L31_0) (tysOk_of tyl_ok) E31_ok mixed (c := codeOf f31) (bs := []) (by kernel_rfl) allNil (by kernel_rfl))
  rw [spec_l13OwnElement_eq] at h
  exact h
/-! spec.l13OwnListElement -/
noncomputable def E22 : Env := ⟨ty0, fun g => ifEq g 31 (some A31) (none), fun _ => none, fun _ => none, fun _ => none⟩
theorem E22_ok : FnsOk prog E22 := (oneFn A31_ok func31 (by kernel_rfl) (by kernel_rfl) (noFns _ _))
noncomputable def L22_0 : Nat → Option LoopD := fun _ => none
def sh22_3 : List Fm := [d, d, d, .cell (.own (.pair (.pair (.int .i64) (.sl (.int .i64))) .str) 100300 false), d, d, d, .cell (.val (.sl (.pair (.pair (.int .i64) (.sl (.int .i64))) .str))), .cell (.val (.int .i64)), .cell (.val (.int .i64)), d, d, d, d, d, d, d, d, d, d]
def xs22_3 : List (Ex × List Fm) := [(.exit 0, [d, d, d, .cell (.own (.pair (.pair (.int .i64) (.sl (.int .i64))) .str) 100300 false), d, d, d, d, d, d, d, d, d, d, d, d, d, d, d, d])]
noncomputable def spec_l13OwnListElement_l3 : ((List ((Int × (List Int)) × ByteArray)) × (List ((Int × (List Int)) × ByteArray)) × Int × Int × Unit) → Option (((List ((Int × (List Int)) × ByteArray)) × (List ((Int × (List Int)) × ByteArray)) × Int × Int × Unit) ⊕ (((List ((Int × (List Int)) × ByteArray)) × Unit))) := fun (v3, v7, v8, v9, _) =>
  bif (decide (v9 < v8)) then
    if (((0 : Int) ≤ v9) ∧ (v9 < (((List.length v7) : Nat) : Int))) then
      Option.bind (spec_l13OwnElement (((List.getD v7 (Int.toNat v9) (((0 : Int), []), (⟨Array.empty⟩ : ByteArray))).1.1, (List.getD v7 (Int.toNat v9) (((0 : Int), []), (⟨Array.empty⟩ : ByteArray))).1.2), (List.getD v7 (Int.toNat v9) (((0 : Int), []), (⟨Array.empty⟩ : ByteArray))).2)) fun ((r0, r1), r2) =>
        if (((0 + (List.length v3)) = (List.length v3)) ∧ ((((List.length v3) + (List.length (List.take 1 (List.drop 0 [((r0, (List.take (List.length r1) (List.drop 0 r1))), r2)])))) * 48) ≤ 140737488355328)) then
          some (Sum.inl ((List.take ((List.length v3) + (List.length (List.take 1 (List.drop 0 [((r0, (List.take (List.length r1) (List.drop 0 r1))), r2)])))) (List.drop 0 ((List.drop 0 v3) ++ (List.take 1 (List.drop 0 [((r0, (List.take (List.length r1) (List.drop 0 r1))), r2)]))))), v7, v8, (IntKind.wrap .i64 (v9 + (1 : Int))), ()))
        else
          none
    else
      none
  else
    some (Sum.inr ((List.take (List.length v3) (List.drop 0 v3)), ()))
theorem spec_l13OwnListElement_l3_eq : loopStep 20 E22 L22_0 (loopOf f22 3) sh22_3 xs22_3 = spec_l13OwnListElement_l3 := by kernel_rfl
theorem loop22_3 {L : Nat → Option LoopD} (h : L 3 = some ⟨20, sh22_3, xs22_3, spec_l13OwnListElement_l3⟩) : LoopOk prog L (loopOf f22 3) :=
  loopOk (tysOk_of tyl_ok) E22_ok (codeOk_in (L := L22_0) (tysOk_of tyl_ok) E22_ok mixed (c := loopOf f22 3) (bs := []) (by kernel_rfl) allNil (by kernel_rfl)) (by kernel_rfl) (by kernel_rfl) spec_l13OwnListElement_l3_eq (by rw [show firstId (loopOf f22 3) = 3 from by kernel_rfl]; exact h)
noncomputable def L22_1 : Nat → Option LoopD := fun n => ifEq n 3 (some ⟨20, sh22_3, xs22_3, spec_l13OwnListElement_l3⟩) (L22_0 n)
noncomputable def spec_l13OwnListElement : (List ((Int × (List Int)) × ByteArray)) → Option ((List ((Int × (List Int)) × ByteArray))) := fun a0 =>
  Option.bind (loopF spec_l13OwnListElement_l3 ((List.take 0 (List.drop 0 [])), a0, (((List.length a0) : Nat) : Int), (0 : Int), ())) fun (r0, _) =>
    some (List.take (List.length r0) (List.drop 0 r0))
noncomputable def A22 : FnA := ⟨[.v (.sl (.pair (.pair (.int .i64) (.sl (.int .i64))) .str))], true, [.sl (.pair (.pair (.int .i64) (.sl (.int .i64))) .str)], fun x => spec_l13OwnListElement x.1⟩
theorem spec_l13OwnListElement_eq : fnF E22 L22_1 [.v (.sl (.pair (.pair (.int .i64) (.sl (.int .i64))) .str))] true [.sl (.pair (.pair (.int .i64) (.sl (.int .i64))) .str)] f22.ntmps f22.results.toList (codeOf f22) = fun x => spec_l13OwnListElement x.1 := by kernel_rfl
theorem A22_ok : FnOk prog 22 A22 := by
  have h := fnOk_of_run (P := prog) (E := E22) (tysOk_of tyl_ok) E22_ok (L := L22_1) (ps := [.v (.sl (.pair (.pair (.int .i64) (.sl (.int .i64))) .str))]) (own := true) (outs := [.sl (.pair (.pair (.int .i64) (.sl (.int .i64))) .str)]) func22 (c := codeOf f22) (by kernel_rfl) (codeOk_in (L := L22_1) (tysOk_of tyl_ok) E22_ok mixed (c := codeOf f22) (bs := [loopOf f22 3]) (by kernel_rfl) (allCons (loop22_3 rfl) allNil) (by kernel_rfl))
  rw [spec_l13OwnListElement_eq] at h
  exact h
/-! spec.ElementsOf -/
noncomputable def E11 : Env := ⟨ty0, fun g => ifEq g 21 (some A21) (ifEq g 22 (some A22) (none)), fun _ => none, fun _ => none, fun _ => none⟩
theorem E11_ok : FnsOk prog E11 := (oneFn A21_ok func21 (by kernel_rfl) (by kernel_rfl) (oneFn A22_ok func22 (by kernel_rfl) (by kernel_rfl) (noFns _ _)))
noncomputable def L11_0 : Nat → Option LoopD := fun _ => none
noncomputable def spec_ElementsOf : (Int × ((List Int) × ((List Int) × (List (Int × (ByteArray × (Int × Int))))))) → Option ((List ((Int × (List Int)) × ByteArray)) × Bool) := fun (a0_0, a0_1, a0_2, a0_3) =>
  Option.bind (spec_l8RawElementsOf (a0_0, a0_1, a0_2, a0_3)) fun (r0, r1) =>
    Option.bind (spec_l13OwnListElement r0) fun r2 =>
      some ((List.take (List.length r2) (List.drop 0 r2)), r1)
noncomputable def A11 : FnA := ⟨[.v (.pair (.int .i64) (.pair (.sl (.int .i64)) (.pair (.sl (.int .i64)) (.sl (.pair (.int .i64) (.pair .str (.pair (.int .i64) (.int .i64))))))))], true, [.sl (.pair (.pair (.int .i64) (.sl (.int .i64))) .str), .bool], fun x => spec_ElementsOf x.1⟩
theorem spec_ElementsOf_eq : fnF E11 L11_0 [.v (.pair (.int .i64) (.pair (.sl (.int .i64)) (.pair (.sl (.int .i64)) (.sl (.pair (.int .i64) (.pair .str (.pair (.int .i64) (.int .i64))))))))] true [.sl (.pair (.pair (.int .i64) (.sl (.int .i64))) .str), .bool] f11.ntmps f11.results.toList (codeOf f11) = fun x => spec_ElementsOf x.1 := by kernel_rfl
theorem A11_ok : FnOk prog 11 A11 := by
  have h := fnOk_of_run (P := prog) (E := E11) (tysOk_of tyl_ok) E11_ok (L := L11_0) (ps := [.v (.pair (.int .i64) (.pair (.sl (.int .i64)) (.pair (.sl (.int .i64)) (.sl (.pair (.int .i64) (.pair .str (.pair (.int .i64) (.int .i64))))))))]) (own := true) (outs := [.sl (.pair (.pair (.int .i64) (.sl (.int .i64))) .str), .bool]) func11 (c := codeOf f11) (by kernel_rfl) (codeOk_in (L := L11_0) (tysOk_of tyl_ok) E11_ok mixed (c := codeOf f11) (bs := []) (by kernel_rfl) allNil (by kernel_rfl))
  rw [spec_ElementsOf_eq] at h
  exact h
/-! spec.l6Between -/
noncomputable def E12 : Env := ⟨ty0, fun _ => none, fun _ => none, fun _ => none, fun _ => none⟩
theorem E12_ok : FnsOk prog E12 := (noFns _ _)
noncomputable def L12_0 : Nat → Option LoopD := fun _ => none
def sh12_6 : List Fm := [d, d, .box 100200 [.val (.int .i64), .val (.sl (.int .i64)), .val (.sl (.int .i64)), .val (.sl (.pair (.int .i64) (.pair .str (.pair (.int .i64) (.int .i64)))))], .box 100300 [.val (.int .i64), .val (.sl (.int .i64))], d, .cell (.val (.int .i64)), d, .cell (.val (.int .i64)), d, d, d, .cell (.val (.sl (.int .i64))), .cell (.val (.int .i64)), .cell (.val (.int .i64)), d, d, d, d, .cell (.val (.sl (.int .i64))), .cell (.val (.int .i64)), .cell (.val (.int .i64)), d, d, d, d, d, d, d, d, d, d, d, d, d, d, d, d, d, d]
def xs12_6 : List (Ex × List Fm) := [(.exit 2, [d, d, .box 100200 [.val (.int .i64), .val (.sl (.int .i64)), .val (.sl (.int .i64)), .val (.sl (.pair (.int .i64) (.pair .str (.pair (.int .i64) (.int .i64)))))], .box 100300 [.val (.int .i64), .val (.sl (.int .i64))], d, .cell (.val (.int .i64)), d, d, d, d, d, .cell (.val (.sl (.int .i64))), .cell (.val (.int .i64)), .cell (.val (.int .i64)), d, d, d, d, d, d, d, d, d, d, d, d, d, d, d, d, d, d, d, d, d, d, d, d, d])]
noncomputable def spec_l6Between_l6 : ((Int × (List Int) × (List Int) × (List (Int × (ByteArray × (Int × Int)))) × Unit) × (Int × (List Int) × Unit) × Int × Int × (List Int) × Int × Int × (List Int) × Int × Int × Unit) → Option (((Int × (List Int) × (List Int) × (List (Int × (ByteArray × (Int × Int)))) × Unit) × (Int × (List Int) × Unit) × Int × Int × (List Int) × Int × Int × (List Int) × Int × Int × Unit) ⊕ (((Int × (List Int) × (List Int) × (List (Int × (ByteArray × (Int × Int)))) × Unit) × (Int × (List Int) × Unit) × Int × (List Int) × Int × Int × Unit))) := fun ((v2_0, v2_1, v2_2, v2_3, _), (v3_0, v3_1, _), v5, v7, v11, v12, v13, v18, v19, v20, _) =>
  bif (decide (v20 < v19)) then
    if (((0 : Int) ≤ v20) ∧ (v20 < (((List.length v18) : Nat) : Int))) then
      if (((0 : Int) ≤ (IntKind.wrap .i64 ((IntKind.wrap .i64 (v7 * v2_0)) + (List.getD v18 (Int.toNat v20) (0 : Int))))) ∧ ((IntKind.wrap .i64 ((IntKind.wrap .i64 (v7 * v2_0)) + (List.getD v18 (Int.toNat v20) (0 : Int)))) < (((List.length v3_1) : Nat) : Int))) then
        some (Sum.inl ((v2_0, v2_1, v2_2, v2_3, ()), (v3_0, v3_1, ()), (if ((List.getD v3_1 (Int.toNat (IntKind.wrap .i64 ((IntKind.wrap .i64 (v7 * v2_0)) + (List.getD v18 (Int.toNat v20) (0 : Int))))) (0 : Int)) < v5) then (List.getD v3_1 (Int.toNat (IntKind.wrap .i64 ((IntKind.wrap .i64 (v7 * v2_0)) + (List.getD v18 (Int.toNat v20) (0 : Int))))) (0 : Int)) else v5), v7, v11, v12, v13, v18, v19, (IntKind.wrap .i64 (v20 + (1 : Int))), ()))
      else
        none
    else
      none
  else
    some (Sum.inr ((v2_0, v2_1, v2_2, v2_3, ()), (v3_0, v3_1, ()), v5, v11, v12, v13, ()))
theorem spec_l6Between_l6_eq : loopStep 39 E12 L12_0 (loopOf f12 6) sh12_6 xs12_6 = spec_l6Between_l6 := by kernel_rfl
theorem loop12_6 {L : Nat → Option LoopD} (h : L 6 = some ⟨39, sh12_6, xs12_6, spec_l6Between_l6⟩) : LoopOk prog L (loopOf f12 6) :=
  loopOk (tysOk_of tyl_ok) E12_ok (codeOk_in (L := L12_0) (tysOk_of tyl_ok) E12_ok mixed (c := loopOf f12 6) (bs := []) (by kernel_rfl) allNil (by kernel_rfl)) (by kernel_rfl) (by kernel_rfl) spec_l6Between_l6_eq (by rw [show firstId (loopOf f12 6) = 6 from by kernel_rfl]; exact h)
noncomputable def L12_1 : Nat → Option LoopD := fun n => ifEq n 6 (some ⟨39, sh12_6, xs12_6, spec_l6Between_l6⟩) (L12_0 n)
def sh12_3 : List Fm := [d, d, .box 100200 [.val (.int .i64), .val (.sl (.int .i64)), .val (.sl (.int .i64)), .val (.sl (.pair (.int .i64) (.pair .str (.pair (.int .i64) (.int .i64)))))], .box 100300 [.val (.int .i64), .val (.sl (.int .i64))], d, .cell (.val (.int .i64)), d, d, d, d, d, .cell (.val (.sl (.int .i64))), .cell (.val (.int .i64)), .cell (.val (.int .i64)), d, d, d, d, d, d, d, d, d, d, d, d, d, d, d, d, d, d, d, d, d, d, d, d, d]
def xs12_3 : List (Ex × List Fm) := [(.exit 0, [d, d, d, d, d, .cell (.val (.int .i64)), d, d, d, d, d, d, d, d, d, d, d, d, d, d, d, d, d, d, d, d, d, d, d, d, d, d, d, d, d, d, d, d, d])]
noncomputable def spec_l6Between_l3 : ((Int × (List Int) × (List Int) × (List (Int × (ByteArray × (Int × Int)))) × Unit) × (Int × (List Int) × Unit) × Int × (List Int) × Int × Int × Unit) → Option (((Int × (List Int) × (List Int) × (List (Int × (ByteArray × (Int × Int)))) × Unit) × (Int × (List Int) × Unit) × Int × (List Int) × Int × Int × Unit) ⊕ ((Int × Unit))) := fun ((v2_0, v2_1, v2_2, v2_3, _), (v3_0, v3_1, _), v5, v11, v12, v13, _) =>
  bif (decide (v13 < v12)) then
    if (((0 : Int) ≤ v13) ∧ (v13 < (((List.length v11) : Nat) : Int))) then
      Option.bind (loopF spec_l6Between_l6 ((v2_0, v2_1, v2_2, v2_3, ()), (v3_0, v3_1, ()), v5, (List.getD v11 (Int.toNat v13) (0 : Int)), v11, v12, v13, v2_2, (((List.length v2_2) : Nat) : Int), (0 : Int), ())) fun ((r0, r1, r2, r3, _), (r4, r5, _), r6, r7, r8, r9, _) =>
        some (Sum.inl ((r0, r1, r2, r3, ()), (r4, r5, ()), r6, r7, r8, (IntKind.wrap .i64 (r9 + (1 : Int))), ()))
    else
      none
  else
    some (Sum.inr (v5, ()))
theorem spec_l6Between_l3_eq : loopStep 39 E12 L12_1 (loopOf f12 3) sh12_3 xs12_3 = spec_l6Between_l3 := by kernel_rfl
theorem loop12_3 {L : Nat → Option LoopD} (h : L 3 = some ⟨39, sh12_3, xs12_3, spec_l6Between_l3⟩) : LoopOk prog L (loopOf f12 3) :=
  loopOk (tysOk_of tyl_ok) E12_ok (codeOk_in (L := L12_1) (tysOk_of tyl_ok) E12_ok mixed (c := loopOf f12 3) (bs := [loopOf f12 6]) (by kernel_rfl) (allCons (loop12_6 rfl) allNil) (by kernel_rfl)) (by kernel_rfl) (by kernel_rfl) spec_l6Between_l3_eq (by rw [show firstId (loopOf f12 3) = 3 from by kernel_rfl]; exact h)
noncomputable def L12_2 : Nat → Option LoopD := fun n => ifEq n 3 (some ⟨39, sh12_3, xs12_3, spec_l6Between_l3⟩) (L12_1 n)
noncomputable def spec_l6Between : (Int × ((List Int) × ((List Int) × (List (Int × (ByteArray × (Int × Int))))))) → (Int × (List Int)) → Option (Int) := fun (a0_0, a0_1, a0_2, a0_3) (a1_0, a1_1) =>
  Option.bind (loopF spec_l6Between_l3 ((a0_0, a0_1, a0_2, a0_3, ()), (a1_0, a1_1, ()), (3 : Int), a0_1, (((List.length a0_1) : Nat) : Int), (0 : Int), ())) fun (r0, _) =>
    some r0
noncomputable def A12 : FnA := ⟨[.v (.pair (.int .i64) (.pair (.sl (.int .i64)) (.pair (.sl (.int .i64)) (.sl (.pair (.int .i64) (.pair .str (.pair (.int .i64) (.int .i64)))))))), .v (.pair (.int .i64) (.sl (.int .i64)))], true, [.int .i64], fun x => spec_l6Between x.1 x.2.1⟩
theorem spec_l6Between_eq : fnF E12 L12_2 [.v (.pair (.int .i64) (.pair (.sl (.int .i64)) (.pair (.sl (.int .i64)) (.sl (.pair (.int .i64) (.pair .str (.pair (.int .i64) (.int .i64)))))))), .v (.pair (.int .i64) (.sl (.int .i64)))] true [.int .i64] f12.ntmps f12.results.toList (codeOf f12) = fun x => spec_l6Between x.1 x.2.1 := by kernel_rfl
theorem A12_ok : FnOk prog 12 A12 := by
  have h := fnOk_of_run (P := prog) (E := E12) (tysOk_of tyl_ok) E12_ok (L := L12_2) (ps := [.v (.pair (.int .i64) (.pair (.sl (.int .i64)) (.pair (.sl (.int .i64)) (.sl (.pair (.int .i64) (.pair .str (.pair (.int .i64) (.int .i64)))))))), .v (.pair (.int .i64) (.sl (.int .i64)))]) (own := true) (outs := [.int .i64]) func12 (c := codeOf f12) (by kernel_rfl) (codeOk_in (L := L12_2) (tysOk_of tyl_ok) E12_ok mixed (c := codeOf f12) (bs := [loopOf f12 3]) (by kernel_rfl) (allCons (loop12_3 rfl) allNil) (by kernel_rfl))
  rw [spec_l6Between_eq] at h
  exact h
/-! spec.GrowingOf -/
noncomputable def E5 : Env := ⟨ty0, fun g => ifEq g 11 (some A11) (ifEq g 12 (some A12) (none)), fun _ => none, fun _ => none, fun _ => none⟩
theorem E5_ok : FnsOk prog E5 := (oneFn A11_ok func11 (by kernel_rfl) (by kernel_rfl) (oneFn A12_ok func12 (by kernel_rfl) (by kernel_rfl) (noFns _ _)))
noncomputable def L5_0 : Nat → Option LoopD := fun _ => none
def sh5_3 : List Fm := [d, .box 100100 [.val (.int .i64), .val (.sl (.int .i64)), .val (.sl (.int .i64)), .val (.sl (.pair (.int .i64) (.pair .str (.pair (.int .i64) (.int .i64)))))], d, d, d, d, d, d, d, d, d, d, d, .cell (.own (.pair (.pair (.int .i64) (.sl (.int .i64))) .str) 101300 false), .cell (.val (.int .i64)), .cell (.val (.int .i64)), d, d, d, d, d, d, d, d, d, d, d]
def xs5_3 : List (Ex × List Fm) := [(.ret, [d, d, .cell (.val .str), .cell (.val .bool), d, d, d, d, d, d, d, d, d, d, d, d, d, d, d, d, d, d, d, d, d, d, d]), (.exit 0, [d, d, d, d, d, d, d, d, d, d, d, d, d, d, d, d, d, d, d, d, d, d, d, d, d, d, d])]
noncomputable def spec_GrowingOf_l3 : ((Int × (List Int) × (List Int) × (List (Int × (ByteArray × (Int × Int)))) × Unit) × (List ((Int × (List Int)) × ByteArray)) × Int × Int × Unit) → Option (((Int × (List Int) × (List Int) × (List (Int × (ByteArray × (Int × Int)))) × Unit) × (List ((Int × (List Int)) × ByteArray)) × Int × Int × Unit) ⊕ ((ByteArray × Bool × Unit) ⊕ (Unit))) := fun ((v1_0, v1_1, v1_2, v1_3, _), v13, v14, v15, _) =>
  bif (decide (v15 < v14)) then
    if (((0 : Int) ≤ v15) ∧ (v15 < (((List.length v13) : Nat) : Int))) then
      Option.bind (spec_l6Between (v1_0, v1_1, v1_2, v1_3) ((List.getD v13 (0 + (Int.toNat v15)) (((0 : Int), []), (⟨Array.empty⟩ : ByteArray))).1.1, (List.getD v13 (0 + (Int.toNat v15)) (((0 : Int), []), (⟨Array.empty⟩ : ByteArray))).1.2)) fun r0 =>
        bif (r0 == (2 : Int)) then
          some (Sum.inr (Sum.inl ((List.getD v13 (0 + (Int.toNat v15)) (((0 : Int), []), (⟨Array.empty⟩ : ByteArray))).2, true, ())))
        else
          some (Sum.inl ((v1_0, v1_1, v1_2, v1_3, ()), (List.take (List.length v13) (List.drop 0 v13)), v14, (IntKind.wrap .i64 (v15 + (1 : Int))), ()))
    else
      none
  else
    some (Sum.inr (Sum.inr ()))
theorem spec_GrowingOf_l3_eq : loopStep 27 E5 L5_0 (loopOf f5 3) sh5_3 xs5_3 = spec_GrowingOf_l3 := by kernel_rfl
theorem loop5_3 {L : Nat → Option LoopD} (h : L 3 = some ⟨27, sh5_3, xs5_3, spec_GrowingOf_l3⟩) : LoopOk prog L (loopOf f5 3) :=
  loopOk (tysOk_of tyl_ok) E5_ok (codeOk_in (L := L5_0) (tysOk_of tyl_ok) E5_ok mixed (c := loopOf f5 3) (bs := []) (by kernel_rfl) allNil (by kernel_rfl)) (by kernel_rfl) (by kernel_rfl) spec_GrowingOf_l3_eq (by rw [show firstId (loopOf f5 3) = 3 from by kernel_rfl]; exact h)
noncomputable def L5_1 : Nat → Option LoopD := fun n => ifEq n 3 (some ⟨27, sh5_3, xs5_3, spec_GrowingOf_l3⟩) (L5_0 n)
noncomputable def spec_GrowingOf : (Int × ((List Int) × ((List Int) × (List (Int × (ByteArray × (Int × Int))))))) → Option (ByteArray × Bool) := fun (a0_0, a0_1, a0_2, a0_3) =>
  Option.bind (spec_ElementsOf (a0_0, a0_1, a0_2, a0_3)) fun (r0, r1) =>
    Option.bind (loopF spec_GrowingOf_l3 ((a0_0, a0_1, a0_2, a0_3, ()), (List.take (List.length r0) (List.drop 0 r0)), (((List.length r0) : Nat) : Int), (0 : Int), ())) fun r2 =>
      (match r2 with
      | .inl (d3, d4, _) =>
          some (d3, d4)
      | .inr _ =>
          some ((⟨#[]⟩ : ByteArray), false))
noncomputable def A5 : FnA := ⟨[.v (.pair (.int .i64) (.pair (.sl (.int .i64)) (.pair (.sl (.int .i64)) (.sl (.pair (.int .i64) (.pair .str (.pair (.int .i64) (.int .i64))))))))], true, [.str, .bool], fun x => spec_GrowingOf x.1⟩
theorem spec_GrowingOf_eq : fnF E5 L5_1 [.v (.pair (.int .i64) (.pair (.sl (.int .i64)) (.pair (.sl (.int .i64)) (.sl (.pair (.int .i64) (.pair .str (.pair (.int .i64) (.int .i64))))))))] true [.str, .bool] f5.ntmps f5.results.toList (codeOf f5) = fun x => spec_GrowingOf x.1 := by kernel_rfl
theorem A5_ok : FnOk prog 5 A5 := by
  have h := fnOk_of_run (P := prog) (E := E5) (tysOk_of tyl_ok) E5_ok (L := L5_1) (ps := [.v (.pair (.int .i64) (.pair (.sl (.int .i64)) (.pair (.sl (.int .i64)) (.sl (.pair (.int .i64) (.pair .str (.pair (.int .i64) (.int .i64))))))))]) (own := true) (outs := [.str, .bool]) func5 (c := codeOf f5) (by kernel_rfl) (codeOk_in (L := L5_1) (tysOk_of tyl_ok) E5_ok mixed (c := codeOf f5) (bs := [loopOf f5 3]) (by kernel_rfl) (allCons (loop5_3 rfl) allNil) (by kernel_rfl))
  rw [spec_GrowingOf_eq] at h
  exact h
/-! impl.statesOk -/
noncomputable def E37 : Env := ⟨ty0, fun _ => none, fun _ => none, fun _ => none, fun _ => none⟩
theorem E37_ok : FnsOk prog E37 := (noFns _ _)
noncomputable def L37_0 : Nat → Option LoopD := fun _ => none
def sh37_2 : List Fm := [.cell (.val (.sl (.int .i64))), .cell (.val (.int .i64)), d, d, d, d, d, .cell (.val (.sl (.int .i64))), .cell (.val (.int .i64)), .cell (.val (.int .i64)), d, d, d, d, d, d, d, d, d, d, d, d, d, d, d, d, d, d, d, d, d, d, d, d, d]
def xs37_2 : List (Ex × List Fm) := [(.ret, [d, d, d, d, .cell (.val .bool), d, d, d, d, d, d, d, d, d, d, d, d, d, d, d, d, d, d, d, d, d, d, d, d, d, d, d, d, d, d]), (.exit 0, [d, d, d, d, d, d, d, d, d, d, d, d, d, d, d, d, d, d, d, d, d, d, d, d, d, d, d, d, d, d, d, d, d, d, d])]
noncomputable def impl_statesOk_l2 : ((List Int) × Int × (List Int) × Int × Int × Unit) → Option (((List Int) × Int × (List Int) × Int × Int × Unit) ⊕ ((Bool × Unit) ⊕ (Unit))) := fun (v0, v1, v7, v8, v9, _) =>
  bif (decide (v9 < v8)) then
    if (((0 : Int) ≤ v9) ∧ (v9 < (((List.length v7) : Nat) : Int))) then
      bif (decide ((List.getD v7 (Int.toNat v9) (0 : Int)) < (0 : Int))) then
        some (Sum.inr (Sum.inl (false, ())))
      else
        bif (decide ((List.getD v7 (Int.toNat v9) (0 : Int)) ≥ v1)) then
          some (Sum.inr (Sum.inl (false, ())))
        else
          bif (decide (v9 > (0 : Int))) then
            if (((0 : Int) ≤ (IntKind.wrap .i64 (v9 - (1 : Int)))) ∧ ((IntKind.wrap .i64 (v9 - (1 : Int))) < (((List.length v0) : Nat) : Int))) then
              bif (decide ((List.getD v0 (Int.toNat (IntKind.wrap .i64 (v9 - (1 : Int)))) (0 : Int)) ≥ (List.getD v7 (Int.toNat v9) (0 : Int)))) then
                some (Sum.inr (Sum.inl (false, ())))
              else
                some (Sum.inl (v0, v1, v7, v8, (IntKind.wrap .i64 (v9 + (1 : Int))), ()))
            else
              none
          else
            some (Sum.inl (v0, v1, v7, v8, (IntKind.wrap .i64 (v9 + (1 : Int))), ()))
    else
      none
  else
    some (Sum.inr (Sum.inr ()))
theorem impl_statesOk_l2_eq : loopStep 35 E37 L37_0 (loopOf f37 2) sh37_2 xs37_2 = impl_statesOk_l2 := by kernel_rfl
theorem loop37_2 {L : Nat → Option LoopD} (h : L 2 = some ⟨35, sh37_2, xs37_2, impl_statesOk_l2⟩) : LoopOk prog L (loopOf f37 2) :=
  loopOk (tysOk_of tyl_ok) E37_ok (codeOk_in (L := L37_0) (tysOk_of tyl_ok) E37_ok mixed (c := loopOf f37 2) (bs := []) (by kernel_rfl) allNil (by kernel_rfl)) (by kernel_rfl) (by kernel_rfl) impl_statesOk_l2_eq (by rw [show firstId (loopOf f37 2) = 2 from by kernel_rfl]; exact h)
noncomputable def L37_1 : Nat → Option LoopD := fun n => ifEq n 2 (some ⟨35, sh37_2, xs37_2, impl_statesOk_l2⟩) (L37_0 n)
noncomputable def impl_statesOk : (List Int) → Int → Option (Bool) := fun a0 a1 =>
  Option.bind (loopF impl_statesOk_l2 (a0, a1, a0, (((List.length a0) : Nat) : Int), (0 : Int), ())) fun r0 =>
    (match r0 with
    | .inl (d1, _) =>
        some d1
    | .inr _ =>
        some true)
noncomputable def A37 : FnA := ⟨[.v (.sl (.int .i64)), .v (.int .i64)], true, [.bool], fun x => impl_statesOk x.1 x.2.1⟩
theorem impl_statesOk_eq : fnF E37 L37_1 [.v (.sl (.int .i64)), .v (.int .i64)] true [.bool] f37.ntmps f37.results.toList (codeOf f37) = fun x => impl_statesOk x.1 x.2.1 := by kernel_rfl
theorem A37_ok : FnOk prog 37 A37 := by
  have h := fnOk_of_run (P := prog) (E := E37) (tysOk_of tyl_ok) E37_ok (L := L37_1) (ps := [.v (.sl (.int .i64)), .v (.int .i64)]) (own := true) (outs := [.bool]) func37 (c := codeOf f37) (by kernel_rfl) (codeOk_in (L := L37_1) (tysOk_of tyl_ok) E37_ok mixed (c := codeOf f37) (bs := [loopOf f37 2]) (by kernel_rfl) (allCons (loop37_2 rfl) allNil) (by kernel_rfl))
  rw [impl_statesOk_eq] at h
  exact h
/-! cmp.isNaN[int] -/
noncomputable def E73 : Env := ⟨ty0, fun _ => none, fun _ => none, fun _ => none, fun _ => none⟩
theorem E73_ok : FnsOk prog E73 := (noFns _ _)
noncomputable def L73_0 : Nat → Option LoopD := fun _ => none
noncomputable def cmp_isNaN : Int → Option (Bool) := fun a0 =>
  some (a0 != a0)
noncomputable def A73 : FnA := ⟨[.v (.int .i64)], true, [.bool], fun x => cmp_isNaN x.1⟩
theorem cmp_isNaN_eq : fnF E73 L73_0 [.v (.int .i64)] true [.bool] f73.ntmps f73.results.toList (codeOf f73) = fun x => cmp_isNaN x.1 := by kernel_rfl
theorem A73_ok : FnOk prog 73 A73 := by
  have h := fnOk_of_run (P := prog) (E := E73) (tysOk_of tyl_ok) E73_ok (L := L73_0) (ps := [.v (.int .i64)]) (own := true) (outs := [.bool]) func73 (c := codeOf f73) (by kernel_rfl) (codeOk_in (L := L73_0) (tysOk_of tyl_ok) E73_ok mixed (c := codeOf f73) (bs := []) (by kernel_rfl) allNil (by kernel_rfl))
  rw [cmp_isNaN_eq] at h
  exact h
/-! cmp.Compare[int] -/
noncomputable def E62 : Env := ⟨ty0, fun g => ifEq g 73 (some A73) (none), fun _ => none, fun _ => none, fun _ => none⟩
theorem E62_ok : FnsOk prog E62 := (oneFn A73_ok func73 (by kernel_rfl) (by kernel_rfl) (noFns _ _))
noncomputable def L62_0 : Nat → Option LoopD := fun _ => none
noncomputable def cmp_Compare : Int → Int → Option (Int) := fun a0 a1 =>
  Option.bind (cmp_isNaN a0) fun r0 =>
    Option.bind (cmp_isNaN a1) fun r1 =>
      bif r0 then
        bif r1 then
          some (0 : Int)
        else
          some (-1 : Int)
      else
        bif r1 then
          some (1 : Int)
        else
          bif (decide (a0 < a1)) then
            some (-1 : Int)
          else
            bif (decide (a0 > a1)) then
              some (1 : Int)
            else
              some (0 : Int)
noncomputable def A62 : FnA := ⟨[.v (.int .i64), .v (.int .i64)], true, [.int .i64], fun x => cmp_Compare x.1 x.2.1⟩
theorem cmp_Compare_eq : fnF E62 L62_0 [.v (.int .i64), .v (.int .i64)] true [.int .i64] f62.ntmps f62.results.toList (codeOf f62) = fun x => cmp_Compare x.1 x.2.1 := by kernel_rfl
theorem A62_ok : FnOk prog 62 A62 := by
  have h := fnOk_of_run (P := prog) (E := E62) (tysOk_of tyl_ok) E62_ok (L := L62_0) (ps := [.v (.int .i64), .v (.int .i64)]) (own := true) (outs := [.int .i64]) func62 (c := codeOf f62) (by kernel_rfl) (codeOk_in (L := L62_0) (tysOk_of tyl_ok) E62_ok mixed (c := codeOf f62) (bs := []) (by kernel_rfl) allNil (by kernel_rfl))
  rw [cmp_Compare_eq] at h
  exact h
/-! cmp.Or[int] -/
noncomputable def E61 : Env := ⟨ty0, fun _ => none, fun _ => none, fun _ => none, fun _ => none⟩
theorem E61_ok : FnsOk prog E61 := (noFns _ _)
noncomputable def L61_0 : Nat → Option LoopD := fun _ => none
def sh61_3 : List Fm := [d, d, d, .cell (.val (.int .i64)), d, d, .cell (.val (.sl (.int .i64))), .cell (.val (.int .i64)), .cell (.val (.int .i64)), d, d, d, d, d, d, d, d, d]
def xs61_3 : List (Ex × List Fm) := [(.ret, [d, d, .cell (.val (.int .i64)), d, d, d, d, d, d, d, d, d, d, d, d, d, d, d]), (.exit 0, [d, d, d, .cell (.val (.int .i64)), d, d, d, d, d, d, d, d, d, d, d, d, d, d])]
noncomputable def cmp_Or_l3 : (Int × (List Int) × Int × Int × Unit) → Option ((Int × (List Int) × Int × Int × Unit) ⊕ ((Int × Unit) ⊕ (Int × Unit))) := fun (v3, v6, v7, v8, _) =>
  bif (decide (v8 < v7)) then
    if (((0 : Int) ≤ v8) ∧ (v8 < (((List.length v6) : Nat) : Int))) then
      bif ((List.getD v6 (Int.toNat v8) (0 : Int)) != v3) then
        some (Sum.inr (Sum.inl ((List.getD v6 (Int.toNat v8) (0 : Int)), ())))
      else
        some (Sum.inl (v3, v6, v7, (IntKind.wrap .i64 (v8 + (1 : Int))), ()))
    else
      none
  else
    some (Sum.inr (Sum.inr (v3, ())))
theorem cmp_Or_l3_eq : loopStep 18 E61 L61_0 (loopOf f61 3) sh61_3 xs61_3 = cmp_Or_l3 := by kernel_rfl
theorem loop61_3 {L : Nat → Option LoopD} (h : L 3 = some ⟨18, sh61_3, xs61_3, cmp_Or_l3⟩) : LoopOk prog L (loopOf f61 3) :=
  loopOk (tysOk_of tyl_ok) E61_ok (codeOk_in (L := L61_0) (tysOk_of tyl_ok) E61_ok mixed (c := loopOf f61 3) (bs := []) (by kernel_rfl) allNil (by kernel_rfl)) (by kernel_rfl) (by kernel_rfl) cmp_Or_l3_eq (by rw [show firstId (loopOf f61 3) = 3 from by kernel_rfl]; exact h)
noncomputable def L61_1 : Nat → Option LoopD := fun n => ifEq n 3 (some ⟨18, sh61_3, xs61_3, cmp_Or_l3⟩) (L61_0 n)
noncomputable def cmp_Or : (List Int) → Option (Int) := fun a0 =>
  Option.bind (loopF cmp_Or_l3 ((0 : Int), a0, (((List.length a0) : Nat) : Int), (0 : Int), ())) fun r0 =>
    (match r0 with
    | .inl (d1, _) =>
        some d1
    | .inr (d2, _) =>
        some d2)
noncomputable def A61 : FnA := ⟨[.v (.sl (.int .i64))], true, [.int .i64], fun x => cmp_Or x.1⟩
theorem cmp_Or_eq : fnF E61 L61_1 [.v (.sl (.int .i64))] true [.int .i64] f61.ntmps f61.results.toList (codeOf f61) = fun x => cmp_Or x.1 := by kernel_rfl
theorem A61_ok : FnOk prog 61 A61 := by
  have h := fnOk_of_run (P := prog) (E := E61) (tysOk_of tyl_ok) E61_ok (L := L61_1) (ps := [.v (.sl (.int .i64))]) (own := true) (outs := [.int .i64]) func61 (c := codeOf f61) (by kernel_rfl) (codeOk_in (L := L61_1) (tysOk_of tyl_ok) E61_ok mixed (c := codeOf f61) (bs := [loopOf f61 3]) (by kernel_rfl) (allCons (loop61_3 rfl) allNil) (by kernel_rfl))
  rw [cmp_Or_eq] at h
  exact h
/-! impl.stepOrder -/
noncomputable def E38 : Env := ⟨ty0, fun g => ifEq g 62 (some A62) (ifEq g 63 (some A63) (ifEq g 61 (some A61) (none))), fun _ => none, fun _ => none, fun _ => none⟩
theorem E38_ok : FnsOk prog E38 := (oneFn A62_ok func62 (by kernel_rfl) (by kernel_rfl) (oneFn A63_ok func63 (by kernel_rfl) (by kernel_rfl) (oneFn A61_ok func61 (by kernel_rfl) (by kernel_rfl) (noFns _ _))))
noncomputable def L38_0 : Nat → Option LoopD := fun _ => none
noncomputable def impl_stepOrder : (Int × (ByteArray × (Int × Int))) → (Int × (ByteArray × (Int × Int))) → Option (Int) := fun (a0_0, a0_1, a0_2, a0_3) (a1_0, a1_1, a1_2, a1_3) =>
  Option.bind (cmp_Compare a0_0 a1_0) fun r0 =>
    Option.bind (strings_Compare a0_1 a1_1) fun r1 =>
      Option.bind (cmp_Compare a0_2 a1_2) fun r2 =>
        Option.bind (cmp_Or (List.take 3 (List.drop 0 [r0, r1, r2]))) fun r3 =>
          some r3
noncomputable def A38 : FnA := ⟨[.v (.pair (.int .i64) (.pair .str (.pair (.int .i64) (.int .i64)))), .v (.pair (.int .i64) (.pair .str (.pair (.int .i64) (.int .i64))))], true, [.int .i64], fun x => impl_stepOrder x.1 x.2.1⟩
theorem impl_stepOrder_eq : fnF E38 L38_0 [.v (.pair (.int .i64) (.pair .str (.pair (.int .i64) (.int .i64)))), .v (.pair (.int .i64) (.pair .str (.pair (.int .i64) (.int .i64))))] true [.int .i64] f38.ntmps f38.results.toList (codeOf f38) = fun x => impl_stepOrder x.1 x.2.1 := by kernel_rfl
theorem A38_ok : FnOk prog 38 A38 := by
  have h := fnOk_of_run (P := prog) (E := E38) (tysOk_of tyl_ok) E38_ok (L := L38_0) (ps := [.v (.pair (.int .i64) (.pair .str (.pair (.int .i64) (.int .i64)))), .v (.pair (.int .i64) (.pair .str (.pair (.int .i64) (.int .i64))))]) (own := true) (outs := [.int .i64]) func38 (c := codeOf f38) (by kernel_rfl) (codeOk_in (L := L38_0) (tysOk_of tyl_ok) E38_ok mixed (c := codeOf f38) (bs := []) (by kernel_rfl) allNil (by kernel_rfl))
  rw [impl_stepOrder_eq] at h
  exact h
/-! impl.AutomatonValid -/
noncomputable def E25 : Env := ⟨ty0, fun g => ifEq g 37 (some A37) (ifEq g 38 (some A38) (none)), fun _ => none, fun _ => none, fun _ => none⟩
theorem E25_ok : FnsOk prog E25 := (oneFn A37_ok func37 (by kernel_rfl) (by kernel_rfl) (oneFn A38_ok func38 (by kernel_rfl) (by kernel_rfl) (noFns _ _)))
noncomputable def L25_0 : Nat → Option LoopD := fun _ => none
def sh25_4 : List Fm := [d, .box 100100 [.val (.int .i64), .val (.sl (.int .i64)), .val (.sl (.int .i64)), .val (.sl (.pair (.int .i64) (.pair .str (.pair (.int .i64) (.int .i64)))))], d, d, d, d, d, d, d, d, d, d, d, d, d, d, d, d, d, d, d, d, d, d, d, d, d, d, d, d, d, d, d, d, d, d, .cell (.val (.sl (.pair (.int .i64) (.pair .str (.pair (.int .i64) (.int .i64)))))), .cell (.val (.int .i64)), .cell (.val (.int .i64)), d, d, d, d, d, d, d, d, d, d, d, d, d, d, d, d, d, d, d, d, d, d, d, d, d, d, d, d, d, d, d, d, d, d, d, d, d, d, d, d, d, d, d, d, d, d, d, d, d, d, d, d, d, d, d, d, d, d, d, d, d, d]
def xs25_4 : List (Ex × List Fm) := [(.ret, [d, d, .cell (.val .bool), d, d, d, d, d, d, d, d, d, d, d, d, d, d, d, d, d, d, d, d, d, d, d, d, d, d, d, d, d, d, d, d, d, d, d, d, d, d, d, d, d, d, d, d, d, d, d, d, d, d, d, d, d, d, d, d, d, d, d, d, d, d, d, d, d, d, d, d, d, d, d, d, d, d, d, d, d, d, d, d, d, d, d, d, d, d, d, d, d, d, d, d, d, d, d, d, d, d]), (.exit 0, [d, d, d, d, d, d, d, d, d, d, d, d, d, d, d, d, d, d, d, d, d, d, d, d, d, d, d, d, d, d, d, d, d, d, d, d, d, d, d, d, d, d, d, d, d, d, d, d, d, d, d, d, d, d, d, d, d, d, d, d, d, d, d, d, d, d, d, d, d, d, d, d, d, d, d, d, d, d, d, d, d, d, d, d, d, d, d, d, d, d, d, d, d, d, d, d, d, d, d, d, d])]
noncomputable def impl_AutomatonValid_l4 : ((Int × (List Int) × (List Int) × (List (Int × (ByteArray × (Int × Int)))) × Unit) × (List (Int × (ByteArray × (Int × Int)))) × Int × Int × Unit) → Option (((Int × (List Int) × (List Int) × (List (Int × (ByteArray × (Int × Int)))) × Unit) × (List (Int × (ByteArray × (Int × Int)))) × Int × Int × Unit) ⊕ ((Bool × Unit) ⊕ (Unit))) := fun ((v1_0, v1_1, v1_2, v1_3, _), v36, v37, v38, _) =>
  bif (decide (v38 < v37)) then
    if (((0 : Int) ≤ v38) ∧ (v38 < (((List.length v36) : Nat) : Int))) then
      bif (decide ((List.getD v36 (Int.toNat v38) ((0 : Int), (⟨Array.empty⟩ : ByteArray), (0 : Int), (0 : Int))).1 < (0 : Int))) then
        some (Sum.inr (Sum.inl (false, ())))
      else
        bif (decide ((List.getD v36 (Int.toNat v38) ((0 : Int), (⟨Array.empty⟩ : ByteArray), (0 : Int), (0 : Int))).1 ≥ v1_0)) then
          some (Sum.inr (Sum.inl (false, ())))
        else
          bif (decide ((List.getD v36 (Int.toNat v38) ((0 : Int), (⟨Array.empty⟩ : ByteArray), (0 : Int), (0 : Int))).2.2.1 < (0 : Int))) then
            some (Sum.inr (Sum.inl (false, ())))
          else
            bif (decide ((List.getD v36 (Int.toNat v38) ((0 : Int), (⟨Array.empty⟩ : ByteArray), (0 : Int), (0 : Int))).2.2.1 ≥ v1_0)) then
              some (Sum.inr (Sum.inl (false, ())))
            else
              bif (!((ByteArray.toList (List.getD v36 (Int.toNat v38) ((0 : Int), (⟨Array.empty⟩ : ByteArray), (0 : Int), (0 : Int))).2.1) == (ByteArray.toList (⟨#[(97 : UInt8)]⟩ : ByteArray)))) then
                bif (!((ByteArray.toList (List.getD v36 (Int.toNat v38) ((0 : Int), (⟨Array.empty⟩ : ByteArray), (0 : Int), (0 : Int))).2.1) == (ByteArray.toList (⟨#[(98 : UInt8)]⟩ : ByteArray)))) then
                  some (Sum.inr (Sum.inl (false, ())))
                else
                  bif (decide ((List.getD v36 (Int.toNat v38) ((0 : Int), (⟨Array.empty⟩ : ByteArray), (0 : Int), (0 : Int))).2.2.2 < (0 : Int))) then
                    some (Sum.inr (Sum.inl (false, ())))
                  else
                    bif (decide ((List.getD v36 (Int.toNat v38) ((0 : Int), (⟨Array.empty⟩ : ByteArray), (0 : Int), (0 : Int))).2.2.2 > (3 : Int))) then
                      some (Sum.inr (Sum.inl (false, ())))
                    else
                      bif (decide (v38 > (0 : Int))) then
                        if (((0 : Int) ≤ (IntKind.wrap .i64 (v38 - (1 : Int)))) ∧ ((IntKind.wrap .i64 (v38 - (1 : Int))) < (((List.length v1_3) : Nat) : Int))) then
                          Option.bind (impl_stepOrder (List.getD v1_3 (Int.toNat (IntKind.wrap .i64 (v38 - (1 : Int)))) ((0 : Int), (⟨Array.empty⟩ : ByteArray), (0 : Int), (0 : Int))) ((List.getD v36 (Int.toNat v38) ((0 : Int), (⟨Array.empty⟩ : ByteArray), (0 : Int), (0 : Int))).1, (List.getD v36 (Int.toNat v38) ((0 : Int), (⟨Array.empty⟩ : ByteArray), (0 : Int), (0 : Int))).2.1, (List.getD v36 (Int.toNat v38) ((0 : Int), (⟨Array.empty⟩ : ByteArray), (0 : Int), (0 : Int))).2.2.1, (List.getD v36 (Int.toNat v38) ((0 : Int), (⟨Array.empty⟩ : ByteArray), (0 : Int), (0 : Int))).2.2.2)) fun r0 =>
                            bif (decide (r0 ≥ (0 : Int))) then
                              some (Sum.inr (Sum.inl (false, ())))
                            else
                              some (Sum.inl ((v1_0, v1_1, v1_2, v1_3, ()), v36, v37, (IntKind.wrap .i64 (v38 + (1 : Int))), ()))
                        else
                          none
                      else
                        some (Sum.inl ((v1_0, v1_1, v1_2, v1_3, ()), v36, v37, (IntKind.wrap .i64 (v38 + (1 : Int))), ()))
              else
                bif (decide ((List.getD v36 (Int.toNat v38) ((0 : Int), (⟨Array.empty⟩ : ByteArray), (0 : Int), (0 : Int))).2.2.2 < (0 : Int))) then
                  some (Sum.inr (Sum.inl (false, ())))
                else
                  bif (decide ((List.getD v36 (Int.toNat v38) ((0 : Int), (⟨Array.empty⟩ : ByteArray), (0 : Int), (0 : Int))).2.2.2 > (3 : Int))) then
                    some (Sum.inr (Sum.inl (false, ())))
                  else
                    bif (decide (v38 > (0 : Int))) then
                      if (((0 : Int) ≤ (IntKind.wrap .i64 (v38 - (1 : Int)))) ∧ ((IntKind.wrap .i64 (v38 - (1 : Int))) < (((List.length v1_3) : Nat) : Int))) then
                        Option.bind (impl_stepOrder (List.getD v1_3 (Int.toNat (IntKind.wrap .i64 (v38 - (1 : Int)))) ((0 : Int), (⟨Array.empty⟩ : ByteArray), (0 : Int), (0 : Int))) ((List.getD v36 (Int.toNat v38) ((0 : Int), (⟨Array.empty⟩ : ByteArray), (0 : Int), (0 : Int))).1, (List.getD v36 (Int.toNat v38) ((0 : Int), (⟨Array.empty⟩ : ByteArray), (0 : Int), (0 : Int))).2.1, (List.getD v36 (Int.toNat v38) ((0 : Int), (⟨Array.empty⟩ : ByteArray), (0 : Int), (0 : Int))).2.2.1, (List.getD v36 (Int.toNat v38) ((0 : Int), (⟨Array.empty⟩ : ByteArray), (0 : Int), (0 : Int))).2.2.2)) fun r1 =>
                          bif (decide (r1 ≥ (0 : Int))) then
                            some (Sum.inr (Sum.inl (false, ())))
                          else
                            some (Sum.inl ((v1_0, v1_1, v1_2, v1_3, ()), v36, v37, (IntKind.wrap .i64 (v38 + (1 : Int))), ()))
                      else
                        none
                    else
                      some (Sum.inl ((v1_0, v1_1, v1_2, v1_3, ()), v36, v37, (IntKind.wrap .i64 (v38 + (1 : Int))), ()))
    else
      none
  else
    some (Sum.inr (Sum.inr ()))
theorem impl_AutomatonValid_l4_eq : loopStep 101 E25 L25_0 (loopOf f25 4) sh25_4 xs25_4 = impl_AutomatonValid_l4 := by kernel_rfl
theorem loop25_4 {L : Nat → Option LoopD} (h : L 4 = some ⟨101, sh25_4, xs25_4, impl_AutomatonValid_l4⟩) : LoopOk prog L (loopOf f25 4) :=
  loopOk (tysOk_of tyl_ok) E25_ok (codeOk_in (L := L25_0) (tysOk_of tyl_ok) E25_ok mixed (c := loopOf f25 4) (bs := []) (by kernel_rfl) allNil (by kernel_rfl)) (by kernel_rfl) (by kernel_rfl) impl_AutomatonValid_l4_eq (by rw [show firstId (loopOf f25 4) = 4 from by kernel_rfl]; exact h)
noncomputable def L25_1 : Nat → Option LoopD := fun n => ifEq n 4 (some ⟨101, sh25_4, xs25_4, impl_AutomatonValid_l4⟩) (L25_0 n)
noncomputable def impl_AutomatonValid : (Int × ((List Int) × ((List Int) × (List (Int × (ByteArray × (Int × Int))))))) → Option (Bool) := fun (a0_0, a0_1, a0_2, a0_3) =>
  bif (decide (a0_0 < (1 : Int))) then
    some false
  else
    bif (decide (a0_0 > (4 : Int))) then
      some false
    else
      bif (decide ((((List.length a0_3) : Nat) : Int) > (24 : Int))) then
        some false
      else
        Option.bind (impl_statesOk a0_1 a0_0) fun r0 =>
          bif (!r0) then
            some false
          else
            Option.bind (impl_statesOk a0_2 a0_0) fun r1 =>
              bif (!r1) then
                some false
              else
                Option.bind (loopF impl_AutomatonValid_l4 ((a0_0, a0_1, a0_2, a0_3, ()), a0_3, (((List.length a0_3) : Nat) : Int), (0 : Int), ())) fun r2 =>
                  (match r2 with
                  | .inl (d3, _) =>
                      some d3
                  | .inr _ =>
                      some true)
noncomputable def A25 : FnA := ⟨[.v (.pair (.int .i64) (.pair (.sl (.int .i64)) (.pair (.sl (.int .i64)) (.sl (.pair (.int .i64) (.pair .str (.pair (.int .i64) (.int .i64))))))))], true, [.bool], fun x => impl_AutomatonValid x.1⟩
theorem impl_AutomatonValid_eq : fnF E25 L25_1 [.v (.pair (.int .i64) (.pair (.sl (.int .i64)) (.pair (.sl (.int .i64)) (.sl (.pair (.int .i64) (.pair .str (.pair (.int .i64) (.int .i64))))))))] true [.bool] f25.ntmps f25.results.toList (codeOf f25) = fun x => impl_AutomatonValid x.1 := by kernel_rfl
theorem A25_ok : FnOk prog 25 A25 := by
  have h := fnOk_of_run (P := prog) (E := E25) (tysOk_of tyl_ok) E25_ok (L := L25_1) (ps := [.v (.pair (.int .i64) (.pair (.sl (.int .i64)) (.pair (.sl (.int .i64)) (.sl (.pair (.int .i64) (.pair .str (.pair (.int .i64) (.int .i64))))))))]) (own := true) (outs := [.bool]) func25 (c := codeOf f25) (by kernel_rfl) (codeOk_in (L := L25_1) (tysOk_of tyl_ok) E25_ok mixed (c := codeOf f25) (bs := [loopOf f25 4]) (by kernel_rfl) (allCons (loop25_4 rfl) allNil) (by kernel_rfl))
  rw [impl_AutomatonValid_eq] at h
  exact h
/-! internal/stringslite.HasPrefix -/
noncomputable def E82 : Env := ⟨ty0, fun _ => none, fun _ => none, fun _ => none, fun _ => none⟩
theorem E82_ok : FnsOk prog E82 := (noFns _ _)
noncomputable def L82_0 : Nat → Option LoopD := fun _ => none
noncomputable def internal_stringslite_HasPrefix : ByteArray → ByteArray → Option (Bool) := fun a0 a1 =>
  bif (decide ((((ByteArray.size a0) : Nat) : Int) ≥ (((ByteArray.size a1) : Nat) : Int))) then
    if (((0 : Int) ≤ (((ByteArray.size a1) : Nat) : Int)) ∧ ((((ByteArray.size a1) : Nat) : Int) ≤ (((ByteArray.size a0) : Nat) : Int))) then
      some ((ByteArray.toList (ByteArray.extract a0 0 (Int.toNat (((ByteArray.size a1) : Nat) : Int)))) == (ByteArray.toList a1))
    else
      none
  else
    some false
noncomputable def A82 : FnA := ⟨[.v .str, .v .str], true, [.bool], fun x => internal_stringslite_HasPrefix x.1 x.2.1⟩
theorem internal_stringslite_HasPrefix_eq : fnF E82 L82_0 [.v .str, .v .str] true [.bool] f82.ntmps f82.results.toList (codeOf f82) = fun x => internal_stringslite_HasPrefix x.1 x.2.1 := by kernel_rfl
theorem A82_ok : FnOk prog 82 A82 := by
  have h := fnOk_of_run (P := prog) (E := E82) (tysOk_of tyl_ok) E82_ok (L := L82_0) (ps := [.v .str, .v .str]) (own := true) (outs := [.bool]) func82 (c := codeOf f82) (by kernel_rfl) (codeOk_in (L := L82_0) (tysOk_of tyl_ok) E82_ok mixed (c := codeOf f82) (bs := []) (by kernel_rfl) allNil (by kernel_rfl))
  rw [internal_stringslite_HasPrefix_eq] at h
  exact h
/-! strings.HasPrefix -/
noncomputable def E79 : Env := ⟨ty0, fun g => ifEq g 82 (some A82) (none), fun _ => none, fun _ => none, fun _ => none⟩
theorem E79_ok : FnsOk prog E79 := (oneFn A82_ok func82 (by kernel_rfl) (by kernel_rfl) (noFns _ _))
noncomputable def L79_0 : Nat → Option LoopD := fun _ => none
noncomputable def strings_HasPrefix : ByteArray → ByteArray → Option (Bool) := fun a0 a1 =>
  Option.bind (internal_stringslite_HasPrefix a0 a1) fun r0 =>
    some r0
noncomputable def A79 : FnA := ⟨[.v .str, .v .str], true, [.bool], fun x => strings_HasPrefix x.1 x.2.1⟩
theorem strings_HasPrefix_eq : fnF E79 L79_0 [.v .str, .v .str] true [.bool] f79.ntmps f79.results.toList (codeOf f79) = fun x => strings_HasPrefix x.1 x.2.1 := by kernel_rfl
theorem A79_ok : FnOk prog 79 A79 := by
  have h := fnOk_of_run (P := prog) (E := E79) (tysOk_of tyl_ok) E79_ok (L := L79_0) (ps := [.v .str, .v .str]) (own := true) (outs := [.bool]) func79 (c := codeOf f79) (by kernel_rfl) (codeOk_in (L := L79_0) (tysOk_of tyl_ok) E79_ok mixed (c := codeOf f79) (bs := []) (by kernel_rfl) allNil (by kernel_rfl))
  rw [strings_HasPrefix_eq] at h
  exact h
/-! impl.readParts -/
noncomputable def R75 (impl_readParts_rec : ByteArray → Option ((List (ByteArray × PT)) × ByteArray)) : FnA := ⟨[.v .str], true, [.sl (.pair .str .pt), .str], fun x => impl_readParts_rec x.1⟩
noncomputable def E75 (impl_readParts_rec : ByteArray → Option ((List (ByteArray × PT)) × ByteArray)) : Env := ⟨ty0, fun g => ifEq g 75 (some (R75 impl_readParts_rec)) (ifEq g 79 (some A79) (none)), fun _ => none, fun _ => none, fun _ => none⟩
theorem E75_ok (impl_readParts_rec : ByteArray → Option ((List (ByteArray × PT)) × ByteArray)) (hrec : FnOk prog 75 (R75 impl_readParts_rec)) : FnsOk prog (E75 impl_readParts_rec) := (oneFn hrec func75 (by kernel_rfl) (by kernel_rfl) (oneFn A79_ok func79 (by kernel_rfl) (by kernel_rfl) (noFns _ _)))
noncomputable def L75_0 (impl_readParts_rec : ByteArray → Option ((List (ByteArray × PT)) × ByteArray)) : Nat → Option LoopD := fun _ => none
def sh75_2 : List Fm := [.cell (.val .str), d, d, d, .cell (.own (.pair .str .pt) 100400 false), d, d, d, d, d, d, d, d, d, d, d, d, d, d, d, d, d, d, d, d, d, d, d, d, d, d, d, d, d, d, d, d, d, d, d, d, d, d, d, d, d, d, d, d]
def xs75_2 : List (Ex × List Fm) := [(.ret, [d, d, .cell (.own (.pair .str .pt) 100200 false), .cell (.val .str), d, d, d, d, d, d, d, d, d, d, d, d, d, d, d, d, d, d, d, d, d, d, d, d, d, d, d, d, d, d, d, d, d, d, d, d, d, d, d, d, d, d, d, d, d]), (.exit 0, [.cell (.val .str), d, d, d, .cell (.own (.pair .str .pt) 100400 false), d, d, d, d, d, d, d, d, d, d, d, d, d, d, d, d, d, d, d, d, d, d, d, d, d, d, d, d, d, d, d, d, d, d, d, d, d, d, d, d, d, d, d, d])]
noncomputable def impl_readParts_l2 (impl_readParts_rec : ByteArray → Option ((List (ByteArray × PT)) × ByteArray)) : (ByteArray × (List (ByteArray × PT)) × Unit) → Option ((ByteArray × (List (ByteArray × PT)) × Unit) ⊕ (((List (ByteArray × PT)) × ByteArray × Unit) ⊕ (ByteArray × (List (ByteArray × PT)) × Unit))) := fun (v0, v4, _) =>
  bif (!((ByteArray.toList v0) == (ByteArray.toList (⟨#[]⟩ : ByteArray)))) then
    if (((0 : Int) ≤ (0 : Int)) ∧ ((0 : Int) < (((ByteArray.size v0) : Nat) : Int))) then
      bif ((((UInt8.toNat (Array.getD (ByteArray.data v0) (Int.toNat (0 : Int)) (0 : UInt8))) : Nat) : Int) == (97 : Int)) then
        bif ((((UInt8.toNat (Array.getD (ByteArray.data v0) (Int.toNat (0 : Int)) (0 : UInt8))) : Nat) : Int) == (97 : Int)) then
          if (((0 : Int) ≤ (1 : Int)) ∧ ((1 : Int) ≤ (((ByteArray.size v0) : Nat) : Int))) then
            if (((0 + (List.length v4)) = (List.length v4)) ∧ ((((List.length v4) + (List.length (List.take 1 (List.drop 0 [((ByteArray.extract v0 0 (Int.toNat (1 : Int))), (PT.mk []))])))) * 40) ≤ 140737488355328)) then
              if (((0 : Int) ≤ (1 : Int)) ∧ ((1 : Int) ≤ (((ByteArray.size v0) : Nat) : Int))) then
                some (Sum.inl ((ByteArray.extract v0 (Int.toNat (1 : Int)) (ByteArray.size v0)), (List.take ((List.length v4) + (List.length (List.take 1 (List.drop 0 [((ByteArray.extract v0 0 (Int.toNat (1 : Int))), (PT.mk []))])))) (List.drop 0 ((List.drop 0 v4) ++ (List.take 1 (List.drop 0 [((ByteArray.extract v0 0 (Int.toNat (1 : Int))), (PT.mk []))]))))), ()))
              else
                none
            else
              none
          else
            none
        else
          bif ((((UInt8.toNat (Array.getD (ByteArray.data v0) (Int.toNat (0 : Int)) (0 : UInt8))) : Nat) : Int) == (40 : Int)) then
            if (((0 : Int) ≤ (1 : Int)) ∧ ((1 : Int) ≤ (((ByteArray.size v0) : Nat) : Int))) then
              Option.bind (impl_readParts_rec (ByteArray.extract v0 (Int.toNat (1 : Int)) (ByteArray.size v0))) fun (r0, r1) =>
                bif (decide ((((List.length r0) : Nat) : Int) > (0 : Int))) then
                  Option.bind (strings_HasPrefix r1 (⟨#[(41 : UInt8), (35 : UInt8)]⟩ : ByteArray)) fun r2 =>
                    bif r2 then
                      if (((0 + (List.length v4)) = (List.length v4)) ∧ ((((List.length v4) + (List.length (List.take 1 (List.drop 0 [((⟨Array.empty⟩ : ByteArray), (PT.mk (List.take (List.length r0) (List.drop 0 r0))))])))) * 40) ≤ 140737488355328)) then
                        if (((0 : Int) ≤ (2 : Int)) ∧ ((2 : Int) ≤ (((ByteArray.size r1) : Nat) : Int))) then
                          some (Sum.inl ((ByteArray.extract r1 (Int.toNat (2 : Int)) (ByteArray.size r1)), (List.take ((List.length v4) + (List.length (List.take 1 (List.drop 0 [((⟨Array.empty⟩ : ByteArray), (PT.mk (List.take (List.length r0) (List.drop 0 r0))))])))) (List.drop 0 ((List.drop 0 v4) ++ (List.take 1 (List.drop 0 [((⟨Array.empty⟩ : ByteArray), (PT.mk (List.take (List.length r0) (List.drop 0 r0))))]))))), ()))
                        else
                          none
                      else
                        none
                    else
                      some (Sum.inr (Sum.inl ((List.take (List.length v4) (List.drop 0 v4)), v0, ())))
                else
                  some (Sum.inr (Sum.inl ((List.take (List.length v4) (List.drop 0 v4)), v0, ())))
            else
              none
          else
            some (Sum.inr (Sum.inl ((List.take (List.length v4) (List.drop 0 v4)), v0, ())))
      else
        bif ((((UInt8.toNat (Array.getD (ByteArray.data v0) (Int.toNat (0 : Int)) (0 : UInt8))) : Nat) : Int) == (98 : Int)) then
          if (((0 : Int) ≤ (1 : Int)) ∧ ((1 : Int) ≤ (((ByteArray.size v0) : Nat) : Int))) then
            if (((0 + (List.length v4)) = (List.length v4)) ∧ ((((List.length v4) + (List.length (List.take 1 (List.drop 0 [((ByteArray.extract v0 0 (Int.toNat (1 : Int))), (PT.mk []))])))) * 40) ≤ 140737488355328)) then
              if (((0 : Int) ≤ (1 : Int)) ∧ ((1 : Int) ≤ (((ByteArray.size v0) : Nat) : Int))) then
                some (Sum.inl ((ByteArray.extract v0 (Int.toNat (1 : Int)) (ByteArray.size v0)), (List.take ((List.length v4) + (List.length (List.take 1 (List.drop 0 [((ByteArray.extract v0 0 (Int.toNat (1 : Int))), (PT.mk []))])))) (List.drop 0 ((List.drop 0 v4) ++ (List.take 1 (List.drop 0 [((ByteArray.extract v0 0 (Int.toNat (1 : Int))), (PT.mk []))]))))), ()))
              else
                none
            else
              none
          else
            none
        else
          bif ((((UInt8.toNat (Array.getD (ByteArray.data v0) (Int.toNat (0 : Int)) (0 : UInt8))) : Nat) : Int) == (40 : Int)) then
            if (((0 : Int) ≤ (1 : Int)) ∧ ((1 : Int) ≤ (((ByteArray.size v0) : Nat) : Int))) then
              Option.bind (impl_readParts_rec (ByteArray.extract v0 (Int.toNat (1 : Int)) (ByteArray.size v0))) fun (r3, r4) =>
                bif (decide ((((List.length r3) : Nat) : Int) > (0 : Int))) then
                  Option.bind (strings_HasPrefix r4 (⟨#[(41 : UInt8), (35 : UInt8)]⟩ : ByteArray)) fun r5 =>
                    bif r5 then
                      if (((0 + (List.length v4)) = (List.length v4)) ∧ ((((List.length v4) + (List.length (List.take 1 (List.drop 0 [((⟨Array.empty⟩ : ByteArray), (PT.mk (List.take (List.length r3) (List.drop 0 r3))))])))) * 40) ≤ 140737488355328)) then
                        if (((0 : Int) ≤ (2 : Int)) ∧ ((2 : Int) ≤ (((ByteArray.size r4) : Nat) : Int))) then
                          some (Sum.inl ((ByteArray.extract r4 (Int.toNat (2 : Int)) (ByteArray.size r4)), (List.take ((List.length v4) + (List.length (List.take 1 (List.drop 0 [((⟨Array.empty⟩ : ByteArray), (PT.mk (List.take (List.length r3) (List.drop 0 r3))))])))) (List.drop 0 ((List.drop 0 v4) ++ (List.take 1 (List.drop 0 [((⟨Array.empty⟩ : ByteArray), (PT.mk (List.take (List.length r3) (List.drop 0 r3))))]))))), ()))
                        else
                          none
                      else
                        none
                    else
                      some (Sum.inr (Sum.inl ((List.take (List.length v4) (List.drop 0 v4)), v0, ())))
                else
                  some (Sum.inr (Sum.inl ((List.take (List.length v4) (List.drop 0 v4)), v0, ())))
            else
              none
          else
            some (Sum.inr (Sum.inl ((List.take (List.length v4) (List.drop 0 v4)), v0, ())))
    else
      none
  else
    some (Sum.inr (Sum.inr (v0, (List.take (List.length v4) (List.drop 0 v4)), ())))
theorem impl_readParts_l2_eq (impl_readParts_rec : ByteArray → Option ((List (ByteArray × PT)) × ByteArray)) : loopStep 49 (E75 impl_readParts_rec) (L75_0 impl_readParts_rec) (loopOf f75 2) sh75_2 xs75_2 = (impl_readParts_l2 impl_readParts_rec) := by kernel_rfl
theorem loop75_2 (impl_readParts_rec : ByteArray → Option ((List (ByteArray × PT)) × ByteArray)) (hrec : FnOk prog 75 (R75 impl_readParts_rec)) {L : Nat → Option LoopD} (h : L 2 = some ⟨49, sh75_2, xs75_2, (impl_readParts_l2 impl_readParts_rec)⟩) : LoopOk prog L (loopOf f75 2) :=
  loopOk (tysOk_of tyl_ok) (E75_ok impl_readParts_rec hrec) (codeOk_in (L := (L75_0 impl_readParts_rec)) (tysOk_of tyl_ok) (E75_ok impl_readParts_rec hrec) mixed (c := loopOf f75 2) (bs := []) (by kernel_rfl) allNil (by kernel_rfl)) (by kernel_rfl) (by kernel_rfl) (impl_readParts_l2_eq impl_readParts_rec) (by rw [show firstId (loopOf f75 2) = 2 from by kernel_rfl]; exact h)
noncomputable def L75_1 (impl_readParts_rec : ByteArray → Option ((List (ByteArray × PT)) × ByteArray)) : Nat → Option LoopD := fun n => ifEq n 2 (some ⟨49, sh75_2, xs75_2, (impl_readParts_l2 impl_readParts_rec)⟩) ((L75_0 impl_readParts_rec) n)
noncomputable def impl_readParts_step (impl_readParts_rec : ByteArray → Option ((List (ByteArray × PT)) × ByteArray)) : ByteArray → Option ((List (ByteArray × PT)) × ByteArray) := fun a0 =>
  Option.bind (loopF (impl_readParts_l2 impl_readParts_rec) (a0, (List.take 0 (List.drop 0 [])), ())) fun r0 =>
    (match r0 with
    | .inl (d1, d2, _) =>
        some ((List.take (List.length d1) (List.drop 0 d1)), d2)
    | .inr (d3, d4, _) =>
        some ((List.take (List.length d4) (List.drop 0 d4)), d3))
theorem impl_readParts_step_eq (impl_readParts_rec : ByteArray → Option ((List (ByteArray × PT)) × ByteArray)) : fnF (E75 impl_readParts_rec) (L75_1 impl_readParts_rec) [.v .str] true [.sl (.pair .str .pt), .str] f75.ntmps f75.results.toList (codeOf f75) = fun x => (impl_readParts_step impl_readParts_rec) x.1 := by kernel_rfl
theorem impl_readParts_step_ok (impl_readParts_rec : ByteArray → Option ((List (ByteArray × PT)) × ByteArray)) (hrec : FnOk prog 75 (R75 impl_readParts_rec)) : FnOk prog 75 ⟨[.v .str], true, [.sl (.pair .str .pt), .str], fun x => (impl_readParts_step impl_readParts_rec) x.1⟩ := by
  have h := fnOk_of_run (P := prog) (E := (E75 impl_readParts_rec)) (tysOk_of tyl_ok) (E75_ok impl_readParts_rec hrec) (L := (L75_1 impl_readParts_rec)) (ps := [.v .str]) (own := true) (outs := [.sl (.pair .str .pt), .str]) func75 (c := codeOf f75) (by kernel_rfl) (codeOk_in (L := (L75_1 impl_readParts_rec)) (tysOk_of tyl_ok) (E75_ok impl_readParts_rec hrec) mixed (c := codeOf f75) (bs := [loopOf f75 2]) (by kernel_rfl) (allCons (loop75_2 impl_readParts_rec hrec rfl) allNil) (by kernel_rfl))
  rw [(impl_readParts_step_eq impl_readParts_rec)] at h
  exact h
/-- so many calls within each other -/
noncomputable def impl_readParts_fuel : Nat → ByteArray → Option ((List (ByteArray × PT)) × ByteArray)
  | 0 => fun _ => none
  | n + 1 => impl_readParts_step (impl_readParts_fuel n)
theorem impl_readParts_fuel_ok : ∀ n, FnOk prog 75 (R75 (impl_readParts_fuel n))
  | 0 => fun xs r h => by cases h
  | n + 1 => impl_readParts_step_ok (impl_readParts_fuel n) (impl_readParts_fuel_ok n)
noncomputable def impl_readParts : ByteArray → Option ((List (ByteArray × PT)) × ByteArray) := impl_readParts_fuel 200
noncomputable def A75 : FnA := R75 impl_readParts
theorem A75_ok : FnOk prog 75 A75 := impl_readParts_fuel_ok 200
/-! impl.parts -/
noncomputable def E69 : Env := ⟨ty0, fun g => ifEq g 75 (some A75) (none), fun _ => none, fun _ => none, fun _ => none⟩
theorem E69_ok : FnsOk prog E69 := (oneFn A75_ok func75 (by kernel_rfl) (by kernel_rfl) (noFns _ _))
noncomputable def L69_0 : Nat → Option LoopD := fun _ => none
noncomputable def impl_parts : ByteArray → Option ((List (ByteArray × PT)) × Bool) := fun a0 =>
  bif (decide ((((ByteArray.size a0) : Nat) : Int) > (120 : Int))) then
    some ([], false)
  else
    Option.bind (impl_readParts a0) fun (r0, r1) =>
      bif (decide ((((List.length r0) : Nat) : Int) > (0 : Int))) then
        some ((List.take (List.length r0) (List.drop 0 r0)), ((ByteArray.toList r1) == (ByteArray.toList (⟨#[]⟩ : ByteArray))))
      else
        some ((List.take (List.length r0) (List.drop 0 r0)), false)
noncomputable def A69 : FnA := ⟨[.v .str], true, [.sl (.pair .str .pt), .bool], fun x => impl_parts x.1⟩
theorem impl_parts_eq : fnF E69 L69_0 [.v .str] true [.sl (.pair .str .pt), .bool] f69.ntmps f69.results.toList (codeOf f69) = fun x => impl_parts x.1 := by kernel_rfl
theorem A69_ok : FnOk prog 69 A69 := by
  have h := fnOk_of_run (P := prog) (E := E69) (tysOk_of tyl_ok) E69_ok (L := L69_0) (ps := [.v .str]) (own := true) (outs := [.sl (.pair .str .pt), .bool]) func69 (c := codeOf f69) (by kernel_rfl) (codeOk_in (L := L69_0) (tysOk_of tyl_ok) E69_ok mixed (c := codeOf f69) (bs := []) (by kernel_rfl) allNil (by kernel_rfl))
  rw [impl_parts_eq] at h
  exact h
/-! impl.filled -/
noncomputable def E55 : Env := ⟨ty0, fun _ => none, fun _ => none, fun _ => none, fun _ => none⟩
theorem E55_ok : FnsOk prog E55 := (noFns _ _)
noncomputable def L55_0 : Nat → Option LoopD := fun _ => none
def sh55_6 : List Fm := [.cell (.val (.int .i64)), .clo [.int .i64, .int .i64] (.int .i64), d, d, .box 100400 [.val (.int .i64), .own (.int .i64) 100402 false], .box 100500 [.val (.int .i64), .own (.int .i64) 100502 false], .cell (.val (.int .i64)), d, d, d, .cell (.val (.int .i64)), .cell (.val (.int .i64)), d, d, .cell (.val (.int .i64)), .cell (.val (.int .i64)), d, d, d, d, d, d, d, d, d, d, d, d, d, d]
def xs55_6 : List (Ex × List Fm) := [(.exit 2, [.cell (.val (.int .i64)), .clo [.int .i64, .int .i64] (.int .i64), d, d, .box 100400 [.val (.int .i64), .own (.int .i64) 100402 false], .box 100500 [.val (.int .i64), .own (.int .i64) 100502 false], d, d, d, d, .cell (.val (.int .i64)), .cell (.val (.int .i64)), d, d, d, d, d, d, d, d, d, d, d, d, d, d, d, d, d, d])]
noncomputable def impl_filled_l6 : (Int × ((Int × Int × Unit) → Option (Int)) × (Int × (List Int) × Unit) × (Int × (List Int) × Unit) × Int × Int × Int × Int × Int × Unit) → Option ((Int × ((Int × Int × Unit) → Option (Int)) × (Int × (List Int) × Unit) × (Int × (List Int) × Unit) × Int × Int × Int × Int × Int × Unit) ⊕ ((Int × ((Int × Int × Unit) → Option (Int)) × (Int × (List Int) × Unit) × (Int × (List Int) × Unit) × Int × Int × Unit))) := fun (v0, v1, (v4_0, v4_1, _), (v5_0, v5_1, _), v6, v10, v11, v14, v15, _) =>
  bif (decide (v15 < v14)) then
    Option.bind (v1 (v6, v15, ())) fun r0 =>
      if (((0 + (List.length v5_1)) = (List.length v5_1)) ∧ ((((List.length v5_1) + (List.length (List.take 1 (List.drop 0 [r0])))) * 8) ≤ 140737488355328)) then
        some (Sum.inl (v0, v1, (v4_0, (List.take (List.length v4_1) (List.drop 0 v4_1)), ()), (v5_0, (List.take ((List.length v5_1) + (List.length (List.take 1 (List.drop 0 [r0])))) (List.drop 0 ((List.drop 0 v5_1) ++ (List.take 1 (List.drop 0 [r0]))))), ()), v6, v10, v11, v14, (IntKind.wrap .i64 (v15 + (1 : Int))), ()))
      else
        none
  else
    some (Sum.inr (v0, v1, (v4_0, (List.take (List.length v4_1) (List.drop 0 v4_1)), ()), (v5_0, (List.take (List.length v5_1) (List.drop 0 v5_1)), ()), v10, v11, ()))
theorem impl_filled_l6_eq : loopStep 30 E55 L55_0 (loopOf f55 6) sh55_6 xs55_6 = impl_filled_l6 := by kernel_rfl
theorem loop55_6 {L : Nat → Option LoopD} (h : L 6 = some ⟨30, sh55_6, xs55_6, impl_filled_l6⟩) : LoopOk prog L (loopOf f55 6) :=
  loopOk (tysOk_of tyl_ok) E55_ok (codeOk_in (L := L55_0) (tysOk_of tyl_ok) E55_ok mixed (c := loopOf f55 6) (bs := []) (by kernel_rfl) allNil (by kernel_rfl)) (by kernel_rfl) (by kernel_rfl) impl_filled_l6_eq (by rw [show firstId (loopOf f55 6) = 6 from by kernel_rfl]; exact h)
noncomputable def L55_1 : Nat → Option LoopD := fun n => ifEq n 6 (some ⟨30, sh55_6, xs55_6, impl_filled_l6⟩) (L55_0 n)
def sh55_3 : List Fm := [.cell (.val (.int .i64)), .clo [.int .i64, .int .i64] (.int .i64), d, d, .box 100400 [.val (.int .i64), .own (.int .i64) 100402 false], .box 100500 [.val (.int .i64), .own (.int .i64) 100502 false], d, d, d, d, .cell (.val (.int .i64)), .cell (.val (.int .i64)), d, d, d, d, d, d, d, d, d, d, d, d, d, d, d, d, d, d]
def xs55_3 : List (Ex × List Fm) := [(.exit 0, [d, d, d, d, .box 100400 [.val (.int .i64), .own (.int .i64) 100402 false], .box 100500 [.val (.int .i64), .own (.int .i64) 100502 false], d, d, d, d, d, d, d, d, d, d, d, d, d, d, d, d, d, d, d, d, d, d, d, d])]
noncomputable def impl_filled_l3 : (Int × ((Int × Int × Unit) → Option (Int)) × (Int × (List Int) × Unit) × (Int × (List Int) × Unit) × Int × Int × Unit) → Option ((Int × ((Int × Int × Unit) → Option (Int)) × (Int × (List Int) × Unit) × (Int × (List Int) × Unit) × Int × Int × Unit) ⊕ (((Int × (List Int) × Unit) × (Int × (List Int) × Unit) × Unit))) := fun (v0, v1, (v4_0, v4_1, _), (v5_0, v5_1, _), v10, v11, _) =>
  bif (decide (v11 < v10)) then
    Option.bind (loopF impl_filled_l6 (v0, v1, (v4_0, (List.take (List.length v4_1) (List.drop 0 v4_1)), ()), (v5_0, (List.take (List.length v5_1) (List.drop 0 v5_1)), ()), v11, v10, v11, v0, (0 : Int), ())) fun (r0, r1, (r2, r3, _), (r4, r5, _), r6, r7, _) =>
      some (Sum.inl (r0, r1, (r2, (List.take (List.length r3) (List.drop 0 r3)), ()), (r4, (List.take (List.length r5) (List.drop 0 r5)), ()), r6, (IntKind.wrap .i64 (r7 + (1 : Int))), ()))
  else
    some (Sum.inr ((v4_0, (List.take (List.length v4_1) (List.drop 0 v4_1)), ()), (v5_0, (List.take (List.length v5_1) (List.drop 0 v5_1)), ()), ()))
theorem impl_filled_l3_eq : loopStep 30 E55 L55_1 (loopOf f55 3) sh55_3 xs55_3 = impl_filled_l3 := by kernel_rfl
theorem loop55_3 {L : Nat → Option LoopD} (h : L 3 = some ⟨30, sh55_3, xs55_3, impl_filled_l3⟩) : LoopOk prog L (loopOf f55 3) :=
  loopOk (tysOk_of tyl_ok) E55_ok (codeOk_in (L := L55_1) (tysOk_of tyl_ok) E55_ok mixed (c := loopOf f55 3) (bs := [loopOf f55 6]) (by kernel_rfl) (allCons (loop55_6 rfl) allNil) (by kernel_rfl)) (by kernel_rfl) (by kernel_rfl) impl_filled_l3_eq (by rw [show firstId (loopOf f55 3) = 3 from by kernel_rfl]; exact h)
noncomputable def L55_2 : Nat → Option LoopD := fun n => ifEq n 3 (some ⟨30, sh55_3, xs55_3, impl_filled_l3⟩) (L55_1 n)
noncomputable def impl_filled : Int → ((Int × Int × Unit) → Option (Int)) → Option ((Int × (List Int))) := fun a0 a1 =>
  Option.bind (loopF impl_filled_l3 (a0, a1, ((0 : Int), [], ()), (a0, [], ()), a0, (0 : Int), ())) fun ((r0, r1, _), (r2, r3, _), _) =>
    some (r2, (List.take (List.length r3) (List.drop 0 r3)))
noncomputable def A55 : FnA := ⟨[.v (.int .i64), .clo [.int .i64, .int .i64] (.int .i64)], true, [.pair (.int .i64) (.sl (.int .i64))], fun x => impl_filled x.1 x.2.1⟩
theorem impl_filled_eq : fnF E55 L55_2 [.v (.int .i64), .clo [.int .i64, .int .i64] (.int .i64)] true [.pair (.int .i64) (.sl (.int .i64))] f55.ntmps f55.results.toList (codeOf f55) = fun x => impl_filled x.1 x.2.1 := by kernel_rfl
theorem A55_ok : FnOk prog 55 A55 := by
  have h := fnOk_of_run (P := prog) (E := E55) (tysOk_of tyl_ok) E55_ok (L := L55_2) (ps := [.v (.int .i64), .clo [.int .i64, .int .i64] (.int .i64)]) (own := true) (outs := [.pair (.int .i64) (.sl (.int .i64))]) func55 (c := codeOf f55) (by kernel_rfl) (codeOk_in (L := L55_2) (tysOk_of tyl_ok) E55_ok mixed (c := codeOf f55) (bs := [loopOf f55 3]) (by kernel_rfl) (allCons (loop55_3 rfl) allNil) (by kernel_rfl))
  rw [impl_filled_eq] at h
  exact h
/-! impl.StepMatrix$1 -/
noncomputable def E80 : Env := ⟨ty0, fun _ => none, fun _ => none, fun _ => none, fun _ => none⟩
theorem E80_ok : FnsOk prog E80 := (noFns _ _)
noncomputable def L80_0 : Nat → Option LoopD := fun _ => none
noncomputable def impl_StepMatrix_1 : Int → Int → Option (Int) := fun a0 a1 =>
  some (1000000 : Int)
noncomputable def A80 : FnA := ⟨[.v (.int .i64), .v (.int .i64)], true, [.int .i64], fun x => impl_StepMatrix_1 x.1 x.2.1⟩
theorem impl_StepMatrix_1_eq : fnF E80 L80_0 [.v (.int .i64), .v (.int .i64)] true [.int .i64] f80.ntmps f80.results.toList (codeOf f80) = fun x => impl_StepMatrix_1 x.1 x.2.1 := by kernel_rfl
theorem A80_ok : FnOk prog 80 A80 := by
  have h := fnOk_of_run (P := prog) (E := E80) (tysOk_of tyl_ok) E80_ok (L := L80_0) (ps := [.v (.int .i64), .v (.int .i64)]) (own := true) (outs := [.int .i64]) func80 (c := codeOf f80) (by kernel_rfl) (codeOk_in (L := L80_0) (tysOk_of tyl_ok) E80_ok mixed (c := codeOf f80) (bs := []) (by kernel_rfl) allNil (by kernel_rfl))
  rw [impl_StepMatrix_1_eq] at h
  exact h
end Go.Proofs.Ytmanjfglaamhdaa
