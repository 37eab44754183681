/- What Go functions that the laws reach compute, and that they do: written by a program of this session. -/
import Derived.Test.YtcjlhckebkibaaaCmp
import Derived.KernelRfl
set_option linter.unusedVariables false
namespace Go.Proofs.Ytcjlhckebkibaaa
open Go Go.Proofs.Ytcjlhckebkibaaa.Am Go.Proofs.Try
set_option maxRecDepth 100000
def tyl : List (Nat × TyD) := [(3, {kd := .int .i64}),
  (4, {kd := .bool}),
  (5, {kd := .int .u8}),
  (9, {kd := .str}),
  (24, {kd := .sl (.int .i64), elt := .int .i64, bytes := 8}),
  (31, {kd := .pair (.int .i64) (.sl (.int .i64)), flds := [(0, .int .i64), (1, .sl (.int .i64))]}),
  (37, {kd := .sl (.pair (.int .i64) (.pair .str (.pair (.int .i64) (.int .i64)))), elt := .pair (.int .i64) (.pair .str (.pair (.int .i64) (.int .i64))), bytes := 40}),
  (39, {kd := .pair (.int .i64) (.pair (.sl (.int .i64)) (.pair (.sl (.int .i64)) (.sl (.pair (.int .i64) (.pair .str (.pair (.int .i64) (.int .i64))))))), flds := [(0, .int .i64), (1, .sl (.int .i64)), (2, .sl (.int .i64)), (3, .sl (.pair (.int .i64) (.pair .str (.pair (.int .i64) (.int .i64)))))]}),
  (42, {kd := .sl (.pair (.int .i64) (.pair .str (.pair (.int .i64) (.int .i64)))), elt := .pair (.int .i64) (.pair .str (.pair (.int .i64) (.int .i64))), bytes := 40}),
  (44, {kd := .pair (.int .i64) (.pair (.sl (.int .i64)) (.pair (.sl (.int .i64)) (.sl (.pair (.int .i64) (.pair .str (.pair (.int .i64) (.int .i64))))))), flds := [(0, .int .i64), (1, .sl (.int .i64)), (2, .sl (.int .i64)), (3, .sl (.pair (.int .i64) (.pair .str (.pair (.int .i64) (.int .i64)))))]}),
  (65, {kd := .sl .str, elt := .str, bytes := 16}),
  (90, {kd := .pair (.int .i64) (.pair .str (.pair (.int .i64) (.int .i64))), flds := [(0, .int .i64), (1, .str), (2, .int .i64), (3, .int .i64)]}),
  (91, {kd := .pair (.int .i64) (.pair .str (.pair (.int .i64) (.int .i64))), flds := [(0, .int .i64), (1, .str), (2, .int .i64), (3, .int .i64)]}),
  (93, {kd := .sl (.pair (.int .i64) (.pair (.sl (.int .i64)) (.pair (.sl (.int .i64)) (.sl (.pair (.int .i64) (.pair .str (.pair (.int .i64) (.int .i64)))))))), elt := .pair (.int .i64) (.pair (.sl (.int .i64)) (.pair (.sl (.int .i64)) (.sl (.pair (.int .i64) (.pair .str (.pair (.int .i64) (.int .i64))))))), bytes := 80}),
  (94, {kd := .sl (.sl (.int .i64)), elt := .sl (.int .i64), bytes := 24}),
  (109, {kd := .int .u64}),
  (112, {kd := .sl (.int .u8), elt := .int .u8, bytes := 1}),
  (127, {kd := .int .u64})]
def ty0 : Nat → Option TyD := assoc tyl
theorem tyl_ok : tysOkB prog tyl = true := by kernel_rfl
theorem mixed : prog.follows .mixedOrders = true := by kernel_rfl
abbrev d : Fm := .cell .drop
/-! laws.szIntS -/
noncomputable def E51 : Env := ⟨ty0, fun _ => none, fun _ => none, fun _ => none⟩
theorem E51_ok : FnsOk prog E51 := (noFns _ _)
noncomputable def L51_0 : Nat → Option LoopD := fun _ => none
noncomputable def laws_szIntS : (List Int) → Int → Option (Int) := fun a0 a1 =>
  bif (decide ((IntKind.wrap .i64 (a1 - (((List.length a0) : Nat) : Int))) < (0 : Int))) then
    some (-1 : Int)
  else
    some (IntKind.wrap .i64 (a1 - (((List.length a0) : Nat) : Int)))
noncomputable def A51 : FnA := ⟨[.v (.sl (.int .i64)), .v (.int .i64)], true, [.int .i64], fun x => laws_szIntS x.1 x.2.1⟩
theorem laws_szIntS_eq : fnF E51 L51_0 [.v (.sl (.int .i64)), .v (.int .i64)] true [.int .i64] f51.ntmps f51.results.toList (codeOf f51) = fun x => laws_szIntS x.1 x.2.1 := by kernel_rfl
theorem A51_ok : FnOk prog 51 A51 := by
  have h := fnOk_of_run (P := prog) (E := E51) (tysOk_of tyl_ok) E51_ok (L := L51_0) (ps := [.v (.sl (.int .i64)), .v (.int .i64)]) (own := true) (outs := [.int .i64]) func51 (c := codeOf f51) (by kernel_rfl) (codeOk_in (L := L51_0) (tysOk_of tyl_ok) E51_ok mixed (c := codeOf f51) (bs := []) (by kernel_rfl) allNil (by kernel_rfl))
  rw [laws_szIntS_eq] at h
  exact h
/-! laws.szStep -/
noncomputable def E82 : Env := ⟨ty0, fun _ => none, fun _ => none, fun _ => none⟩
theorem E82_ok : FnsOk prog E82 := (noFns _ _)
noncomputable def L82_0 : Nat → Option LoopD := fun _ => none
noncomputable def laws_szStep : (Int × (ByteArray × (Int × Int))) → Int → Option (Int) := fun (a0_0, a0_1, a0_2, a0_3) a1 =>
  bif (decide ((IntKind.wrap .i64 (a1 - (((ByteArray.size a0_1) : Nat) : Int))) < (0 : Int))) then
    some (-1 : Int)
  else
    some (IntKind.wrap .i64 (a1 - (((ByteArray.size a0_1) : Nat) : Int)))
noncomputable def A82 : FnA := ⟨[.v (.pair (.int .i64) (.pair .str (.pair (.int .i64) (.int .i64)))), .v (.int .i64)], true, [.int .i64], fun x => laws_szStep x.1 x.2.1⟩
theorem laws_szStep_eq : fnF E82 L82_0 [.v (.pair (.int .i64) (.pair .str (.pair (.int .i64) (.int .i64)))), .v (.int .i64)] true [.int .i64] f82.ntmps f82.results.toList (codeOf f82) = fun x => laws_szStep x.1 x.2.1 := by kernel_rfl
theorem A82_ok : FnOk prog 82 A82 := by
  have h := fnOk_of_run (P := prog) (E := E82) (tysOk_of tyl_ok) E82_ok (L := L82_0) (ps := [.v (.pair (.int .i64) (.pair .str (.pair (.int .i64) (.int .i64)))), .v (.int .i64)]) (own := true) (outs := [.int .i64]) func82 (c := codeOf f82) (by kernel_rfl) (codeOk_in (L := L82_0) (tysOk_of tyl_ok) E82_ok mixed (c := codeOf f82) (bs := []) (by kernel_rfl) allNil (by kernel_rfl))
  rw [laws_szStep_eq] at h
  exact h
/-! laws.szStepS -/
noncomputable def E52 : Env := ⟨ty0, fun g => ifEq g 82 (some A82) (none), fun _ => none, fun _ => none⟩
theorem E52_ok : FnsOk prog E52 := (oneFn A82_ok func82 (by kernel_rfl) (by kernel_rfl) (noFns _ _))
noncomputable def L52_0 : Nat → Option LoopD := fun _ => none
def sh52_5 : List Fm := [.cell (.val (.sl (.pair (.int .i64) (.pair .str (.pair (.int .i64) (.int .i64)))))), .cell (.val (.int .i64)), d, d, d, .cell (.val (.int .i64)), d, d, d, d, d, d, d, d, d, d, d, d, d, d, d, d, d, d, d, d, d]
def xs52_5 : List (Ex × List Fm) := [(.ret, [d, d, d, d, .cell (.val (.int .i64)), d, d, d, d, d, d, d, d, d, d, d, d, d, d, d, d, d, d, d, d, d, d]), (.exit 0, [d, .cell (.val (.int .i64)), d, d, d, d, d, d, d, d, d, d, d, d, d, d, d, d, d, d, d, d, d, d, d, d, d])]
noncomputable def laws_szStepS_l5 : ((List (Int × (ByteArray × (Int × Int)))) × Int × Int × Unit) → Option (((List (Int × (ByteArray × (Int × Int)))) × Int × Int × Unit) ⊕ ((Int × Unit) ⊕ (Int × Unit))) := fun (v0, v1, v5, _) =>
  bif (decide (v5 < (((List.length v0) : Nat) : Int))) then
    if (((0 : Int) ≤ v5) ∧ (v5 < (((List.length v0) : Nat) : Int))) then
      Option.bind (laws_szStep (List.getD v0 (Int.toNat v5) ((0 : Int), (⟨Array.empty⟩ : ByteArray), (0 : Int), (0 : Int))) v1) fun r0 =>
        bif (decide (r0 < (0 : Int))) then
          some (Sum.inr (Sum.inl ((-1 : Int), ())))
        else
          some (Sum.inl (v0, r0, (IntKind.wrap .i64 (v5 + (1 : Int))), ()))
    else
      none
  else
    some (Sum.inr (Sum.inr (v1, ())))
theorem laws_szStepS_l5_eq : loopStep E52 L52_0 (loopOf f52 5) sh52_5 xs52_5 = laws_szStepS_l5 := by kernel_rfl
theorem loop52_5 {L : Nat → Option LoopD} (h : L 5 = some ⟨sh52_5, xs52_5, laws_szStepS_l5⟩) : LoopOk prog L (loopOf f52 5) :=
  loopOk (tysOk_of tyl_ok) E52_ok (codeOk_in (L := L52_0) (tysOk_of tyl_ok) E52_ok mixed (c := loopOf f52 5) (bs := []) (by kernel_rfl) allNil (by kernel_rfl)) (by kernel_rfl) (by kernel_rfl) laws_szStepS_l5_eq (by rw [show firstId (loopOf f52 5) = 5 from by kernel_rfl]; exact h)
noncomputable def L52_1 : Nat → Option LoopD := fun n => ifEq n 5 (some ⟨sh52_5, xs52_5, laws_szStepS_l5⟩) (L52_0 n)
noncomputable def laws_szStepS : (List (Int × (ByteArray × (Int × Int)))) → Int → Option (Int) := fun a0 a1 =>
  bif (decide ((IntKind.wrap .i64 (a1 - (((List.length a0) : Nat) : Int))) < (0 : Int))) then
    some (-1 : Int)
  else
    Option.bind (loopF laws_szStepS_l5 (a0, (IntKind.wrap .i64 (a1 - (((List.length a0) : Nat) : Int))), (0 : Int), ())) fun r0 =>
      (match r0 with
      | .inl (d1, _) =>
          some d1
      | .inr (d2, _) =>
          some d2)
noncomputable def A52 : FnA := ⟨[.v (.sl (.pair (.int .i64) (.pair .str (.pair (.int .i64) (.int .i64))))), .v (.int .i64)], true, [.int .i64], fun x => laws_szStepS x.1 x.2.1⟩
theorem laws_szStepS_eq : fnF E52 L52_1 [.v (.sl (.pair (.int .i64) (.pair .str (.pair (.int .i64) (.int .i64))))), .v (.int .i64)] true [.int .i64] f52.ntmps f52.results.toList (codeOf f52) = fun x => laws_szStepS x.1 x.2.1 := by kernel_rfl
theorem A52_ok : FnOk prog 52 A52 := by
  have h := fnOk_of_run (P := prog) (E := E52) (tysOk_of tyl_ok) E52_ok (L := L52_1) (ps := [.v (.sl (.pair (.int .i64) (.pair .str (.pair (.int .i64) (.int .i64))))), .v (.int .i64)]) (own := true) (outs := [.int .i64]) func52 (c := codeOf f52) (by kernel_rfl) (codeOk_in (L := L52_1) (tysOk_of tyl_ok) E52_ok mixed (c := codeOf f52) (bs := [loopOf f52 5]) (by kernel_rfl) (allCons (loop52_5 rfl) allNil) (by kernel_rfl))
  rw [laws_szStepS_eq] at h
  exact h
/-! laws.szAutomaton -/
noncomputable def E21 : Env := ⟨ty0, fun g => ifEq g 51 (some A51) (ifEq g 52 (some A52) (none)), fun _ => none, fun _ => none⟩
theorem E21_ok : FnsOk prog E21 := (oneFn A51_ok func51 (by kernel_rfl) (by kernel_rfl) (oneFn A52_ok func52 (by kernel_rfl) (by kernel_rfl) (noFns _ _)))
noncomputable def L21_0 : Nat → Option LoopD := fun _ => none
noncomputable def laws_szAutomaton : (Int × ((List Int) × ((List Int) × (List (Int × (ByteArray × (Int × Int))))))) → Int → Option (Int) := fun (a0_0, a0_1, a0_2, a0_3) a1 =>
  Option.bind (laws_szIntS a0_1 a1) fun r0 =>
    bif (decide (r0 < (0 : Int))) then
      some (-1 : Int)
    else
      Option.bind (laws_szIntS a0_2 r0) fun r1 =>
        bif (decide (r1 < (0 : Int))) then
          some (-1 : Int)
        else
          Option.bind (laws_szStepS a0_3 r1) fun r2 =>
            bif (decide (r2 < (0 : Int))) then
              some (-1 : Int)
            else
              some r2
noncomputable def A21 : FnA := ⟨[.v (.pair (.int .i64) (.pair (.sl (.int .i64)) (.pair (.sl (.int .i64)) (.sl (.pair (.int .i64) (.pair .str (.pair (.int .i64) (.int .i64)))))))), .v (.int .i64)], true, [.int .i64], fun x => laws_szAutomaton x.1 x.2.1⟩
theorem laws_szAutomaton_eq : fnF E21 L21_0 [.v (.pair (.int .i64) (.pair (.sl (.int .i64)) (.pair (.sl (.int .i64)) (.sl (.pair (.int .i64) (.pair .str (.pair (.int .i64) (.int .i64)))))))), .v (.int .i64)] true [.int .i64] f21.ntmps f21.results.toList (codeOf f21) = fun x => laws_szAutomaton x.1 x.2.1 := by kernel_rfl
theorem A21_ok : FnOk prog 21 A21 := by
  have h := fnOk_of_run (P := prog) (E := E21) (tysOk_of tyl_ok) E21_ok (L := L21_0) (ps := [.v (.pair (.int .i64) (.pair (.sl (.int .i64)) (.pair (.sl (.int .i64)) (.sl (.pair (.int .i64) (.pair .str (.pair (.int .i64) (.int .i64)))))))), .v (.int .i64)]) (own := true) (outs := [.int .i64]) func21 (c := codeOf f21) (by kernel_rfl) (codeOk_in (L := L21_0) (tysOk_of tyl_ok) E21_ok mixed (c := codeOf f21) (bs := []) (by kernel_rfl) allNil (by kernel_rfl))
  rw [laws_szAutomaton_eq] at h
  exact h
/-! laws.toIntS -/
noncomputable def E56 : Env := ⟨ty0, fun _ => none, fun _ => none, fun _ => none⟩
theorem E56_ok : FnsOk prog E56 := (noFns _ _)
noncomputable def L56_0 : Nat → Option LoopD := fun _ => none
def sh56_3 : List Fm := [.cell (.val (.sl (.int .i64))), d, d, .cell (.own (.int .i64) 100300 false), .cell (.val (.int .i64)), d, d, d, d, d, d, d, d, d, d, d, d, d, d, d, d, d]
def xs56_3 : List (Ex × List Fm) := [(.exit 0, [d, d, d, .cell (.own (.int .i64) 100300 false), d, d, d, d, d, d, d, d, d, d, d, d, d, d, d, d, d, d])]
noncomputable def laws_toIntS_l3 : ((List Int) × (List Int) × Int × Unit) → Option (((List Int) × (List Int) × Int × Unit) ⊕ (((List Int) × Unit))) := fun (v0, v3, v4, _) =>
  bif (decide (v4 < (((List.length v0) : Nat) : Int))) then
    if (((0 : Int) ≤ v4) ∧ (v4 < (((List.length v0) : Nat) : Int))) then
      if (((0 : Int) ≤ v4) ∧ (v4 < (((List.length v3) : Nat) : Int))) then
        some (Sum.inl (v0, (List.take (List.length v3) (List.drop 0 (List.set v3 (0 + (Int.toNat v4)) (List.getD v0 (Int.toNat v4) (0 : Int))))), (IntKind.wrap .i64 (v4 + (1 : Int))), ()))
      else
        none
    else
      none
  else
    some (Sum.inr ((List.take (List.length v3) (List.drop 0 v3)), ()))
theorem laws_toIntS_l3_eq : loopStep E56 L56_0 (loopOf f56 3) sh56_3 xs56_3 = laws_toIntS_l3 := by kernel_rfl
theorem loop56_3 {L : Nat → Option LoopD} (h : L 3 = some ⟨sh56_3, xs56_3, laws_toIntS_l3⟩) : LoopOk prog L (loopOf f56 3) :=
  loopOk (tysOk_of tyl_ok) E56_ok (codeOk_in (L := L56_0) (tysOk_of tyl_ok) E56_ok mixed (c := loopOf f56 3) (bs := []) (by kernel_rfl) allNil (by kernel_rfl)) (by kernel_rfl) (by kernel_rfl) laws_toIntS_l3_eq (by rw [show firstId (loopOf f56 3) = 3 from by kernel_rfl]; exact h)
noncomputable def L56_1 : Nat → Option LoopD := fun n => ifEq n 3 (some ⟨sh56_3, xs56_3, laws_toIntS_l3⟩) (L56_0 n)
noncomputable def laws_toIntS : (List Int) → Option ((List Int)) := fun a0 =>
  if (((0 : Int) ≤ (((List.length a0) : Nat) : Int)) ∧ (((((List.length a0) : Nat) : Int) = (((List.length a0) : Nat) : Int)) ∧ (((((List.length a0) : Nat) : Int) * ((8 : Nat) : Int)) ≤ (140737488355328 : Int)))) then
    Option.bind (loopF laws_toIntS_l3 (a0, (List.take (Int.toNat (((List.length a0) : Nat) : Int)) (List.drop 0 (List.replicate (Int.toNat (((List.length a0) : Nat) : Int)) (0 : Int)))), (0 : Int), ())) fun (r0, _) =>
      some (List.take (List.length r0) (List.drop 0 r0))
  else
    none
noncomputable def A56 : FnA := ⟨[.v (.sl (.int .i64))], true, [.sl (.int .i64)], fun x => laws_toIntS x.1⟩
theorem laws_toIntS_eq : fnF E56 L56_1 [.v (.sl (.int .i64))] true [.sl (.int .i64)] f56.ntmps f56.results.toList (codeOf f56) = fun x => laws_toIntS x.1 := by kernel_rfl
theorem A56_ok : FnOk prog 56 A56 := by
  have h := fnOk_of_run (P := prog) (E := E56) (tysOk_of tyl_ok) E56_ok (L := L56_1) (ps := [.v (.sl (.int .i64))]) (own := true) (outs := [.sl (.int .i64)]) func56 (c := codeOf f56) (by kernel_rfl) (codeOk_in (L := L56_1) (tysOk_of tyl_ok) E56_ok mixed (c := codeOf f56) (bs := [loopOf f56 3]) (by kernel_rfl) (allCons (loop56_3 rfl) allNil) (by kernel_rfl))
  rw [laws_toIntS_eq] at h
  exact h
/-! laws.toStep -/
noncomputable def E84 : Env := ⟨ty0, fun _ => none, fun _ => none, fun _ => none⟩
theorem E84_ok : FnsOk prog E84 := (noFns _ _)
noncomputable def L84_0 : Nat → Option LoopD := fun _ => none
noncomputable def laws_toStep : (Int × (ByteArray × (Int × Int))) → Option ((Int × (ByteArray × (Int × Int)))) := fun (a0_0, a0_1, a0_2, a0_3) =>
  some (a0_0, a0_1, a0_2, a0_3)
noncomputable def A84 : FnA := ⟨[.v (.pair (.int .i64) (.pair .str (.pair (.int .i64) (.int .i64))))], true, [.pair (.int .i64) (.pair .str (.pair (.int .i64) (.int .i64)))], fun x => laws_toStep x.1⟩
theorem laws_toStep_eq : fnF E84 L84_0 [.v (.pair (.int .i64) (.pair .str (.pair (.int .i64) (.int .i64))))] true [.pair (.int .i64) (.pair .str (.pair (.int .i64) (.int .i64)))] f84.ntmps f84.results.toList (codeOf f84) = fun x => laws_toStep x.1 := by kernel_rfl
theorem A84_ok : FnOk prog 84 A84 := by
  have h := fnOk_of_run (P := prog) (E := E84) (tysOk_of tyl_ok) E84_ok (L := L84_0) (ps := [.v (.pair (.int .i64) (.pair .str (.pair (.int .i64) (.int .i64))))]) (own := true) (outs := [.pair (.int .i64) (.pair .str (.pair (.int .i64) (.int .i64)))]) func84 (c := codeOf f84) (by kernel_rfl) (codeOk_in (L := L84_0) (tysOk_of tyl_ok) E84_ok mixed (c := codeOf f84) (bs := []) (by kernel_rfl) allNil (by kernel_rfl))
  rw [laws_toStep_eq] at h
  exact h
/-! laws.toStepS -/
noncomputable def E57 : Env := ⟨ty0, fun g => ifEq g 84 (some A84) (none), fun _ => none, fun _ => none⟩
theorem E57_ok : FnsOk prog E57 := (oneFn A84_ok func84 (by kernel_rfl) (by kernel_rfl) (noFns _ _))
noncomputable def L57_0 : Nat → Option LoopD := fun _ => none
def sh57_3 : List Fm := [.cell (.val (.sl (.pair (.int .i64) (.pair .str (.pair (.int .i64) (.int .i64)))))), d, d, .cell (.own (.pair (.int .i64) (.pair .str (.pair (.int .i64) (.int .i64)))) 100300 false), .cell (.val (.int .i64)), d, d, d, d, d, d, d, d, d, d, d, d, d, d, d, d, d, d]
def xs57_3 : List (Ex × List Fm) := [(.exit 0, [d, d, d, .cell (.own (.pair (.int .i64) (.pair .str (.pair (.int .i64) (.int .i64)))) 100300 false), d, d, d, d, d, d, d, d, d, d, d, d, d, d, d, d, d, d, d])]
noncomputable def laws_toStepS_l3 : ((List (Int × (ByteArray × (Int × Int)))) × (List (Int × (ByteArray × (Int × Int)))) × Int × Unit) → Option (((List (Int × (ByteArray × (Int × Int)))) × (List (Int × (ByteArray × (Int × Int)))) × Int × Unit) ⊕ (((List (Int × (ByteArray × (Int × Int)))) × Unit))) := fun (v0, v3, v4, _) =>
  bif (decide (v4 < (((List.length v0) : Nat) : Int))) then
    if (((0 : Int) ≤ v4) ∧ (v4 < (((List.length v0) : Nat) : Int))) then
      Option.bind (laws_toStep (List.getD v0 (Int.toNat v4) ((0 : Int), (⟨Array.empty⟩ : ByteArray), (0 : Int), (0 : Int)))) fun (r0, r1, r2, r3) =>
        if (((0 : Int) ≤ v4) ∧ (v4 < (((List.length v3) : Nat) : Int))) then
          some (Sum.inl (v0, (List.take (List.length v3) (List.drop 0 (List.set v3 (0 + (Int.toNat v4)) (r0, r1, r2, r3)))), (IntKind.wrap .i64 (v4 + (1 : Int))), ()))
        else
          none
    else
      none
  else
    some (Sum.inr ((List.take (List.length v3) (List.drop 0 v3)), ()))
theorem laws_toStepS_l3_eq : loopStep E57 L57_0 (loopOf f57 3) sh57_3 xs57_3 = laws_toStepS_l3 := by kernel_rfl
theorem loop57_3 {L : Nat → Option LoopD} (h : L 3 = some ⟨sh57_3, xs57_3, laws_toStepS_l3⟩) : LoopOk prog L (loopOf f57 3) :=
  loopOk (tysOk_of tyl_ok) E57_ok (codeOk_in (L := L57_0) (tysOk_of tyl_ok) E57_ok mixed (c := loopOf f57 3) (bs := []) (by kernel_rfl) allNil (by kernel_rfl)) (by kernel_rfl) (by kernel_rfl) laws_toStepS_l3_eq (by rw [show firstId (loopOf f57 3) = 3 from by kernel_rfl]; exact h)
noncomputable def L57_1 : Nat → Option LoopD := fun n => ifEq n 3 (some ⟨sh57_3, xs57_3, laws_toStepS_l3⟩) (L57_0 n)
noncomputable def laws_toStepS : (List (Int × (ByteArray × (Int × Int)))) → Option ((List (Int × (ByteArray × (Int × Int))))) := fun a0 =>
  if (((0 : Int) ≤ (((List.length a0) : Nat) : Int)) ∧ (((((List.length a0) : Nat) : Int) = (((List.length a0) : Nat) : Int)) ∧ (((((List.length a0) : Nat) : Int) * ((40 : Nat) : Int)) ≤ (140737488355328 : Int)))) then
    Option.bind (loopF laws_toStepS_l3 (a0, (List.take (Int.toNat (((List.length a0) : Nat) : Int)) (List.drop 0 (List.replicate (Int.toNat (((List.length a0) : Nat) : Int)) ((0 : Int), (⟨Array.empty⟩ : ByteArray), (0 : Int), (0 : Int))))), (0 : Int), ())) fun (r0, _) =>
      some (List.take (List.length r0) (List.drop 0 r0))
  else
    none
noncomputable def A57 : FnA := ⟨[.v (.sl (.pair (.int .i64) (.pair .str (.pair (.int .i64) (.int .i64)))))], true, [.sl (.pair (.int .i64) (.pair .str (.pair (.int .i64) (.int .i64))))], fun x => laws_toStepS x.1⟩
theorem laws_toStepS_eq : fnF E57 L57_1 [.v (.sl (.pair (.int .i64) (.pair .str (.pair (.int .i64) (.int .i64)))))] true [.sl (.pair (.int .i64) (.pair .str (.pair (.int .i64) (.int .i64))))] f57.ntmps f57.results.toList (codeOf f57) = fun x => laws_toStepS x.1 := by kernel_rfl
theorem A57_ok : FnOk prog 57 A57 := by
  have h := fnOk_of_run (P := prog) (E := E57) (tysOk_of tyl_ok) E57_ok (L := L57_1) (ps := [.v (.sl (.pair (.int .i64) (.pair .str (.pair (.int .i64) (.int .i64)))))]) (own := true) (outs := [.sl (.pair (.int .i64) (.pair .str (.pair (.int .i64) (.int .i64))))]) func57 (c := codeOf f57) (by kernel_rfl) (codeOk_in (L := L57_1) (tysOk_of tyl_ok) E57_ok mixed (c := codeOf f57) (bs := [loopOf f57 3]) (by kernel_rfl) (allCons (loop57_3 rfl) allNil) (by kernel_rfl))
  rw [laws_toStepS_eq] at h
  exact h
/-! laws.toAutomaton -/
noncomputable def E23 : Env := ⟨ty0, fun g => ifEq g 56 (some A56) (ifEq g 57 (some A57) (none)), fun _ => none, fun _ => none⟩
theorem E23_ok : FnsOk prog E23 := (oneFn A56_ok func56 (by kernel_rfl) (by kernel_rfl) (oneFn A57_ok func57 (by kernel_rfl) (by kernel_rfl) (noFns _ _)))
noncomputable def L23_0 : Nat → Option LoopD := fun _ => none
noncomputable def laws_toAutomaton : (Int × ((List Int) × ((List Int) × (List (Int × (ByteArray × (Int × Int))))))) → Option ((Int × ((List Int) × ((List Int) × (List (Int × (ByteArray × (Int × Int)))))))) := fun (a0_0, a0_1, a0_2, a0_3) =>
  Option.bind (laws_toIntS a0_1) fun r0 =>
    Option.bind (laws_toIntS a0_2) fun r1 =>
      Option.bind (laws_toStepS a0_3) fun r2 =>
        some (a0_0, (List.take (List.length r0) (List.drop 0 r0)), (List.take (List.length r1) (List.drop 0 r1)), (List.take (List.length r2) (List.drop 0 r2)))
noncomputable def A23 : FnA := ⟨[.v (.pair (.int .i64) (.pair (.sl (.int .i64)) (.pair (.sl (.int .i64)) (.sl (.pair (.int .i64) (.pair .str (.pair (.int .i64) (.int .i64))))))))], true, [.pair (.int .i64) (.pair (.sl (.int .i64)) (.pair (.sl (.int .i64)) (.sl (.pair (.int .i64) (.pair .str (.pair (.int .i64) (.int .i64)))))))], fun x => laws_toAutomaton x.1⟩
theorem laws_toAutomaton_eq : fnF E23 L23_0 [.v (.pair (.int .i64) (.pair (.sl (.int .i64)) (.pair (.sl (.int .i64)) (.sl (.pair (.int .i64) (.pair .str (.pair (.int .i64) (.int .i64))))))))] true [.pair (.int .i64) (.pair (.sl (.int .i64)) (.pair (.sl (.int .i64)) (.sl (.pair (.int .i64) (.pair .str (.pair (.int .i64) (.int .i64)))))))] f23.ntmps f23.results.toList (codeOf f23) = fun x => laws_toAutomaton x.1 := by kernel_rfl
theorem A23_ok : FnOk prog 23 A23 := by
  have h := fnOk_of_run (P := prog) (E := E23) (tysOk_of tyl_ok) E23_ok (L := L23_0) (ps := [.v (.pair (.int .i64) (.pair (.sl (.int .i64)) (.pair (.sl (.int .i64)) (.sl (.pair (.int .i64) (.pair .str (.pair (.int .i64) (.int .i64))))))))]) (own := true) (outs := [.pair (.int .i64) (.pair (.sl (.int .i64)) (.pair (.sl (.int .i64)) (.sl (.pair (.int .i64) (.pair .str (.pair (.int .i64) (.int .i64)))))))]) func23 (c := codeOf f23) (by kernel_rfl) (codeOk_in (L := L23_0) (tysOk_of tyl_ok) E23_ok mixed (c := codeOf f23) (bs := []) (by kernel_rfl) allNil (by kernel_rfl))
  rw [laws_toAutomaton_eq] at h
  exact h
/-! spec.l1In -/
noncomputable def E67 : Env := ⟨ty0, fun _ => none, fun _ => none, fun _ => none⟩
theorem E67_ok : FnsOk prog E67 := (noFns _ _)
noncomputable def L67_0 : Nat → Option LoopD := fun _ => none
noncomputable def spec_l1In : Int → Int → Int → Option (Bool) := fun a0 a1 a2 =>
  bif (decide (a0 ≥ a1)) then
    some (decide (a0 ≤ a2))
  else
    some false
noncomputable def A67 : FnA := ⟨[.v (.int .i64), .v (.int .i64), .v (.int .i64)], true, [.bool], fun x => spec_l1In x.1 x.2.1 x.2.2.1⟩
theorem spec_l1In_eq : fnF E67 L67_0 [.v (.int .i64), .v (.int .i64), .v (.int .i64)] true [.bool] f67.ntmps f67.results.toList (codeOf f67) = fun x => spec_l1In x.1 x.2.1 x.2.2.1 := by kernel_rfl
theorem A67_ok : FnOk prog 67 A67 := by
  have h := fnOk_of_run (P := prog) (E := E67) (tysOk_of tyl_ok) E67_ok (L := L67_0) (ps := [.v (.int .i64), .v (.int .i64), .v (.int .i64)]) (own := true) (outs := [.bool]) func67 (c := codeOf f67) (by kernel_rfl) (codeOk_in (L := L67_0) (tysOk_of tyl_ok) E67_ok mixed (c := codeOf f67) (bs := []) (by kernel_rfl) allNil (by kernel_rfl))
  rw [spec_l1In_eq] at h
  exact h
/-! spec.l3Marks -/
noncomputable def E91 : Env := ⟨ty0, fun g => ifEq g 67 (some A67) (none), fun _ => none, fun _ => none⟩
theorem E91_ok : FnsOk prog E91 := (oneFn A67_ok func67 (by kernel_rfl) (by kernel_rfl) (noFns _ _))
noncomputable def L91_0 : Nat → Option LoopD := fun _ => none
def sh91_2 : List Fm := [.cell (.val (.int .i64)), .cell (.val (.sl (.int .i64))), d, d, d, d, d, .cell (.val (.sl (.int .i64))), .cell (.val (.int .i64)), .cell (.val (.int .i64)), d, d, d, d, d, d, d, d, d, d, d, d, d, d, d, d, d, d, d, d, d, d, d]
def xs91_2 : List (Ex × List Fm) := [(.ret, [d, d, d, d, .cell (.val .bool), d, d, d, d, d, d, d, d, d, d, d, d, d, d, d, d, d, d, d, d, d, d, d, d, d, d, d, d]), (.exit 0, [d, d, d, d, d, d, d, d, d, d, d, d, d, d, d, d, d, d, d, d, d, d, d, d, d, d, d, d, d, d, d, d, d])]
noncomputable def spec_l3Marks_l2 : (Int × (List Int) × (List Int) × Int × Int × Unit) → Option ((Int × (List Int) × (List Int) × Int × Int × Unit) ⊕ ((Bool × Unit) ⊕ (Unit))) := fun (v0, v1, v7, v8, v9, _) =>
  bif (decide (v9 < v8)) then
    if (((0 : Int) ≤ v9) ∧ (v9 < (((List.length v7) : Nat) : Int))) then
      Option.bind (spec_l1In (List.getD v7 (Int.toNat v9) (0 : Int)) (0 : Int) (IntKind.wrap .i64 (v0 - (1 : Int)))) fun r0 =>
        bif (!r0) then
          some (Sum.inr (Sum.inl (false, ())))
        else
          bif (decide (v9 > (0 : Int))) then
            if (((0 : Int) ≤ (IntKind.wrap .i64 (v9 - (1 : Int)))) ∧ ((IntKind.wrap .i64 (v9 - (1 : Int))) < (((List.length v1) : Nat) : Int))) then
              bif (decide ((List.getD v1 (Int.toNat (IntKind.wrap .i64 (v9 - (1 : Int)))) (0 : Int)) ≥ (List.getD v7 (Int.toNat v9) (0 : Int)))) then
                some (Sum.inr (Sum.inl (false, ())))
              else
                some (Sum.inl (v0, v1, v7, v8, (IntKind.wrap .i64 (v9 + (1 : Int))), ()))
            else
              none
          else
            some (Sum.inl (v0, v1, v7, v8, (IntKind.wrap .i64 (v9 + (1 : Int))), ()))
    else
      none
  else
    some (Sum.inr (Sum.inr ()))
theorem spec_l3Marks_l2_eq : loopStep E91 L91_0 (loopOf f91 2) sh91_2 xs91_2 = spec_l3Marks_l2 := by kernel_rfl
theorem loop91_2 {L : Nat → Option LoopD} (h : L 2 = some ⟨sh91_2, xs91_2, spec_l3Marks_l2⟩) : LoopOk prog L (loopOf f91 2) :=
  loopOk (tysOk_of tyl_ok) E91_ok (codeOk_in (L := L91_0) (tysOk_of tyl_ok) E91_ok mixed (c := loopOf f91 2) (bs := []) (by kernel_rfl) allNil (by kernel_rfl)) (by kernel_rfl) (by kernel_rfl) spec_l3Marks_l2_eq (by rw [show firstId (loopOf f91 2) = 2 from by kernel_rfl]; exact h)
noncomputable def L91_1 : Nat → Option LoopD := fun n => ifEq n 2 (some ⟨sh91_2, xs91_2, spec_l3Marks_l2⟩) (L91_0 n)
noncomputable def spec_l3Marks : Int → (List Int) → Option (Bool) := fun a0 a1 =>
  Option.bind (loopF spec_l3Marks_l2 (a0, a1, a1, (((List.length a1) : Nat) : Int), (0 : Int), ())) fun r0 =>
    (match r0 with
    | .inl (d1, _) =>
        some d1
    | .inr _ =>
        some true)
noncomputable def A91 : FnA := ⟨[.v (.int .i64), .v (.sl (.int .i64))], true, [.bool], fun x => spec_l3Marks x.1 x.2.1⟩
theorem spec_l3Marks_eq : fnF E91 L91_1 [.v (.int .i64), .v (.sl (.int .i64))] true [.bool] f91.ntmps f91.results.toList (codeOf f91) = fun x => spec_l3Marks x.1 x.2.1 := by kernel_rfl
theorem A91_ok : FnOk prog 91 A91 := by
  have h := fnOk_of_run (P := prog) (E := E91) (tysOk_of tyl_ok) E91_ok (L := L91_1) (ps := [.v (.int .i64), .v (.sl (.int .i64))]) (own := true) (outs := [.bool]) func91 (c := codeOf f91) (by kernel_rfl) (codeOk_in (L := L91_1) (tysOk_of tyl_ok) E91_ok mixed (c := codeOf f91) (bs := [loopOf f91 2]) (by kernel_rfl) (allCons (loop91_2 rfl) allNil) (by kernel_rfl))
  rw [spec_l3Marks_eq] at h
  exact h
/-! spec.l3Step -/
noncomputable def E92 : Env := ⟨ty0, fun g => ifEq g 67 (some A67) (none), fun _ => none, fun _ => none⟩
theorem E92_ok : FnsOk prog E92 := (oneFn A67_ok func67 (by kernel_rfl) (by kernel_rfl) (noFns _ _))
noncomputable def L92_0 : Nat → Option LoopD := fun _ => none
noncomputable def spec_l3Step : Int → (Int × (ByteArray × (Int × Int))) → Option (Bool) := fun a0 (a1_0, a1_1, a1_2, a1_3) =>
  Option.bind (spec_l1In a1_0 (0 : Int) (IntKind.wrap .i64 (a0 - (1 : Int)))) fun r0 =>
    bif r0 then
      Option.bind (spec_l1In a1_2 (0 : Int) (IntKind.wrap .i64 (a0 - (1 : Int)))) fun r1 =>
        bif r1 then
          Option.bind (spec_l1In a1_3 (0 : Int) (3 : Int)) fun r2 =>
            bif r2 then
              bif ((ByteArray.toList a1_1) == (ByteArray.toList (⟨#[(97 : UInt8)]⟩ : ByteArray))) then
                some true
              else
                some ((ByteArray.toList a1_1) == (ByteArray.toList (⟨#[(98 : UInt8)]⟩ : ByteArray)))
            else
              some false
        else
          some false
    else
      some false
noncomputable def A92 : FnA := ⟨[.v (.int .i64), .v (.pair (.int .i64) (.pair .str (.pair (.int .i64) (.int .i64))))], true, [.bool], fun x => spec_l3Step x.1 x.2.1⟩
theorem spec_l3Step_eq : fnF E92 L92_0 [.v (.int .i64), .v (.pair (.int .i64) (.pair .str (.pair (.int .i64) (.int .i64))))] true [.bool] f92.ntmps f92.results.toList (codeOf f92) = fun x => spec_l3Step x.1 x.2.1 := by kernel_rfl
theorem A92_ok : FnOk prog 92 A92 := by
  have h := fnOk_of_run (P := prog) (E := E92) (tysOk_of tyl_ok) E92_ok (L := L92_0) (ps := [.v (.int .i64), .v (.pair (.int .i64) (.pair .str (.pair (.int .i64) (.int .i64))))]) (own := true) (outs := [.bool]) func92 (c := codeOf f92) (by kernel_rfl) (codeOk_in (L := L92_0) (tysOk_of tyl_ok) E92_ok mixed (c := codeOf f92) (bs := []) (by kernel_rfl) allNil (by kernel_rfl))
  rw [spec_l3Step_eq] at h
  exact h
/-! spec.l3Before -/
noncomputable def E93 : Env := ⟨ty0, fun _ => none, fun _ => none, fun _ => none⟩
theorem E93_ok : FnsOk prog E93 := (noFns _ _)
noncomputable def L93_0 : Nat → Option LoopD := fun _ => none
noncomputable def spec_l3Before : (Int × (ByteArray × (Int × Int))) → (Int × (ByteArray × (Int × Int))) → Option (Bool) := fun (a0_0, a0_1, a0_2, a0_3) (a1_0, a1_1, a1_2, a1_3) =>
  bif (a0_0 != a1_0) then
    some (decide (a0_0 < a1_0))
  else
    bif (!((ByteArray.toList a0_1) == (ByteArray.toList a1_1))) then
      some (Op.bytesLess (ByteArray.toList a0_1) (ByteArray.toList a1_1))
    else
      some (decide (a0_2 < a1_2))
noncomputable def A93 : FnA := ⟨[.v (.pair (.int .i64) (.pair .str (.pair (.int .i64) (.int .i64)))), .v (.pair (.int .i64) (.pair .str (.pair (.int .i64) (.int .i64))))], true, [.bool], fun x => spec_l3Before x.1 x.2.1⟩
theorem spec_l3Before_eq : fnF E93 L93_0 [.v (.pair (.int .i64) (.pair .str (.pair (.int .i64) (.int .i64)))), .v (.pair (.int .i64) (.pair .str (.pair (.int .i64) (.int .i64))))] true [.bool] f93.ntmps f93.results.toList (codeOf f93) = fun x => spec_l3Before x.1 x.2.1 := by kernel_rfl
theorem A93_ok : FnOk prog 93 A93 := by
  have h := fnOk_of_run (P := prog) (E := E93) (tysOk_of tyl_ok) E93_ok (L := L93_0) (ps := [.v (.pair (.int .i64) (.pair .str (.pair (.int .i64) (.int .i64)))), .v (.pair (.int .i64) (.pair .str (.pair (.int .i64) (.int .i64))))]) (own := true) (outs := [.bool]) func93 (c := codeOf f93) (by kernel_rfl) (codeOk_in (L := L93_0) (tysOk_of tyl_ok) E93_ok mixed (c := codeOf f93) (bs := []) (by kernel_rfl) allNil (by kernel_rfl))
  rw [spec_l3Before_eq] at h
  exact h
/-! spec.AutomatonValid -/
noncomputable def E66 : Env := ⟨ty0, fun g => ifEq g 67 (some A67) (ifEq g 91 (some A91) (ifEq g 92 (some A92) (ifEq g 93 (some A93) (none)))), fun _ => none, fun _ => none⟩
theorem E66_ok : FnsOk prog E66 := (oneFn A67_ok func67 (by kernel_rfl) (by kernel_rfl) (oneFn A91_ok func91 (by kernel_rfl) (by kernel_rfl) (oneFn A92_ok func92 (by kernel_rfl) (by kernel_rfl) (oneFn A93_ok func93 (by kernel_rfl) (by kernel_rfl) (noFns _ _)))))
noncomputable def L66_0 : Nat → Option LoopD := fun _ => none
def sh66_4 : List Fm := [d, .box 100100 [.val (.int .i64), .val (.sl (.int .i64)), .val (.sl (.int .i64)), .val (.sl (.pair (.int .i64) (.pair .str (.pair (.int .i64) (.int .i64)))))], d, d, d, d, d, d, d, d, d, d, d, d, d, d, d, d, d, d, d, d, d, d, d, d, d, d, d, d, d, d, .cell (.val (.sl (.pair (.int .i64) (.pair .str (.pair (.int .i64) (.int .i64)))))), .cell (.val (.int .i64)), .cell (.val (.int .i64)), d, d, d, d, d, d, d, d, d, d, d, d, d, d, d, d, d, d, d, d, d, d, d, d, d]
def xs66_4 : List (Ex × List Fm) := [(.ret, [d, d, .cell (.val .bool), d, d, d, d, d, d, d, d, d, d, d, d, d, d, d, d, d, d, d, d, d, d, d, d, d, d, d, d, d, d, d, d, d, d, d, d, d, d, d, d, d, d, d, d, d, d, d, d, d, d, d, d, d, d, d, d, d]), (.exit 0, [d, d, d, d, d, d, d, d, d, d, d, d, d, d, d, d, d, d, d, d, d, d, d, d, d, d, d, d, d, d, d, d, d, d, d, d, d, d, d, d, d, d, d, d, d, d, d, d, d, d, d, d, d, d, d, d, d, d, d, d])]
noncomputable def spec_AutomatonValid_l4 : ((Int × (List Int) × (List Int) × (List (Int × (ByteArray × (Int × Int)))) × Unit) × (List (Int × (ByteArray × (Int × Int)))) × Int × Int × Unit) → Option (((Int × (List Int) × (List Int) × (List (Int × (ByteArray × (Int × Int)))) × Unit) × (List (Int × (ByteArray × (Int × Int)))) × Int × Int × Unit) ⊕ ((Bool × Unit) ⊕ (Unit))) := fun ((v1_0, v1_1, v1_2, v1_3, _), v32, v33, v34, _) =>
  bif (decide (v34 < v33)) then
    if (((0 : Int) ≤ v34) ∧ (v34 < (((List.length v32) : Nat) : Int))) then
      Option.bind (spec_l3Step v1_0 ((List.getD v32 (Int.toNat v34) ((0 : Int), (⟨Array.empty⟩ : ByteArray), (0 : Int), (0 : Int))).1, (List.getD v32 (Int.toNat v34) ((0 : Int), (⟨Array.empty⟩ : ByteArray), (0 : Int), (0 : Int))).2.1, (List.getD v32 (Int.toNat v34) ((0 : Int), (⟨Array.empty⟩ : ByteArray), (0 : Int), (0 : Int))).2.2.1, (List.getD v32 (Int.toNat v34) ((0 : Int), (⟨Array.empty⟩ : ByteArray), (0 : Int), (0 : Int))).2.2.2)) fun r0 =>
        bif (!r0) then
          some (Sum.inr (Sum.inl (false, ())))
        else
          bif (decide (v34 > (0 : Int))) then
            if (((0 : Int) ≤ (IntKind.wrap .i64 (v34 - (1 : Int)))) ∧ ((IntKind.wrap .i64 (v34 - (1 : Int))) < (((List.length v1_3) : Nat) : Int))) then
              Option.bind (spec_l3Before (List.getD v1_3 (Int.toNat (IntKind.wrap .i64 (v34 - (1 : Int)))) ((0 : Int), (⟨Array.empty⟩ : ByteArray), (0 : Int), (0 : Int))) ((List.getD v32 (Int.toNat v34) ((0 : Int), (⟨Array.empty⟩ : ByteArray), (0 : Int), (0 : Int))).1, (List.getD v32 (Int.toNat v34) ((0 : Int), (⟨Array.empty⟩ : ByteArray), (0 : Int), (0 : Int))).2.1, (List.getD v32 (Int.toNat v34) ((0 : Int), (⟨Array.empty⟩ : ByteArray), (0 : Int), (0 : Int))).2.2.1, (List.getD v32 (Int.toNat v34) ((0 : Int), (⟨Array.empty⟩ : ByteArray), (0 : Int), (0 : Int))).2.2.2)) fun r1 =>
                bif (!r1) then
                  some (Sum.inr (Sum.inl (false, ())))
                else
                  some (Sum.inl ((v1_0, v1_1, v1_2, v1_3, ()), v32, v33, (IntKind.wrap .i64 (v34 + (1 : Int))), ()))
            else
              none
          else
            some (Sum.inl ((v1_0, v1_1, v1_2, v1_3, ()), v32, v33, (IntKind.wrap .i64 (v34 + (1 : Int))), ()))
    else
      none
  else
    some (Sum.inr (Sum.inr ()))
theorem spec_AutomatonValid_l4_eq : loopStep E66 L66_0 (loopOf f66 4) sh66_4 xs66_4 = spec_AutomatonValid_l4 := by kernel_rfl
theorem loop66_4 {L : Nat → Option LoopD} (h : L 4 = some ⟨sh66_4, xs66_4, spec_AutomatonValid_l4⟩) : LoopOk prog L (loopOf f66 4) :=
  loopOk (tysOk_of tyl_ok) E66_ok (codeOk_in (L := L66_0) (tysOk_of tyl_ok) E66_ok mixed (c := loopOf f66 4) (bs := []) (by kernel_rfl) allNil (by kernel_rfl)) (by kernel_rfl) (by kernel_rfl) spec_AutomatonValid_l4_eq (by rw [show firstId (loopOf f66 4) = 4 from by kernel_rfl]; exact h)
noncomputable def L66_1 : Nat → Option LoopD := fun n => ifEq n 4 (some ⟨sh66_4, xs66_4, spec_AutomatonValid_l4⟩) (L66_0 n)
noncomputable def spec_AutomatonValid : (Int × ((List Int) × ((List Int) × (List (Int × (ByteArray × (Int × Int))))))) → Option (Bool) := fun (a0_0, a0_1, a0_2, a0_3) =>
  Option.bind (spec_l1In a0_0 (1 : Int) (4 : Int)) fun r0 =>
    bif (!r0) then
      some false
    else
      Option.bind (spec_l3Marks a0_0 a0_1) fun r1 =>
        bif (!r1) then
          some false
        else
          Option.bind (spec_l3Marks a0_0 a0_2) fun r2 =>
            bif (!r2) then
              some false
            else
              bif (decide ((((List.length a0_3) : Nat) : Int) > (24 : Int))) then
                some false
              else
                Option.bind (loopF spec_AutomatonValid_l4 ((a0_0, a0_1, a0_2, a0_3, ()), a0_3, (((List.length a0_3) : Nat) : Int), (0 : Int), ())) fun r3 =>
                  (match r3 with
                  | .inl (d4, _) =>
                      some d4
                  | .inr _ =>
                      some true)
noncomputable def A66 : FnA := ⟨[.v (.pair (.int .i64) (.pair (.sl (.int .i64)) (.pair (.sl (.int .i64)) (.sl (.pair (.int .i64) (.pair .str (.pair (.int .i64) (.int .i64))))))))], true, [.bool], fun x => spec_AutomatonValid x.1⟩
theorem spec_AutomatonValid_eq : fnF E66 L66_1 [.v (.pair (.int .i64) (.pair (.sl (.int .i64)) (.pair (.sl (.int .i64)) (.sl (.pair (.int .i64) (.pair .str (.pair (.int .i64) (.int .i64))))))))] true [.bool] f66.ntmps f66.results.toList (codeOf f66) = fun x => spec_AutomatonValid x.1 := by kernel_rfl
theorem A66_ok : FnOk prog 66 A66 := by
  have h := fnOk_of_run (P := prog) (E := E66) (tysOk_of tyl_ok) E66_ok (L := L66_1) (ps := [.v (.pair (.int .i64) (.pair (.sl (.int .i64)) (.pair (.sl (.int .i64)) (.sl (.pair (.int .i64) (.pair .str (.pair (.int .i64) (.int .i64))))))))]) (own := true) (outs := [.bool]) func66 (c := codeOf f66) (by kernel_rfl) (codeOk_in (L := L66_1) (tysOk_of tyl_ok) E66_ok mixed (c := codeOf f66) (bs := [loopOf f66 4]) (by kernel_rfl) (allCons (loop66_4 rfl) allNil) (by kernel_rfl))
  rw [spec_AutomatonValid_eq] at h
  exact h
/-! spec.l11Short -/
noncomputable def E53 : Env := ⟨ty0, fun g => ifEq g 66 (some A66) (ifEq g 67 (some A67) (none)), fun _ => none, fun _ => none⟩
theorem E53_ok : FnsOk prog E53 := (oneFn A66_ok func66 (by kernel_rfl) (by kernel_rfl) (oneFn A67_ok func67 (by kernel_rfl) (by kernel_rfl) (noFns _ _)))
noncomputable def L53_0 : Nat → Option LoopD := fun _ => none
noncomputable def spec_l11Short : (Int × ((List Int) × ((List Int) × (List (Int × (ByteArray × (Int × Int))))))) → Int → Option (Bool) := fun (a0_0, a0_1, a0_2, a0_3) a1 =>
  Option.bind (spec_AutomatonValid (a0_0, a0_1, a0_2, a0_3)) fun r0 =>
    bif r0 then
      Option.bind (spec_l1In a1 (0 : Int) (7 : Int)) fun r1 =>
        some r1
    else
      some false
noncomputable def A53 : FnA := ⟨[.v (.pair (.int .i64) (.pair (.sl (.int .i64)) (.pair (.sl (.int .i64)) (.sl (.pair (.int .i64) (.pair .str (.pair (.int .i64) (.int .i64)))))))), .v (.int .i64)], true, [.bool], fun x => spec_l11Short x.1 x.2.1⟩
theorem spec_l11Short_eq : fnF E53 L53_0 [.v (.pair (.int .i64) (.pair (.sl (.int .i64)) (.pair (.sl (.int .i64)) (.sl (.pair (.int .i64) (.pair .str (.pair (.int .i64) (.int .i64)))))))), .v (.int .i64)] true [.bool] f53.ntmps f53.results.toList (codeOf f53) = fun x => spec_l11Short x.1 x.2.1 := by kernel_rfl
theorem A53_ok : FnOk prog 53 A53 := by
  have h := fnOk_of_run (P := prog) (E := E53) (tysOk_of tyl_ok) E53_ok (L := L53_0) (ps := [.v (.pair (.int .i64) (.pair (.sl (.int .i64)) (.pair (.sl (.int .i64)) (.sl (.pair (.int .i64) (.pair .str (.pair (.int .i64) (.int .i64)))))))), .v (.int .i64)]) (own := true) (outs := [.bool]) func53 (c := codeOf f53) (by kernel_rfl) (codeOk_in (L := L53_0) (tysOk_of tyl_ok) E53_ok mixed (c := codeOf f53) (bs := []) (by kernel_rfl) allNil (by kernel_rfl))
  rw [spec_l11Short_eq] at h
  exact h
/-! spec.l4Words -/
noncomputable def E54 : Env := ⟨ty0, fun _ => none, fun _ => none, fun _ => none⟩
theorem E54_ok : FnsOk prog E54 := (noFns _ _)
noncomputable def L54_0 : Nat → Option LoopD := fun _ => none
def sh54_7 : List Fm := [d, d, d, .cell (.own .str 100300 true), d, .cell (.val (.int .i64)), d, d, d, .cell (.val (.int .i64)), .cell (.val (.int .i64)), d, d, d, d, d, d, .cell (.val (.sl .str)), .cell (.val (.int .i64)), .cell (.val (.int .i64)), d, d, d, d, d, d, d, d, d, d, d, d, d, d]
def xs54_7 : List (Ex × List Fm) := [(.exit 2, [d, d, d, .cell (.own .str 100300 true), d, .cell (.val (.int .i64)), d, d, d, .cell (.val (.int .i64)), .cell (.val (.int .i64)), d, d, d, d, d, d, d, d, d, d, d, d, d, d, d, d, d, d, d, d, d, d, d])]
noncomputable def spec_l4Words_l7 : ((List ByteArray) × Int × Int × Int × (List ByteArray) × Int × Int × Unit) → Option (((List ByteArray) × Int × Int × Int × (List ByteArray) × Int × Int × Unit) ⊕ (((List ByteArray) × Int × Int × Int × Unit))) := fun (v3, v5, v9, v10, v17, v18, v19, _) =>
  bif (decide (v19 < v18)) then
    if (((0 : Int) ≤ v19) ∧ (v19 < (((List.length v17) : Nat) : Int))) then
      if (((ByteArray.size (List.getD v17 (Int.toNat v19) (⟨Array.empty⟩ : ByteArray))) + (ByteArray.size (⟨#[(97 : UInt8)]⟩ : ByteArray))) ≤ 9223372036854775807) then
        if (((ByteArray.size (List.getD v17 (Int.toNat v19) (⟨Array.empty⟩ : ByteArray))) + (ByteArray.size (⟨#[(98 : UInt8)]⟩ : ByteArray))) ≤ 9223372036854775807) then
          if (((0 + (List.length v3)) = (List.length v3)) ∧ ((((List.length v3) + (List.length (List.take 2 (List.drop 0 [((List.getD v17 (Int.toNat v19) (⟨Array.empty⟩ : ByteArray)) ++ (⟨#[(97 : UInt8)]⟩ : ByteArray)), ((List.getD v17 (Int.toNat v19) (⟨Array.empty⟩ : ByteArray)) ++ (⟨#[(98 : UInt8)]⟩ : ByteArray))])))) * 16) ≤ 140737488355328)) then
            if ((0 + ((List.length v3) + (List.length (List.take 2 (List.drop 0 [((List.getD v17 (Int.toNat v19) (⟨Array.empty⟩ : ByteArray)) ++ (⟨#[(97 : UInt8)]⟩ : ByteArray)), ((List.getD v17 (Int.toNat v19) (⟨Array.empty⟩ : ByteArray)) ++ (⟨#[(98 : UInt8)]⟩ : ByteArray))]))))) = (List.length ((List.drop 0 v3) ++ (List.take 2 (List.drop 0 [((List.getD v17 (Int.toNat v19) (⟨Array.empty⟩ : ByteArray)) ++ (⟨#[(97 : UInt8)]⟩ : ByteArray)), ((List.getD v17 (Int.toNat v19) (⟨Array.empty⟩ : ByteArray)) ++ (⟨#[(98 : UInt8)]⟩ : ByteArray))]))))) then
              some (Sum.inl ((List.drop 0 ((List.drop 0 v3) ++ (List.take 2 (List.drop 0 [((List.getD v17 (Int.toNat v19) (⟨Array.empty⟩ : ByteArray)) ++ (⟨#[(97 : UInt8)]⟩ : ByteArray)), ((List.getD v17 (Int.toNat v19) (⟨Array.empty⟩ : ByteArray)) ++ (⟨#[(98 : UInt8)]⟩ : ByteArray))])))), v5, v9, v10, v17, v18, (IntKind.wrap .i64 (v19 + (1 : Int))), ()))
            else
              none
          else
            none
        else
          none
      else
        none
    else
      none
  else
    if ((0 + (List.length v3)) = (List.length v3)) then
      some (Sum.inr ((List.drop 0 v3), v5, v9, v10, ()))
    else
      none
theorem spec_l4Words_l7_eq : loopStep E54 L54_0 (loopOf f54 7) sh54_7 xs54_7 = spec_l4Words_l7 := by kernel_rfl
theorem loop54_7 {L : Nat → Option LoopD} (h : L 7 = some ⟨sh54_7, xs54_7, spec_l4Words_l7⟩) : LoopOk prog L (loopOf f54 7) :=
  loopOk (tysOk_of tyl_ok) E54_ok (codeOk_in (L := L54_0) (tysOk_of tyl_ok) E54_ok mixed (c := loopOf f54 7) (bs := []) (by kernel_rfl) allNil (by kernel_rfl)) (by kernel_rfl) (by kernel_rfl) spec_l4Words_l7_eq (by rw [show firstId (loopOf f54 7) = 7 from by kernel_rfl]; exact h)
noncomputable def L54_1 : Nat → Option LoopD := fun n => ifEq n 7 (some ⟨sh54_7, xs54_7, spec_l4Words_l7⟩) (L54_0 n)
def sh54_4 : List Fm := [d, d, d, .cell (.own .str 100300 true), .cell (.val (.int .i64)), d, d, d, d, .cell (.val (.int .i64)), .cell (.val (.int .i64)), d, d, d, d, d, d, d, d, d, d, d, d, d, d, d, d, d, d, d, d, d, d, d]
def xs54_4 : List (Ex × List Fm) := [(.exit 0, [d, d, d, .cell (.val (.sl .str)), d, d, d, d, d, d, d, d, d, d, d, d, d, d, d, d, d, d, d, d, d, d, d, d, d, d, d, d, d, d])]
noncomputable def spec_l4Words_l4 : ((List ByteArray) × Int × Int × Int × Unit) → Option (((List ByteArray) × Int × Int × Int × Unit) ⊕ (((List ByteArray) × Unit))) := fun (v3, v4, v9, v10, _) =>
  bif (decide (v10 < v9)) then
    if (((0 : Int) ≤ v4) ∧ ((v4 ≤ (((List.length v3) : Nat) : Int)) ∧ ((((List.length v3) : Nat) : Int) ≤ (((List.length v3) : Nat) : Int)))) then
      if ((0 + (List.length v3)) = (List.length v3)) then
        Option.bind (loopF spec_l4Words_l7 ((List.drop 0 v3), (((List.length v3) : Nat) : Int), v9, v10, (List.take ((Int.toNat (((List.length v3) : Nat) : Int)) - (Int.toNat v4)) (List.drop (0 + (Int.toNat v4)) v3)), ((((Int.toNat (((List.length v3) : Nat) : Int)) - (Int.toNat v4)) : Nat) : Int), (0 : Int), ())) fun (r0, r1, r2, r3, _) =>
          if ((0 + (List.length r0)) = (List.length r0)) then
            some (Sum.inl ((List.drop 0 r0), r1, r2, (IntKind.wrap .i64 (r3 + (1 : Int))), ()))
          else
            none
      else
        none
    else
      none
  else
    some (Sum.inr ((List.take (List.length v3) (List.drop 0 v3)), ()))
theorem spec_l4Words_l4_eq : loopStep E54 L54_1 (loopOf f54 4) sh54_4 xs54_4 = spec_l4Words_l4 := by kernel_rfl
theorem loop54_4 {L : Nat → Option LoopD} (h : L 4 = some ⟨sh54_4, xs54_4, spec_l4Words_l4⟩) : LoopOk prog L (loopOf f54 4) :=
  loopOk (tysOk_of tyl_ok) E54_ok (codeOk_in (L := L54_1) (tysOk_of tyl_ok) E54_ok mixed (c := loopOf f54 4) (bs := [loopOf f54 7]) (by kernel_rfl) (allCons (loop54_7 rfl) allNil) (by kernel_rfl)) (by kernel_rfl) (by kernel_rfl) spec_l4Words_l4_eq (by rw [show firstId (loopOf f54 4) = 4 from by kernel_rfl]; exact h)
noncomputable def L54_2 : Nat → Option LoopD := fun n => ifEq n 4 (some ⟨sh54_4, xs54_4, spec_l4Words_l4⟩) (L54_1 n)
noncomputable def spec_l4Words : Int → Option ((List ByteArray)) := fun a0 =>
  if ((0 + 1) = (List.length [(⟨#[]⟩ : ByteArray)])) then
    Option.bind (loopF spec_l4Words_l4 ((List.drop 0 [(⟨#[]⟩ : ByteArray)]), (0 : Int), a0, (0 : Int), ())) fun (r0, _) =>
      some r0
  else
    none
noncomputable def A54 : FnA := ⟨[.v (.int .i64)], false, [.sl .str], fun x => spec_l4Words x.1⟩
theorem spec_l4Words_eq : fnF E54 L54_2 [.v (.int .i64)] false [.sl .str] f54.ntmps f54.results.toList (codeOf f54) = fun x => spec_l4Words x.1 := by kernel_rfl
theorem A54_ok : FnOk prog 54 A54 := by
  have h := fnOk_of_run (P := prog) (E := E54) (tysOk_of tyl_ok) E54_ok (L := L54_2) (ps := [.v (.int .i64)]) (own := false) (outs := [.sl .str]) func54 (c := codeOf f54) (by kernel_rfl) (codeOk_in (L := L54_2) (tysOk_of tyl_ok) E54_ok mixed (c := codeOf f54) (bs := [loopOf f54 4]) (by kernel_rfl) (allCons (loop54_4 rfl) allNil) (by kernel_rfl))
  rw [spec_l4Words_eq] at h
  exact h
/-! spec.l2Unit -/
noncomputable def E72 : Env := ⟨ty0, fun _ => none, fun _ => none, fun _ => none⟩
theorem E72_ok : FnsOk prog E72 := (noFns _ _)
noncomputable def L72_0 : Nat → Option LoopD := fun _ => none
def sh72_3 : List Fm := [.cell (.val (.int .i64)), d, .box 100200 [.val (.int .i64), .own (.int .i64) 100202 false], .box 100300 [.val (.int .i64), .own (.int .i64) 100302 false], d, d, d, d, d, .cell (.val (.int .i64)), .cell (.val (.int .i64)), d, d, d, d, d, d, d, d, d, d, d, d, d, d, d, d, d, d, d, d, d]
def xs72_3 : List (Ex × List Fm) := [(.exit 0, [d, d, .box 100200 [.val (.int .i64), .own (.int .i64) 100202 false], .box 100300 [.val (.int .i64), .own (.int .i64) 100302 false], d, d, d, d, d, d, d, d, d, d, d, d, d, d, d, d, d, d, d, d, d, d, d, d, d, d, d, d])]
noncomputable def spec_l2Unit_l3 : (Int × (Int × (List Int) × Unit) × (Int × (List Int) × Unit) × Int × Int × Unit) → Option ((Int × (Int × (List Int) × Unit) × (Int × (List Int) × Unit) × Int × Int × Unit) ⊕ (((Int × (List Int) × Unit) × (Int × (List Int) × Unit) × Unit))) := fun (v0, (v2_0, v2_1, _), (v3_0, v3_1, _), v9, v10, _) =>
  bif (decide (v10 < v9)) then
    if (v0 = (0 : Int)) then
      none
    else
      if (v0 = (0 : Int)) then
        none
      else
        bif ((IntKind.wrap .i64 (Int.tdiv v10 v0)) == (Int.tmod v10 v0)) then
          if (((0 + (List.length v3_1)) = (List.length v3_1)) ∧ ((((List.length v3_1) + (List.length (List.take 1 (List.drop 0 [(0 : Int)])))) * 8) ≤ 140737488355328)) then
            some (Sum.inl (v0, (v2_0, (List.take (List.length v2_1) (List.drop 0 v2_1)), ()), (v3_0, (List.take ((List.length v3_1) + (List.length (List.take 1 (List.drop 0 [(0 : Int)])))) (List.drop 0 ((List.drop 0 v3_1) ++ (List.take 1 (List.drop 0 [(0 : Int)]))))), ()), v9, (IntKind.wrap .i64 (v10 + (1 : Int))), ()))
          else
            none
        else
          if (((0 + (List.length v3_1)) = (List.length v3_1)) ∧ ((((List.length v3_1) + (List.length (List.take 1 (List.drop 0 [(1000000 : Int)])))) * 8) ≤ 140737488355328)) then
            some (Sum.inl (v0, (v2_0, (List.take (List.length v2_1) (List.drop 0 v2_1)), ()), (v3_0, (List.take ((List.length v3_1) + (List.length (List.take 1 (List.drop 0 [(1000000 : Int)])))) (List.drop 0 ((List.drop 0 v3_1) ++ (List.take 1 (List.drop 0 [(1000000 : Int)]))))), ()), v9, (IntKind.wrap .i64 (v10 + (1 : Int))), ()))
          else
            none
  else
    some (Sum.inr ((v2_0, (List.take (List.length v2_1) (List.drop 0 v2_1)), ()), (v3_0, (List.take (List.length v3_1) (List.drop 0 v3_1)), ()), ()))
theorem spec_l2Unit_l3_eq : loopStep E72 L72_0 (loopOf f72 3) sh72_3 xs72_3 = spec_l2Unit_l3 := by kernel_rfl
theorem loop72_3 {L : Nat → Option LoopD} (h : L 3 = some ⟨sh72_3, xs72_3, spec_l2Unit_l3⟩) : LoopOk prog L (loopOf f72 3) :=
  loopOk (tysOk_of tyl_ok) E72_ok (codeOk_in (L := L72_0) (tysOk_of tyl_ok) E72_ok mixed (c := loopOf f72 3) (bs := []) (by kernel_rfl) allNil (by kernel_rfl)) (by kernel_rfl) (by kernel_rfl) spec_l2Unit_l3_eq (by rw [show firstId (loopOf f72 3) = 3 from by kernel_rfl]; exact h)
noncomputable def L72_1 : Nat → Option LoopD := fun n => ifEq n 3 (some ⟨sh72_3, xs72_3, spec_l2Unit_l3⟩) (L72_0 n)
noncomputable def spec_l2Unit : Int → Option ((Int × (List Int))) := fun a0 =>
  Option.bind (loopF spec_l2Unit_l3 (a0, ((0 : Int), [], ()), (a0, [], ()), (IntKind.wrap .i64 (a0 * a0)), (0 : Int), ())) fun ((r0, r1, _), (r2, r3, _), _) =>
    some (r2, (List.take (List.length r3) (List.drop 0 r3)))
noncomputable def A72 : FnA := ⟨[.v (.int .i64)], true, [.pair (.int .i64) (.sl (.int .i64))], fun x => spec_l2Unit x.1⟩
theorem spec_l2Unit_eq : fnF E72 L72_1 [.v (.int .i64)] true [.pair (.int .i64) (.sl (.int .i64))] f72.ntmps f72.results.toList (codeOf f72) = fun x => spec_l2Unit x.1 := by kernel_rfl
theorem A72_ok : FnOk prog 72 A72 := by
  have h := fnOk_of_run (P := prog) (E := E72) (tysOk_of tyl_ok) E72_ok (L := L72_1) (ps := [.v (.int .i64)]) (own := true) (outs := [.pair (.int .i64) (.sl (.int .i64))]) func72 (c := codeOf f72) (by kernel_rfl) (codeOk_in (L := L72_1) (tysOk_of tyl_ok) E72_ok mixed (c := codeOf f72) (bs := [loopOf f72 3]) (by kernel_rfl) (allCons (loop72_3 rfl) allNil) (by kernel_rfl))
  rw [spec_l2Unit_eq] at h
  exact h
/-! spec.l3Matrix -/
noncomputable def E71 : Env := ⟨ty0, fun _ => none, fun _ => none, fun _ => none⟩
theorem E71_ok : FnsOk prog E71 := (noFns _ _)
noncomputable def L71_0 : Nat → Option LoopD := fun _ => none
def sh71_3 : List Fm := [d, .cell (.val .str), .box 100200 [.val (.int .i64), .val (.sl (.int .i64)), .val (.sl (.int .i64)), .val (.sl (.pair (.int .i64) (.pair .str (.pair (.int .i64) (.int .i64)))))], d, .box 100400 [.val (.int .i64), .own (.int .i64) 100402 false], .box 100500 [.val (.int .i64), .own (.int .i64) 100502 false], d, d, d, d, d, d, d, d, d, .cell (.val (.int .i64)), .cell (.val (.int .i64)), d, d, d, d, d, d, d, d, d, d, d, d, d, d, d, d, d, d, d, d, d, d, d, d, d, d, d, d, d, d, d, d, d]
def xs71_3 : List (Ex × List Fm) := [(.exit 0, [d, .cell (.val .str), .box 100200 [.val (.int .i64), .val (.sl (.int .i64)), .val (.sl (.int .i64)), .val (.sl (.pair (.int .i64) (.pair .str (.pair (.int .i64) (.int .i64)))))], d, .box 100400 [.val (.int .i64), .own (.int .i64) 100402 false], .box 100500 [.val (.int .i64), .own (.int .i64) 100502 false], d, d, d, d, d, d, d, d, d, d, d, d, d, d, d, d, d, d, d, d, d, d, d, d, d, d, d, d, d, d, d, d, d, d, d, d, d, d, d, d, d, d, d, d])]
noncomputable def spec_l3Matrix_l3 : (ByteArray × (Int × (List Int) × (List Int) × (List (Int × (ByteArray × (Int × Int)))) × Unit) × (Int × (List Int) × Unit) × (Int × (List Int) × Unit) × Int × Int × Unit) → Option ((ByteArray × (Int × (List Int) × (List Int) × (List (Int × (ByteArray × (Int × Int)))) × Unit) × (Int × (List Int) × Unit) × (Int × (List Int) × Unit) × Int × Int × Unit) ⊕ ((ByteArray × (Int × (List Int) × (List Int) × (List (Int × (ByteArray × (Int × Int)))) × Unit) × (Int × (List Int) × Unit) × (Int × (List Int) × Unit) × Unit))) := fun (v1, (v2_0, v2_1, v2_2, v2_3, _), (v4_0, v4_1, _), (v5_0, v5_1, _), v15, v16, _) =>
  bif (decide (v16 < v15)) then
    if (((0 + (List.length v5_1)) = (List.length v5_1)) ∧ ((((List.length v5_1) + (List.length (List.take 1 (List.drop 0 [(1000000 : Int)])))) * 8) ≤ 140737488355328)) then
      some (Sum.inl (v1, (v2_0, v2_1, v2_2, v2_3, ()), (v4_0, (List.take (List.length v4_1) (List.drop 0 v4_1)), ()), (v5_0, (List.take ((List.length v5_1) + (List.length (List.take 1 (List.drop 0 [(1000000 : Int)])))) (List.drop 0 ((List.drop 0 v5_1) ++ (List.take 1 (List.drop 0 [(1000000 : Int)]))))), ()), v15, (IntKind.wrap .i64 (v16 + (1 : Int))), ()))
    else
      none
  else
    some (Sum.inr (v1, (v2_0, v2_1, v2_2, v2_3, ()), (v4_0, (List.take (List.length v4_1) (List.drop 0 v4_1)), ()), (v5_0, (List.take (List.length v5_1) (List.drop 0 v5_1)), ()), ()))
theorem spec_l3Matrix_l3_eq : loopStep E71 L71_0 (loopOf f71 3) sh71_3 xs71_3 = spec_l3Matrix_l3 := by kernel_rfl
theorem loop71_3 {L : Nat → Option LoopD} (h : L 3 = some ⟨sh71_3, xs71_3, spec_l3Matrix_l3⟩) : LoopOk prog L (loopOf f71 3) :=
  loopOk (tysOk_of tyl_ok) E71_ok (codeOk_in (L := L71_0) (tysOk_of tyl_ok) E71_ok mixed (c := loopOf f71 3) (bs := []) (by kernel_rfl) allNil (by kernel_rfl)) (by kernel_rfl) (by kernel_rfl) spec_l3Matrix_l3_eq (by rw [show firstId (loopOf f71 3) = 3 from by kernel_rfl]; exact h)
noncomputable def L71_1 : Nat → Option LoopD := fun n => ifEq n 3 (some ⟨sh71_3, xs71_3, spec_l3Matrix_l3⟩) (L71_0 n)
def sh71_7 : List Fm := [d, .cell (.val .str), .box 100200 [.val (.int .i64), .val (.sl (.int .i64)), .val (.sl (.int .i64)), .val (.sl (.pair (.int .i64) (.pair .str (.pair (.int .i64) (.int .i64)))))], d, .box 100400 [.val (.int .i64), .own (.int .i64) 100402 false], .box 100500 [.val (.int .i64), .own (.int .i64) 100502 false], d, d, d, d, d, d, d, d, d, d, d, d, d, d, d, d, d, d, d, .cell (.val (.sl (.pair (.int .i64) (.pair .str (.pair (.int .i64) (.int .i64)))))), .cell (.val (.int .i64)), .cell (.val (.int .i64)), d, d, d, d, d, d, d, d, d, d, d, d, d, d, d, d, d, d, d, d, d, d]
def xs71_7 : List (Ex × List Fm) := [(.exit 2, [d, d, d, d, .box 100400 [.val (.int .i64), .own (.int .i64) 100402 false], .box 100500 [.val (.int .i64), .own (.int .i64) 100502 false], d, d, d, d, d, d, d, d, d, d, d, d, d, d, d, d, d, d, d, d, d, d, d, d, d, d, d, d, d, d, d, d, d, d, d, d, d, d, d, d, d, d, d, d])]
noncomputable def spec_l3Matrix_l7 : (ByteArray × (Int × (List Int) × (List Int) × (List (Int × (ByteArray × (Int × Int)))) × Unit) × (Int × (List Int) × Unit) × (Int × (List Int) × Unit) × (List (Int × (ByteArray × (Int × Int)))) × Int × Int × Unit) → Option ((ByteArray × (Int × (List Int) × (List Int) × (List (Int × (ByteArray × (Int × Int)))) × Unit) × (Int × (List Int) × Unit) × (Int × (List Int) × Unit) × (List (Int × (ByteArray × (Int × Int)))) × Int × Int × Unit) ⊕ (((Int × (List Int) × Unit) × (Int × (List Int) × Unit) × Unit))) := fun (v1, (v2_0, v2_1, v2_2, v2_3, _), (v4_0, v4_1, _), (v5_0, v5_1, _), v25, v26, v27, _) =>
  bif (decide (v27 < v26)) then
    if (((0 : Int) ≤ v27) ∧ (v27 < (((List.length v25) : Nat) : Int))) then
      bif ((ByteArray.toList (List.getD v25 (Int.toNat v27) ((0 : Int), (⟨Array.empty⟩ : ByteArray), (0 : Int), (0 : Int))).2.1) == (ByteArray.toList v1)) then
        if (((0 : Int) ≤ (IntKind.wrap .i64 ((IntKind.wrap .i64 ((List.getD v25 (Int.toNat v27) ((0 : Int), (⟨Array.empty⟩ : ByteArray), (0 : Int), (0 : Int))).1 * v2_0)) + (List.getD v25 (Int.toNat v27) ((0 : Int), (⟨Array.empty⟩ : ByteArray), (0 : Int), (0 : Int))).2.2.1))) ∧ ((IntKind.wrap .i64 ((IntKind.wrap .i64 ((List.getD v25 (Int.toNat v27) ((0 : Int), (⟨Array.empty⟩ : ByteArray), (0 : Int), (0 : Int))).1 * v2_0)) + (List.getD v25 (Int.toNat v27) ((0 : Int), (⟨Array.empty⟩ : ByteArray), (0 : Int), (0 : Int))).2.2.1)) < (((List.length v5_1) : Nat) : Int))) then
          some (Sum.inl (v1, (v2_0, v2_1, v2_2, v2_3, ()), (v4_0, (List.take (List.length v4_1) (List.drop 0 v4_1)), ()), (v5_0, (List.take (List.length v5_1) (List.drop 0 (List.set v5_1 (0 + (Int.toNat (IntKind.wrap .i64 ((IntKind.wrap .i64 ((List.getD v25 (Int.toNat v27) ((0 : Int), (⟨Array.empty⟩ : ByteArray), (0 : Int), (0 : Int))).1 * v2_0)) + (List.getD v25 (Int.toNat v27) ((0 : Int), (⟨Array.empty⟩ : ByteArray), (0 : Int), (0 : Int))).2.2.1)))) (List.getD v25 (Int.toNat v27) ((0 : Int), (⟨Array.empty⟩ : ByteArray), (0 : Int), (0 : Int))).2.2.2))), ()), v25, v26, (IntKind.wrap .i64 (v27 + (1 : Int))), ()))
        else
          none
      else
        some (Sum.inl (v1, (v2_0, v2_1, v2_2, v2_3, ()), (v4_0, (List.take (List.length v4_1) (List.drop 0 v4_1)), ()), (v5_0, (List.take (List.length v5_1) (List.drop 0 v5_1)), ()), v25, v26, (IntKind.wrap .i64 (v27 + (1 : Int))), ()))
    else
      none
  else
    some (Sum.inr ((v4_0, (List.take (List.length v4_1) (List.drop 0 v4_1)), ()), (v5_0, (List.take (List.length v5_1) (List.drop 0 v5_1)), ()), ()))
theorem spec_l3Matrix_l7_eq : loopStep E71 L71_1 (loopOf f71 7) sh71_7 xs71_7 = spec_l3Matrix_l7 := by kernel_rfl
theorem loop71_7 {L : Nat → Option LoopD} (h : L 7 = some ⟨sh71_7, xs71_7, spec_l3Matrix_l7⟩) : LoopOk prog L (loopOf f71 7) :=
  loopOk (tysOk_of tyl_ok) E71_ok (codeOk_in (L := L71_1) (tysOk_of tyl_ok) E71_ok mixed (c := loopOf f71 7) (bs := []) (by kernel_rfl) allNil (by kernel_rfl)) (by kernel_rfl) (by kernel_rfl) spec_l3Matrix_l7_eq (by rw [show firstId (loopOf f71 7) = 7 from by kernel_rfl]; exact h)
noncomputable def L71_2 : Nat → Option LoopD := fun n => ifEq n 7 (some ⟨sh71_7, xs71_7, spec_l3Matrix_l7⟩) (L71_1 n)
noncomputable def spec_l3Matrix : (Int × ((List Int) × ((List Int) × (List (Int × (ByteArray × (Int × Int))))))) → ByteArray → Option ((Int × (List Int))) := fun (a0_0, a0_1, a0_2, a0_3) a1 =>
  Option.bind (loopF spec_l3Matrix_l3 (a1, (a0_0, a0_1, a0_2, a0_3, ()), ((0 : Int), [], ()), (a0_0, [], ()), (IntKind.wrap .i64 (a0_0 * a0_0)), (0 : Int), ())) fun (r0, (r1, r2, r3, r4, _), (r5, r6, _), (r7, r8, _), _) =>
    Option.bind (loopF spec_l3Matrix_l7 (r0, (r1, r2, r3, r4, ()), (r5, (List.take (List.length r6) (List.drop 0 r6)), ()), (r7, (List.take (List.length r8) (List.drop 0 r8)), ()), r4, (((List.length r4) : Nat) : Int), (0 : Int), ())) fun ((r9, r10, _), (r11, r12, _), _) =>
      some (r11, (List.take (List.length r12) (List.drop 0 r12)))
noncomputable def A71 : FnA := ⟨[.v (.pair (.int .i64) (.pair (.sl (.int .i64)) (.pair (.sl (.int .i64)) (.sl (.pair (.int .i64) (.pair .str (.pair (.int .i64) (.int .i64)))))))), .v .str], true, [.pair (.int .i64) (.sl (.int .i64))], fun x => spec_l3Matrix x.1 x.2.1⟩
theorem spec_l3Matrix_eq : fnF E71 L71_2 [.v (.pair (.int .i64) (.pair (.sl (.int .i64)) (.pair (.sl (.int .i64)) (.sl (.pair (.int .i64) (.pair .str (.pair (.int .i64) (.int .i64)))))))), .v .str] true [.pair (.int .i64) (.sl (.int .i64))] f71.ntmps f71.results.toList (codeOf f71) = fun x => spec_l3Matrix x.1 x.2.1 := by kernel_rfl
theorem A71_ok : FnOk prog 71 A71 := by
  have h := fnOk_of_run (P := prog) (E := E71) (tysOk_of tyl_ok) E71_ok (L := L71_2) (ps := [.v (.pair (.int .i64) (.pair (.sl (.int .i64)) (.pair (.sl (.int .i64)) (.sl (.pair (.int .i64) (.pair .str (.pair (.int .i64) (.int .i64)))))))), .v .str]) (own := true) (outs := [.pair (.int .i64) (.sl (.int .i64))]) func71 (c := codeOf f71) (by kernel_rfl) (codeOk_in (L := L71_2) (tysOk_of tyl_ok) E71_ok mixed (c := codeOf f71) (bs := [loopOf f71 3, loopOf f71 7]) (by kernel_rfl) (allCons (loop71_3 rfl) (allCons (loop71_7 rfl) allNil)) (by kernel_rfl))
  rw [spec_l3Matrix_eq] at h
  exact h
/-! spec.l1Add -/
noncomputable def E94 : Env := ⟨ty0, fun _ => none, fun _ => none, fun _ => none⟩
theorem E94_ok : FnsOk prog E94 := (noFns _ _)
noncomputable def L94_0 : Nat → Option LoopD := fun _ => none
noncomputable def spec_l1Add : Int → Int → Option (Int) := fun a0 a1 =>
  some (if ((1000000 : Int) < (IntKind.wrap .i64 (a0 + a1))) then (1000000 : Int) else (IntKind.wrap .i64 (a0 + a1)))
noncomputable def A94 : FnA := ⟨[.v (.int .i64), .v (.int .i64)], true, [.int .i64], fun x => spec_l1Add x.1 x.2.1⟩
theorem spec_l1Add_eq : fnF E94 L94_0 [.v (.int .i64), .v (.int .i64)] true [.int .i64] f94.ntmps f94.results.toList (codeOf f94) = fun x => spec_l1Add x.1 x.2.1 := by kernel_rfl
theorem A94_ok : FnOk prog 94 A94 := by
  have h := fnOk_of_run (P := prog) (E := E94) (tysOk_of tyl_ok) E94_ok (L := L94_0) (ps := [.v (.int .i64), .v (.int .i64)]) (own := true) (outs := [.int .i64]) func94 (c := codeOf f94) (by kernel_rfl) (codeOk_in (L := L94_0) (tysOk_of tyl_ok) E94_ok mixed (c := codeOf f94) (bs := []) (by kernel_rfl) allNil (by kernel_rfl))
  rw [spec_l1Add_eq] at h
  exact h
/-! spec.l2Mul -/
noncomputable def E74 : Env := ⟨ty0, fun g => ifEq g 94 (some A94) (none), fun _ => none, fun _ => none⟩
theorem E74_ok : FnsOk prog E74 := (oneFn A94_ok func94 (by kernel_rfl) (by kernel_rfl) (noFns _ _))
noncomputable def L74_0 : Nat → Option LoopD := fun _ => none
def sh74_8 : List Fm := [d, d, .box 100200 [.val (.int .i64), .val (.sl (.int .i64))], .box 100300 [.val (.int .i64), .val (.sl (.int .i64))], .box 100400 [.val (.int .i64), .own (.int .i64) 100402 false], .box 100500 [.val (.int .i64), .own (.int .i64) 100502 false], d, .cell (.val (.int .i64)), .cell (.val (.int .i64)), .cell (.val (.int .i64)), d, d, d, d, d, d, d, d, .cell (.val (.int .i64)), .cell (.val (.int .i64)), d, d, d, d, d, d, d, d, d, d, d, .cell (.val (.int .i64)), .cell (.val (.int .i64)), d, d, d, d, d, d, d, d, d, d, d, d, d, d, d, d, d, d, d, d, d, d, d, d, d, d, d, d, d, d, d, d, d, d]
def xs74_8 : List (Ex × List Fm) := [(.exit 2, [d, d, .box 100200 [.val (.int .i64), .val (.sl (.int .i64))], .box 100300 [.val (.int .i64), .val (.sl (.int .i64))], .box 100400 [.val (.int .i64), .own (.int .i64) 100402 false], .box 100500 [.val (.int .i64), .own (.int .i64) 100502 false], d, d, d, .cell (.val (.int .i64)), d, d, d, d, d, d, d, d, .cell (.val (.int .i64)), .cell (.val (.int .i64)), d, d, d, d, d, d, d, d, d, d, d, d, d, d, d, d, d, d, d, d, d, d, d, d, d, d, d, d, d, d, d, d, d, d, d, d, d, d, d, d, d, d, d, d, d, d, d])]
noncomputable def spec_l2Mul_l8 : ((Int × (List Int) × Unit) × (Int × (List Int) × Unit) × (Int × (List Int) × Unit) × (Int × (List Int) × Unit) × Int × Int × Int × Int × Int × Int × Int × Unit) → Option (((Int × (List Int) × Unit) × (Int × (List Int) × Unit) × (Int × (List Int) × Unit) × (Int × (List Int) × Unit) × Int × Int × Int × Int × Int × Int × Int × Unit) ⊕ (((Int × (List Int) × Unit) × (Int × (List Int) × Unit) × (Int × (List Int) × Unit) × (Int × (List Int) × Unit) × Int × Int × Int × Unit))) := fun ((v2_0, v2_1, _), (v3_0, v3_1, _), (v4_0, v4_1, _), (v5_0, v5_1, _), v7, v8, v9, v18, v19, v31, v32, _) =>
  bif (decide (v32 < v31)) then
    if (((0 : Int) ≤ (IntKind.wrap .i64 ((IntKind.wrap .i64 (v7 * v2_0)) + v32))) ∧ ((IntKind.wrap .i64 ((IntKind.wrap .i64 (v7 * v2_0)) + v32)) < (((List.length v2_1) : Nat) : Int))) then
      if (((0 : Int) ≤ (IntKind.wrap .i64 ((IntKind.wrap .i64 (v32 * v2_0)) + v8))) ∧ ((IntKind.wrap .i64 ((IntKind.wrap .i64 (v32 * v2_0)) + v8)) < (((List.length v3_1) : Nat) : Int))) then
        Option.bind (spec_l1Add (List.getD v2_1 (Int.toNat (IntKind.wrap .i64 ((IntKind.wrap .i64 (v7 * v2_0)) + v32))) (0 : Int)) (List.getD v3_1 (Int.toNat (IntKind.wrap .i64 ((IntKind.wrap .i64 (v32 * v2_0)) + v8))) (0 : Int))) fun r0 =>
          some (Sum.inl ((v2_0, v2_1, ()), (v3_0, v3_1, ()), (v4_0, (List.take (List.length v4_1) (List.drop 0 v4_1)), ()), (v5_0, (List.take (List.length v5_1) (List.drop 0 v5_1)), ()), v7, v8, (if (r0 < v9) then r0 else v9), v18, v19, v31, (IntKind.wrap .i64 (v32 + (1 : Int))), ()))
      else
        none
    else
      none
  else
    some (Sum.inr ((v2_0, v2_1, ()), (v3_0, v3_1, ()), (v4_0, (List.take (List.length v4_1) (List.drop 0 v4_1)), ()), (v5_0, (List.take (List.length v5_1) (List.drop 0 v5_1)), ()), v9, v18, v19, ()))
theorem spec_l2Mul_l8_eq : loopStep E74 L74_0 (loopOf f74 8) sh74_8 xs74_8 = spec_l2Mul_l8 := by kernel_rfl
theorem loop74_8 {L : Nat → Option LoopD} (h : L 8 = some ⟨sh74_8, xs74_8, spec_l2Mul_l8⟩) : LoopOk prog L (loopOf f74 8) :=
  loopOk (tysOk_of tyl_ok) E74_ok (codeOk_in (L := L74_0) (tysOk_of tyl_ok) E74_ok mixed (c := loopOf f74 8) (bs := []) (by kernel_rfl) allNil (by kernel_rfl)) (by kernel_rfl) (by kernel_rfl) spec_l2Mul_l8_eq (by rw [show firstId (loopOf f74 8) = 8 from by kernel_rfl]; exact h)
noncomputable def L74_1 : Nat → Option LoopD := fun n => ifEq n 8 (some ⟨sh74_8, xs74_8, spec_l2Mul_l8⟩) (L74_0 n)
def sh74_3 : List Fm := [d, d, .box 100200 [.val (.int .i64), .val (.sl (.int .i64))], .box 100300 [.val (.int .i64), .val (.sl (.int .i64))], .box 100400 [.val (.int .i64), .own (.int .i64) 100402 false], .box 100500 [.val (.int .i64), .own (.int .i64) 100502 false], d, d, d, d, d, d, d, d, d, d, d, d, .cell (.val (.int .i64)), .cell (.val (.int .i64)), d, d, d, d, d, d, d, d, d, d, d, d, d, d, d, d, d, d, d, d, d, d, d, d, d, d, d, d, d, d, d, d, d, d, d, d, d, d, d, d, d, d, d, d, d, d, d]
def xs74_3 : List (Ex × List Fm) := [(.exit 0, [d, d, d, d, .box 100400 [.val (.int .i64), .own (.int .i64) 100402 false], .box 100500 [.val (.int .i64), .own (.int .i64) 100502 false], d, d, d, d, d, d, d, d, d, d, d, d, d, d, d, d, d, d, d, d, d, d, d, d, d, d, d, d, d, d, d, d, d, d, d, d, d, d, d, d, d, d, d, d, d, d, d, d, d, d, d, d, d, d, d, d, d, d, d, d, d])]
noncomputable def spec_l2Mul_l3 : ((Int × (List Int) × Unit) × (Int × (List Int) × Unit) × (Int × (List Int) × Unit) × (Int × (List Int) × Unit) × Int × Int × Unit) → Option (((Int × (List Int) × Unit) × (Int × (List Int) × Unit) × (Int × (List Int) × Unit) × (Int × (List Int) × Unit) × Int × Int × Unit) ⊕ (((Int × (List Int) × Unit) × (Int × (List Int) × Unit) × Unit))) := fun ((v2_0, v2_1, _), (v3_0, v3_1, _), (v4_0, v4_1, _), (v5_0, v5_1, _), v18, v19, _) =>
  bif (decide (v19 < v18)) then
    if (v2_0 = (0 : Int)) then
      none
    else
      if (v2_0 = (0 : Int)) then
        none
      else
        Option.bind (loopF spec_l2Mul_l8 ((v2_0, v2_1, ()), (v3_0, v3_1, ()), (v4_0, (List.take (List.length v4_1) (List.drop 0 v4_1)), ()), (v5_0, (List.take (List.length v5_1) (List.drop 0 v5_1)), ()), (IntKind.wrap .i64 (Int.tdiv v19 v2_0)), (Int.tmod v19 v2_0), (1000000 : Int), v18, v19, v2_0, (0 : Int), ())) fun ((r0, r1, _), (r2, r3, _), (r4, r5, _), (r6, r7, _), r8, r9, r10, _) =>
          if (((0 + (List.length r7)) = (List.length r7)) ∧ ((((List.length r7) + (List.length (List.take 1 (List.drop 0 [r8])))) * 8) ≤ 140737488355328)) then
            some (Sum.inl ((r0, r1, ()), (r2, r3, ()), (r4, (List.take (List.length r5) (List.drop 0 r5)), ()), (r6, (List.take ((List.length r7) + (List.length (List.take 1 (List.drop 0 [r8])))) (List.drop 0 ((List.drop 0 r7) ++ (List.take 1 (List.drop 0 [r8]))))), ()), r9, (IntKind.wrap .i64 (r10 + (1 : Int))), ()))
          else
            none
  else
    some (Sum.inr ((v4_0, (List.take (List.length v4_1) (List.drop 0 v4_1)), ()), (v5_0, (List.take (List.length v5_1) (List.drop 0 v5_1)), ()), ()))
theorem spec_l2Mul_l3_eq : loopStep E74 L74_1 (loopOf f74 3) sh74_3 xs74_3 = spec_l2Mul_l3 := by kernel_rfl
theorem loop74_3 {L : Nat → Option LoopD} (h : L 3 = some ⟨sh74_3, xs74_3, spec_l2Mul_l3⟩) : LoopOk prog L (loopOf f74 3) :=
  loopOk (tysOk_of tyl_ok) E74_ok (codeOk_in (L := L74_1) (tysOk_of tyl_ok) E74_ok mixed (c := loopOf f74 3) (bs := [loopOf f74 8]) (by kernel_rfl) (allCons (loop74_8 rfl) allNil) (by kernel_rfl)) (by kernel_rfl) (by kernel_rfl) spec_l2Mul_l3_eq (by rw [show firstId (loopOf f74 3) = 3 from by kernel_rfl]; exact h)
noncomputable def L74_2 : Nat → Option LoopD := fun n => ifEq n 3 (some ⟨sh74_3, xs74_3, spec_l2Mul_l3⟩) (L74_1 n)
noncomputable def spec_l2Mul : (Int × (List Int)) → (Int × (List Int)) → Option ((Int × (List Int))) := fun (a0_0, a0_1) (a1_0, a1_1) =>
  Option.bind (loopF spec_l2Mul_l3 ((a0_0, a0_1, ()), (a1_0, a1_1, ()), ((0 : Int), [], ()), (a0_0, [], ()), (IntKind.wrap .i64 (a0_0 * a0_0)), (0 : Int), ())) fun ((r0, r1, _), (r2, r3, _), _) =>
    some (r2, (List.take (List.length r3) (List.drop 0 r3)))
noncomputable def A74 : FnA := ⟨[.v (.pair (.int .i64) (.sl (.int .i64))), .v (.pair (.int .i64) (.sl (.int .i64)))], true, [.pair (.int .i64) (.sl (.int .i64))], fun x => spec_l2Mul x.1 x.2.1⟩
theorem spec_l2Mul_eq : fnF E74 L74_2 [.v (.pair (.int .i64) (.sl (.int .i64))), .v (.pair (.int .i64) (.sl (.int .i64)))] true [.pair (.int .i64) (.sl (.int .i64))] f74.ntmps f74.results.toList (codeOf f74) = fun x => spec_l2Mul x.1 x.2.1 := by kernel_rfl
theorem A74_ok : FnOk prog 74 A74 := by
  have h := fnOk_of_run (P := prog) (E := E74) (tysOk_of tyl_ok) E74_ok (L := L74_2) (ps := [.v (.pair (.int .i64) (.sl (.int .i64))), .v (.pair (.int .i64) (.sl (.int .i64)))]) (own := true) (outs := [.pair (.int .i64) (.sl (.int .i64))]) func74 (c := codeOf f74) (by kernel_rfl) (codeOk_in (L := L74_2) (tysOk_of tyl_ok) E74_ok mixed (c := codeOf f74) (bs := [loopOf f74 3]) (by kernel_rfl) (allCons (loop74_3 rfl) allNil) (by kernel_rfl))
  rw [spec_l2Mul_eq] at h
  exact h
/-! spec.l4Matrix -/
noncomputable def E83 : Env := ⟨ty0, fun g => ifEq g 72 (some A72) (ifEq g 71 (some A71) (ifEq g 74 (some A74) (none))), fun _ => none, fun _ => none⟩
theorem E83_ok : FnsOk prog E83 := (oneFn A72_ok func72 (by kernel_rfl) (by kernel_rfl) (oneFn A71_ok func71 (by kernel_rfl) (by kernel_rfl) (oneFn A74_ok func74 (by kernel_rfl) (by kernel_rfl) (noFns _ _))))
noncomputable def L83_0 : Nat → Option LoopD := fun _ => none
def sh83_4 : List Fm := [d, .cell (.val .str), d, d, .box 100400 [.val (.int .i64), .own (.int .i64) 100402 false], .box 100500 [.val (.int .i64), .own (.int .i64) 100502 false], .box 100600 [.val (.int .i64), .own (.int .i64) 100602 false], .box 100700 [.val (.int .i64), .own (.int .i64) 100702 false], d, d, d, d, d, d, d, d, d, .cell (.val (.int .i64)), .cell (.val (.int .i64)), d, d, d, d, d, d, d, d, d, d, d, d, d, d]
def xs83_4 : List (Ex × List Fm) := [(.exit 0, [d, d, d, d, .box 100400 [.val (.int .i64), .own (.int .i64) 100402 false], .box 100500 [.val (.int .i64), .own (.int .i64) 100502 false], d, d, d, d, d, d, d, d, d, d, d, d, d, d, d, d, d, d, d, d, d, d, d, d, d, d, d])]
noncomputable def spec_l4Matrix_l4 : (ByteArray × (Int × (List Int) × Unit) × (Int × (List Int) × Unit) × (Int × (List Int) × Unit) × (Int × (List Int) × Unit) × Int × Int × Unit) → Option ((ByteArray × (Int × (List Int) × Unit) × (Int × (List Int) × Unit) × (Int × (List Int) × Unit) × (Int × (List Int) × Unit) × Int × Int × Unit) ⊕ (((Int × (List Int) × Unit) × (Int × (List Int) × Unit) × Unit))) := fun (v1, (v4_0, v4_1, _), (v5_0, v5_1, _), (v6_0, v6_1, _), (v7_0, v7_1, _), v17, v18, _) =>
  bif (decide (v18 < v17)) then
    if (((0 : Int) ≤ v18) ∧ (v18 < (((ByteArray.size v1) : Nat) : Int))) then
      bif ((((UInt8.toNat (Array.getD (ByteArray.data v1) (Int.toNat v18) (0 : UInt8))) : Nat) : Int) == (97 : Int)) then
        Option.bind (spec_l2Mul (v5_0, (List.take (List.length v5_1) (List.drop 0 v5_1))) (v6_0, (List.take (List.length v6_1) (List.drop 0 v6_1)))) fun (r0, r1) =>
          some (Sum.inl (v1, (v4_0, (List.take (List.length v4_1) (List.drop 0 v4_1)), ()), (r0, (List.take (List.length r1) (List.drop 0 r1)), ()), (v6_0, (List.take (List.length v6_1) (List.drop 0 v6_1)), ()), (v7_0, (List.take (List.length v7_1) (List.drop 0 v7_1)), ()), v17, (IntKind.wrap .i64 (v18 + (1 : Int))), ()))
      else
        Option.bind (spec_l2Mul (v5_0, (List.take (List.length v5_1) (List.drop 0 v5_1))) (v7_0, (List.take (List.length v7_1) (List.drop 0 v7_1)))) fun (r2, r3) =>
          some (Sum.inl (v1, (v4_0, (List.take (List.length v4_1) (List.drop 0 v4_1)), ()), (r2, (List.take (List.length r3) (List.drop 0 r3)), ()), (v6_0, (List.take (List.length v6_1) (List.drop 0 v6_1)), ()), (v7_0, (List.take (List.length v7_1) (List.drop 0 v7_1)), ()), v17, (IntKind.wrap .i64 (v18 + (1 : Int))), ()))
    else
      none
  else
    some (Sum.inr ((v4_0, (List.take (List.length v4_1) (List.drop 0 v4_1)), ()), (v5_0, (List.take (List.length v5_1) (List.drop 0 v5_1)), ()), ()))
theorem spec_l4Matrix_l4_eq : loopStep E83 L83_0 (loopOf f83 4) sh83_4 xs83_4 = spec_l4Matrix_l4 := by kernel_rfl
theorem loop83_4 {L : Nat → Option LoopD} (h : L 4 = some ⟨sh83_4, xs83_4, spec_l4Matrix_l4⟩) : LoopOk prog L (loopOf f83 4) :=
  loopOk (tysOk_of tyl_ok) E83_ok (codeOk_in (L := L83_0) (tysOk_of tyl_ok) E83_ok mixed (c := loopOf f83 4) (bs := []) (by kernel_rfl) allNil (by kernel_rfl)) (by kernel_rfl) (by kernel_rfl) spec_l4Matrix_l4_eq (by rw [show firstId (loopOf f83 4) = 4 from by kernel_rfl]; exact h)
noncomputable def L83_1 : Nat → Option LoopD := fun n => ifEq n 4 (some ⟨sh83_4, xs83_4, spec_l4Matrix_l4⟩) (L83_0 n)
noncomputable def spec_l4Matrix : (Int × ((List Int) × ((List Int) × (List (Int × (ByteArray × (Int × Int))))))) → ByteArray → Option ((Int × (List Int))) := fun (a0_0, a0_1, a0_2, a0_3) a1 =>
  Option.bind (spec_l2Unit a0_0) fun (r0, r1) =>
    Option.bind (spec_l3Matrix (a0_0, a0_1, a0_2, a0_3) (⟨#[(97 : UInt8)]⟩ : ByteArray)) fun (r2, r3) =>
      Option.bind (spec_l3Matrix (a0_0, a0_1, a0_2, a0_3) (⟨#[(98 : UInt8)]⟩ : ByteArray)) fun (r4, r5) =>
        Option.bind (loopF spec_l4Matrix_l4 (a1, ((0 : Int), [], ()), (r0, (List.take (List.length r1) (List.drop 0 r1)), ()), (r2, (List.take (List.length r3) (List.drop 0 r3)), ()), (r4, (List.take (List.length r5) (List.drop 0 r5)), ()), (((ByteArray.size a1) : Nat) : Int), (0 : Int), ())) fun ((r6, r7, _), (r8, r9, _), _) =>
          some (r8, (List.take (List.length r9) (List.drop 0 r9)))
noncomputable def A83 : FnA := ⟨[.v (.pair (.int .i64) (.pair (.sl (.int .i64)) (.pair (.sl (.int .i64)) (.sl (.pair (.int .i64) (.pair .str (.pair (.int .i64) (.int .i64)))))))), .v .str], true, [.pair (.int .i64) (.sl (.int .i64))], fun x => spec_l4Matrix x.1 x.2.1⟩
theorem spec_l4Matrix_eq : fnF E83 L83_1 [.v (.pair (.int .i64) (.pair (.sl (.int .i64)) (.pair (.sl (.int .i64)) (.sl (.pair (.int .i64) (.pair .str (.pair (.int .i64) (.int .i64)))))))), .v .str] true [.pair (.int .i64) (.sl (.int .i64))] f83.ntmps f83.results.toList (codeOf f83) = fun x => spec_l4Matrix x.1 x.2.1 := by kernel_rfl
theorem A83_ok : FnOk prog 83 A83 := by
  have h := fnOk_of_run (P := prog) (E := E83) (tysOk_of tyl_ok) E83_ok (L := L83_1) (ps := [.v (.pair (.int .i64) (.pair (.sl (.int .i64)) (.pair (.sl (.int .i64)) (.sl (.pair (.int .i64) (.pair .str (.pair (.int .i64) (.int .i64)))))))), .v .str]) (own := true) (outs := [.pair (.int .i64) (.sl (.int .i64))]) func83 (c := codeOf f83) (by kernel_rfl) (codeOk_in (L := L83_1) (tysOk_of tyl_ok) E83_ok mixed (c := codeOf f83) (bs := [loopOf f83 4]) (by kernel_rfl) (allCons (loop83_4 rfl) allNil) (by kernel_rfl))
  rw [spec_l4Matrix_eq] at h
  exact h
/-! spec.l4Least -/
noncomputable def E73 : Env := ⟨ty0, fun _ => none, fun _ => none, fun _ => none⟩
theorem E73_ok : FnsOk prog E73 := (noFns _ _)
noncomputable def L73_0 : Nat → Option LoopD := fun _ => none
def sh73_6 : List Fm := [d, d, .box 100200 [.val (.int .i64), .val (.sl (.int .i64)), .val (.sl (.int .i64)), .val (.sl (.pair (.int .i64) (.pair .str (.pair (.int .i64) (.int .i64)))))], .box 100300 [.val (.int .i64), .val (.sl (.int .i64))], d, .cell (.val (.int .i64)), d, .cell (.val (.int .i64)), d, d, d, .cell (.val (.sl (.int .i64))), .cell (.val (.int .i64)), .cell (.val (.int .i64)), d, d, d, d, .cell (.val (.sl (.int .i64))), .cell (.val (.int .i64)), .cell (.val (.int .i64)), d, d, d, d, d, d, d, d, d, d, d, d, d, d, d, d, d, d]
def xs73_6 : List (Ex × List Fm) := [(.exit 2, [d, d, .box 100200 [.val (.int .i64), .val (.sl (.int .i64)), .val (.sl (.int .i64)), .val (.sl (.pair (.int .i64) (.pair .str (.pair (.int .i64) (.int .i64)))))], .box 100300 [.val (.int .i64), .val (.sl (.int .i64))], d, .cell (.val (.int .i64)), d, d, d, d, d, .cell (.val (.sl (.int .i64))), .cell (.val (.int .i64)), .cell (.val (.int .i64)), d, d, d, d, d, d, d, d, d, d, d, d, d, d, d, d, d, d, d, d, d, d, d, d, d])]
noncomputable def spec_l4Least_l6 : ((Int × (List Int) × (List Int) × (List (Int × (ByteArray × (Int × Int)))) × Unit) × (Int × (List Int) × Unit) × Int × Int × (List Int) × Int × Int × (List Int) × Int × Int × Unit) → Option (((Int × (List Int) × (List Int) × (List (Int × (ByteArray × (Int × Int)))) × Unit) × (Int × (List Int) × Unit) × Int × Int × (List Int) × Int × Int × (List Int) × Int × Int × Unit) ⊕ (((Int × (List Int) × (List Int) × (List (Int × (ByteArray × (Int × Int)))) × Unit) × (Int × (List Int) × Unit) × Int × (List Int) × Int × Int × Unit))) := fun ((v2_0, v2_1, v2_2, v2_3, _), (v3_0, v3_1, _), v5, v7, v11, v12, v13, v18, v19, v20, _) =>
  bif (decide (v20 < v19)) then
    if (((0 : Int) ≤ v20) ∧ (v20 < (((List.length v18) : Nat) : Int))) then
      if (((0 : Int) ≤ (IntKind.wrap .i64 ((IntKind.wrap .i64 (v7 * v2_0)) + (List.getD v18 (Int.toNat v20) (0 : Int))))) ∧ ((IntKind.wrap .i64 ((IntKind.wrap .i64 (v7 * v2_0)) + (List.getD v18 (Int.toNat v20) (0 : Int)))) < (((List.length v3_1) : Nat) : Int))) then
        some (Sum.inl ((v2_0, v2_1, v2_2, v2_3, ()), (v3_0, v3_1, ()), (if ((List.getD v3_1 (Int.toNat (IntKind.wrap .i64 ((IntKind.wrap .i64 (v7 * v2_0)) + (List.getD v18 (Int.toNat v20) (0 : Int))))) (0 : Int)) < v5) then (List.getD v3_1 (Int.toNat (IntKind.wrap .i64 ((IntKind.wrap .i64 (v7 * v2_0)) + (List.getD v18 (Int.toNat v20) (0 : Int))))) (0 : Int)) else v5), v7, v11, v12, v13, v18, v19, (IntKind.wrap .i64 (v20 + (1 : Int))), ()))
      else
        none
    else
      none
  else
    some (Sum.inr ((v2_0, v2_1, v2_2, v2_3, ()), (v3_0, v3_1, ()), v5, v11, v12, v13, ()))
theorem spec_l4Least_l6_eq : loopStep E73 L73_0 (loopOf f73 6) sh73_6 xs73_6 = spec_l4Least_l6 := by kernel_rfl
theorem loop73_6 {L : Nat → Option LoopD} (h : L 6 = some ⟨sh73_6, xs73_6, spec_l4Least_l6⟩) : LoopOk prog L (loopOf f73 6) :=
  loopOk (tysOk_of tyl_ok) E73_ok (codeOk_in (L := L73_0) (tysOk_of tyl_ok) E73_ok mixed (c := loopOf f73 6) (bs := []) (by kernel_rfl) allNil (by kernel_rfl)) (by kernel_rfl) (by kernel_rfl) spec_l4Least_l6_eq (by rw [show firstId (loopOf f73 6) = 6 from by kernel_rfl]; exact h)
noncomputable def L73_1 : Nat → Option LoopD := fun n => ifEq n 6 (some ⟨sh73_6, xs73_6, spec_l4Least_l6⟩) (L73_0 n)
def sh73_3 : List Fm := [d, d, .box 100200 [.val (.int .i64), .val (.sl (.int .i64)), .val (.sl (.int .i64)), .val (.sl (.pair (.int .i64) (.pair .str (.pair (.int .i64) (.int .i64)))))], .box 100300 [.val (.int .i64), .val (.sl (.int .i64))], d, .cell (.val (.int .i64)), d, d, d, d, d, .cell (.val (.sl (.int .i64))), .cell (.val (.int .i64)), .cell (.val (.int .i64)), d, d, d, d, d, d, d, d, d, d, d, d, d, d, d, d, d, d, d, d, d, d, d, d, d]
def xs73_3 : List (Ex × List Fm) := [(.exit 0, [d, d, d, d, d, .cell (.val (.int .i64)), d, d, d, d, d, d, d, d, d, d, d, d, d, d, d, d, d, d, d, d, d, d, d, d, d, d, d, d, d, d, d, d, d])]
noncomputable def spec_l4Least_l3 : ((Int × (List Int) × (List Int) × (List (Int × (ByteArray × (Int × Int)))) × Unit) × (Int × (List Int) × Unit) × Int × (List Int) × Int × Int × Unit) → Option (((Int × (List Int) × (List Int) × (List (Int × (ByteArray × (Int × Int)))) × Unit) × (Int × (List Int) × Unit) × Int × (List Int) × Int × Int × Unit) ⊕ ((Int × Unit))) := fun ((v2_0, v2_1, v2_2, v2_3, _), (v3_0, v3_1, _), v5, v11, v12, v13, _) =>
  bif (decide (v13 < v12)) then
    if (((0 : Int) ≤ v13) ∧ (v13 < (((List.length v11) : Nat) : Int))) then
      Option.bind (loopF spec_l4Least_l6 ((v2_0, v2_1, v2_2, v2_3, ()), (v3_0, v3_1, ()), v5, (List.getD v11 (Int.toNat v13) (0 : Int)), v11, v12, v13, v2_2, (((List.length v2_2) : Nat) : Int), (0 : Int), ())) fun ((r0, r1, r2, r3, _), (r4, r5, _), r6, r7, r8, r9, _) =>
        some (Sum.inl ((r0, r1, r2, r3, ()), (r4, r5, ()), r6, r7, r8, (IntKind.wrap .i64 (r9 + (1 : Int))), ()))
    else
      none
  else
    some (Sum.inr (v5, ()))
theorem spec_l4Least_l3_eq : loopStep E73 L73_1 (loopOf f73 3) sh73_3 xs73_3 = spec_l4Least_l3 := by kernel_rfl
theorem loop73_3 {L : Nat → Option LoopD} (h : L 3 = some ⟨sh73_3, xs73_3, spec_l4Least_l3⟩) : LoopOk prog L (loopOf f73 3) :=
  loopOk (tysOk_of tyl_ok) E73_ok (codeOk_in (L := L73_1) (tysOk_of tyl_ok) E73_ok mixed (c := loopOf f73 3) (bs := [loopOf f73 6]) (by kernel_rfl) (allCons (loop73_6 rfl) allNil) (by kernel_rfl)) (by kernel_rfl) (by kernel_rfl) spec_l4Least_l3_eq (by rw [show firstId (loopOf f73 3) = 3 from by kernel_rfl]; exact h)
noncomputable def L73_2 : Nat → Option LoopD := fun n => ifEq n 3 (some ⟨sh73_3, xs73_3, spec_l4Least_l3⟩) (L73_1 n)
noncomputable def spec_l4Least : (Int × ((List Int) × ((List Int) × (List (Int × (ByteArray × (Int × Int))))))) → (Int × (List Int)) → Option (Int) := fun (a0_0, a0_1, a0_2, a0_3) (a1_0, a1_1) =>
  Option.bind (loopF spec_l4Least_l3 ((a0_0, a0_1, a0_2, a0_3, ()), (a1_0, a1_1, ()), (1000000 : Int), a0_1, (((List.length a0_1) : Nat) : Int), (0 : Int), ())) fun (r0, _) =>
    some r0
noncomputable def A73 : FnA := ⟨[.v (.pair (.int .i64) (.pair (.sl (.int .i64)) (.pair (.sl (.int .i64)) (.sl (.pair (.int .i64) (.pair .str (.pair (.int .i64) (.int .i64)))))))), .v (.pair (.int .i64) (.sl (.int .i64)))], true, [.int .i64], fun x => spec_l4Least x.1 x.2.1⟩
theorem spec_l4Least_eq : fnF E73 L73_2 [.v (.pair (.int .i64) (.pair (.sl (.int .i64)) (.pair (.sl (.int .i64)) (.sl (.pair (.int .i64) (.pair .str (.pair (.int .i64) (.int .i64)))))))), .v (.pair (.int .i64) (.sl (.int .i64)))] true [.int .i64] f73.ntmps f73.results.toList (codeOf f73) = fun x => spec_l4Least x.1 x.2.1 := by kernel_rfl
theorem A73_ok : FnOk prog 73 A73 := by
  have h := fnOk_of_run (P := prog) (E := E73) (tysOk_of tyl_ok) E73_ok (L := L73_2) (ps := [.v (.pair (.int .i64) (.pair (.sl (.int .i64)) (.pair (.sl (.int .i64)) (.sl (.pair (.int .i64) (.pair .str (.pair (.int .i64) (.int .i64)))))))), .v (.pair (.int .i64) (.sl (.int .i64)))]) (own := true) (outs := [.int .i64]) func73 (c := codeOf f73) (by kernel_rfl) (codeOk_in (L := L73_2) (tysOk_of tyl_ok) E73_ok mixed (c := codeOf f73) (bs := [loopOf f73 3]) (by kernel_rfl) (allCons (loop73_3 rfl) allNil) (by kernel_rfl))
  rw [spec_l4Least_eq] at h
  exact h
/-! spec.l4Cost -/
noncomputable def E55 : Env := ⟨ty0, fun g => ifEq g 83 (some A83) (ifEq g 73 (some A73) (none)), fun _ => none, fun _ => none⟩
theorem E55_ok : FnsOk prog E55 := (oneFn A83_ok func83 (by kernel_rfl) (by kernel_rfl) (oneFn A73_ok func73 (by kernel_rfl) (by kernel_rfl) (noFns _ _)))
noncomputable def L55_0 : Nat → Option LoopD := fun _ => none
noncomputable def spec_l4Cost : (Int × ((List Int) × ((List Int) × (List (Int × (ByteArray × (Int × Int))))))) → ByteArray → Option (Int) := fun (a0_0, a0_1, a0_2, a0_3) a1 =>
  Option.bind (spec_l4Matrix (a0_0, a0_1, a0_2, a0_3) a1) fun (r0, r1) =>
    Option.bind (spec_l4Least (a0_0, a0_1, a0_2, a0_3) (r0, (List.take (List.length r1) (List.drop 0 r1)))) fun r2 =>
      some r2
noncomputable def A55 : FnA := ⟨[.v (.pair (.int .i64) (.pair (.sl (.int .i64)) (.pair (.sl (.int .i64)) (.sl (.pair (.int .i64) (.pair .str (.pair (.int .i64) (.int .i64)))))))), .v .str], true, [.int .i64], fun x => spec_l4Cost x.1 x.2.1⟩
theorem spec_l4Cost_eq : fnF E55 L55_0 [.v (.pair (.int .i64) (.pair (.sl (.int .i64)) (.pair (.sl (.int .i64)) (.sl (.pair (.int .i64) (.pair .str (.pair (.int .i64) (.int .i64)))))))), .v .str] true [.int .i64] f55.ntmps f55.results.toList (codeOf f55) = fun x => spec_l4Cost x.1 x.2.1 := by kernel_rfl
theorem A55_ok : FnOk prog 55 A55 := by
  have h := fnOk_of_run (P := prog) (E := E55) (tysOk_of tyl_ok) E55_ok (L := L55_0) (ps := [.v (.pair (.int .i64) (.pair (.sl (.int .i64)) (.pair (.sl (.int .i64)) (.sl (.pair (.int .i64) (.pair .str (.pair (.int .i64) (.int .i64)))))))), .v .str]) (own := true) (outs := [.int .i64]) func55 (c := codeOf f55) (by kernel_rfl) (codeOk_in (L := L55_0) (tysOk_of tyl_ok) E55_ok mixed (c := codeOf f55) (bs := []) (by kernel_rfl) allNil (by kernel_rfl))
  rw [spec_l4Cost_eq] at h
  exact h
/-! spec.AreApart -/
noncomputable def E22 : Env := ⟨ty0, fun g => ifEq g 53 (some A53) (ifEq g 54 (some A54) (ifEq g 55 (some A55) (none))), fun _ => none, fun _ => none⟩
theorem E22_ok : FnsOk prog E22 := (oneFn A53_ok func53 (by kernel_rfl) (by kernel_rfl) (oneFn A54_ok func54 (by kernel_rfl) (by kernel_rfl) (oneFn A55_ok func55 (by kernel_rfl) (by kernel_rfl) (noFns _ _))))
noncomputable def L22_0 : Nat → Option LoopD := fun _ => none
def sh22_4 : List Fm := [d, d, d, .box 100300 [.val (.int .i64), .val (.sl (.int .i64)), .val (.sl (.int .i64)), .val (.sl (.pair (.int .i64) (.pair .str (.pair (.int .i64) (.int .i64)))))], .box 100400 [.val (.int .i64), .val (.sl (.int .i64)), .val (.sl (.int .i64)), .val (.sl (.pair (.int .i64) (.pair .str (.pair (.int .i64) (.int .i64)))))], d, d, d, d, d, d, d, d, d, d, d, d, d, d, d, .cell (.val (.sl .str)), .cell (.val (.int .i64)), .cell (.val (.int .i64)), d, d, d, d, d, d, d, d, d, d, d, d]
def xs22_4 : List (Ex × List Fm) := [(.ret, [d, d, d, d, d, d, .cell (.val .bool), d, d, d, d, d, d, d, d, d, d, d, d, d, d, d, d, d, d, d, d, d, d, d, d, d, d, d, d]), (.exit 0, [d, d, d, d, d, d, d, d, d, d, d, d, d, d, d, d, d, d, d, d, d, d, d, d, d, d, d, d, d, d, d, d, d, d, d])]
noncomputable def spec_AreApart_l4 : ((Int × (List Int) × (List Int) × (List (Int × (ByteArray × (Int × Int)))) × Unit) × (Int × (List Int) × (List Int) × (List (Int × (ByteArray × (Int × Int)))) × Unit) × (List ByteArray) × Int × Int × Unit) → Option (((Int × (List Int) × (List Int) × (List (Int × (ByteArray × (Int × Int)))) × Unit) × (Int × (List Int) × (List Int) × (List (Int × (ByteArray × (Int × Int)))) × Unit) × (List ByteArray) × Int × Int × Unit) ⊕ ((Bool × Unit) ⊕ (Unit))) := fun ((v3_0, v3_1, v3_2, v3_3, _), (v4_0, v4_1, v4_2, v4_3, _), v20, v21, v22, _) =>
  bif (decide (v22 < v21)) then
    if (((0 : Int) ≤ v22) ∧ (v22 < (((List.length v20) : Nat) : Int))) then
      Option.bind (spec_l4Cost (v3_0, v3_1, v3_2, v3_3) (List.getD v20 (Int.toNat v22) (⟨Array.empty⟩ : ByteArray))) fun r0 =>
        Option.bind (spec_l4Cost (v4_0, v4_1, v4_2, v4_3) (List.getD v20 (Int.toNat v22) (⟨Array.empty⟩ : ByteArray))) fun r1 =>
          bif (decide ((if (r1 > r0) then r1 else r0) < (1000000 : Int))) then
            some (Sum.inr (Sum.inl (false, ())))
          else
            some (Sum.inl ((v3_0, v3_1, v3_2, v3_3, ()), (v4_0, v4_1, v4_2, v4_3, ()), v20, v21, (IntKind.wrap .i64 (v22 + (1 : Int))), ()))
    else
      none
  else
    some (Sum.inr (Sum.inr ()))
theorem spec_AreApart_l4_eq : loopStep E22 L22_0 (loopOf f22 4) sh22_4 xs22_4 = spec_AreApart_l4 := by kernel_rfl
theorem loop22_4 {L : Nat → Option LoopD} (h : L 4 = some ⟨sh22_4, xs22_4, spec_AreApart_l4⟩) : LoopOk prog L (loopOf f22 4) :=
  loopOk (tysOk_of tyl_ok) E22_ok (codeOk_in (L := L22_0) (tysOk_of tyl_ok) E22_ok mixed (c := loopOf f22 4) (bs := []) (by kernel_rfl) allNil (by kernel_rfl)) (by kernel_rfl) (by kernel_rfl) spec_AreApart_l4_eq (by rw [show firstId (loopOf f22 4) = 4 from by kernel_rfl]; exact h)
noncomputable def L22_1 : Nat → Option LoopD := fun n => ifEq n 4 (some ⟨sh22_4, xs22_4, spec_AreApart_l4⟩) (L22_0 n)
noncomputable def spec_AreApart : (Int × ((List Int) × ((List Int) × (List (Int × (ByteArray × (Int × Int))))))) → (Int × ((List Int) × ((List Int) × (List (Int × (ByteArray × (Int × Int))))))) → Int → Option (Bool) := fun (a0_0, a0_1, a0_2, a0_3) (a1_0, a1_1, a1_2, a1_3) a2 =>
  Option.bind (spec_l11Short (a0_0, a0_1, a0_2, a0_3) a2) fun r0 =>
    bif (!r0) then
      some false
    else
      Option.bind (spec_l11Short (a1_0, a1_1, a1_2, a1_3) a2) fun r1 =>
        bif (!r1) then
          some false
        else
          Option.bind (spec_l4Words a2) fun r2 =>
            Option.bind (loopF spec_AreApart_l4 ((a0_0, a0_1, a0_2, a0_3, ()), (a1_0, a1_1, a1_2, a1_3, ()), r2, (((List.length r2) : Nat) : Int), (0 : Int), ())) fun r3 =>
              (match r3 with
              | .inl (d4, _) =>
                  some d4
              | .inr _ =>
                  some true)
noncomputable def A22 : FnA := ⟨[.v (.pair (.int .i64) (.pair (.sl (.int .i64)) (.pair (.sl (.int .i64)) (.sl (.pair (.int .i64) (.pair .str (.pair (.int .i64) (.int .i64)))))))), .v (.pair (.int .i64) (.pair (.sl (.int .i64)) (.pair (.sl (.int .i64)) (.sl (.pair (.int .i64) (.pair .str (.pair (.int .i64) (.int .i64)))))))), .v (.int .i64)], true, [.bool], fun x => spec_AreApart x.1 x.2.1 x.2.2.1⟩
theorem spec_AreApart_eq : fnF E22 L22_1 [.v (.pair (.int .i64) (.pair (.sl (.int .i64)) (.pair (.sl (.int .i64)) (.sl (.pair (.int .i64) (.pair .str (.pair (.int .i64) (.int .i64)))))))), .v (.pair (.int .i64) (.pair (.sl (.int .i64)) (.pair (.sl (.int .i64)) (.sl (.pair (.int .i64) (.pair .str (.pair (.int .i64) (.int .i64)))))))), .v (.int .i64)] true [.bool] f22.ntmps f22.results.toList (codeOf f22) = fun x => spec_AreApart x.1 x.2.1 x.2.2.1 := by kernel_rfl
theorem A22_ok : FnOk prog 22 A22 := by
  have h := fnOk_of_run (P := prog) (E := E22) (tysOk_of tyl_ok) E22_ok (L := L22_1) (ps := [.v (.pair (.int .i64) (.pair (.sl (.int .i64)) (.pair (.sl (.int .i64)) (.sl (.pair (.int .i64) (.pair .str (.pair (.int .i64) (.int .i64)))))))), .v (.pair (.int .i64) (.pair (.sl (.int .i64)) (.pair (.sl (.int .i64)) (.sl (.pair (.int .i64) (.pair .str (.pair (.int .i64) (.int .i64)))))))), .v (.int .i64)]) (own := true) (outs := [.bool]) func22 (c := codeOf f22) (by kernel_rfl) (codeOk_in (L := L22_1) (tysOk_of tyl_ok) E22_ok mixed (c := codeOf f22) (bs := [loopOf f22 4]) (by kernel_rfl) (allCons (loop22_4 rfl) allNil) (by kernel_rfl))
  rw [spec_AreApart_eq] at h
  exact h
/-! impl.ShortWords -/
noncomputable def E69 : Env := ⟨ty0, fun _ => none, fun _ => none, fun _ => none⟩
theorem E69_ok : FnsOk prog E69 := (noFns _ _)
noncomputable def L69_0 : Nat → Option LoopD := fun _ => none
def sh69_8 : List Fm := [.cell (.val (.int .i64)), d, d, d, .cell (.own .str 100400 true), d, .cell (.val (.int .i64)), d, d, d, d, d, d, d, d, d, d, d, d, d, d, d, d, d, d, d, d, d, d, d, .cell (.val (.sl .str)), .cell (.val (.int .i64)), .cell (.val (.int .i64)), d, d, d, d, d, d, d, d, d, d, d, d, d]
def xs69_8 : List (Ex × List Fm) := [(.exit 2, [.cell (.val (.int .i64)), d, d, d, .cell (.own .str 100400 true), d, .cell (.val (.int .i64)), d, d, d, d, d, d, d, d, d, d, d, d, d, d, d, d, d, d, d, d, d, d, d, d, d, d, d, d, d, d, d, d, d, d, d, d, d, d, d])]
noncomputable def impl_ShortWords_l8 : (Int × (List ByteArray) × Int × (List ByteArray) × Int × Int × Unit) → Option ((Int × (List ByteArray) × Int × (List ByteArray) × Int × Int × Unit) ⊕ ((Int × (List ByteArray) × Int × Unit))) := fun (v0, v4, v6, v30, v31, v32, _) =>
  bif (decide (v32 < v31)) then
    if (((0 : Int) ≤ v32) ∧ (v32 < (((List.length v30) : Nat) : Int))) then
      if (((ByteArray.size (List.getD v30 (Int.toNat v32) (⟨Array.empty⟩ : ByteArray))) + (ByteArray.size (⟨#[(97 : UInt8)]⟩ : ByteArray))) ≤ 9223372036854775807) then
        if (((ByteArray.size (List.getD v30 (Int.toNat v32) (⟨Array.empty⟩ : ByteArray))) + (ByteArray.size (⟨#[(98 : UInt8)]⟩ : ByteArray))) ≤ 9223372036854775807) then
          if (((0 + (List.length v4)) = (List.length v4)) ∧ ((((List.length v4) + (List.length (List.take 2 (List.drop 0 [((List.getD v30 (Int.toNat v32) (⟨Array.empty⟩ : ByteArray)) ++ (⟨#[(97 : UInt8)]⟩ : ByteArray)), ((List.getD v30 (Int.toNat v32) (⟨Array.empty⟩ : ByteArray)) ++ (⟨#[(98 : UInt8)]⟩ : ByteArray))])))) * 16) ≤ 140737488355328)) then
            if ((0 + ((List.length v4) + (List.length (List.take 2 (List.drop 0 [((List.getD v30 (Int.toNat v32) (⟨Array.empty⟩ : ByteArray)) ++ (⟨#[(97 : UInt8)]⟩ : ByteArray)), ((List.getD v30 (Int.toNat v32) (⟨Array.empty⟩ : ByteArray)) ++ (⟨#[(98 : UInt8)]⟩ : ByteArray))]))))) = (List.length ((List.drop 0 v4) ++ (List.take 2 (List.drop 0 [((List.getD v30 (Int.toNat v32) (⟨Array.empty⟩ : ByteArray)) ++ (⟨#[(97 : UInt8)]⟩ : ByteArray)), ((List.getD v30 (Int.toNat v32) (⟨Array.empty⟩ : ByteArray)) ++ (⟨#[(98 : UInt8)]⟩ : ByteArray))]))))) then
              some (Sum.inl (v0, (List.drop 0 ((List.drop 0 v4) ++ (List.take 2 (List.drop 0 [((List.getD v30 (Int.toNat v32) (⟨Array.empty⟩ : ByteArray)) ++ (⟨#[(97 : UInt8)]⟩ : ByteArray)), ((List.getD v30 (Int.toNat v32) (⟨Array.empty⟩ : ByteArray)) ++ (⟨#[(98 : UInt8)]⟩ : ByteArray))])))), v6, v30, v31, (IntKind.wrap .i64 (v32 + (1 : Int))), ()))
            else
              none
          else
            none
        else
          none
      else
        none
    else
      none
  else
    if ((0 + (List.length v4)) = (List.length v4)) then
      some (Sum.inr (v0, (List.drop 0 v4), v6, ()))
    else
      none
theorem impl_ShortWords_l8_eq : loopStep E69 L69_0 (loopOf f69 8) sh69_8 xs69_8 = impl_ShortWords_l8 := by kernel_rfl
theorem loop69_8 {L : Nat → Option LoopD} (h : L 8 = some ⟨sh69_8, xs69_8, impl_ShortWords_l8⟩) : LoopOk prog L (loopOf f69 8) :=
  loopOk (tysOk_of tyl_ok) E69_ok (codeOk_in (L := L69_0) (tysOk_of tyl_ok) E69_ok mixed (c := loopOf f69 8) (bs := []) (by kernel_rfl) allNil (by kernel_rfl)) (by kernel_rfl) (by kernel_rfl) impl_ShortWords_l8_eq (by rw [show firstId (loopOf f69 8) = 8 from by kernel_rfl]; exact h)
noncomputable def L69_1 : Nat → Option LoopD := fun n => ifEq n 8 (some ⟨sh69_8, xs69_8, impl_ShortWords_l8⟩) (L69_0 n)
def sh69_5 : List Fm := [.cell (.val (.int .i64)), d, d, d, .cell (.own .str 100400 true), .cell (.val (.int .i64)), d, d, d, d, d, d, d, d, d, d, d, d, d, d, d, d, d, d, d, d, d, d, d, d, d, d, d, d, d, d, d, d, d, d, d, d, d, d, d, d]
def xs69_5 : List (Ex × List Fm) := [(.exit 0, [d, d, d, d, .cell (.val (.sl .str)), d, d, d, d, d, d, d, d, d, d, d, d, d, d, d, d, d, d, d, d, d, d, d, d, d, d, d, d, d, d, d, d, d, d, d, d, d, d, d, d, d])]
noncomputable def impl_ShortWords_l5 : (Int × (List ByteArray) × Int × Unit) → Option ((Int × (List ByteArray) × Int × Unit) ⊕ (((List ByteArray) × Unit))) := fun (v0, v4, v5, _) =>
  if (((0 : Int) ≤ (IntKind.wrap .i64 ((((List.length v4) : Nat) : Int) - (1 : Int)))) ∧ ((IntKind.wrap .i64 ((((List.length v4) : Nat) : Int) - (1 : Int))) < (((List.length v4) : Nat) : Int))) then
    bif (decide ((((ByteArray.size (List.getD v4 (0 + (Int.toNat (IntKind.wrap .i64 ((((List.length v4) : Nat) : Int) - (1 : Int))))) (⟨Array.empty⟩ : ByteArray))) : Nat) : Int) < v0)) then
      if (((0 : Int) ≤ v5) ∧ ((v5 ≤ (((List.length v4) : Nat) : Int)) ∧ ((((List.length v4) : Nat) : Int) ≤ (((List.length v4) : Nat) : Int)))) then
        if ((0 + (List.length v4)) = (List.length v4)) then
          Option.bind (loopF impl_ShortWords_l8 (v0, (List.drop 0 v4), (((List.length v4) : Nat) : Int), (List.take ((Int.toNat (((List.length v4) : Nat) : Int)) - (Int.toNat v5)) (List.drop (0 + (Int.toNat v5)) v4)), ((((Int.toNat (((List.length v4) : Nat) : Int)) - (Int.toNat v5)) : Nat) : Int), (0 : Int), ())) fun (r0, r1, r2, _) =>
            if ((0 + (List.length r1)) = (List.length r1)) then
              some (Sum.inl (r0, (List.drop 0 r1), r2, ()))
            else
              none
        else
          none
      else
        none
    else
      some (Sum.inr ((List.take (List.length v4) (List.drop 0 v4)), ()))
  else
    none
theorem impl_ShortWords_l5_eq : loopStep E69 L69_1 (loopOf f69 5) sh69_5 xs69_5 = impl_ShortWords_l5 := by kernel_rfl
theorem loop69_5 {L : Nat → Option LoopD} (h : L 5 = some ⟨sh69_5, xs69_5, impl_ShortWords_l5⟩) : LoopOk prog L (loopOf f69 5) :=
  loopOk (tysOk_of tyl_ok) E69_ok (codeOk_in (L := L69_1) (tysOk_of tyl_ok) E69_ok mixed (c := loopOf f69 5) (bs := [loopOf f69 8]) (by kernel_rfl) (allCons (loop69_8 rfl) allNil) (by kernel_rfl)) (by kernel_rfl) (by kernel_rfl) impl_ShortWords_l5_eq (by rw [show firstId (loopOf f69 5) = 5 from by kernel_rfl]; exact h)
noncomputable def L69_2 : Nat → Option LoopD := fun n => ifEq n 5 (some ⟨sh69_5, xs69_5, impl_ShortWords_l5⟩) (L69_1 n)
noncomputable def impl_ShortWords : Int → Option ((List ByteArray) × Bool) := fun a0 =>
  bif (decide (a0 < (0 : Int))) then
    some ([], false)
  else
    bif (decide (a0 > (7 : Int))) then
      some ([], false)
    else
      if ((0 + 1) = (List.length [(⟨#[]⟩ : ByteArray)])) then
        Option.bind (loopF impl_ShortWords_l5 (a0, (List.drop 0 [(⟨#[]⟩ : ByteArray)]), (0 : Int), ())) fun (r0, _) =>
          some (r0, true)
      else
        none
noncomputable def A69 : FnA := ⟨[.v (.int .i64)], false, [.sl .str, .bool], fun x => impl_ShortWords x.1⟩
theorem impl_ShortWords_eq : fnF E69 L69_2 [.v (.int .i64)] false [.sl .str, .bool] f69.ntmps f69.results.toList (codeOf f69) = fun x => impl_ShortWords x.1 := by kernel_rfl
theorem A69_ok : FnOk prog 69 A69 := by
  have h := fnOk_of_run (P := prog) (E := E69) (tysOk_of tyl_ok) E69_ok (L := L69_2) (ps := [.v (.int .i64)]) (own := false) (outs := [.sl .str, .bool]) func69 (c := codeOf f69) (by kernel_rfl) (codeOk_in (L := L69_2) (tysOk_of tyl_ok) E69_ok mixed (c := codeOf f69) (bs := [loopOf f69 5]) (by kernel_rfl) (allCons (loop69_5 rfl) allNil) (by kernel_rfl))
  rw [impl_ShortWords_eq] at h
  exact h
/-! impl.statesOk -/
noncomputable def E88 : Env := ⟨ty0, fun _ => none, fun _ => none, fun _ => none⟩
theorem E88_ok : FnsOk prog E88 := (noFns _ _)
noncomputable def L88_0 : Nat → Option LoopD := fun _ => none
def sh88_2 : List Fm := [.cell (.val (.sl (.int .i64))), .cell (.val (.int .i64)), d, d, d, d, d, .cell (.val (.sl (.int .i64))), .cell (.val (.int .i64)), .cell (.val (.int .i64)), d, d, d, d, d, d, d, d, d, d, d, d, d, d, d, d, d, d, d, d, d, d, d, d, d]
def xs88_2 : List (Ex × List Fm) := [(.ret, [d, d, d, d, .cell (.val .bool), d, d, d, d, d, d, d, d, d, d, d, d, d, d, d, d, d, d, d, d, d, d, d, d, d, d, d, d, d, d]), (.exit 0, [d, d, d, d, d, d, d, d, d, d, d, d, d, d, d, d, d, d, d, d, d, d, d, d, d, d, d, d, d, d, d, d, d, d, d])]
noncomputable def impl_statesOk_l2 : ((List Int) × Int × (List Int) × Int × Int × Unit) → Option (((List Int) × Int × (List Int) × Int × Int × Unit) ⊕ ((Bool × Unit) ⊕ (Unit))) := fun (v0, v1, v7, v8, v9, _) =>
  bif (decide (v9 < v8)) then
    if (((0 : Int) ≤ v9) ∧ (v9 < (((List.length v7) : Nat) : Int))) then
      bif (decide ((List.getD v7 (Int.toNat v9) (0 : Int)) < (0 : Int))) then
        some (Sum.inr (Sum.inl (false, ())))
      else
        bif (decide ((List.getD v7 (Int.toNat v9) (0 : Int)) ≥ v1)) then
          some (Sum.inr (Sum.inl (false, ())))
        else
          bif (decide (v9 > (0 : Int))) then
            if (((0 : Int) ≤ (IntKind.wrap .i64 (v9 - (1 : Int)))) ∧ ((IntKind.wrap .i64 (v9 - (1 : Int))) < (((List.length v0) : Nat) : Int))) then
              bif (decide ((List.getD v0 (Int.toNat (IntKind.wrap .i64 (v9 - (1 : Int)))) (0 : Int)) ≥ (List.getD v7 (Int.toNat v9) (0 : Int)))) then
                some (Sum.inr (Sum.inl (false, ())))
              else
                some (Sum.inl (v0, v1, v7, v8, (IntKind.wrap .i64 (v9 + (1 : Int))), ()))
            else
              none
          else
            some (Sum.inl (v0, v1, v7, v8, (IntKind.wrap .i64 (v9 + (1 : Int))), ()))
    else
      none
  else
    some (Sum.inr (Sum.inr ()))
theorem impl_statesOk_l2_eq : loopStep E88 L88_0 (loopOf f88 2) sh88_2 xs88_2 = impl_statesOk_l2 := by kernel_rfl
theorem loop88_2 {L : Nat → Option LoopD} (h : L 2 = some ⟨sh88_2, xs88_2, impl_statesOk_l2⟩) : LoopOk prog L (loopOf f88 2) :=
  loopOk (tysOk_of tyl_ok) E88_ok (codeOk_in (L := L88_0) (tysOk_of tyl_ok) E88_ok mixed (c := loopOf f88 2) (bs := []) (by kernel_rfl) allNil (by kernel_rfl)) (by kernel_rfl) (by kernel_rfl) impl_statesOk_l2_eq (by rw [show firstId (loopOf f88 2) = 2 from by kernel_rfl]; exact h)
noncomputable def L88_1 : Nat → Option LoopD := fun n => ifEq n 2 (some ⟨sh88_2, xs88_2, impl_statesOk_l2⟩) (L88_0 n)
noncomputable def impl_statesOk : (List Int) → Int → Option (Bool) := fun a0 a1 =>
  Option.bind (loopF impl_statesOk_l2 (a0, a1, a0, (((List.length a0) : Nat) : Int), (0 : Int), ())) fun r0 =>
    (match r0 with
    | .inl (d1, _) =>
        some d1
    | .inr _ =>
        some true)
noncomputable def A88 : FnA := ⟨[.v (.sl (.int .i64)), .v (.int .i64)], true, [.bool], fun x => impl_statesOk x.1 x.2.1⟩
theorem impl_statesOk_eq : fnF E88 L88_1 [.v (.sl (.int .i64)), .v (.int .i64)] true [.bool] f88.ntmps f88.results.toList (codeOf f88) = fun x => impl_statesOk x.1 x.2.1 := by kernel_rfl
theorem A88_ok : FnOk prog 88 A88 := by
  have h := fnOk_of_run (P := prog) (E := E88) (tysOk_of tyl_ok) E88_ok (L := L88_1) (ps := [.v (.sl (.int .i64)), .v (.int .i64)]) (own := true) (outs := [.bool]) func88 (c := codeOf f88) (by kernel_rfl) (codeOk_in (L := L88_1) (tysOk_of tyl_ok) E88_ok mixed (c := codeOf f88) (bs := [loopOf f88 2]) (by kernel_rfl) (allCons (loop88_2 rfl) allNil) (by kernel_rfl))
  rw [impl_statesOk_eq] at h
  exact h
/-! cmp.isNaN[int] -/
noncomputable def E112 : Env := ⟨ty0, fun _ => none, fun _ => none, fun _ => none⟩
theorem E112_ok : FnsOk prog E112 := (noFns _ _)
noncomputable def L112_0 : Nat → Option LoopD := fun _ => none
noncomputable def cmp_isNaN : Int → Option (Bool) := fun a0 =>
  some (a0 != a0)
noncomputable def A112 : FnA := ⟨[.v (.int .i64)], true, [.bool], fun x => cmp_isNaN x.1⟩
theorem cmp_isNaN_eq : fnF E112 L112_0 [.v (.int .i64)] true [.bool] f112.ntmps f112.results.toList (codeOf f112) = fun x => cmp_isNaN x.1 := by kernel_rfl
theorem A112_ok : FnOk prog 112 A112 := by
  have h := fnOk_of_run (P := prog) (E := E112) (tysOk_of tyl_ok) E112_ok (L := L112_0) (ps := [.v (.int .i64)]) (own := true) (outs := [.bool]) func112 (c := codeOf f112) (by kernel_rfl) (codeOk_in (L := L112_0) (tysOk_of tyl_ok) E112_ok mixed (c := codeOf f112) (bs := []) (by kernel_rfl) allNil (by kernel_rfl))
  rw [cmp_isNaN_eq] at h
  exact h
/-! cmp.Compare[int] -/
noncomputable def E102 : Env := ⟨ty0, fun g => ifEq g 112 (some A112) (none), fun _ => none, fun _ => none⟩
theorem E102_ok : FnsOk prog E102 := (oneFn A112_ok func112 (by kernel_rfl) (by kernel_rfl) (noFns _ _))
noncomputable def L102_0 : Nat → Option LoopD := fun _ => none
noncomputable def cmp_Compare : Int → Int → Option (Int) := fun a0 a1 =>
  Option.bind (cmp_isNaN a0) fun r0 =>
    Option.bind (cmp_isNaN a1) fun r1 =>
      bif r0 then
        bif r1 then
          some (0 : Int)
        else
          some (-1 : Int)
      else
        bif r1 then
          some (1 : Int)
        else
          bif (decide (a0 < a1)) then
            some (-1 : Int)
          else
            bif (decide (a0 > a1)) then
              some (1 : Int)
            else
              some (0 : Int)
noncomputable def A102 : FnA := ⟨[.v (.int .i64), .v (.int .i64)], true, [.int .i64], fun x => cmp_Compare x.1 x.2.1⟩
theorem cmp_Compare_eq : fnF E102 L102_0 [.v (.int .i64), .v (.int .i64)] true [.int .i64] f102.ntmps f102.results.toList (codeOf f102) = fun x => cmp_Compare x.1 x.2.1 := by kernel_rfl
theorem A102_ok : FnOk prog 102 A102 := by
  have h := fnOk_of_run (P := prog) (E := E102) (tysOk_of tyl_ok) E102_ok (L := L102_0) (ps := [.v (.int .i64), .v (.int .i64)]) (own := true) (outs := [.int .i64]) func102 (c := codeOf f102) (by kernel_rfl) (codeOk_in (L := L102_0) (tysOk_of tyl_ok) E102_ok mixed (c := codeOf f102) (bs := []) (by kernel_rfl) allNil (by kernel_rfl))
  rw [cmp_Compare_eq] at h
  exact h
/-! cmp.Or[int] -/
noncomputable def E101 : Env := ⟨ty0, fun _ => none, fun _ => none, fun _ => none⟩
theorem E101_ok : FnsOk prog E101 := (noFns _ _)
noncomputable def L101_0 : Nat → Option LoopD := fun _ => none
def sh101_3 : List Fm := [d, d, d, .cell (.val (.int .i64)), d, d, .cell (.val (.sl (.int .i64))), .cell (.val (.int .i64)), .cell (.val (.int .i64)), d, d, d, d, d, d, d, d, d]
def xs101_3 : List (Ex × List Fm) := [(.ret, [d, d, .cell (.val (.int .i64)), d, d, d, d, d, d, d, d, d, d, d, d, d, d, d]), (.exit 0, [d, d, d, .cell (.val (.int .i64)), d, d, d, d, d, d, d, d, d, d, d, d, d, d])]
noncomputable def cmp_Or_l3 : (Int × (List Int) × Int × Int × Unit) → Option ((Int × (List Int) × Int × Int × Unit) ⊕ ((Int × Unit) ⊕ (Int × Unit))) := fun (v3, v6, v7, v8, _) =>
  bif (decide (v8 < v7)) then
    if (((0 : Int) ≤ v8) ∧ (v8 < (((List.length v6) : Nat) : Int))) then
      bif ((List.getD v6 (Int.toNat v8) (0 : Int)) != v3) then
        some (Sum.inr (Sum.inl ((List.getD v6 (Int.toNat v8) (0 : Int)), ())))
      else
        some (Sum.inl (v3, v6, v7, (IntKind.wrap .i64 (v8 + (1 : Int))), ()))
    else
      none
  else
    some (Sum.inr (Sum.inr (v3, ())))
theorem cmp_Or_l3_eq : loopStep E101 L101_0 (loopOf f101 3) sh101_3 xs101_3 = cmp_Or_l3 := by kernel_rfl
theorem loop101_3 {L : Nat → Option LoopD} (h : L 3 = some ⟨sh101_3, xs101_3, cmp_Or_l3⟩) : LoopOk prog L (loopOf f101 3) :=
  loopOk (tysOk_of tyl_ok) E101_ok (codeOk_in (L := L101_0) (tysOk_of tyl_ok) E101_ok mixed (c := loopOf f101 3) (bs := []) (by kernel_rfl) allNil (by kernel_rfl)) (by kernel_rfl) (by kernel_rfl) cmp_Or_l3_eq (by rw [show firstId (loopOf f101 3) = 3 from by kernel_rfl]; exact h)
noncomputable def L101_1 : Nat → Option LoopD := fun n => ifEq n 3 (some ⟨sh101_3, xs101_3, cmp_Or_l3⟩) (L101_0 n)
noncomputable def cmp_Or : (List Int) → Option (Int) := fun a0 =>
  Option.bind (loopF cmp_Or_l3 ((0 : Int), a0, (((List.length a0) : Nat) : Int), (0 : Int), ())) fun r0 =>
    (match r0 with
    | .inl (d1, _) =>
        some d1
    | .inr (d2, _) =>
        some d2)
noncomputable def A101 : FnA := ⟨[.v (.sl (.int .i64))], true, [.int .i64], fun x => cmp_Or x.1⟩
theorem cmp_Or_eq : fnF E101 L101_1 [.v (.sl (.int .i64))] true [.int .i64] f101.ntmps f101.results.toList (codeOf f101) = fun x => cmp_Or x.1 := by kernel_rfl
theorem A101_ok : FnOk prog 101 A101 := by
  have h := fnOk_of_run (P := prog) (E := E101) (tysOk_of tyl_ok) E101_ok (L := L101_1) (ps := [.v (.sl (.int .i64))]) (own := true) (outs := [.int .i64]) func101 (c := codeOf f101) (by kernel_rfl) (codeOk_in (L := L101_1) (tysOk_of tyl_ok) E101_ok mixed (c := codeOf f101) (bs := [loopOf f101 3]) (by kernel_rfl) (allCons (loop101_3 rfl) allNil) (by kernel_rfl))
  rw [cmp_Or_eq] at h
  exact h
/-! impl.stepOrder -/
noncomputable def E89 : Env := ⟨ty0, fun g => ifEq g 102 (some A102) (ifEq g 103 (some A103) (ifEq g 101 (some A101) (none))), fun _ => none, fun _ => none⟩
theorem E89_ok : FnsOk prog E89 := (oneFn A102_ok func102 (by kernel_rfl) (by kernel_rfl) (oneFn A103_ok func103 (by kernel_rfl) (by kernel_rfl) (oneFn A101_ok func101 (by kernel_rfl) (by kernel_rfl) (noFns _ _))))
noncomputable def L89_0 : Nat → Option LoopD := fun _ => none
noncomputable def impl_stepOrder : (Int × (ByteArray × (Int × Int))) → (Int × (ByteArray × (Int × Int))) → Option (Int) := fun (a0_0, a0_1, a0_2, a0_3) (a1_0, a1_1, a1_2, a1_3) =>
  Option.bind (cmp_Compare a0_0 a1_0) fun r0 =>
    Option.bind (strings_Compare a0_1 a1_1) fun r1 =>
      Option.bind (cmp_Compare a0_2 a1_2) fun r2 =>
        Option.bind (cmp_Or (List.take 3 (List.drop 0 [r0, r1, r2]))) fun r3 =>
          some r3
noncomputable def A89 : FnA := ⟨[.v (.pair (.int .i64) (.pair .str (.pair (.int .i64) (.int .i64)))), .v (.pair (.int .i64) (.pair .str (.pair (.int .i64) (.int .i64))))], true, [.int .i64], fun x => impl_stepOrder x.1 x.2.1⟩
theorem impl_stepOrder_eq : fnF E89 L89_0 [.v (.pair (.int .i64) (.pair .str (.pair (.int .i64) (.int .i64)))), .v (.pair (.int .i64) (.pair .str (.pair (.int .i64) (.int .i64))))] true [.int .i64] f89.ntmps f89.results.toList (codeOf f89) = fun x => impl_stepOrder x.1 x.2.1 := by kernel_rfl
theorem A89_ok : FnOk prog 89 A89 := by
  have h := fnOk_of_run (P := prog) (E := E89) (tysOk_of tyl_ok) E89_ok (L := L89_0) (ps := [.v (.pair (.int .i64) (.pair .str (.pair (.int .i64) (.int .i64)))), .v (.pair (.int .i64) (.pair .str (.pair (.int .i64) (.int .i64))))]) (own := true) (outs := [.int .i64]) func89 (c := codeOf f89) (by kernel_rfl) (codeOk_in (L := L89_0) (tysOk_of tyl_ok) E89_ok mixed (c := codeOf f89) (bs := []) (by kernel_rfl) allNil (by kernel_rfl))
  rw [impl_stepOrder_eq] at h
  exact h
/-! impl.AutomatonValid -/
noncomputable def E63 : Env := ⟨ty0, fun g => ifEq g 88 (some A88) (ifEq g 89 (some A89) (none)), fun _ => none, fun _ => none⟩
theorem E63_ok : FnsOk prog E63 := (oneFn A88_ok func88 (by kernel_rfl) (by kernel_rfl) (oneFn A89_ok func89 (by kernel_rfl) (by kernel_rfl) (noFns _ _)))
noncomputable def L63_0 : Nat → Option LoopD := fun _ => none
def sh63_4 : List Fm := [d, .box 100100 [.val (.int .i64), .val (.sl (.int .i64)), .val (.sl (.int .i64)), .val (.sl (.pair (.int .i64) (.pair .str (.pair (.int .i64) (.int .i64)))))], d, d, d, d, d, d, d, d, d, d, d, d, d, d, d, d, d, d, d, d, d, d, d, d, d, d, d, d, d, d, d, d, d, d, .cell (.val (.sl (.pair (.int .i64) (.pair .str (.pair (.int .i64) (.int .i64)))))), .cell (.val (.int .i64)), .cell (.val (.int .i64)), d, d, d, d, d, d, d, d, d, d, d, d, d, d, d, d, d, d, d, d, d, d, d, d, d, d, d, d, d, d, d, d, d, d, d, d, d, d, d, d, d, d, d, d, d, d, d, d, d, d, d, d, d, d, d, d, d, d, d, d, d, d]
def xs63_4 : List (Ex × List Fm) := [(.ret, [d, d, .cell (.val .bool), d, d, d, d, d, d, d, d, d, d, d, d, d, d, d, d, d, d, d, d, d, d, d, d, d, d, d, d, d, d, d, d, d, d, d, d, d, d, d, d, d, d, d, d, d, d, d, d, d, d, d, d, d, d, d, d, d, d, d, d, d, d, d, d, d, d, d, d, d, d, d, d, d, d, d, d, d, d, d, d, d, d, d, d, d, d, d, d, d, d, d, d, d, d, d, d, d, d]), (.exit 0, [d, d, d, d, d, d, d, d, d, d, d, d, d, d, d, d, d, d, d, d, d, d, d, d, d, d, d, d, d, d, d, d, d, d, d, d, d, d, d, d, d, d, d, d, d, d, d, d, d, d, d, d, d, d, d, d, d, d, d, d, d, d, d, d, d, d, d, d, d, d, d, d, d, d, d, d, d, d, d, d, d, d, d, d, d, d, d, d, d, d, d, d, d, d, d, d, d, d, d, d, d])]
noncomputable def impl_AutomatonValid_l4 : ((Int × (List Int) × (List Int) × (List (Int × (ByteArray × (Int × Int)))) × Unit) × (List (Int × (ByteArray × (Int × Int)))) × Int × Int × Unit) → Option (((Int × (List Int) × (List Int) × (List (Int × (ByteArray × (Int × Int)))) × Unit) × (List (Int × (ByteArray × (Int × Int)))) × Int × Int × Unit) ⊕ ((Bool × Unit) ⊕ (Unit))) := fun ((v1_0, v1_1, v1_2, v1_3, _), v36, v37, v38, _) =>
  bif (decide (v38 < v37)) then
    if (((0 : Int) ≤ v38) ∧ (v38 < (((List.length v36) : Nat) : Int))) then
      bif (decide ((List.getD v36 (Int.toNat v38) ((0 : Int), (⟨Array.empty⟩ : ByteArray), (0 : Int), (0 : Int))).1 < (0 : Int))) then
        some (Sum.inr (Sum.inl (false, ())))
      else
        bif (decide ((List.getD v36 (Int.toNat v38) ((0 : Int), (⟨Array.empty⟩ : ByteArray), (0 : Int), (0 : Int))).1 ≥ v1_0)) then
          some (Sum.inr (Sum.inl (false, ())))
        else
          bif (decide ((List.getD v36 (Int.toNat v38) ((0 : Int), (⟨Array.empty⟩ : ByteArray), (0 : Int), (0 : Int))).2.2.1 < (0 : Int))) then
            some (Sum.inr (Sum.inl (false, ())))
          else
            bif (decide ((List.getD v36 (Int.toNat v38) ((0 : Int), (⟨Array.empty⟩ : ByteArray), (0 : Int), (0 : Int))).2.2.1 ≥ v1_0)) then
              some (Sum.inr (Sum.inl (false, ())))
            else
              bif (!((ByteArray.toList (List.getD v36 (Int.toNat v38) ((0 : Int), (⟨Array.empty⟩ : ByteArray), (0 : Int), (0 : Int))).2.1) == (ByteArray.toList (⟨#[(97 : UInt8)]⟩ : ByteArray)))) then
                bif (!((ByteArray.toList (List.getD v36 (Int.toNat v38) ((0 : Int), (⟨Array.empty⟩ : ByteArray), (0 : Int), (0 : Int))).2.1) == (ByteArray.toList (⟨#[(98 : UInt8)]⟩ : ByteArray)))) then
                  some (Sum.inr (Sum.inl (false, ())))
                else
                  bif (decide ((List.getD v36 (Int.toNat v38) ((0 : Int), (⟨Array.empty⟩ : ByteArray), (0 : Int), (0 : Int))).2.2.2 < (0 : Int))) then
                    some (Sum.inr (Sum.inl (false, ())))
                  else
                    bif (decide ((List.getD v36 (Int.toNat v38) ((0 : Int), (⟨Array.empty⟩ : ByteArray), (0 : Int), (0 : Int))).2.2.2 > (3 : Int))) then
                      some (Sum.inr (Sum.inl (false, ())))
                    else
                      bif (decide (v38 > (0 : Int))) then
                        if (((0 : Int) ≤ (IntKind.wrap .i64 (v38 - (1 : Int)))) ∧ ((IntKind.wrap .i64 (v38 - (1 : Int))) < (((List.length v1_3) : Nat) : Int))) then
                          Option.bind (impl_stepOrder (List.getD v1_3 (Int.toNat (IntKind.wrap .i64 (v38 - (1 : Int)))) ((0 : Int), (⟨Array.empty⟩ : ByteArray), (0 : Int), (0 : Int))) ((List.getD v36 (Int.toNat v38) ((0 : Int), (⟨Array.empty⟩ : ByteArray), (0 : Int), (0 : Int))).1, (List.getD v36 (Int.toNat v38) ((0 : Int), (⟨Array.empty⟩ : ByteArray), (0 : Int), (0 : Int))).2.1, (List.getD v36 (Int.toNat v38) ((0 : Int), (⟨Array.empty⟩ : ByteArray), (0 : Int), (0 : Int))).2.2.1, (List.getD v36 (Int.toNat v38) ((0 : Int), (⟨Array.empty⟩ : ByteArray), (0 : Int), (0 : Int))).2.2.2)) fun r0 =>
                            bif (decide (r0 ≥ (0 : Int))) then
                              some (Sum.inr (Sum.inl (false, ())))
                            else
                              some (Sum.inl ((v1_0, v1_1, v1_2, v1_3, ()), v36, v37, (IntKind.wrap .i64 (v38 + (1 : Int))), ()))
                        else
                          none
                      else
                        some (Sum.inl ((v1_0, v1_1, v1_2, v1_3, ()), v36, v37, (IntKind.wrap .i64 (v38 + (1 : Int))), ()))
              else
                bif (decide ((List.getD v36 (Int.toNat v38) ((0 : Int), (⟨Array.empty⟩ : ByteArray), (0 : Int), (0 : Int))).2.2.2 < (0 : Int))) then
                  some (Sum.inr (Sum.inl (false, ())))
                else
                  bif (decide ((List.getD v36 (Int.toNat v38) ((0 : Int), (⟨Array.empty⟩ : ByteArray), (0 : Int), (0 : Int))).2.2.2 > (3 : Int))) then
                    some (Sum.inr (Sum.inl (false, ())))
                  else
                    bif (decide (v38 > (0 : Int))) then
                      if (((0 : Int) ≤ (IntKind.wrap .i64 (v38 - (1 : Int)))) ∧ ((IntKind.wrap .i64 (v38 - (1 : Int))) < (((List.length v1_3) : Nat) : Int))) then
                        Option.bind (impl_stepOrder (List.getD v1_3 (Int.toNat (IntKind.wrap .i64 (v38 - (1 : Int)))) ((0 : Int), (⟨Array.empty⟩ : ByteArray), (0 : Int), (0 : Int))) ((List.getD v36 (Int.toNat v38) ((0 : Int), (⟨Array.empty⟩ : ByteArray), (0 : Int), (0 : Int))).1, (List.getD v36 (Int.toNat v38) ((0 : Int), (⟨Array.empty⟩ : ByteArray), (0 : Int), (0 : Int))).2.1, (List.getD v36 (Int.toNat v38) ((0 : Int), (⟨Array.empty⟩ : ByteArray), (0 : Int), (0 : Int))).2.2.1, (List.getD v36 (Int.toNat v38) ((0 : Int), (⟨Array.empty⟩ : ByteArray), (0 : Int), (0 : Int))).2.2.2)) fun r1 =>
                          bif (decide (r1 ≥ (0 : Int))) then
                            some (Sum.inr (Sum.inl (false, ())))
                          else
                            some (Sum.inl ((v1_0, v1_1, v1_2, v1_3, ()), v36, v37, (IntKind.wrap .i64 (v38 + (1 : Int))), ()))
                      else
                        none
                    else
                      some (Sum.inl ((v1_0, v1_1, v1_2, v1_3, ()), v36, v37, (IntKind.wrap .i64 (v38 + (1 : Int))), ()))
    else
      none
  else
    some (Sum.inr (Sum.inr ()))
theorem impl_AutomatonValid_l4_eq : loopStep E63 L63_0 (loopOf f63 4) sh63_4 xs63_4 = impl_AutomatonValid_l4 := by kernel_rfl
theorem loop63_4 {L : Nat → Option LoopD} (h : L 4 = some ⟨sh63_4, xs63_4, impl_AutomatonValid_l4⟩) : LoopOk prog L (loopOf f63 4) :=
  loopOk (tysOk_of tyl_ok) E63_ok (codeOk_in (L := L63_0) (tysOk_of tyl_ok) E63_ok mixed (c := loopOf f63 4) (bs := []) (by kernel_rfl) allNil (by kernel_rfl)) (by kernel_rfl) (by kernel_rfl) impl_AutomatonValid_l4_eq (by rw [show firstId (loopOf f63 4) = 4 from by kernel_rfl]; exact h)
noncomputable def L63_1 : Nat → Option LoopD := fun n => ifEq n 4 (some ⟨sh63_4, xs63_4, impl_AutomatonValid_l4⟩) (L63_0 n)
noncomputable def impl_AutomatonValid : (Int × ((List Int) × ((List Int) × (List (Int × (ByteArray × (Int × Int))))))) → Option (Bool) := fun (a0_0, a0_1, a0_2, a0_3) =>
  bif (decide (a0_0 < (1 : Int))) then
    some false
  else
    bif (decide (a0_0 > (4 : Int))) then
      some false
    else
      bif (decide ((((List.length a0_3) : Nat) : Int) > (24 : Int))) then
        some false
      else
        Option.bind (impl_statesOk a0_1 a0_0) fun r0 =>
          bif (!r0) then
            some false
          else
            Option.bind (impl_statesOk a0_2 a0_0) fun r1 =>
              bif (!r1) then
                some false
              else
                Option.bind (loopF impl_AutomatonValid_l4 ((a0_0, a0_1, a0_2, a0_3, ()), a0_3, (((List.length a0_3) : Nat) : Int), (0 : Int), ())) fun r2 =>
                  (match r2 with
                  | .inl (d3, _) =>
                      some d3
                  | .inr _ =>
                      some true)
noncomputable def A63 : FnA := ⟨[.v (.pair (.int .i64) (.pair (.sl (.int .i64)) (.pair (.sl (.int .i64)) (.sl (.pair (.int .i64) (.pair .str (.pair (.int .i64) (.int .i64))))))))], true, [.bool], fun x => impl_AutomatonValid x.1⟩
theorem impl_AutomatonValid_eq : fnF E63 L63_1 [.v (.pair (.int .i64) (.pair (.sl (.int .i64)) (.pair (.sl (.int .i64)) (.sl (.pair (.int .i64) (.pair .str (.pair (.int .i64) (.int .i64))))))))] true [.bool] f63.ntmps f63.results.toList (codeOf f63) = fun x => impl_AutomatonValid x.1 := by kernel_rfl
theorem A63_ok : FnOk prog 63 A63 := by
  have h := fnOk_of_run (P := prog) (E := E63) (tysOk_of tyl_ok) E63_ok (L := L63_1) (ps := [.v (.pair (.int .i64) (.pair (.sl (.int .i64)) (.pair (.sl (.int .i64)) (.sl (.pair (.int .i64) (.pair .str (.pair (.int .i64) (.int .i64))))))))]) (own := true) (outs := [.bool]) func63 (c := codeOf f63) (by kernel_rfl) (codeOk_in (L := L63_1) (tysOk_of tyl_ok) E63_ok mixed (c := codeOf f63) (bs := [loopOf f63 4]) (by kernel_rfl) (allCons (loop63_4 rfl) allNil) (by kernel_rfl))
  rw [impl_AutomatonValid_eq] at h
  exact h
/-! impl.short -/
noncomputable def E58 : Env := ⟨ty0, fun g => ifEq g 69 (some A69) (ifEq g 63 (some A63) (none)), fun _ => none, fun _ => none⟩
theorem E58_ok : FnsOk prog E58 := (oneFn A69_ok func69 (by kernel_rfl) (by kernel_rfl) (oneFn A63_ok func63 (by kernel_rfl) (by kernel_rfl) (noFns _ _)))
noncomputable def L58_0 : Nat → Option LoopD := fun _ => none
def sh58_3 : List Fm := [d, d, d, d, d, d, .cell (.val (.sl .str)), .cell (.val .bool), d, d, d, d, d, d, d, .cell (.val (.sl (.pair (.int .i64) (.pair (.sl (.int .i64)) (.pair (.sl (.int .i64)) (.sl (.pair (.int .i64) (.pair .str (.pair (.int .i64) (.int .i64)))))))))), .cell (.val (.int .i64)), .cell (.val (.int .i64)), d, d, d, d, d, d, d, d, d, d, d]
def xs58_3 : List (Ex × List Fm) := [(.exit 0, [d, d, d, d, d, d, .cell (.val (.sl .str)), .cell (.val .bool), d, d, d, d, d, d, d, d, d, d, d, d, d, d, d, d, d, d, d, d, d])]
noncomputable def impl_short_l3 : ((List ByteArray) × Bool × (List (Int × ((List Int) × ((List Int) × (List (Int × (ByteArray × (Int × Int)))))))) × Int × Int × Unit) → Option (((List ByteArray) × Bool × (List (Int × ((List Int) × ((List Int) × (List (Int × (ByteArray × (Int × Int)))))))) × Int × Int × Unit) ⊕ (((List ByteArray) × Bool × Unit))) := fun (v6, v7, v15, v16, v17, _) =>
  bif (decide (v17 < v16)) then
    if (((0 : Int) ≤ v17) ∧ (v17 < (((List.length v15) : Nat) : Int))) then
      bif v7 then
        Option.bind (impl_AutomatonValid ((List.getD v15 (Int.toNat v17) ((0 : Int), [], [], [])).1, (List.getD v15 (Int.toNat v17) ((0 : Int), [], [], [])).2.1, (List.getD v15 (Int.toNat v17) ((0 : Int), [], [], [])).2.2.1, (List.getD v15 (Int.toNat v17) ((0 : Int), [], [], [])).2.2.2)) fun r0 =>
          some (Sum.inl (v6, r0, v15, v16, (IntKind.wrap .i64 (v17 + (1 : Int))), ()))
      else
        some (Sum.inl (v6, false, v15, v16, (IntKind.wrap .i64 (v17 + (1 : Int))), ()))
    else
      none
  else
    some (Sum.inr (v6, v7, ()))
theorem impl_short_l3_eq : loopStep E58 L58_0 (loopOf f58 3) sh58_3 xs58_3 = impl_short_l3 := by kernel_rfl
theorem loop58_3 {L : Nat → Option LoopD} (h : L 3 = some ⟨sh58_3, xs58_3, impl_short_l3⟩) : LoopOk prog L (loopOf f58 3) :=
  loopOk (tysOk_of tyl_ok) E58_ok (codeOk_in (L := L58_0) (tysOk_of tyl_ok) E58_ok mixed (c := loopOf f58 3) (bs := []) (by kernel_rfl) allNil (by kernel_rfl)) (by kernel_rfl) (by kernel_rfl) impl_short_l3_eq (by rw [show firstId (loopOf f58 3) = 3 from by kernel_rfl]; exact h)
noncomputable def L58_1 : Nat → Option LoopD := fun n => ifEq n 3 (some ⟨sh58_3, xs58_3, impl_short_l3⟩) (L58_0 n)
noncomputable def impl_short : Int → (List (Int × ((List Int) × ((List Int) × (List (Int × (ByteArray × (Int × Int)))))))) → Option ((List ByteArray) × Bool) := fun a0 a1 =>
  Option.bind (impl_ShortWords a0) fun (r0, r1) =>
    Option.bind (loopF impl_short_l3 (r0, r1, a1, (((List.length a1) : Nat) : Int), (0 : Int), ())) fun (r2, r3, _) =>
      some (r2, r3)
noncomputable def A58 : FnA := ⟨[.v (.int .i64), .v (.sl (.pair (.int .i64) (.pair (.sl (.int .i64)) (.pair (.sl (.int .i64)) (.sl (.pair (.int .i64) (.pair .str (.pair (.int .i64) (.int .i64)))))))))], false, [.sl .str, .bool], fun x => impl_short x.1 x.2.1⟩
theorem impl_short_eq : fnF E58 L58_1 [.v (.int .i64), .v (.sl (.pair (.int .i64) (.pair (.sl (.int .i64)) (.pair (.sl (.int .i64)) (.sl (.pair (.int .i64) (.pair .str (.pair (.int .i64) (.int .i64)))))))))] false [.sl .str, .bool] f58.ntmps f58.results.toList (codeOf f58) = fun x => impl_short x.1 x.2.1 := by kernel_rfl
theorem A58_ok : FnOk prog 58 A58 := by
  have h := fnOk_of_run (P := prog) (E := E58) (tysOk_of tyl_ok) E58_ok (L := L58_1) (ps := [.v (.int .i64), .v (.sl (.pair (.int .i64) (.pair (.sl (.int .i64)) (.pair (.sl (.int .i64)) (.sl (.pair (.int .i64) (.pair .str (.pair (.int .i64) (.int .i64)))))))))]) (own := false) (outs := [.sl .str, .bool]) func58 (c := codeOf f58) (by kernel_rfl) (codeOk_in (L := L58_1) (tysOk_of tyl_ok) E58_ok mixed (c := codeOf f58) (bs := [loopOf f58 3]) (by kernel_rfl) (allCons (loop58_3 rfl) allNil) (by kernel_rfl))
  rw [impl_short_eq] at h
  exact h
/-! impl.WordValid -/
noncomputable def E64 : Env := ⟨ty0, fun _ => none, fun _ => none, fun _ => none⟩
theorem E64_ok : FnsOk prog E64 := (noFns _ _)
noncomputable def L64_0 : Nat → Option LoopD := fun _ => none
def sh64_2 : List Fm := [.cell (.val .str), d, d, d, d, .cell (.val (.int .i64)), .cell (.val (.int .i64)), d, d, d, d, d, d, d, d, d, d, d, d, d, d, d, d]
def xs64_2 : List (Ex × List Fm) := [(.ret, [d, d, .cell (.val .bool), d, d, d, d, d, d, d, d, d, d, d, d, d, d, d, d, d, d, d, d]), (.exit 0, [.cell (.val .str), d, d, d, d, d, d, d, d, d, d, d, d, d, d, d, d, d, d, d, d, d, d])]
noncomputable def impl_WordValid_l2 : (ByteArray × Int × Int × Unit) → Option ((ByteArray × Int × Int × Unit) ⊕ ((Bool × Unit) ⊕ (ByteArray × Unit))) := fun (v0, v5, v6, _) =>
  bif (decide (v6 < v5)) then
    if (((0 : Int) ≤ v6) ∧ (v6 < (((ByteArray.size v0) : Nat) : Int))) then
      bif ((((UInt8.toNat (Array.getD (ByteArray.data v0) (Int.toNat v6) (0 : UInt8))) : Nat) : Int) != (97 : Int)) then
        if (((0 : Int) ≤ v6) ∧ (v6 < (((ByteArray.size v0) : Nat) : Int))) then
          bif ((((UInt8.toNat (Array.getD (ByteArray.data v0) (Int.toNat v6) (0 : UInt8))) : Nat) : Int) != (98 : Int)) then
            some (Sum.inr (Sum.inl (false, ())))
          else
            some (Sum.inl (v0, v5, (IntKind.wrap .i64 (v6 + (1 : Int))), ()))
        else
          none
      else
        some (Sum.inl (v0, v5, (IntKind.wrap .i64 (v6 + (1 : Int))), ()))
    else
      none
  else
    some (Sum.inr (Sum.inr (v0, ())))
theorem impl_WordValid_l2_eq : loopStep E64 L64_0 (loopOf f64 2) sh64_2 xs64_2 = impl_WordValid_l2 := by kernel_rfl
theorem loop64_2 {L : Nat → Option LoopD} (h : L 2 = some ⟨sh64_2, xs64_2, impl_WordValid_l2⟩) : LoopOk prog L (loopOf f64 2) :=
  loopOk (tysOk_of tyl_ok) E64_ok (codeOk_in (L := L64_0) (tysOk_of tyl_ok) E64_ok mixed (c := loopOf f64 2) (bs := []) (by kernel_rfl) allNil (by kernel_rfl)) (by kernel_rfl) (by kernel_rfl) impl_WordValid_l2_eq (by rw [show firstId (loopOf f64 2) = 2 from by kernel_rfl]; exact h)
noncomputable def L64_1 : Nat → Option LoopD := fun n => ifEq n 2 (some ⟨sh64_2, xs64_2, impl_WordValid_l2⟩) (L64_0 n)
noncomputable def impl_WordValid : ByteArray → Option (Bool) := fun a0 =>
  Option.bind (loopF impl_WordValid_l2 (a0, (((ByteArray.size a0) : Nat) : Int), (0 : Int), ())) fun r0 =>
    (match r0 with
    | .inl (d1, _) =>
        some d1
    | .inr (d2, _) =>
        some (decide ((((ByteArray.size d2) : Nat) : Int) ≤ (1000 : Int))))
noncomputable def A64 : FnA := ⟨[.v .str], true, [.bool], fun x => impl_WordValid x.1⟩
theorem impl_WordValid_eq : fnF E64 L64_1 [.v .str] true [.bool] f64.ntmps f64.results.toList (codeOf f64) = fun x => impl_WordValid x.1 := by kernel_rfl
theorem A64_ok : FnOk prog 64 A64 := by
  have h := fnOk_of_run (P := prog) (E := E64) (tysOk_of tyl_ok) E64_ok (L := L64_1) (ps := [.v .str]) (own := true) (outs := [.bool]) func64 (c := codeOf f64) (by kernel_rfl) (codeOk_in (L := L64_1) (tysOk_of tyl_ok) E64_ok mixed (c := codeOf f64) (bs := [loopOf f64 2]) (by kernel_rfl) (allCons (loop64_2 rfl) allNil) (by kernel_rfl))
  rw [impl_WordValid_eq] at h
  exact h
/-! math/bits.Mul64 -/
noncomputable def E115 : Env := ⟨ty0, fun _ => none, fun _ => none, fun _ => none⟩
theorem E115_ok : FnsOk prog E115 := (noFns _ _)
noncomputable def L115_0 : Nat → Option LoopD := fun _ => none
noncomputable def bits_Mul64 : Int → Int → Option (Int × Int) := fun a0 a1 =>
  if ((32 : Int) < (0 : Int)) then
    none
  else
    if ((32 : Int) < (0 : Int)) then
      none
    else
      if ((32 : Int) < (0 : Int)) then
        none
      else
        if ((32 : Int) < (0 : Int)) then
          none
        else
          if ((32 : Int) < (0 : Int)) then
            none
          else
            some ((IntKind.wrap .u64 ((IntKind.wrap .u64 ((IntKind.wrap .u64 ((Int.fdiv a0 ((2 : Int) ^ (Min.min (Int.toNat (32 : Int)) (IntKind.bits .u64)))) * (Int.fdiv a1 ((2 : Int) ^ (Min.min (Int.toNat (32 : Int)) (IntKind.bits .u64)))))) + (Int.fdiv (IntKind.wrap .u64 ((IntKind.wrap .u64 ((Int.fdiv a0 ((2 : Int) ^ (Min.min (Int.toNat (32 : Int)) (IntKind.bits .u64)))) * ((((BitVec.toNat ((BitVec.ofInt (IntKind.bits .u64) a1) &&& (BitVec.ofInt (IntKind.bits .u64) (4294967295 : Int)))) % (Int.natAbs ((2 : Int) ^ (IntKind.bits .u64)))) : Nat) : Int))) + (Int.fdiv (IntKind.wrap .u64 (((((BitVec.toNat ((BitVec.ofInt (IntKind.bits .u64) a0) &&& (BitVec.ofInt (IntKind.bits .u64) (4294967295 : Int)))) % (Int.natAbs ((2 : Int) ^ (IntKind.bits .u64)))) : Nat) : Int) * ((((BitVec.toNat ((BitVec.ofInt (IntKind.bits .u64) a1) &&& (BitVec.ofInt (IntKind.bits .u64) (4294967295 : Int)))) % (Int.natAbs ((2 : Int) ^ (IntKind.bits .u64)))) : Nat) : Int))) ((2 : Int) ^ (Min.min (Int.toNat (32 : Int)) (IntKind.bits .u64)))))) ((2 : Int) ^ (Min.min (Int.toNat (32 : Int)) (IntKind.bits .u64)))))) + (Int.fdiv (IntKind.wrap .u64 (((((BitVec.toNat ((BitVec.ofInt (IntKind.bits .u64) (IntKind.wrap .u64 ((IntKind.wrap .u64 ((Int.fdiv a0 ((2 : Int) ^ (Min.min (Int.toNat (32 : Int)) (IntKind.bits .u64)))) * ((((BitVec.toNat ((BitVec.ofInt (IntKind.bits .u64) a1) &&& (BitVec.ofInt (IntKind.bits .u64) (4294967295 : Int)))) % (Int.natAbs ((2 : Int) ^ (IntKind.bits .u64)))) : Nat) : Int))) + (Int.fdiv (IntKind.wrap .u64 (((((BitVec.toNat ((BitVec.ofInt (IntKind.bits .u64) a0) &&& (BitVec.ofInt (IntKind.bits .u64) (4294967295 : Int)))) % (Int.natAbs ((2 : Int) ^ (IntKind.bits .u64)))) : Nat) : Int) * ((((BitVec.toNat ((BitVec.ofInt (IntKind.bits .u64) a1) &&& (BitVec.ofInt (IntKind.bits .u64) (4294967295 : Int)))) % (Int.natAbs ((2 : Int) ^ (IntKind.bits .u64)))) : Nat) : Int))) ((2 : Int) ^ (Min.min (Int.toNat (32 : Int)) (IntKind.bits .u64))))))) &&& (BitVec.ofInt (IntKind.bits .u64) (4294967295 : Int)))) % (Int.natAbs ((2 : Int) ^ (IntKind.bits .u64)))) : Nat) : Int) + (IntKind.wrap .u64 (((((BitVec.toNat ((BitVec.ofInt (IntKind.bits .u64) a0) &&& (BitVec.ofInt (IntKind.bits .u64) (4294967295 : Int)))) % (Int.natAbs ((2 : Int) ^ (IntKind.bits .u64)))) : Nat) : Int) * (Int.fdiv a1 ((2 : Int) ^ (Min.min (Int.toNat (32 : Int)) (IntKind.bits .u64)))))))) ((2 : Int) ^ (Min.min (Int.toNat (32 : Int)) (IntKind.bits .u64)))))), (IntKind.wrap .u64 (a0 * a1)))
noncomputable def A115 : FnA := ⟨[.v (.int .u64), .v (.int .u64)], true, [.int .u64, .int .u64], fun x => bits_Mul64 x.1 x.2.1⟩
theorem bits_Mul64_eq : fnF E115 L115_0 [.v (.int .u64), .v (.int .u64)] true [.int .u64, .int .u64] f115.ntmps f115.results.toList (codeOf f115) = fun x => bits_Mul64 x.1 x.2.1 := by kernel_rfl
theorem A115_ok : FnOk prog 115 A115 := by
  have h := fnOk_of_run (P := prog) (E := E115) (tysOk_of tyl_ok) E115_ok (L := L115_0) (ps := [.v (.int .u64), .v (.int .u64)]) (own := true) (outs := [.int .u64, .int .u64]) func115 (c := codeOf f115) (by kernel_rfl) (codeOk_in (L := L115_0) (tysOk_of tyl_ok) E115_ok mixed (c := codeOf f115) (bs := []) (by kernel_rfl) allNil (by kernel_rfl))
  rw [bits_Mul64_eq] at h
  exact h
/-! math/bits.Mul -/
noncomputable def E104 : Env := ⟨ty0, fun g => ifEq g 115 (some A115) (none), fun _ => none, fun _ => none⟩
theorem E104_ok : FnsOk prog E104 := (oneFn A115_ok func115 (by kernel_rfl) (by kernel_rfl) (noFns _ _))
noncomputable def L104_0 : Nat → Option LoopD := fun _ => none
noncomputable def bits_Mul : Int → Int → Option (Int × Int) := fun a0 a1 =>
  Option.bind (bits_Mul64 a0 a1) fun (r0, r1) =>
    some (r0, r1)
noncomputable def A104 : FnA := ⟨[.v (.int .u64), .v (.int .u64)], true, [.int .u64, .int .u64], fun x => bits_Mul x.1 x.2.1⟩
theorem bits_Mul_eq : fnF E104 L104_0 [.v (.int .u64), .v (.int .u64)] true [.int .u64, .int .u64] f104.ntmps f104.results.toList (codeOf f104) = fun x => bits_Mul x.1 x.2.1 := by kernel_rfl
theorem A104_ok : FnOk prog 104 A104 := by
  have h := fnOk_of_run (P := prog) (E := E104) (tysOk_of tyl_ok) E104_ok (L := L104_0) (ps := [.v (.int .u64), .v (.int .u64)]) (own := true) (outs := [.int .u64, .int .u64]) func104 (c := codeOf f104) (by kernel_rfl) (codeOk_in (L := L104_0) (tysOk_of tyl_ok) E104_ok mixed (c := codeOf f104) (bs := []) (by kernel_rfl) allNil (by kernel_rfl))
  rw [bits_Mul_eq] at h
  exact h
/-! slices.Repeat[[]int,int] -/
noncomputable def E90 : Env := ⟨ty0, fun g => ifEq g 104 (some A104) (none), fun _ => none, fun _ => none⟩
theorem E90_ok : FnsOk prog E90 := (oneFn A104_ok func104 (by kernel_rfl) (by kernel_rfl) (noFns _ _))
noncomputable def L90_0 : Nat → Option LoopD := fun _ => none
def sh90_8 : List Fm := [d, d, d, d, d, d, d, .cell (.own (.int .i64) 100700 false), .cell (.val (.int .i64)), d, d, d, d, d, d, d, d, d, d, d, d, d, d, d, d, d, d, d, d, d, d, d, d, d, d, d, d, d, d, d, d, d, d, d, d, d, d, d]
def xs90_8 : List (Ex × List Fm) := [(.exit 0, [d, d, d, d, d, d, d, .cell (.own (.int .i64) 100700 false), d, d, d, d, d, d, d, d, d, d, d, d, d, d, d, d, d, d, d, d, d, d, d, d, d, d, d, d, d, d, d, d, d, d, d, d, d, d, d, d])]
noncomputable def slices_Repeat_l8 : ((List Int) × Int × Unit) → Option (((List Int) × Int × Unit) ⊕ (((List Int) × Unit))) := fun (v7, v8, _) =>
  bif (decide (v8 < (((List.length v7) : Nat) : Int))) then
    if (((0 : Int) ≤ v8) ∧ (v8 ≤ (((List.length v7) : Nat) : Int))) then
      if (((0 : Int) ≤ v8) ∧ (v8 ≤ (((List.length v7) : Nat) : Int))) then
        some (Sum.inl ((List.take (List.length v7) (List.drop 0 ((List.take (0 + (Int.toNat v8)) v7) ++ ((List.take ((List.length v7) - (Int.toNat v8)) (List.take ((Int.toNat v8) - 0) (List.drop (0 + 0) v7))) ++ (List.drop ((0 + (Int.toNat v8)) + (List.length (List.take ((List.length v7) - (Int.toNat v8)) (List.take ((Int.toNat v8) - 0) (List.drop (0 + 0) v7))))) v7))))), (IntKind.wrap .i64 (v8 + (((List.length (List.take ((List.length v7) - (Int.toNat v8)) (List.take ((Int.toNat v8) - 0) (List.drop (0 + 0) v7)))) : Nat) : Int))), ()))
      else
        none
    else
      none
  else
    some (Sum.inr ((List.take (List.length v7) (List.drop 0 v7)), ()))
theorem slices_Repeat_l8_eq : loopStep E90 L90_0 (loopOf f90 8) sh90_8 xs90_8 = slices_Repeat_l8 := by kernel_rfl
theorem loop90_8 {L : Nat → Option LoopD} (h : L 8 = some ⟨sh90_8, xs90_8, slices_Repeat_l8⟩) : LoopOk prog L (loopOf f90 8) :=
  loopOk (tysOk_of tyl_ok) E90_ok (codeOk_in (L := L90_0) (tysOk_of tyl_ok) E90_ok mixed (c := loopOf f90 8) (bs := []) (by kernel_rfl) allNil (by kernel_rfl)) (by kernel_rfl) (by kernel_rfl) slices_Repeat_l8_eq (by rw [show firstId (loopOf f90 8) = 8 from by kernel_rfl]; exact h)
noncomputable def L90_1 : Nat → Option LoopD := fun n => ifEq n 8 (some ⟨sh90_8, xs90_8, slices_Repeat_l8⟩) (L90_0 n)
noncomputable def slices_Repeat : (List Int) → Int → Option ((List Int)) := fun a0 a1 =>
  bif (decide (a1 < (0 : Int))) then
    none
  else
    Option.bind (bits_Mul (IntKind.wrap .u64 (((List.length a0) : Nat) : Int)) (IntKind.wrap .u64 a1)) fun (r0, r1) =>
      bif (decide (r0 > (0 : Int))) then
        none
      else
        bif (decide (r1 > (9223372036854775807 : Int))) then
          none
        else
          if (((0 : Int) ≤ (IntKind.wrap .i64 r1)) ∧ (((IntKind.wrap .i64 r1) = (IntKind.wrap .i64 r1)) ∧ (((IntKind.wrap .i64 r1) * ((8 : Nat) : Int)) ≤ (140737488355328 : Int)))) then
            Option.bind (loopF slices_Repeat_l8 ((List.take (Int.toNat (IntKind.wrap .i64 r1)) (List.drop 0 ((List.take 0 (List.replicate (Int.toNat (IntKind.wrap .i64 r1)) (0 : Int))) ++ ((List.take (Int.toNat (IntKind.wrap .i64 r1)) a0) ++ (List.drop (0 + (List.length (List.take (Int.toNat (IntKind.wrap .i64 r1)) a0))) (List.replicate (Int.toNat (IntKind.wrap .i64 r1)) (0 : Int))))))), (((List.length (List.take (Int.toNat (IntKind.wrap .i64 r1)) a0)) : Nat) : Int), ())) fun (r2, _) =>
              some (List.take (List.length r2) (List.drop 0 r2))
          else
            none
noncomputable def A90 : FnA := ⟨[.v (.sl (.int .i64)), .v (.int .i64)], true, [.sl (.int .i64)], fun x => slices_Repeat x.1 x.2.1⟩
theorem slices_Repeat_eq : fnF E90 L90_1 [.v (.sl (.int .i64)), .v (.int .i64)] true [.sl (.int .i64)] f90.ntmps f90.results.toList (codeOf f90) = fun x => slices_Repeat x.1 x.2.1 := by kernel_rfl
theorem A90_ok : FnOk prog 90 A90 := by
  have h := fnOk_of_run (P := prog) (E := E90) (tysOk_of tyl_ok) E90_ok (L := L90_1) (ps := [.v (.sl (.int .i64)), .v (.int .i64)]) (own := true) (outs := [.sl (.int .i64)]) func90 (c := codeOf f90) (by kernel_rfl) (codeOk_in (L := L90_1) (tysOk_of tyl_ok) E90_ok mixed (c := codeOf f90) (bs := [loopOf f90 8]) (by kernel_rfl) (allCons (loop90_8 rfl) allNil) (by kernel_rfl))
  rw [slices_Repeat_eq] at h
  exact h
/-! impl.toEnd -/
noncomputable def E85 : Env := ⟨ty0, fun g => ifEq g 90 (some A90) (none), fun _ => none, fun _ => none⟩
theorem E85_ok : FnsOk prog E85 := (oneFn A90_ok func90 (by kernel_rfl) (by kernel_rfl) (noFns _ _))
noncomputable def L85_0 : Nat → Option LoopD := fun _ => none
def sh85_3 : List Fm := [d, .cell (.val .str), .box 100200 [.val (.int .i64), .val (.sl (.int .i64)), .val (.sl (.int .i64)), .val (.sl (.pair (.int .i64) (.pair .str (.pair (.int .i64) (.int .i64)))))], d, d, .cell (.own (.int .i64) 100500 false), d, d, d, d, d, d, d, d, d, d, d, d, .cell (.val (.sl (.int .i64))), .cell (.val (.int .i64)), .cell (.val (.int .i64)), d, d, d, d, d, d, d, d, d, d, d, d, d, d, d, d, d, d, d, d, d, d, d, d, d, d, d, d, d, d, d, d, d, d, d, d, d, d, d, d, d, d, d, d, d, d, d, d, d, d, d, d, d, d, d, d, d, d, d, d]
def xs85_3 : List (Ex × List Fm) := [(.exit 0, [d, .cell (.val .str), .box 100200 [.val (.int .i64), .val (.sl (.int .i64)), .val (.sl (.int .i64)), .val (.sl (.pair (.int .i64) (.pair .str (.pair (.int .i64) (.int .i64)))))], d, d, .cell (.own (.int .i64) 100500 false), d, d, d, d, d, d, d, d, d, d, d, d, d, d, d, d, d, d, d, d, d, d, d, d, d, d, d, d, d, d, d, d, d, d, d, d, d, d, d, d, d, d, d, d, d, d, d, d, d, d, d, d, d, d, d, d, d, d, d, d, d, d, d, d, d, d, d, d, d, d, d, d, d, d, d])]
noncomputable def impl_toEnd_l3 : (ByteArray × (Int × (List Int) × (List Int) × (List (Int × (ByteArray × (Int × Int)))) × Unit) × (List Int) × (List Int) × Int × Int × Unit) → Option ((ByteArray × (Int × (List Int) × (List Int) × (List (Int × (ByteArray × (Int × Int)))) × Unit) × (List Int) × (List Int) × Int × Int × Unit) ⊕ ((ByteArray × (Int × (List Int) × (List Int) × (List (Int × (ByteArray × (Int × Int)))) × Unit) × (List Int) × Unit))) := fun (v1, (v2_0, v2_1, v2_2, v2_3, _), v5, v18, v19, v20, _) =>
  bif (decide (v20 < v19)) then
    if (((0 : Int) ≤ v20) ∧ (v20 < (((List.length v18) : Nat) : Int))) then
      if (((0 : Int) ≤ (List.getD v18 (Int.toNat v20) (0 : Int))) ∧ ((List.getD v18 (Int.toNat v20) (0 : Int)) < (((List.length v5) : Nat) : Int))) then
        some (Sum.inl (v1, (v2_0, v2_1, v2_2, v2_3, ()), (List.take (List.length v5) (List.drop 0 (List.set v5 (0 + (Int.toNat (List.getD v18 (Int.toNat v20) (0 : Int)))) (0 : Int)))), v18, v19, (IntKind.wrap .i64 (v20 + (1 : Int))), ()))
      else
        none
    else
      none
  else
    some (Sum.inr (v1, (v2_0, v2_1, v2_2, v2_3, ()), (List.take (List.length v5) (List.drop 0 v5)), ()))
theorem impl_toEnd_l3_eq : loopStep E85 L85_0 (loopOf f85 3) sh85_3 xs85_3 = impl_toEnd_l3 := by kernel_rfl
theorem loop85_3 {L : Nat → Option LoopD} (h : L 3 = some ⟨sh85_3, xs85_3, impl_toEnd_l3⟩) : LoopOk prog L (loopOf f85 3) :=
  loopOk (tysOk_of tyl_ok) E85_ok (codeOk_in (L := L85_0) (tysOk_of tyl_ok) E85_ok mixed (c := loopOf f85 3) (bs := []) (by kernel_rfl) allNil (by kernel_rfl)) (by kernel_rfl) (by kernel_rfl) impl_toEnd_l3_eq (by rw [show firstId (loopOf f85 3) = 3 from by kernel_rfl]; exact h)
noncomputable def L85_1 : Nat → Option LoopD := fun n => ifEq n 3 (some ⟨sh85_3, xs85_3, impl_toEnd_l3⟩) (L85_0 n)
def sh85_13 : List Fm := [d, .cell (.val .str), .box 100200 [.val (.int .i64), .val (.sl (.int .i64)), .val (.sl (.int .i64)), .val (.sl (.pair (.int .i64) (.pair .str (.pair (.int .i64) (.int .i64)))))], d, d, .cell (.val (.sl (.int .i64))), d, d, .cell (.own (.sl (.int .i64)) 100800 false), .cell (.val (.int .i64)), .cell (.own (.int .i64) 101000 false), d, d, d, d, d, d, d, d, d, d, d, d, d, d, d, d, d, d, d, d, d, d, d, d, d, d, d, d, d, d, d, .cell (.val (.sl (.pair (.int .i64) (.pair .str (.pair (.int .i64) (.int .i64)))))), .cell (.val (.int .i64)), .cell (.val (.int .i64)), d, d, d, d, d, d, d, d, d, d, d, d, d, d, d, d, d, d, d, d, d, d, d, d, d, d, d, d, d, d, d, d, d, d, d, d]
def xs85_13 : List (Ex × List Fm) := [(.exit 4, [d, .cell (.val .str), .box 100200 [.val (.int .i64), .val (.sl (.int .i64)), .val (.sl (.int .i64)), .val (.sl (.pair (.int .i64) (.pair .str (.pair (.int .i64) (.int .i64)))))], d, d, d, d, d, .cell (.own (.sl (.int .i64)) 100800 false), .cell (.val (.int .i64)), .cell (.own (.int .i64) 101000 false), d, d, d, d, d, d, d, d, d, d, d, d, d, d, d, d, d, d, d, d, d, d, d, d, d, d, d, d, d, d, d, d, d, d, d, d, d, d, d, d, d, d, d, d, d, d, d, d, d, d, d, d, d, d, d, d, d, d, d, d, d, d, d, d, d, d, d, d, d, d])]
noncomputable def impl_toEnd_l13 : (ByteArray × (Int × (List Int) × (List Int) × (List (Int × (ByteArray × (Int × Int)))) × Unit) × (List Int) × (List (List Int)) × Int × (List Int) × (List (Int × (ByteArray × (Int × Int)))) × Int × Int × Unit) → Option ((ByteArray × (Int × (List Int) × (List Int) × (List (Int × (ByteArray × (Int × Int)))) × Unit) × (List Int) × (List (List Int)) × Int × (List Int) × (List (Int × (ByteArray × (Int × Int)))) × Int × Int × Unit) ⊕ ((ByteArray × (Int × (List Int) × (List Int) × (List (Int × (ByteArray × (Int × Int)))) × Unit) × (List (List Int)) × Int × (List Int) × Unit))) := fun (v1, (v2_0, v2_1, v2_2, v2_3, _), v5, v8, v9, v10, v42, v43, v44, _) =>
  bif (decide (v44 < v43)) then
    if (((0 : Int) ≤ v44) ∧ (v44 < (((List.length v42) : Nat) : Int))) then
      if (((0 : Int) ≤ v9) ∧ ((v9 ≤ (IntKind.wrap .i64 (v9 + (1 : Int)))) ∧ ((IntKind.wrap .i64 (v9 + (1 : Int))) ≤ (((ByteArray.size v1) : Nat) : Int)))) then
        bif ((ByteArray.toList (List.getD v42 (Int.toNat v44) ((0 : Int), (⟨Array.empty⟩ : ByteArray), (0 : Int), (0 : Int))).2.1) == (ByteArray.toList (ByteArray.extract v1 (Int.toNat v9) (Int.toNat (IntKind.wrap .i64 (v9 + (1 : Int))))))) then
          if (((0 : Int) ≤ (List.getD v42 (Int.toNat v44) ((0 : Int), (⟨Array.empty⟩ : ByteArray), (0 : Int), (0 : Int))).1) ∧ ((List.getD v42 (Int.toNat v44) ((0 : Int), (⟨Array.empty⟩ : ByteArray), (0 : Int), (0 : Int))).1 < (((List.length v10) : Nat) : Int))) then
            if (((0 : Int) ≤ (List.getD v42 (Int.toNat v44) ((0 : Int), (⟨Array.empty⟩ : ByteArray), (0 : Int), (0 : Int))).2.2.1) ∧ ((List.getD v42 (Int.toNat v44) ((0 : Int), (⟨Array.empty⟩ : ByteArray), (0 : Int), (0 : Int))).2.2.1 < (((List.length v5) : Nat) : Int))) then
              if (((0 : Int) ≤ (List.getD v42 (Int.toNat v44) ((0 : Int), (⟨Array.empty⟩ : ByteArray), (0 : Int), (0 : Int))).1) ∧ ((List.getD v42 (Int.toNat v44) ((0 : Int), (⟨Array.empty⟩ : ByteArray), (0 : Int), (0 : Int))).1 < (((List.length v10) : Nat) : Int))) then
                some (Sum.inl (v1, (v2_0, v2_1, v2_2, v2_3, ()), v5, (List.take (List.length v8) (List.drop 0 v8)), v9, (List.take (List.length v10) (List.drop 0 (List.set v10 (0 + (Int.toNat (List.getD v42 (Int.toNat v44) ((0 : Int), (⟨Array.empty⟩ : ByteArray), (0 : Int), (0 : Int))).1)) (if ((IntKind.wrap .i64 ((List.getD v42 (Int.toNat v44) ((0 : Int), (⟨Array.empty⟩ : ByteArray), (0 : Int), (0 : Int))).2.2.2 + (List.getD v5 (Int.toNat (List.getD v42 (Int.toNat v44) ((0 : Int), (⟨Array.empty⟩ : ByteArray), (0 : Int), (0 : Int))).2.2.1) (0 : Int)))) < (List.getD v10 (0 + (Int.toNat (List.getD v42 (Int.toNat v44) ((0 : Int), (⟨Array.empty⟩ : ByteArray), (0 : Int), (0 : Int))).1)) (0 : Int))) then (IntKind.wrap .i64 ((List.getD v42 (Int.toNat v44) ((0 : Int), (⟨Array.empty⟩ : ByteArray), (0 : Int), (0 : Int))).2.2.2 + (List.getD v5 (Int.toNat (List.getD v42 (Int.toNat v44) ((0 : Int), (⟨Array.empty⟩ : ByteArray), (0 : Int), (0 : Int))).2.2.1) (0 : Int)))) else (List.getD v10 (0 + (Int.toNat (List.getD v42 (Int.toNat v44) ((0 : Int), (⟨Array.empty⟩ : ByteArray), (0 : Int), (0 : Int))).1)) (0 : Int)))))), v42, v43, (IntKind.wrap .i64 (v44 + (1 : Int))), ()))
              else
                none
            else
              none
          else
            none
        else
          some (Sum.inl (v1, (v2_0, v2_1, v2_2, v2_3, ()), v5, (List.take (List.length v8) (List.drop 0 v8)), v9, (List.take (List.length v10) (List.drop 0 v10)), v42, v43, (IntKind.wrap .i64 (v44 + (1 : Int))), ()))
      else
        none
    else
      none
  else
    some (Sum.inr (v1, (v2_0, v2_1, v2_2, v2_3, ()), (List.take (List.length v8) (List.drop 0 v8)), v9, (List.take (List.length v10) (List.drop 0 v10)), ()))
theorem impl_toEnd_l13_eq : loopStep E85 L85_1 (loopOf f85 13) sh85_13 xs85_13 = impl_toEnd_l13 := by kernel_rfl
theorem loop85_13 {L : Nat → Option LoopD} (h : L 13 = some ⟨sh85_13, xs85_13, impl_toEnd_l13⟩) : LoopOk prog L (loopOf f85 13) :=
  loopOk (tysOk_of tyl_ok) E85_ok (codeOk_in (L := L85_1) (tysOk_of tyl_ok) E85_ok mixed (c := loopOf f85 13) (bs := []) (by kernel_rfl) allNil (by kernel_rfl)) (by kernel_rfl) (by kernel_rfl) impl_toEnd_l13_eq (by rw [show firstId (loopOf f85 13) = 13 from by kernel_rfl]; exact h)
noncomputable def L85_2 : Nat → Option LoopD := fun n => ifEq n 13 (some ⟨sh85_13, xs85_13, impl_toEnd_l13⟩) (L85_1 n)
def sh85_9 : List Fm := [d, .cell (.val .str), .box 100200 [.val (.int .i64), .val (.sl (.int .i64)), .val (.sl (.int .i64)), .val (.sl (.pair (.int .i64) (.pair .str (.pair (.int .i64) (.int .i64)))))], d, d, .cell (.val (.sl (.int .i64))), d, d, .cell (.own (.sl (.int .i64)) 100800 false), .cell (.val (.int .i64)), d, d, d, d, d, d, d, d, d, d, d, d, d, d, d, d, d, d, d, d, d, d, d, d, d, d, d, d, d, d, d, d, d, d, d, d, d, d, d, d, d, d, d, d, d, d, d, d, d, d, d, d, d, d, d, d, d, d, d, d, d, d, d, d, d, d, d, d, d, d, d]
def xs85_9 : List (Ex × List Fm) := [(.exit 2, [d, d, d, d, d, d, d, d, .cell (.own (.sl (.int .i64)) 100800 false), d, d, d, d, d, d, d, d, d, d, d, d, d, d, d, d, d, d, d, d, d, d, d, d, d, d, d, d, d, d, d, d, d, d, d, d, d, d, d, d, d, d, d, d, d, d, d, d, d, d, d, d, d, d, d, d, d, d, d, d, d, d, d, d, d, d, d, d, d, d, d, d])]
noncomputable def impl_toEnd_l9 : (ByteArray × (Int × (List Int) × (List Int) × (List (Int × (ByteArray × (Int × Int)))) × Unit) × (List Int) × (List (List Int)) × Int × Unit) → Option ((ByteArray × (Int × (List Int) × (List Int) × (List (Int × (ByteArray × (Int × Int)))) × Unit) × (List Int) × (List (List Int)) × Int × Unit) ⊕ (((List (List Int)) × Unit))) := fun (v1, (v2_0, v2_1, v2_2, v2_3, _), v5, v8, v9, _) =>
  bif (decide (v9 ≥ (0 : Int))) then
    Option.bind (slices_Repeat (List.take 1 (List.drop 0 [(1000000 : Int)])) v2_0) fun r0 =>
      Option.bind (loopF impl_toEnd_l13 (v1, (v2_0, v2_1, v2_2, v2_3, ()), v5, (List.take (List.length v8) (List.drop 0 v8)), v9, (List.take (List.length r0) (List.drop 0 r0)), v2_3, (((List.length v2_3) : Nat) : Int), (0 : Int), ())) fun (r1, (r2, r3, r4, r5, _), r6, r7, r8, _) =>
        if (((0 + (List.length r6)) = (List.length r6)) ∧ ((((List.length r6) + (List.length (List.take 1 (List.drop 0 [(List.take (List.length r8) (List.drop 0 r8))])))) * 24) ≤ 140737488355328)) then
          some (Sum.inl (r1, (r2, r3, r4, r5, ()), (List.take (List.length r8) (List.drop 0 r8)), (List.take ((List.length r6) + (List.length (List.take 1 (List.drop 0 [(List.take (List.length r8) (List.drop 0 r8))])))) (List.drop 0 ((List.drop 0 r6) ++ (List.take 1 (List.drop 0 [(List.take (List.length r8) (List.drop 0 r8))]))))), (IntKind.wrap .i64 (r7 - (1 : Int))), ()))
        else
          none
  else
    some (Sum.inr ((List.take (List.length v8) (List.drop 0 v8)), ()))
theorem impl_toEnd_l9_eq : loopStep E85 L85_2 (loopOf f85 9) sh85_9 xs85_9 = impl_toEnd_l9 := by kernel_rfl
theorem loop85_9 {L : Nat → Option LoopD} (h : L 9 = some ⟨sh85_9, xs85_9, impl_toEnd_l9⟩) : LoopOk prog L (loopOf f85 9) :=
  loopOk (tysOk_of tyl_ok) E85_ok (codeOk_in (L := L85_2) (tysOk_of tyl_ok) E85_ok mixed (c := loopOf f85 9) (bs := [loopOf f85 13]) (by kernel_rfl) (allCons (loop85_13 rfl) allNil) (by kernel_rfl)) (by kernel_rfl) (by kernel_rfl) impl_toEnd_l9_eq (by rw [show firstId (loopOf f85 9) = 9 from by kernel_rfl]; exact h)
noncomputable def L85_3 : Nat → Option LoopD := fun n => ifEq n 9 (some ⟨sh85_9, xs85_9, impl_toEnd_l9⟩) (L85_2 n)
noncomputable def impl_toEnd : (Int × ((List Int) × ((List Int) × (List (Int × (ByteArray × (Int × Int))))))) → ByteArray → Option ((List (List Int))) := fun (a0_0, a0_1, a0_2, a0_3) a1 =>
  Option.bind (slices_Repeat (List.take 1 (List.drop 0 [(1000000 : Int)])) a0_0) fun r0 =>
    Option.bind (loopF impl_toEnd_l3 (a1, (a0_0, a0_1, a0_2, a0_3, ()), (List.take (List.length r0) (List.drop 0 r0)), a0_2, (((List.length a0_2) : Nat) : Int), (0 : Int), ())) fun (r1, (r2, r3, r4, r5, _), r6, _) =>
      Option.bind (loopF impl_toEnd_l9 (r1, (r2, r3, r4, r5, ()), (List.take (List.length r6) (List.drop 0 r6)), (List.take 1 (List.drop 0 [(List.take (List.length r6) (List.drop 0 r6))])), (IntKind.wrap .i64 ((((ByteArray.size r1) : Nat) : Int) - (1 : Int))), ())) fun (r7, _) =>
        some (List.take (List.length r7) (List.drop 0 r7))
noncomputable def A85 : FnA := ⟨[.v (.pair (.int .i64) (.pair (.sl (.int .i64)) (.pair (.sl (.int .i64)) (.sl (.pair (.int .i64) (.pair .str (.pair (.int .i64) (.int .i64)))))))), .v .str], true, [.sl (.sl (.int .i64))], fun x => impl_toEnd x.1 x.2.1⟩
theorem impl_toEnd_eq : fnF E85 L85_3 [.v (.pair (.int .i64) (.pair (.sl (.int .i64)) (.pair (.sl (.int .i64)) (.sl (.pair (.int .i64) (.pair .str (.pair (.int .i64) (.int .i64)))))))), .v .str] true [.sl (.sl (.int .i64))] f85.ntmps f85.results.toList (codeOf f85) = fun x => impl_toEnd x.1 x.2.1 := by kernel_rfl
theorem A85_ok : FnOk prog 85 A85 := by
  have h := fnOk_of_run (P := prog) (E := E85) (tysOk_of tyl_ok) E85_ok (L := L85_3) (ps := [.v (.pair (.int .i64) (.pair (.sl (.int .i64)) (.pair (.sl (.int .i64)) (.sl (.pair (.int .i64) (.pair .str (.pair (.int .i64) (.int .i64)))))))), .v .str]) (own := true) (outs := [.sl (.sl (.int .i64))]) func85 (c := codeOf f85) (by kernel_rfl) (codeOk_in (L := L85_3) (tysOk_of tyl_ok) E85_ok mixed (c := codeOf f85) (bs := [loopOf f85 3, loopOf f85 9]) (by kernel_rfl) (allCons (loop85_3 rfl) (allCons (loop85_9 rfl) allNil)) (by kernel_rfl))
  rw [impl_toEnd_eq] at h
  exact h
/-! impl.CostOf -/
noncomputable def E59 : Env := ⟨ty0, fun g => ifEq g 63 (some A63) (ifEq g 64 (some A64) (ifEq g 85 (some A85) (none))), fun _ => none, fun _ => none⟩
theorem E59_ok : FnsOk prog E59 := (oneFn A63_ok func63 (by kernel_rfl) (by kernel_rfl) (oneFn A64_ok func64 (by kernel_rfl) (by kernel_rfl) (oneFn A85_ok func85 (by kernel_rfl) (by kernel_rfl) (noFns _ _))))
noncomputable def L59_0 : Nat → Option LoopD := fun _ => none
def sh59_6 : List Fm := [d, .cell (.val .str), d, d, d, .cell (.own (.sl (.int .i64)) 100500 false), .cell (.val (.int .i64)), d, d, d, d, d, d, d, d, d, d, d, d, d, d, .cell (.val (.sl (.int .i64))), .cell (.val (.int .i64)), .cell (.val (.int .i64)), d, d, d, d, d, d, d, d, d, d, d, d, d, d, d]
def xs59_6 : List (Ex × List Fm) := [(.exit 0, [d, d, d, d, d, d, .cell (.val (.int .i64)), d, d, d, d, d, d, d, d, d, d, d, d, d, d, d, d, d, d, d, d, d, d, d, d, d, d, d, d, d, d, d, d])]
noncomputable def impl_CostOf_l6 : (ByteArray × (List (List Int)) × Int × (List Int) × Int × Int × Unit) → Option ((ByteArray × (List (List Int)) × Int × (List Int) × Int × Int × Unit) ⊕ ((Int × Unit))) := fun (v1, v5, v6, v21, v22, v23, _) =>
  bif (decide (v23 < v22)) then
    if (((0 : Int) ≤ v23) ∧ (v23 < (((List.length v21) : Nat) : Int))) then
      if (((0 : Int) ≤ (((ByteArray.size v1) : Nat) : Int)) ∧ ((((ByteArray.size v1) : Nat) : Int) < (((List.length v5) : Nat) : Int))) then
        if (((0 : Int) ≤ (List.getD v21 (Int.toNat v23) (0 : Int))) ∧ ((List.getD v21 (Int.toNat v23) (0 : Int)) < (((List.length (List.getD v5 (0 + (Int.toNat (((ByteArray.size v1) : Nat) : Int))) [])) : Nat) : Int))) then
          some (Sum.inl (v1, (List.take (List.length v5) (List.drop 0 v5)), (if ((List.getD (List.getD v5 (0 + (Int.toNat (((ByteArray.size v1) : Nat) : Int))) []) (Int.toNat (List.getD v21 (Int.toNat v23) (0 : Int))) (0 : Int)) < v6) then (List.getD (List.getD v5 (0 + (Int.toNat (((ByteArray.size v1) : Nat) : Int))) []) (Int.toNat (List.getD v21 (Int.toNat v23) (0 : Int))) (0 : Int)) else v6), v21, v22, (IntKind.wrap .i64 (v23 + (1 : Int))), ()))
        else
          none
      else
        none
    else
      none
  else
    some (Sum.inr (v6, ()))
theorem impl_CostOf_l6_eq : loopStep E59 L59_0 (loopOf f59 6) sh59_6 xs59_6 = impl_CostOf_l6 := by kernel_rfl
theorem loop59_6 {L : Nat → Option LoopD} (h : L 6 = some ⟨sh59_6, xs59_6, impl_CostOf_l6⟩) : LoopOk prog L (loopOf f59 6) :=
  loopOk (tysOk_of tyl_ok) E59_ok (codeOk_in (L := L59_0) (tysOk_of tyl_ok) E59_ok mixed (c := loopOf f59 6) (bs := []) (by kernel_rfl) allNil (by kernel_rfl)) (by kernel_rfl) (by kernel_rfl) impl_CostOf_l6_eq (by rw [show firstId (loopOf f59 6) = 6 from by kernel_rfl]; exact h)
noncomputable def L59_1 : Nat → Option LoopD := fun n => ifEq n 6 (some ⟨sh59_6, xs59_6, impl_CostOf_l6⟩) (L59_0 n)
noncomputable def impl_CostOf : (Int × ((List Int) × ((List Int) × (List (Int × (ByteArray × (Int × Int))))))) → ByteArray → Option (Int) := fun (a0_0, a0_1, a0_2, a0_3) a1 =>
  Option.bind (impl_AutomatonValid (a0_0, a0_1, a0_2, a0_3)) fun r0 =>
    bif (!r0) then
      some (-1 : Int)
    else
      Option.bind (impl_WordValid a1) fun r1 =>
        bif (!r1) then
          some (-1 : Int)
        else
          Option.bind (impl_toEnd (a0_0, a0_1, a0_2, a0_3) a1) fun r2 =>
            Option.bind (loopF impl_CostOf_l6 (a1, (List.take (List.length r2) (List.drop 0 r2)), (1000000 : Int), a0_1, (((List.length a0_1) : Nat) : Int), (0 : Int), ())) fun (r3, _) =>
              some r3
noncomputable def A59 : FnA := ⟨[.v (.pair (.int .i64) (.pair (.sl (.int .i64)) (.pair (.sl (.int .i64)) (.sl (.pair (.int .i64) (.pair .str (.pair (.int .i64) (.int .i64)))))))), .v .str], true, [.int .i64], fun x => impl_CostOf x.1 x.2.1⟩
theorem impl_CostOf_eq : fnF E59 L59_1 [.v (.pair (.int .i64) (.pair (.sl (.int .i64)) (.pair (.sl (.int .i64)) (.sl (.pair (.int .i64) (.pair .str (.pair (.int .i64) (.int .i64)))))))), .v .str] true [.int .i64] f59.ntmps f59.results.toList (codeOf f59) = fun x => impl_CostOf x.1 x.2.1 := by kernel_rfl
theorem A59_ok : FnOk prog 59 A59 := by
  have h := fnOk_of_run (P := prog) (E := E59) (tysOk_of tyl_ok) E59_ok (L := L59_1) (ps := [.v (.pair (.int .i64) (.pair (.sl (.int .i64)) (.pair (.sl (.int .i64)) (.sl (.pair (.int .i64) (.pair .str (.pair (.int .i64) (.int .i64)))))))), .v .str]) (own := true) (outs := [.int .i64]) func59 (c := codeOf f59) (by kernel_rfl) (codeOk_in (L := L59_1) (tysOk_of tyl_ok) E59_ok mixed (c := codeOf f59) (bs := [loopOf f59 6]) (by kernel_rfl) (allCons (loop59_6 rfl) allNil) (by kernel_rfl))
  rw [impl_CostOf_eq] at h
  exact h
/-! impl.AreApart -/
noncomputable def E24 : Env := ⟨ty0, fun g => ifEq g 58 (some A58) (ifEq g 59 (some A59) (none)), fun _ => none, fun _ => none⟩
theorem E24_ok : FnsOk prog E24 := (oneFn A58_ok func58 (by kernel_rfl) (by kernel_rfl) (oneFn A59_ok func59 (by kernel_rfl) (by kernel_rfl) (noFns _ _)))
noncomputable def L24_0 : Nat → Option LoopD := fun _ => none
def sh24_3 : List Fm := [d, d, d, .box 100300 [.val (.int .i64), .val (.sl (.int .i64)), .val (.sl (.int .i64)), .val (.sl (.pair (.int .i64) (.pair .str (.pair (.int .i64) (.int .i64)))))], .box 100400 [.val (.int .i64), .val (.sl (.int .i64)), .val (.sl (.int .i64)), .val (.sl (.pair (.int .i64) (.pair .str (.pair (.int .i64) (.int .i64)))))], d, d, d, .cell (.val .bool), d, d, d, d, d, d, d, d, d, d, .cell (.val (.sl .str)), .cell (.val (.int .i64)), .cell (.val (.int .i64)), d, d, d, d, d, d, d, d, d, d, d, d, d, d, d, d, d, d]
def xs24_3 : List (Ex × List Fm) := [(.ret, [d, d, d, d, d, d, .cell (.val .bool), d, d, d, d, d, d, d, d, d, d, d, d, d, d, d, d, d, d, d, d, d, d, d, d, d, d, d, d, d, d, d, d, d]), (.exit 0, [d, d, d, d, d, d, d, d, .cell (.val .bool), d, d, d, d, d, d, d, d, d, d, d, d, d, d, d, d, d, d, d, d, d, d, d, d, d, d, d, d, d, d, d])]
noncomputable def impl_AreApart_l3 : ((Int × (List Int) × (List Int) × (List (Int × (ByteArray × (Int × Int)))) × Unit) × (Int × (List Int) × (List Int) × (List (Int × (ByteArray × (Int × Int)))) × Unit) × Bool × (List ByteArray) × Int × Int × Unit) → Option (((Int × (List Int) × (List Int) × (List (Int × (ByteArray × (Int × Int)))) × Unit) × (Int × (List Int) × (List Int) × (List (Int × (ByteArray × (Int × Int)))) × Unit) × Bool × (List ByteArray) × Int × Int × Unit) ⊕ ((Bool × Unit) ⊕ (Bool × Unit))) := fun ((v3_0, v3_1, v3_2, v3_3, _), (v4_0, v4_1, v4_2, v4_3, _), v8, v19, v20, v21, _) =>
  bif (decide (v21 < v20)) then
    if (((0 : Int) ≤ v21) ∧ (v21 < (((List.length v19) : Nat) : Int))) then
      bif v8 then
        Option.bind (impl_CostOf (v3_0, v3_1, v3_2, v3_3) (List.getD v19 (Int.toNat v21) (⟨Array.empty⟩ : ByteArray))) fun r0 =>
          bif (decide (r0 < (1000000 : Int))) then
            Option.bind (impl_CostOf (v4_0, v4_1, v4_2, v4_3) (List.getD v19 (Int.toNat v21) (⟨Array.empty⟩ : ByteArray))) fun r1 =>
              bif (decide (r1 < (1000000 : Int))) then
                some (Sum.inr (Sum.inl (false, ())))
              else
                some (Sum.inl ((v3_0, v3_1, v3_2, v3_3, ()), (v4_0, v4_1, v4_2, v4_3, ()), v8, v19, v20, (IntKind.wrap .i64 (v21 + (1 : Int))), ()))
          else
            some (Sum.inl ((v3_0, v3_1, v3_2, v3_3, ()), (v4_0, v4_1, v4_2, v4_3, ()), v8, v19, v20, (IntKind.wrap .i64 (v21 + (1 : Int))), ()))
      else
        some (Sum.inl ((v3_0, v3_1, v3_2, v3_3, ()), (v4_0, v4_1, v4_2, v4_3, ()), v8, v19, v20, (IntKind.wrap .i64 (v21 + (1 : Int))), ()))
    else
      none
  else
    some (Sum.inr (Sum.inr (v8, ())))
theorem impl_AreApart_l3_eq : loopStep E24 L24_0 (loopOf f24 3) sh24_3 xs24_3 = impl_AreApart_l3 := by kernel_rfl
theorem loop24_3 {L : Nat → Option LoopD} (h : L 3 = some ⟨sh24_3, xs24_3, impl_AreApart_l3⟩) : LoopOk prog L (loopOf f24 3) :=
  loopOk (tysOk_of tyl_ok) E24_ok (codeOk_in (L := L24_0) (tysOk_of tyl_ok) E24_ok mixed (c := loopOf f24 3) (bs := []) (by kernel_rfl) allNil (by kernel_rfl)) (by kernel_rfl) (by kernel_rfl) impl_AreApart_l3_eq (by rw [show firstId (loopOf f24 3) = 3 from by kernel_rfl]; exact h)
noncomputable def L24_1 : Nat → Option LoopD := fun n => ifEq n 3 (some ⟨sh24_3, xs24_3, impl_AreApart_l3⟩) (L24_0 n)
noncomputable def impl_AreApart : (Int × ((List Int) × ((List Int) × (List (Int × (ByteArray × (Int × Int))))))) → (Int × ((List Int) × ((List Int) × (List (Int × (ByteArray × (Int × Int))))))) → Int → Option (Bool) := fun (a0_0, a0_1, a0_2, a0_3) (a1_0, a1_1, a1_2, a1_3) a2 =>
  Option.bind (impl_short a2 (List.take 2 (List.drop 0 [(a0_0, a0_1, a0_2, a0_3), (a1_0, a1_1, a1_2, a1_3)]))) fun (r0, r1) =>
    Option.bind (loopF impl_AreApart_l3 ((a0_0, a0_1, a0_2, a0_3, ()), (a1_0, a1_1, a1_2, a1_3, ()), r1, r0, (((List.length r0) : Nat) : Int), (0 : Int), ())) fun r2 =>
      (match r2 with
      | .inl (d3, _) =>
          some d3
      | .inr (d4, _) =>
          some d4)
noncomputable def A24 : FnA := ⟨[.v (.pair (.int .i64) (.pair (.sl (.int .i64)) (.pair (.sl (.int .i64)) (.sl (.pair (.int .i64) (.pair .str (.pair (.int .i64) (.int .i64)))))))), .v (.pair (.int .i64) (.pair (.sl (.int .i64)) (.pair (.sl (.int .i64)) (.sl (.pair (.int .i64) (.pair .str (.pair (.int .i64) (.int .i64)))))))), .v (.int .i64)], true, [.bool], fun x => impl_AreApart x.1 x.2.1 x.2.2.1⟩
theorem impl_AreApart_eq : fnF E24 L24_1 [.v (.pair (.int .i64) (.pair (.sl (.int .i64)) (.pair (.sl (.int .i64)) (.sl (.pair (.int .i64) (.pair .str (.pair (.int .i64) (.int .i64)))))))), .v (.pair (.int .i64) (.pair (.sl (.int .i64)) (.pair (.sl (.int .i64)) (.sl (.pair (.int .i64) (.pair .str (.pair (.int .i64) (.int .i64)))))))), .v (.int .i64)] true [.bool] f24.ntmps f24.results.toList (codeOf f24) = fun x => impl_AreApart x.1 x.2.1 x.2.2.1 := by kernel_rfl
theorem A24_ok : FnOk prog 24 A24 := by
  have h := fnOk_of_run (P := prog) (E := E24) (tysOk_of tyl_ok) E24_ok (L := L24_1) (ps := [.v (.pair (.int .i64) (.pair (.sl (.int .i64)) (.pair (.sl (.int .i64)) (.sl (.pair (.int .i64) (.pair .str (.pair (.int .i64) (.int .i64)))))))), .v (.pair (.int .i64) (.pair (.sl (.int .i64)) (.pair (.sl (.int .i64)) (.sl (.pair (.int .i64) (.pair .str (.pair (.int .i64) (.int .i64)))))))), .v (.int .i64)]) (own := true) (outs := [.bool]) func24 (c := codeOf f24) (by kernel_rfl) (codeOk_in (L := L24_1) (tysOk_of tyl_ok) E24_ok mixed (c := codeOf f24) (bs := [loopOf f24 3]) (by kernel_rfl) (allCons (loop24_3 rfl) allNil) (by kernel_rfl))
  rw [impl_AreApart_eq] at h
  exact h
/-! laws.eqIntS -/
noncomputable def E36 : Env := ⟨ty0, fun _ => none, fun _ => none, fun _ => none⟩
theorem E36_ok : FnsOk prog E36 := (noFns _ _)
noncomputable def L36_0 : Nat → Option LoopD := fun _ => none
def sh36_4 : List Fm := [.cell (.val (.sl (.int .i64))), .cell (.val (.sl (.int .i64))), d, d, d, .cell (.val (.int .i64)), d, d, d, d, d, d, d, d, d, d, d, d, d, d, d, d, d, d, d, d]
def xs36_4 : List (Ex × List Fm) := [(.ret, [d, d, d, d, .cell (.val .bool), d, d, d, d, d, d, d, d, d, d, d, d, d, d, d, d, d, d, d, d, d]), (.exit 0, [d, d, d, d, d, d, d, d, d, d, d, d, d, d, d, d, d, d, d, d, d, d, d, d, d, d])]
noncomputable def laws_eqIntS_l4 : ((List Int) × (List Int) × Int × Unit) → Option (((List Int) × (List Int) × Int × Unit) ⊕ ((Bool × Unit) ⊕ (Unit))) := fun (v0, v1, v5, _) =>
  bif (decide (v5 < (((List.length v0) : Nat) : Int))) then
    if (((0 : Int) ≤ v5) ∧ (v5 < (((List.length v0) : Nat) : Int))) then
      if (((0 : Int) ≤ v5) ∧ (v5 < (((List.length v1) : Nat) : Int))) then
        bif ((List.getD v0 (Int.toNat v5) (0 : Int)) != (List.getD v1 (Int.toNat v5) (0 : Int))) then
          some (Sum.inr (Sum.inl (false, ())))
        else
          some (Sum.inl (v0, v1, (IntKind.wrap .i64 (v5 + (1 : Int))), ()))
      else
        none
    else
      none
  else
    some (Sum.inr (Sum.inr ()))
theorem laws_eqIntS_l4_eq : loopStep E36 L36_0 (loopOf f36 4) sh36_4 xs36_4 = laws_eqIntS_l4 := by kernel_rfl
theorem loop36_4 {L : Nat → Option LoopD} (h : L 4 = some ⟨sh36_4, xs36_4, laws_eqIntS_l4⟩) : LoopOk prog L (loopOf f36 4) :=
  loopOk (tysOk_of tyl_ok) E36_ok (codeOk_in (L := L36_0) (tysOk_of tyl_ok) E36_ok mixed (c := loopOf f36 4) (bs := []) (by kernel_rfl) allNil (by kernel_rfl)) (by kernel_rfl) (by kernel_rfl) laws_eqIntS_l4_eq (by rw [show firstId (loopOf f36 4) = 4 from by kernel_rfl]; exact h)
noncomputable def L36_1 : Nat → Option LoopD := fun n => ifEq n 4 (some ⟨sh36_4, xs36_4, laws_eqIntS_l4⟩) (L36_0 n)
noncomputable def laws_eqIntS : (List Int) → (List Int) → Option (Bool) := fun a0 a1 =>
  bif ((((List.length a0) : Nat) : Int) != (((List.length a1) : Nat) : Int)) then
    some false
  else
    Option.bind (loopF laws_eqIntS_l4 (a0, a1, (0 : Int), ())) fun r0 =>
      (match r0 with
      | .inl (d1, _) =>
          some d1
      | .inr _ =>
          some true)
noncomputable def A36 : FnA := ⟨[.v (.sl (.int .i64)), .v (.sl (.int .i64))], true, [.bool], fun x => laws_eqIntS x.1 x.2.1⟩
theorem laws_eqIntS_eq : fnF E36 L36_1 [.v (.sl (.int .i64)), .v (.sl (.int .i64))] true [.bool] f36.ntmps f36.results.toList (codeOf f36) = fun x => laws_eqIntS x.1 x.2.1 := by kernel_rfl
theorem A36_ok : FnOk prog 36 A36 := by
  have h := fnOk_of_run (P := prog) (E := E36) (tysOk_of tyl_ok) E36_ok (L := L36_1) (ps := [.v (.sl (.int .i64)), .v (.sl (.int .i64))]) (own := true) (outs := [.bool]) func36 (c := codeOf f36) (by kernel_rfl) (codeOk_in (L := L36_1) (tysOk_of tyl_ok) E36_ok mixed (c := codeOf f36) (bs := [loopOf f36 4]) (by kernel_rfl) (allCons (loop36_4 rfl) allNil) (by kernel_rfl))
  rw [laws_eqIntS_eq] at h
  exact h
/-! laws.eqStep -/
noncomputable def E86 : Env := ⟨ty0, fun _ => none, fun _ => none, fun _ => none⟩
theorem E86_ok : FnsOk prog E86 := (noFns _ _)
noncomputable def L86_0 : Nat → Option LoopD := fun _ => none
noncomputable def laws_eqStep : (Int × (ByteArray × (Int × Int))) → (Int × (ByteArray × (Int × Int))) → Option (Bool) := fun (a0_0, a0_1, a0_2, a0_3) (a1_0, a1_1, a1_2, a1_3) =>
  bif (a0_0 != a1_0) then
    some false
  else
    bif (!((ByteArray.toList a0_1) == (ByteArray.toList a1_1))) then
      some false
    else
      bif (a0_2 != a1_2) then
        some false
      else
        bif (a0_3 != a1_3) then
          some false
        else
          some true
noncomputable def A86 : FnA := ⟨[.v (.pair (.int .i64) (.pair .str (.pair (.int .i64) (.int .i64)))), .v (.pair (.int .i64) (.pair .str (.pair (.int .i64) (.int .i64))))], true, [.bool], fun x => laws_eqStep x.1 x.2.1⟩
theorem laws_eqStep_eq : fnF E86 L86_0 [.v (.pair (.int .i64) (.pair .str (.pair (.int .i64) (.int .i64)))), .v (.pair (.int .i64) (.pair .str (.pair (.int .i64) (.int .i64))))] true [.bool] f86.ntmps f86.results.toList (codeOf f86) = fun x => laws_eqStep x.1 x.2.1 := by kernel_rfl
theorem A86_ok : FnOk prog 86 A86 := by
  have h := fnOk_of_run (P := prog) (E := E86) (tysOk_of tyl_ok) E86_ok (L := L86_0) (ps := [.v (.pair (.int .i64) (.pair .str (.pair (.int .i64) (.int .i64)))), .v (.pair (.int .i64) (.pair .str (.pair (.int .i64) (.int .i64))))]) (own := true) (outs := [.bool]) func86 (c := codeOf f86) (by kernel_rfl) (codeOk_in (L := L86_0) (tysOk_of tyl_ok) E86_ok mixed (c := codeOf f86) (bs := []) (by kernel_rfl) allNil (by kernel_rfl))
  rw [laws_eqStep_eq] at h
  exact h
/-! laws.eqStepS -/
noncomputable def E60 : Env := ⟨ty0, fun g => ifEq g 86 (some A86) (none), fun _ => none, fun _ => none⟩
theorem E60_ok : FnsOk prog E60 := (oneFn A86_ok func86 (by kernel_rfl) (by kernel_rfl) (noFns _ _))
noncomputable def L60_0 : Nat → Option LoopD := fun _ => none
def sh60_4 : List Fm := [.cell (.val (.sl (.pair (.int .i64) (.pair .str (.pair (.int .i64) (.int .i64)))))), .cell (.val (.sl (.pair (.int .i64) (.pair .str (.pair (.int .i64) (.int .i64)))))), d, d, d, .cell (.val (.int .i64)), d, d, d, d, d, d, d, d, d, d, d, d, d, d, d, d, d, d, d, d, d]
def xs60_4 : List (Ex × List Fm) := [(.ret, [d, d, d, d, .cell (.val .bool), d, d, d, d, d, d, d, d, d, d, d, d, d, d, d, d, d, d, d, d, d, d]), (.exit 0, [d, d, d, d, d, d, d, d, d, d, d, d, d, d, d, d, d, d, d, d, d, d, d, d, d, d, d])]
noncomputable def laws_eqStepS_l4 : ((List (Int × (ByteArray × (Int × Int)))) × (List (Int × (ByteArray × (Int × Int)))) × Int × Unit) → Option (((List (Int × (ByteArray × (Int × Int)))) × (List (Int × (ByteArray × (Int × Int)))) × Int × Unit) ⊕ ((Bool × Unit) ⊕ (Unit))) := fun (v0, v1, v5, _) =>
  bif (decide (v5 < (((List.length v0) : Nat) : Int))) then
    if (((0 : Int) ≤ v5) ∧ (v5 < (((List.length v0) : Nat) : Int))) then
      if (((0 : Int) ≤ v5) ∧ (v5 < (((List.length v1) : Nat) : Int))) then
        Option.bind (laws_eqStep (List.getD v0 (Int.toNat v5) ((0 : Int), (⟨Array.empty⟩ : ByteArray), (0 : Int), (0 : Int))) (List.getD v1 (Int.toNat v5) ((0 : Int), (⟨Array.empty⟩ : ByteArray), (0 : Int), (0 : Int)))) fun r0 =>
          bif (!r0) then
            some (Sum.inr (Sum.inl (false, ())))
          else
            some (Sum.inl (v0, v1, (IntKind.wrap .i64 (v5 + (1 : Int))), ()))
      else
        none
    else
      none
  else
    some (Sum.inr (Sum.inr ()))
theorem laws_eqStepS_l4_eq : loopStep E60 L60_0 (loopOf f60 4) sh60_4 xs60_4 = laws_eqStepS_l4 := by kernel_rfl
theorem loop60_4 {L : Nat → Option LoopD} (h : L 4 = some ⟨sh60_4, xs60_4, laws_eqStepS_l4⟩) : LoopOk prog L (loopOf f60 4) :=
  loopOk (tysOk_of tyl_ok) E60_ok (codeOk_in (L := L60_0) (tysOk_of tyl_ok) E60_ok mixed (c := loopOf f60 4) (bs := []) (by kernel_rfl) allNil (by kernel_rfl)) (by kernel_rfl) (by kernel_rfl) laws_eqStepS_l4_eq (by rw [show firstId (loopOf f60 4) = 4 from by kernel_rfl]; exact h)
noncomputable def L60_1 : Nat → Option LoopD := fun n => ifEq n 4 (some ⟨sh60_4, xs60_4, laws_eqStepS_l4⟩) (L60_0 n)
noncomputable def laws_eqStepS : (List (Int × (ByteArray × (Int × Int)))) → (List (Int × (ByteArray × (Int × Int)))) → Option (Bool) := fun a0 a1 =>
  bif ((((List.length a0) : Nat) : Int) != (((List.length a1) : Nat) : Int)) then
    some false
  else
    Option.bind (loopF laws_eqStepS_l4 (a0, a1, (0 : Int), ())) fun r0 =>
      (match r0 with
      | .inl (d1, _) =>
          some d1
      | .inr _ =>
          some true)
noncomputable def A60 : FnA := ⟨[.v (.sl (.pair (.int .i64) (.pair .str (.pair (.int .i64) (.int .i64))))), .v (.sl (.pair (.int .i64) (.pair .str (.pair (.int .i64) (.int .i64)))))], true, [.bool], fun x => laws_eqStepS x.1 x.2.1⟩
theorem laws_eqStepS_eq : fnF E60 L60_1 [.v (.sl (.pair (.int .i64) (.pair .str (.pair (.int .i64) (.int .i64))))), .v (.sl (.pair (.int .i64) (.pair .str (.pair (.int .i64) (.int .i64)))))] true [.bool] f60.ntmps f60.results.toList (codeOf f60) = fun x => laws_eqStepS x.1 x.2.1 := by kernel_rfl
theorem A60_ok : FnOk prog 60 A60 := by
  have h := fnOk_of_run (P := prog) (E := E60) (tysOk_of tyl_ok) E60_ok (L := L60_1) (ps := [.v (.sl (.pair (.int .i64) (.pair .str (.pair (.int .i64) (.int .i64))))), .v (.sl (.pair (.int .i64) (.pair .str (.pair (.int .i64) (.int .i64)))))]) (own := true) (outs := [.bool]) func60 (c := codeOf f60) (by kernel_rfl) (codeOk_in (L := L60_1) (tysOk_of tyl_ok) E60_ok mixed (c := codeOf f60) (bs := [loopOf f60 4]) (by kernel_rfl) (allCons (loop60_4 rfl) allNil) (by kernel_rfl))
  rw [laws_eqStepS_eq] at h
  exact h
/-! laws.eqAutomaton -/
noncomputable def E25 : Env := ⟨ty0, fun g => ifEq g 36 (some A36) (ifEq g 60 (some A60) (none)), fun _ => none, fun _ => none⟩
theorem E25_ok : FnsOk prog E25 := (oneFn A36_ok func36 (by kernel_rfl) (by kernel_rfl) (oneFn A60_ok func60 (by kernel_rfl) (by kernel_rfl) (noFns _ _)))
noncomputable def L25_0 : Nat → Option LoopD := fun _ => none
noncomputable def laws_eqAutomaton : (Int × ((List Int) × ((List Int) × (List (Int × (ByteArray × (Int × Int))))))) → (Int × ((List Int) × ((List Int) × (List (Int × (ByteArray × (Int × Int))))))) → Option (Bool) := fun (a0_0, a0_1, a0_2, a0_3) (a1_0, a1_1, a1_2, a1_3) =>
  bif (a0_0 != a1_0) then
    some false
  else
    Option.bind (laws_eqIntS a0_1 a1_1) fun r0 =>
      bif (!r0) then
        some false
      else
        Option.bind (laws_eqIntS a0_2 a1_2) fun r1 =>
          bif (!r1) then
            some false
          else
            Option.bind (laws_eqStepS a0_3 a1_3) fun r2 =>
              bif (!r2) then
                some false
              else
                some true
noncomputable def A25 : FnA := ⟨[.v (.pair (.int .i64) (.pair (.sl (.int .i64)) (.pair (.sl (.int .i64)) (.sl (.pair (.int .i64) (.pair .str (.pair (.int .i64) (.int .i64)))))))), .v (.pair (.int .i64) (.pair (.sl (.int .i64)) (.pair (.sl (.int .i64)) (.sl (.pair (.int .i64) (.pair .str (.pair (.int .i64) (.int .i64))))))))], true, [.bool], fun x => laws_eqAutomaton x.1 x.2.1⟩
theorem laws_eqAutomaton_eq : fnF E25 L25_0 [.v (.pair (.int .i64) (.pair (.sl (.int .i64)) (.pair (.sl (.int .i64)) (.sl (.pair (.int .i64) (.pair .str (.pair (.int .i64) (.int .i64)))))))), .v (.pair (.int .i64) (.pair (.sl (.int .i64)) (.pair (.sl (.int .i64)) (.sl (.pair (.int .i64) (.pair .str (.pair (.int .i64) (.int .i64))))))))] true [.bool] f25.ntmps f25.results.toList (codeOf f25) = fun x => laws_eqAutomaton x.1 x.2.1 := by kernel_rfl
theorem A25_ok : FnOk prog 25 A25 := by
  have h := fnOk_of_run (P := prog) (E := E25) (tysOk_of tyl_ok) E25_ok (L := L25_0) (ps := [.v (.pair (.int .i64) (.pair (.sl (.int .i64)) (.pair (.sl (.int .i64)) (.sl (.pair (.int .i64) (.pair .str (.pair (.int .i64) (.int .i64)))))))), .v (.pair (.int .i64) (.pair (.sl (.int .i64)) (.pair (.sl (.int .i64)) (.sl (.pair (.int .i64) (.pair .str (.pair (.int .i64) (.int .i64))))))))]) (own := true) (outs := [.bool]) func25 (c := codeOf f25) (by kernel_rfl) (codeOk_in (L := L25_0) (tysOk_of tyl_ok) E25_ok mixed (c := codeOf f25) (bs := []) (by kernel_rfl) allNil (by kernel_rfl))
  rw [laws_eqAutomaton_eq] at h
  exact h
/-! laws.FnExactAreApart -/
noncomputable def E5 : Env := ⟨ty0, fun g => ifEq g 21 (some A21) (ifEq g 23 (some A23) (ifEq g 22 (some A22) (ifEq g 24 (some A24) (ifEq g 25 (some A25) (none))))), fun _ => none, fun _ => none⟩
theorem E5_ok : FnsOk prog E5 := (oneFn A21_ok func21 (by kernel_rfl) (by kernel_rfl) (oneFn A23_ok func23 (by kernel_rfl) (by kernel_rfl) (oneFn A22_ok func22 (by kernel_rfl) (by kernel_rfl) (oneFn A24_ok func24 (by kernel_rfl) (by kernel_rfl) (oneFn A25_ok func25 (by kernel_rfl) (by kernel_rfl) (noFns _ _))))))
noncomputable def L5_0 : Nat → Option LoopD := fun _ => none
noncomputable def laws_FnExactAreApart : (Int × ((List Int) × ((List Int) × (List (Int × (ByteArray × (Int × Int))))))) → (Int × ((List Int) × ((List Int) × (List (Int × (ByteArray × (Int × Int))))))) → Int → Option (Bool) := fun (a0_0, a0_1, a0_2, a0_3) (a1_0, a1_1, a1_2, a1_3) a2 =>
  Option.bind (laws_szAutomaton (a0_0, a0_1, a0_2, a0_3) (1048576 : Int)) fun r0 =>
    bif (decide (r0 < (0 : Int))) then
      some true
    else
      Option.bind (laws_szAutomaton (a1_0, a1_1, a1_2, a1_3) r0) fun r1 =>
        bif (decide (r1 < (0 : Int))) then
          some true
        else
          Option.bind (laws_toAutomaton (a0_0, a0_1, a0_2, a0_3)) fun (r2, r3, r4, r5) =>
            Option.bind (laws_toAutomaton (a1_0, a1_1, a1_2, a1_3)) fun (r6, r7, r8, r9) =>
              Option.bind (spec_AreApart (r2, (List.take (List.length r3) (List.drop 0 r3)), (List.take (List.length r4) (List.drop 0 r4)), (List.take (List.length r5) (List.drop 0 r5))) (r6, (List.take (List.length r7) (List.drop 0 r7)), (List.take (List.length r8) (List.drop 0 r8)), (List.take (List.length r9) (List.drop 0 r9))) a2) fun r10 =>
                Option.bind (laws_toAutomaton (a0_0, a0_1, a0_2, a0_3)) fun (r11, r12, r13, r14) =>
                  Option.bind (laws_toAutomaton (a1_0, a1_1, a1_2, a1_3)) fun (r15, r16, r17, r18) =>
                    Option.bind (impl_AreApart (r11, (List.take (List.length r12) (List.drop 0 r12)), (List.take (List.length r13) (List.drop 0 r13)), (List.take (List.length r14) (List.drop 0 r14))) (r15, (List.take (List.length r16) (List.drop 0 r16)), (List.take (List.length r17) (List.drop 0 r17)), (List.take (List.length r18) (List.drop 0 r18))) a2) fun r19 =>
                      bif (!(r19 == r10)) then
                        some false
                      else
                        Option.bind (laws_toAutomaton (a0_0, a0_1, a0_2, a0_3)) fun (r20, r21, r22, r23) =>
                          Option.bind (laws_eqAutomaton (r11, (List.take (List.length r12) (List.drop 0 r12)), (List.take (List.length r13) (List.drop 0 r13)), (List.take (List.length r14) (List.drop 0 r14))) (r20, (List.take (List.length r21) (List.drop 0 r21)), (List.take (List.length r22) (List.drop 0 r22)), (List.take (List.length r23) (List.drop 0 r23)))) fun r24 =>
                            bif (!r24) then
                              some false
                            else
                              Option.bind (laws_toAutomaton (a1_0, a1_1, a1_2, a1_3)) fun (r25, r26, r27, r28) =>
                                Option.bind (laws_eqAutomaton (r15, (List.take (List.length r16) (List.drop 0 r16)), (List.take (List.length r17) (List.drop 0 r17)), (List.take (List.length r18) (List.drop 0 r18))) (r25, (List.take (List.length r26) (List.drop 0 r26)), (List.take (List.length r27) (List.drop 0 r27)), (List.take (List.length r28) (List.drop 0 r28)))) fun r29 =>
                                  bif (!r29) then
                                    some false
                                  else
                                    some true
noncomputable def A5 : FnA := ⟨[.v (.pair (.int .i64) (.pair (.sl (.int .i64)) (.pair (.sl (.int .i64)) (.sl (.pair (.int .i64) (.pair .str (.pair (.int .i64) (.int .i64)))))))), .v (.pair (.int .i64) (.pair (.sl (.int .i64)) (.pair (.sl (.int .i64)) (.sl (.pair (.int .i64) (.pair .str (.pair (.int .i64) (.int .i64)))))))), .v (.int .i64)], true, [.bool], fun x => laws_FnExactAreApart x.1 x.2.1 x.2.2.1⟩
theorem laws_FnExactAreApart_eq : fnF E5 L5_0 [.v (.pair (.int .i64) (.pair (.sl (.int .i64)) (.pair (.sl (.int .i64)) (.sl (.pair (.int .i64) (.pair .str (.pair (.int .i64) (.int .i64)))))))), .v (.pair (.int .i64) (.pair (.sl (.int .i64)) (.pair (.sl (.int .i64)) (.sl (.pair (.int .i64) (.pair .str (.pair (.int .i64) (.int .i64)))))))), .v (.int .i64)] true [.bool] f5.ntmps f5.results.toList (codeOf f5) = fun x => laws_FnExactAreApart x.1 x.2.1 x.2.2.1 := by kernel_rfl
theorem A5_ok : FnOk prog 5 A5 := by
  have h := fnOk_of_run (P := prog) (E := E5) (tysOk_of tyl_ok) E5_ok (L := L5_0) (ps := [.v (.pair (.int .i64) (.pair (.sl (.int .i64)) (.pair (.sl (.int .i64)) (.sl (.pair (.int .i64) (.pair .str (.pair (.int .i64) (.int .i64)))))))), .v (.pair (.int .i64) (.pair (.sl (.int .i64)) (.pair (.sl (.int .i64)) (.sl (.pair (.int .i64) (.pair .str (.pair (.int .i64) (.int .i64)))))))), .v (.int .i64)]) (own := true) (outs := [.bool]) func5 (c := codeOf f5) (by kernel_rfl) (codeOk_in (L := L5_0) (tysOk_of tyl_ok) E5_ok mixed (c := codeOf f5) (bs := []) (by kernel_rfl) allNil (by kernel_rfl))
  rw [laws_FnExactAreApart_eq] at h
  exact h
/-! spec.FirstOver -/
noncomputable def E26 : Env := ⟨ty0, fun g => ifEq g 53 (some A53) (ifEq g 54 (some A54) (ifEq g 55 (some A55) (none))), fun _ => none, fun _ => none⟩
theorem E26_ok : FnsOk prog E26 := (oneFn A53_ok func53 (by kernel_rfl) (by kernel_rfl) (oneFn A54_ok func54 (by kernel_rfl) (by kernel_rfl) (oneFn A55_ok func55 (by kernel_rfl) (by kernel_rfl) (noFns _ _))))
noncomputable def L26_0 : Nat → Option LoopD := fun _ => none
def sh26_4 : List Fm := [d, d, d, .box 100300 [.val (.int .i64), .val (.sl (.int .i64)), .val (.sl (.int .i64)), .val (.sl (.pair (.int .i64) (.pair .str (.pair (.int .i64) (.int .i64)))))], .box 100400 [.val (.int .i64), .val (.sl (.int .i64)), .val (.sl (.int .i64)), .val (.sl (.pair (.int .i64) (.pair .str (.pair (.int .i64) (.int .i64)))))], d, d, d, d, d, d, d, d, d, d, d, d, d, d, d, d, .cell (.val (.sl .str)), .cell (.val (.int .i64)), .cell (.val (.int .i64)), d, d, d, d, d, d, d, d, d, d, d, d]
def xs26_4 : List (Ex × List Fm) := [(.ret, [d, d, d, d, d, d, .cell (.val .str), .cell (.val .bool), d, d, d, d, d, d, d, d, d, d, d, d, d, d, d, d, d, d, d, d, d, d, d, d, d, d, d, d]), (.exit 0, [d, d, d, d, d, d, d, d, d, d, d, d, d, d, d, d, d, d, d, d, d, d, d, d, d, d, d, d, d, d, d, d, d, d, d, d])]
noncomputable def spec_FirstOver_l4 : ((Int × (List Int) × (List Int) × (List (Int × (ByteArray × (Int × Int)))) × Unit) × (Int × (List Int) × (List Int) × (List (Int × (ByteArray × (Int × Int)))) × Unit) × (List ByteArray) × Int × Int × Unit) → Option (((Int × (List Int) × (List Int) × (List (Int × (ByteArray × (Int × Int)))) × Unit) × (Int × (List Int) × (List Int) × (List (Int × (ByteArray × (Int × Int)))) × Unit) × (List ByteArray) × Int × Int × Unit) ⊕ ((ByteArray × Bool × Unit) ⊕ (Unit))) := fun ((v3_0, v3_1, v3_2, v3_3, _), (v4_0, v4_1, v4_2, v4_3, _), v21, v22, v23, _) =>
  bif (decide (v23 < v22)) then
    if (((0 : Int) ≤ v23) ∧ (v23 < (((List.length v21) : Nat) : Int))) then
      Option.bind (spec_l4Cost (v3_0, v3_1, v3_2, v3_3) (List.getD v21 (Int.toNat v23) (⟨Array.empty⟩ : ByteArray))) fun r0 =>
        Option.bind (spec_l4Cost (v4_0, v4_1, v4_2, v4_3) (List.getD v21 (Int.toNat v23) (⟨Array.empty⟩ : ByteArray))) fun r1 =>
          bif (decide (r0 > r1)) then
            some (Sum.inr (Sum.inl ((List.getD v21 (Int.toNat v23) (⟨Array.empty⟩ : ByteArray)), true, ())))
          else
            some (Sum.inl ((v3_0, v3_1, v3_2, v3_3, ()), (v4_0, v4_1, v4_2, v4_3, ()), v21, v22, (IntKind.wrap .i64 (v23 + (1 : Int))), ()))
    else
      none
  else
    some (Sum.inr (Sum.inr ()))
theorem spec_FirstOver_l4_eq : loopStep E26 L26_0 (loopOf f26 4) sh26_4 xs26_4 = spec_FirstOver_l4 := by kernel_rfl
theorem loop26_4 {L : Nat → Option LoopD} (h : L 4 = some ⟨sh26_4, xs26_4, spec_FirstOver_l4⟩) : LoopOk prog L (loopOf f26 4) :=
  loopOk (tysOk_of tyl_ok) E26_ok (codeOk_in (L := L26_0) (tysOk_of tyl_ok) E26_ok mixed (c := loopOf f26 4) (bs := []) (by kernel_rfl) allNil (by kernel_rfl)) (by kernel_rfl) (by kernel_rfl) spec_FirstOver_l4_eq (by rw [show firstId (loopOf f26 4) = 4 from by kernel_rfl]; exact h)
noncomputable def L26_1 : Nat → Option LoopD := fun n => ifEq n 4 (some ⟨sh26_4, xs26_4, spec_FirstOver_l4⟩) (L26_0 n)
noncomputable def spec_FirstOver : (Int × ((List Int) × ((List Int) × (List (Int × (ByteArray × (Int × Int))))))) → (Int × ((List Int) × ((List Int) × (List (Int × (ByteArray × (Int × Int))))))) → Int → Option (ByteArray × Bool) := fun (a0_0, a0_1, a0_2, a0_3) (a1_0, a1_1, a1_2, a1_3) a2 =>
  Option.bind (spec_l11Short (a0_0, a0_1, a0_2, a0_3) a2) fun r0 =>
    bif (!r0) then
      some ((⟨#[]⟩ : ByteArray), false)
    else
      Option.bind (spec_l11Short (a1_0, a1_1, a1_2, a1_3) a2) fun r1 =>
        bif (!r1) then
          some ((⟨#[]⟩ : ByteArray), false)
        else
          Option.bind (spec_l4Words a2) fun r2 =>
            Option.bind (loopF spec_FirstOver_l4 ((a0_0, a0_1, a0_2, a0_3, ()), (a1_0, a1_1, a1_2, a1_3, ()), r2, (((List.length r2) : Nat) : Int), (0 : Int), ())) fun r3 =>
              (match r3 with
              | .inl (d4, d5, _) =>
                  some (d4, d5)
              | .inr _ =>
                  some ((⟨#[]⟩ : ByteArray), false))
noncomputable def A26 : FnA := ⟨[.v (.pair (.int .i64) (.pair (.sl (.int .i64)) (.pair (.sl (.int .i64)) (.sl (.pair (.int .i64) (.pair .str (.pair (.int .i64) (.int .i64)))))))), .v (.pair (.int .i64) (.pair (.sl (.int .i64)) (.pair (.sl (.int .i64)) (.sl (.pair (.int .i64) (.pair .str (.pair (.int .i64) (.int .i64)))))))), .v (.int .i64)], true, [.str, .bool], fun x => spec_FirstOver x.1 x.2.1 x.2.2.1⟩
theorem spec_FirstOver_eq : fnF E26 L26_1 [.v (.pair (.int .i64) (.pair (.sl (.int .i64)) (.pair (.sl (.int .i64)) (.sl (.pair (.int .i64) (.pair .str (.pair (.int .i64) (.int .i64)))))))), .v (.pair (.int .i64) (.pair (.sl (.int .i64)) (.pair (.sl (.int .i64)) (.sl (.pair (.int .i64) (.pair .str (.pair (.int .i64) (.int .i64)))))))), .v (.int .i64)] true [.str, .bool] f26.ntmps f26.results.toList (codeOf f26) = fun x => spec_FirstOver x.1 x.2.1 x.2.2.1 := by kernel_rfl
theorem A26_ok : FnOk prog 26 A26 := by
  have h := fnOk_of_run (P := prog) (E := E26) (tysOk_of tyl_ok) E26_ok (L := L26_1) (ps := [.v (.pair (.int .i64) (.pair (.sl (.int .i64)) (.pair (.sl (.int .i64)) (.sl (.pair (.int .i64) (.pair .str (.pair (.int .i64) (.int .i64)))))))), .v (.pair (.int .i64) (.pair (.sl (.int .i64)) (.pair (.sl (.int .i64)) (.sl (.pair (.int .i64) (.pair .str (.pair (.int .i64) (.int .i64)))))))), .v (.int .i64)]) (own := true) (outs := [.str, .bool]) func26 (c := codeOf f26) (by kernel_rfl) (codeOk_in (L := L26_1) (tysOk_of tyl_ok) E26_ok mixed (c := codeOf f26) (bs := [loopOf f26 4]) (by kernel_rfl) (allCons (loop26_4 rfl) allNil) (by kernel_rfl))
  rw [spec_FirstOver_eq] at h
  exact h
/-! impl.FirstOver -/
noncomputable def E27 : Env := ⟨ty0, fun g => ifEq g 58 (some A58) (ifEq g 59 (some A59) (none)), fun _ => none, fun _ => none⟩
theorem E27_ok : FnsOk prog E27 := (oneFn A58_ok func58 (by kernel_rfl) (by kernel_rfl) (oneFn A59_ok func59 (by kernel_rfl) (by kernel_rfl) (noFns _ _)))
noncomputable def L27_0 : Nat → Option LoopD := fun _ => none
def sh27_3 : List Fm := [d, d, d, .box 100300 [.val (.int .i64), .val (.sl (.int .i64)), .val (.sl (.int .i64)), .val (.sl (.pair (.int .i64) (.pair .str (.pair (.int .i64) (.int .i64)))))], .box 100400 [.val (.int .i64), .val (.sl (.int .i64)), .val (.sl (.int .i64)), .val (.sl (.pair (.int .i64) (.pair .str (.pair (.int .i64) (.int .i64)))))], d, d, d, d, .cell (.val .bool), d, d, d, d, d, d, d, d, d, d, .cell (.val (.sl .str)), .cell (.val (.int .i64)), .cell (.val (.int .i64)), d, d, d, d, d, d, d, d, d, d, d, d, d, d, d]
def xs27_3 : List (Ex × List Fm) := [(.ret, [d, d, d, d, d, d, .cell (.val .str), .cell (.val .bool), d, d, d, d, d, d, d, d, d, d, d, d, d, d, d, d, d, d, d, d, d, d, d, d, d, d, d, d, d, d]), (.exit 0, [d, d, d, d, d, d, d, d, d, d, d, d, d, d, d, d, d, d, d, d, d, d, d, d, d, d, d, d, d, d, d, d, d, d, d, d, d, d])]
noncomputable def impl_FirstOver_l3 : ((Int × (List Int) × (List Int) × (List (Int × (ByteArray × (Int × Int)))) × Unit) × (Int × (List Int) × (List Int) × (List (Int × (ByteArray × (Int × Int)))) × Unit) × Bool × (List ByteArray) × Int × Int × Unit) → Option (((Int × (List Int) × (List Int) × (List (Int × (ByteArray × (Int × Int)))) × Unit) × (Int × (List Int) × (List Int) × (List (Int × (ByteArray × (Int × Int)))) × Unit) × Bool × (List ByteArray) × Int × Int × Unit) ⊕ ((ByteArray × Bool × Unit) ⊕ (Unit))) := fun ((v3_0, v3_1, v3_2, v3_3, _), (v4_0, v4_1, v4_2, v4_3, _), v9, v20, v21, v22, _) =>
  bif (decide (v22 < v21)) then
    if (((0 : Int) ≤ v22) ∧ (v22 < (((List.length v20) : Nat) : Int))) then
      bif v9 then
        Option.bind (impl_CostOf (v3_0, v3_1, v3_2, v3_3) (List.getD v20 (Int.toNat v22) (⟨Array.empty⟩ : ByteArray))) fun r0 =>
          Option.bind (impl_CostOf (v4_0, v4_1, v4_2, v4_3) (List.getD v20 (Int.toNat v22) (⟨Array.empty⟩ : ByteArray))) fun r1 =>
            bif (decide (r0 > r1)) then
              some (Sum.inr (Sum.inl ((List.getD v20 (Int.toNat v22) (⟨Array.empty⟩ : ByteArray)), true, ())))
            else
              some (Sum.inl ((v3_0, v3_1, v3_2, v3_3, ()), (v4_0, v4_1, v4_2, v4_3, ()), v9, v20, v21, (IntKind.wrap .i64 (v22 + (1 : Int))), ()))
      else
        some (Sum.inl ((v3_0, v3_1, v3_2, v3_3, ()), (v4_0, v4_1, v4_2, v4_3, ()), v9, v20, v21, (IntKind.wrap .i64 (v22 + (1 : Int))), ()))
    else
      none
  else
    some (Sum.inr (Sum.inr ()))
theorem impl_FirstOver_l3_eq : loopStep E27 L27_0 (loopOf f27 3) sh27_3 xs27_3 = impl_FirstOver_l3 := by kernel_rfl
theorem loop27_3 {L : Nat → Option LoopD} (h : L 3 = some ⟨sh27_3, xs27_3, impl_FirstOver_l3⟩) : LoopOk prog L (loopOf f27 3) :=
  loopOk (tysOk_of tyl_ok) E27_ok (codeOk_in (L := L27_0) (tysOk_of tyl_ok) E27_ok mixed (c := loopOf f27 3) (bs := []) (by kernel_rfl) allNil (by kernel_rfl)) (by kernel_rfl) (by kernel_rfl) impl_FirstOver_l3_eq (by rw [show firstId (loopOf f27 3) = 3 from by kernel_rfl]; exact h)
noncomputable def L27_1 : Nat → Option LoopD := fun n => ifEq n 3 (some ⟨sh27_3, xs27_3, impl_FirstOver_l3⟩) (L27_0 n)
noncomputable def impl_FirstOver : (Int × ((List Int) × ((List Int) × (List (Int × (ByteArray × (Int × Int))))))) → (Int × ((List Int) × ((List Int) × (List (Int × (ByteArray × (Int × Int))))))) → Int → Option (ByteArray × Bool) := fun (a0_0, a0_1, a0_2, a0_3) (a1_0, a1_1, a1_2, a1_3) a2 =>
  Option.bind (impl_short a2 (List.take 2 (List.drop 0 [(a0_0, a0_1, a0_2, a0_3), (a1_0, a1_1, a1_2, a1_3)]))) fun (r0, r1) =>
    Option.bind (loopF impl_FirstOver_l3 ((a0_0, a0_1, a0_2, a0_3, ()), (a1_0, a1_1, a1_2, a1_3, ()), r1, r0, (((List.length r0) : Nat) : Int), (0 : Int), ())) fun r2 =>
      (match r2 with
      | .inl (d3, d4, _) =>
          some (d3, d4)
      | .inr _ =>
          some ((⟨#[]⟩ : ByteArray), false))
noncomputable def A27 : FnA := ⟨[.v (.pair (.int .i64) (.pair (.sl (.int .i64)) (.pair (.sl (.int .i64)) (.sl (.pair (.int .i64) (.pair .str (.pair (.int .i64) (.int .i64)))))))), .v (.pair (.int .i64) (.pair (.sl (.int .i64)) (.pair (.sl (.int .i64)) (.sl (.pair (.int .i64) (.pair .str (.pair (.int .i64) (.int .i64)))))))), .v (.int .i64)], true, [.str, .bool], fun x => impl_FirstOver x.1 x.2.1 x.2.2.1⟩
theorem impl_FirstOver_eq : fnF E27 L27_1 [.v (.pair (.int .i64) (.pair (.sl (.int .i64)) (.pair (.sl (.int .i64)) (.sl (.pair (.int .i64) (.pair .str (.pair (.int .i64) (.int .i64)))))))), .v (.pair (.int .i64) (.pair (.sl (.int .i64)) (.pair (.sl (.int .i64)) (.sl (.pair (.int .i64) (.pair .str (.pair (.int .i64) (.int .i64)))))))), .v (.int .i64)] true [.str, .bool] f27.ntmps f27.results.toList (codeOf f27) = fun x => impl_FirstOver x.1 x.2.1 x.2.2.1 := by kernel_rfl
theorem A27_ok : FnOk prog 27 A27 := by
  have h := fnOk_of_run (P := prog) (E := E27) (tysOk_of tyl_ok) E27_ok (L := L27_1) (ps := [.v (.pair (.int .i64) (.pair (.sl (.int .i64)) (.pair (.sl (.int .i64)) (.sl (.pair (.int .i64) (.pair .str (.pair (.int .i64) (.int .i64)))))))), .v (.pair (.int .i64) (.pair (.sl (.int .i64)) (.pair (.sl (.int .i64)) (.sl (.pair (.int .i64) (.pair .str (.pair (.int .i64) (.int .i64)))))))), .v (.int .i64)]) (own := true) (outs := [.str, .bool]) func27 (c := codeOf f27) (by kernel_rfl) (codeOk_in (L := L27_1) (tysOk_of tyl_ok) E27_ok mixed (c := codeOf f27) (bs := [loopOf f27 3]) (by kernel_rfl) (allCons (loop27_3 rfl) allNil) (by kernel_rfl))
  rw [impl_FirstOver_eq] at h
  exact h
/-! laws.FnExactFirstOver -/
noncomputable def E6 : Env := ⟨ty0, fun g => ifEq g 21 (some A21) (ifEq g 23 (some A23) (ifEq g 26 (some A26) (ifEq g 27 (some A27) (ifEq g 25 (some A25) (none))))), fun _ => none, fun _ => none⟩
theorem E6_ok : FnsOk prog E6 := (oneFn A21_ok func21 (by kernel_rfl) (by kernel_rfl) (oneFn A23_ok func23 (by kernel_rfl) (by kernel_rfl) (oneFn A26_ok func26 (by kernel_rfl) (by kernel_rfl) (oneFn A27_ok func27 (by kernel_rfl) (by kernel_rfl) (oneFn A25_ok func25 (by kernel_rfl) (by kernel_rfl) (noFns _ _))))))
noncomputable def L6_0 : Nat → Option LoopD := fun _ => none
noncomputable def laws_FnExactFirstOver : (Int × ((List Int) × ((List Int) × (List (Int × (ByteArray × (Int × Int))))))) → (Int × ((List Int) × ((List Int) × (List (Int × (ByteArray × (Int × Int))))))) → Int → Option (Bool) := fun (a0_0, a0_1, a0_2, a0_3) (a1_0, a1_1, a1_2, a1_3) a2 =>
  Option.bind (laws_szAutomaton (a0_0, a0_1, a0_2, a0_3) (1048576 : Int)) fun r0 =>
    bif (decide (r0 < (0 : Int))) then
      some true
    else
      Option.bind (laws_szAutomaton (a1_0, a1_1, a1_2, a1_3) r0) fun r1 =>
        bif (decide (r1 < (0 : Int))) then
          some true
        else
          Option.bind (laws_toAutomaton (a0_0, a0_1, a0_2, a0_3)) fun (r2, r3, r4, r5) =>
            Option.bind (laws_toAutomaton (a1_0, a1_1, a1_2, a1_3)) fun (r6, r7, r8, r9) =>
              Option.bind (spec_FirstOver (r2, (List.take (List.length r3) (List.drop 0 r3)), (List.take (List.length r4) (List.drop 0 r4)), (List.take (List.length r5) (List.drop 0 r5))) (r6, (List.take (List.length r7) (List.drop 0 r7)), (List.take (List.length r8) (List.drop 0 r8)), (List.take (List.length r9) (List.drop 0 r9))) a2) fun (r10, r11) =>
                Option.bind (laws_toAutomaton (a0_0, a0_1, a0_2, a0_3)) fun (r12, r13, r14, r15) =>
                  Option.bind (laws_toAutomaton (a1_0, a1_1, a1_2, a1_3)) fun (r16, r17, r18, r19) =>
                    Option.bind (impl_FirstOver (r12, (List.take (List.length r13) (List.drop 0 r13)), (List.take (List.length r14) (List.drop 0 r14)), (List.take (List.length r15) (List.drop 0 r15))) (r16, (List.take (List.length r17) (List.drop 0 r17)), (List.take (List.length r18) (List.drop 0 r18)), (List.take (List.length r19) (List.drop 0 r19))) a2) fun (r20, r21) =>
                      bif (!((ByteArray.toList r20) == (ByteArray.toList r10))) then
                        some false
                      else
                        bif (!(r21 == r11)) then
                          some false
                        else
                          Option.bind (laws_toAutomaton (a0_0, a0_1, a0_2, a0_3)) fun (r22, r23, r24, r25) =>
                            Option.bind (laws_eqAutomaton (r12, (List.take (List.length r13) (List.drop 0 r13)), (List.take (List.length r14) (List.drop 0 r14)), (List.take (List.length r15) (List.drop 0 r15))) (r22, (List.take (List.length r23) (List.drop 0 r23)), (List.take (List.length r24) (List.drop 0 r24)), (List.take (List.length r25) (List.drop 0 r25)))) fun r26 =>
                              bif (!r26) then
                                some false
                              else
                                Option.bind (laws_toAutomaton (a1_0, a1_1, a1_2, a1_3)) fun (r27, r28, r29, r30) =>
                                  Option.bind (laws_eqAutomaton (r16, (List.take (List.length r17) (List.drop 0 r17)), (List.take (List.length r18) (List.drop 0 r18)), (List.take (List.length r19) (List.drop 0 r19))) (r27, (List.take (List.length r28) (List.drop 0 r28)), (List.take (List.length r29) (List.drop 0 r29)), (List.take (List.length r30) (List.drop 0 r30)))) fun r31 =>
                                    bif (!r31) then
                                      some false
                                    else
                                      some true
noncomputable def A6 : FnA := ⟨[.v (.pair (.int .i64) (.pair (.sl (.int .i64)) (.pair (.sl (.int .i64)) (.sl (.pair (.int .i64) (.pair .str (.pair (.int .i64) (.int .i64)))))))), .v (.pair (.int .i64) (.pair (.sl (.int .i64)) (.pair (.sl (.int .i64)) (.sl (.pair (.int .i64) (.pair .str (.pair (.int .i64) (.int .i64)))))))), .v (.int .i64)], true, [.bool], fun x => laws_FnExactFirstOver x.1 x.2.1 x.2.2.1⟩
theorem laws_FnExactFirstOver_eq : fnF E6 L6_0 [.v (.pair (.int .i64) (.pair (.sl (.int .i64)) (.pair (.sl (.int .i64)) (.sl (.pair (.int .i64) (.pair .str (.pair (.int .i64) (.int .i64)))))))), .v (.pair (.int .i64) (.pair (.sl (.int .i64)) (.pair (.sl (.int .i64)) (.sl (.pair (.int .i64) (.pair .str (.pair (.int .i64) (.int .i64)))))))), .v (.int .i64)] true [.bool] f6.ntmps f6.results.toList (codeOf f6) = fun x => laws_FnExactFirstOver x.1 x.2.1 x.2.2.1 := by kernel_rfl
theorem A6_ok : FnOk prog 6 A6 := by
  have h := fnOk_of_run (P := prog) (E := E6) (tysOk_of tyl_ok) E6_ok (L := L6_0) (ps := [.v (.pair (.int .i64) (.pair (.sl (.int .i64)) (.pair (.sl (.int .i64)) (.sl (.pair (.int .i64) (.pair .str (.pair (.int .i64) (.int .i64)))))))), .v (.pair (.int .i64) (.pair (.sl (.int .i64)) (.pair (.sl (.int .i64)) (.sl (.pair (.int .i64) (.pair .str (.pair (.int .i64) (.int .i64)))))))), .v (.int .i64)]) (own := true) (outs := [.bool]) func6 (c := codeOf f6) (by kernel_rfl) (codeOk_in (L := L6_0) (tysOk_of tyl_ok) E6_ok mixed (c := codeOf f6) (bs := []) (by kernel_rfl) allNil (by kernel_rfl))
  rw [laws_FnExactFirstOver_eq] at h
  exact h
/-! spec.SameCosts -/
noncomputable def E28 : Env := ⟨ty0, fun g => ifEq g 26 (some A26) (ifEq g 53 (some A53) (none)), fun _ => none, fun _ => none⟩
theorem E28_ok : FnsOk prog E28 := (oneFn A26_ok func26 (by kernel_rfl) (by kernel_rfl) (oneFn A53_ok func53 (by kernel_rfl) (by kernel_rfl) (noFns _ _)))
noncomputable def L28_0 : Nat → Option LoopD := fun _ => none
noncomputable def spec_SameCosts : (Int × ((List Int) × ((List Int) × (List (Int × (ByteArray × (Int × Int))))))) → (Int × ((List Int) × ((List Int) × (List (Int × (ByteArray × (Int × Int))))))) → Int → Option (Bool) := fun (a0_0, a0_1, a0_2, a0_3) (a1_0, a1_1, a1_2, a1_3) a2 =>
  Option.bind (spec_FirstOver (a0_0, a0_1, a0_2, a0_3) (a1_0, a1_1, a1_2, a1_3) a2) fun (r0, r1) =>
    Option.bind (spec_FirstOver (a1_0, a1_1, a1_2, a1_3) (a0_0, a0_1, a0_2, a0_3) a2) fun (r2, r3) =>
      Option.bind (spec_l11Short (a0_0, a0_1, a0_2, a0_3) a2) fun r4 =>
        bif r4 then
          Option.bind (spec_l11Short (a1_0, a1_1, a1_2, a1_3) a2) fun r5 =>
            bif r5 then
              bif (!r1) then
                some (!r3)
              else
                some false
            else
              some false
        else
          some false
noncomputable def A28 : FnA := ⟨[.v (.pair (.int .i64) (.pair (.sl (.int .i64)) (.pair (.sl (.int .i64)) (.sl (.pair (.int .i64) (.pair .str (.pair (.int .i64) (.int .i64)))))))), .v (.pair (.int .i64) (.pair (.sl (.int .i64)) (.pair (.sl (.int .i64)) (.sl (.pair (.int .i64) (.pair .str (.pair (.int .i64) (.int .i64)))))))), .v (.int .i64)], true, [.bool], fun x => spec_SameCosts x.1 x.2.1 x.2.2.1⟩
theorem spec_SameCosts_eq : fnF E28 L28_0 [.v (.pair (.int .i64) (.pair (.sl (.int .i64)) (.pair (.sl (.int .i64)) (.sl (.pair (.int .i64) (.pair .str (.pair (.int .i64) (.int .i64)))))))), .v (.pair (.int .i64) (.pair (.sl (.int .i64)) (.pair (.sl (.int .i64)) (.sl (.pair (.int .i64) (.pair .str (.pair (.int .i64) (.int .i64)))))))), .v (.int .i64)] true [.bool] f28.ntmps f28.results.toList (codeOf f28) = fun x => spec_SameCosts x.1 x.2.1 x.2.2.1 := by kernel_rfl
theorem A28_ok : FnOk prog 28 A28 := by
  have h := fnOk_of_run (P := prog) (E := E28) (tysOk_of tyl_ok) E28_ok (L := L28_0) (ps := [.v (.pair (.int .i64) (.pair (.sl (.int .i64)) (.pair (.sl (.int .i64)) (.sl (.pair (.int .i64) (.pair .str (.pair (.int .i64) (.int .i64)))))))), .v (.pair (.int .i64) (.pair (.sl (.int .i64)) (.pair (.sl (.int .i64)) (.sl (.pair (.int .i64) (.pair .str (.pair (.int .i64) (.int .i64)))))))), .v (.int .i64)]) (own := true) (outs := [.bool]) func28 (c := codeOf f28) (by kernel_rfl) (codeOk_in (L := L28_0) (tysOk_of tyl_ok) E28_ok mixed (c := codeOf f28) (bs := []) (by kernel_rfl) allNil (by kernel_rfl))
  rw [spec_SameCosts_eq] at h
  exact h
/-! impl.SameCosts -/
noncomputable def E29 : Env := ⟨ty0, fun g => ifEq g 58 (some A58) (ifEq g 59 (some A59) (none)), fun _ => none, fun _ => none⟩
theorem E29_ok : FnsOk prog E29 := (oneFn A58_ok func58 (by kernel_rfl) (by kernel_rfl) (oneFn A59_ok func59 (by kernel_rfl) (by kernel_rfl) (noFns _ _)))
noncomputable def L29_0 : Nat → Option LoopD := fun _ => none
def sh29_3 : List Fm := [d, d, d, .box 100300 [.val (.int .i64), .val (.sl (.int .i64)), .val (.sl (.int .i64)), .val (.sl (.pair (.int .i64) (.pair .str (.pair (.int .i64) (.int .i64)))))], .box 100400 [.val (.int .i64), .val (.sl (.int .i64)), .val (.sl (.int .i64)), .val (.sl (.pair (.int .i64) (.pair .str (.pair (.int .i64) (.int .i64)))))], d, d, d, .cell (.val .bool), d, d, d, d, d, d, d, d, d, d, .cell (.val (.sl .str)), .cell (.val (.int .i64)), .cell (.val (.int .i64)), d, d, d, d, d, d, d, d, d, d, d, d, d, d, d]
def xs29_3 : List (Ex × List Fm) := [(.ret, [d, d, d, d, d, d, .cell (.val .bool), d, d, d, d, d, d, d, d, d, d, d, d, d, d, d, d, d, d, d, d, d, d, d, d, d, d, d, d, d, d]), (.exit 0, [d, d, d, d, d, d, d, d, .cell (.val .bool), d, d, d, d, d, d, d, d, d, d, d, d, d, d, d, d, d, d, d, d, d, d, d, d, d, d, d, d])]
noncomputable def impl_SameCosts_l3 : ((Int × (List Int) × (List Int) × (List (Int × (ByteArray × (Int × Int)))) × Unit) × (Int × (List Int) × (List Int) × (List (Int × (ByteArray × (Int × Int)))) × Unit) × Bool × (List ByteArray) × Int × Int × Unit) → Option (((Int × (List Int) × (List Int) × (List (Int × (ByteArray × (Int × Int)))) × Unit) × (Int × (List Int) × (List Int) × (List (Int × (ByteArray × (Int × Int)))) × Unit) × Bool × (List ByteArray) × Int × Int × Unit) ⊕ ((Bool × Unit) ⊕ (Bool × Unit))) := fun ((v3_0, v3_1, v3_2, v3_3, _), (v4_0, v4_1, v4_2, v4_3, _), v8, v19, v20, v21, _) =>
  bif (decide (v21 < v20)) then
    if (((0 : Int) ≤ v21) ∧ (v21 < (((List.length v19) : Nat) : Int))) then
      bif v8 then
        Option.bind (impl_CostOf (v3_0, v3_1, v3_2, v3_3) (List.getD v19 (Int.toNat v21) (⟨Array.empty⟩ : ByteArray))) fun r0 =>
          Option.bind (impl_CostOf (v4_0, v4_1, v4_2, v4_3) (List.getD v19 (Int.toNat v21) (⟨Array.empty⟩ : ByteArray))) fun r1 =>
            bif (r0 != r1) then
              some (Sum.inr (Sum.inl (false, ())))
            else
              some (Sum.inl ((v3_0, v3_1, v3_2, v3_3, ()), (v4_0, v4_1, v4_2, v4_3, ()), v8, v19, v20, (IntKind.wrap .i64 (v21 + (1 : Int))), ()))
      else
        some (Sum.inl ((v3_0, v3_1, v3_2, v3_3, ()), (v4_0, v4_1, v4_2, v4_3, ()), v8, v19, v20, (IntKind.wrap .i64 (v21 + (1 : Int))), ()))
    else
      none
  else
    some (Sum.inr (Sum.inr (v8, ())))
theorem impl_SameCosts_l3_eq : loopStep E29 L29_0 (loopOf f29 3) sh29_3 xs29_3 = impl_SameCosts_l3 := by kernel_rfl
theorem loop29_3 {L : Nat → Option LoopD} (h : L 3 = some ⟨sh29_3, xs29_3, impl_SameCosts_l3⟩) : LoopOk prog L (loopOf f29 3) :=
  loopOk (tysOk_of tyl_ok) E29_ok (codeOk_in (L := L29_0) (tysOk_of tyl_ok) E29_ok mixed (c := loopOf f29 3) (bs := []) (by kernel_rfl) allNil (by kernel_rfl)) (by kernel_rfl) (by kernel_rfl) impl_SameCosts_l3_eq (by rw [show firstId (loopOf f29 3) = 3 from by kernel_rfl]; exact h)
noncomputable def L29_1 : Nat → Option LoopD := fun n => ifEq n 3 (some ⟨sh29_3, xs29_3, impl_SameCosts_l3⟩) (L29_0 n)
noncomputable def impl_SameCosts : (Int × ((List Int) × ((List Int) × (List (Int × (ByteArray × (Int × Int))))))) → (Int × ((List Int) × ((List Int) × (List (Int × (ByteArray × (Int × Int))))))) → Int → Option (Bool) := fun (a0_0, a0_1, a0_2, a0_3) (a1_0, a1_1, a1_2, a1_3) a2 =>
  Option.bind (impl_short a2 (List.take 2 (List.drop 0 [(a0_0, a0_1, a0_2, a0_3), (a1_0, a1_1, a1_2, a1_3)]))) fun (r0, r1) =>
    Option.bind (loopF impl_SameCosts_l3 ((a0_0, a0_1, a0_2, a0_3, ()), (a1_0, a1_1, a1_2, a1_3, ()), r1, r0, (((List.length r0) : Nat) : Int), (0 : Int), ())) fun r2 =>
      (match r2 with
      | .inl (d3, _) =>
          some d3
      | .inr (d4, _) =>
          some d4)
noncomputable def A29 : FnA := ⟨[.v (.pair (.int .i64) (.pair (.sl (.int .i64)) (.pair (.sl (.int .i64)) (.sl (.pair (.int .i64) (.pair .str (.pair (.int .i64) (.int .i64)))))))), .v (.pair (.int .i64) (.pair (.sl (.int .i64)) (.pair (.sl (.int .i64)) (.sl (.pair (.int .i64) (.pair .str (.pair (.int .i64) (.int .i64)))))))), .v (.int .i64)], true, [.bool], fun x => impl_SameCosts x.1 x.2.1 x.2.2.1⟩
theorem impl_SameCosts_eq : fnF E29 L29_1 [.v (.pair (.int .i64) (.pair (.sl (.int .i64)) (.pair (.sl (.int .i64)) (.sl (.pair (.int .i64) (.pair .str (.pair (.int .i64) (.int .i64)))))))), .v (.pair (.int .i64) (.pair (.sl (.int .i64)) (.pair (.sl (.int .i64)) (.sl (.pair (.int .i64) (.pair .str (.pair (.int .i64) (.int .i64)))))))), .v (.int .i64)] true [.bool] f29.ntmps f29.results.toList (codeOf f29) = fun x => impl_SameCosts x.1 x.2.1 x.2.2.1 := by kernel_rfl
theorem A29_ok : FnOk prog 29 A29 := by
  have h := fnOk_of_run (P := prog) (E := E29) (tysOk_of tyl_ok) E29_ok (L := L29_1) (ps := [.v (.pair (.int .i64) (.pair (.sl (.int .i64)) (.pair (.sl (.int .i64)) (.sl (.pair (.int .i64) (.pair .str (.pair (.int .i64) (.int .i64)))))))), .v (.pair (.int .i64) (.pair (.sl (.int .i64)) (.pair (.sl (.int .i64)) (.sl (.pair (.int .i64) (.pair .str (.pair (.int .i64) (.int .i64)))))))), .v (.int .i64)]) (own := true) (outs := [.bool]) func29 (c := codeOf f29) (by kernel_rfl) (codeOk_in (L := L29_1) (tysOk_of tyl_ok) E29_ok mixed (c := codeOf f29) (bs := [loopOf f29 3]) (by kernel_rfl) (allCons (loop29_3 rfl) allNil) (by kernel_rfl))
  rw [impl_SameCosts_eq] at h
  exact h
/-! laws.FnExactSameCosts -/
noncomputable def E7 : Env := ⟨ty0, fun g => ifEq g 21 (some A21) (ifEq g 23 (some A23) (ifEq g 28 (some A28) (ifEq g 29 (some A29) (ifEq g 25 (some A25) (none))))), fun _ => none, fun _ => none⟩
theorem E7_ok : FnsOk prog E7 := (oneFn A21_ok func21 (by kernel_rfl) (by kernel_rfl) (oneFn A23_ok func23 (by kernel_rfl) (by kernel_rfl) (oneFn A28_ok func28 (by kernel_rfl) (by kernel_rfl) (oneFn A29_ok func29 (by kernel_rfl) (by kernel_rfl) (oneFn A25_ok func25 (by kernel_rfl) (by kernel_rfl) (noFns _ _))))))
noncomputable def L7_0 : Nat → Option LoopD := fun _ => none
noncomputable def laws_FnExactSameCosts : (Int × ((List Int) × ((List Int) × (List (Int × (ByteArray × (Int × Int))))))) → (Int × ((List Int) × ((List Int) × (List (Int × (ByteArray × (Int × Int))))))) → Int → Option (Bool) := fun (a0_0, a0_1, a0_2, a0_3) (a1_0, a1_1, a1_2, a1_3) a2 =>
  Option.bind (laws_szAutomaton (a0_0, a0_1, a0_2, a0_3) (1048576 : Int)) fun r0 =>
    bif (decide (r0 < (0 : Int))) then
      some true
    else
      Option.bind (laws_szAutomaton (a1_0, a1_1, a1_2, a1_3) r0) fun r1 =>
        bif (decide (r1 < (0 : Int))) then
          some true
        else
          Option.bind (laws_toAutomaton (a0_0, a0_1, a0_2, a0_3)) fun (r2, r3, r4, r5) =>
            Option.bind (laws_toAutomaton (a1_0, a1_1, a1_2, a1_3)) fun (r6, r7, r8, r9) =>
              Option.bind (spec_SameCosts (r2, (List.take (List.length r3) (List.drop 0 r3)), (List.take (List.length r4) (List.drop 0 r4)), (List.take (List.length r5) (List.drop 0 r5))) (r6, (List.take (List.length r7) (List.drop 0 r7)), (List.take (List.length r8) (List.drop 0 r8)), (List.take (List.length r9) (List.drop 0 r9))) a2) fun r10 =>
                Option.bind (laws_toAutomaton (a0_0, a0_1, a0_2, a0_3)) fun (r11, r12, r13, r14) =>
                  Option.bind (laws_toAutomaton (a1_0, a1_1, a1_2, a1_3)) fun (r15, r16, r17, r18) =>
                    Option.bind (impl_SameCosts (r11, (List.take (List.length r12) (List.drop 0 r12)), (List.take (List.length r13) (List.drop 0 r13)), (List.take (List.length r14) (List.drop 0 r14))) (r15, (List.take (List.length r16) (List.drop 0 r16)), (List.take (List.length r17) (List.drop 0 r17)), (List.take (List.length r18) (List.drop 0 r18))) a2) fun r19 =>
                      bif (!(r19 == r10)) then
                        some false
                      else
                        Option.bind (laws_toAutomaton (a0_0, a0_1, a0_2, a0_3)) fun (r20, r21, r22, r23) =>
                          Option.bind (laws_eqAutomaton (r11, (List.take (List.length r12) (List.drop 0 r12)), (List.take (List.length r13) (List.drop 0 r13)), (List.take (List.length r14) (List.drop 0 r14))) (r20, (List.take (List.length r21) (List.drop 0 r21)), (List.take (List.length r22) (List.drop 0 r22)), (List.take (List.length r23) (List.drop 0 r23)))) fun r24 =>
                            bif (!r24) then
                              some false
                            else
                              Option.bind (laws_toAutomaton (a1_0, a1_1, a1_2, a1_3)) fun (r25, r26, r27, r28) =>
                                Option.bind (laws_eqAutomaton (r15, (List.take (List.length r16) (List.drop 0 r16)), (List.take (List.length r17) (List.drop 0 r17)), (List.take (List.length r18) (List.drop 0 r18))) (r25, (List.take (List.length r26) (List.drop 0 r26)), (List.take (List.length r27) (List.drop 0 r27)), (List.take (List.length r28) (List.drop 0 r28)))) fun r29 =>
                                  bif (!r29) then
                                    some false
                                  else
                                    some true
noncomputable def A7 : FnA := ⟨[.v (.pair (.int .i64) (.pair (.sl (.int .i64)) (.pair (.sl (.int .i64)) (.sl (.pair (.int .i64) (.pair .str (.pair (.int .i64) (.int .i64)))))))), .v (.pair (.int .i64) (.pair (.sl (.int .i64)) (.pair (.sl (.int .i64)) (.sl (.pair (.int .i64) (.pair .str (.pair (.int .i64) (.int .i64)))))))), .v (.int .i64)], true, [.bool], fun x => laws_FnExactSameCosts x.1 x.2.1 x.2.2.1⟩
theorem laws_FnExactSameCosts_eq : fnF E7 L7_0 [.v (.pair (.int .i64) (.pair (.sl (.int .i64)) (.pair (.sl (.int .i64)) (.sl (.pair (.int .i64) (.pair .str (.pair (.int .i64) (.int .i64)))))))), .v (.pair (.int .i64) (.pair (.sl (.int .i64)) (.pair (.sl (.int .i64)) (.sl (.pair (.int .i64) (.pair .str (.pair (.int .i64) (.int .i64)))))))), .v (.int .i64)] true [.bool] f7.ntmps f7.results.toList (codeOf f7) = fun x => laws_FnExactSameCosts x.1 x.2.1 x.2.2.1 := by kernel_rfl
theorem A7_ok : FnOk prog 7 A7 := by
  have h := fnOk_of_run (P := prog) (E := E7) (tysOk_of tyl_ok) E7_ok (L := L7_0) (ps := [.v (.pair (.int .i64) (.pair (.sl (.int .i64)) (.pair (.sl (.int .i64)) (.sl (.pair (.int .i64) (.pair .str (.pair (.int .i64) (.int .i64)))))))), .v (.pair (.int .i64) (.pair (.sl (.int .i64)) (.pair (.sl (.int .i64)) (.sl (.pair (.int .i64) (.pair .str (.pair (.int .i64) (.int .i64)))))))), .v (.int .i64)]) (own := true) (outs := [.bool]) func7 (c := codeOf f7) (by kernel_rfl) (codeOk_in (L := L7_0) (tysOk_of tyl_ok) E7_ok mixed (c := codeOf f7) (bs := []) (by kernel_rfl) allNil (by kernel_rfl))
  rw [laws_FnExactSameCosts_eq] at h
  exact h
/-! spec.WordValid -/
noncomputable def E87 : Env := ⟨ty0, fun _ => none, fun _ => none, fun _ => none⟩
theorem E87_ok : FnsOk prog E87 := (noFns _ _)
noncomputable def L87_0 : Nat → Option LoopD := fun _ => none
def sh87_2 : List Fm := [.cell (.val .str), d, d, d, d, .cell (.val (.int .i64)), .cell (.val (.int .i64)), d, d, d, d, d, d, d, d, d, d, d, d, d, d, d, d]
def xs87_2 : List (Ex × List Fm) := [(.ret, [d, d, .cell (.val .bool), d, d, d, d, d, d, d, d, d, d, d, d, d, d, d, d, d, d, d, d]), (.exit 0, [.cell (.val .str), d, d, d, d, d, d, d, d, d, d, d, d, d, d, d, d, d, d, d, d, d, d])]
noncomputable def spec_WordValid_l2 : (ByteArray × Int × Int × Unit) → Option ((ByteArray × Int × Int × Unit) ⊕ ((Bool × Unit) ⊕ (ByteArray × Unit))) := fun (v0, v5, v6, _) =>
  bif (decide (v6 < v5)) then
    if (((0 : Int) ≤ v6) ∧ (v6 < (((ByteArray.size v0) : Nat) : Int))) then
      bif ((((UInt8.toNat (Array.getD (ByteArray.data v0) (Int.toNat v6) (0 : UInt8))) : Nat) : Int) != (97 : Int)) then
        if (((0 : Int) ≤ v6) ∧ (v6 < (((ByteArray.size v0) : Nat) : Int))) then
          bif ((((UInt8.toNat (Array.getD (ByteArray.data v0) (Int.toNat v6) (0 : UInt8))) : Nat) : Int) != (98 : Int)) then
            some (Sum.inr (Sum.inl (false, ())))
          else
            some (Sum.inl (v0, v5, (IntKind.wrap .i64 (v6 + (1 : Int))), ()))
        else
          none
      else
        some (Sum.inl (v0, v5, (IntKind.wrap .i64 (v6 + (1 : Int))), ()))
    else
      none
  else
    some (Sum.inr (Sum.inr (v0, ())))
theorem spec_WordValid_l2_eq : loopStep E87 L87_0 (loopOf f87 2) sh87_2 xs87_2 = spec_WordValid_l2 := by kernel_rfl
theorem loop87_2 {L : Nat → Option LoopD} (h : L 2 = some ⟨sh87_2, xs87_2, spec_WordValid_l2⟩) : LoopOk prog L (loopOf f87 2) :=
  loopOk (tysOk_of tyl_ok) E87_ok (codeOk_in (L := L87_0) (tysOk_of tyl_ok) E87_ok mixed (c := loopOf f87 2) (bs := []) (by kernel_rfl) allNil (by kernel_rfl)) (by kernel_rfl) (by kernel_rfl) spec_WordValid_l2_eq (by rw [show firstId (loopOf f87 2) = 2 from by kernel_rfl]; exact h)
noncomputable def L87_1 : Nat → Option LoopD := fun n => ifEq n 2 (some ⟨sh87_2, xs87_2, spec_WordValid_l2⟩) (L87_0 n)
noncomputable def spec_WordValid : ByteArray → Option (Bool) := fun a0 =>
  Option.bind (loopF spec_WordValid_l2 (a0, (((ByteArray.size a0) : Nat) : Int), (0 : Int), ())) fun r0 =>
    (match r0 with
    | .inl (d1, _) =>
        some d1
    | .inr (d2, _) =>
        some (decide ((((ByteArray.size d2) : Nat) : Int) ≤ (1000 : Int))))
noncomputable def A87 : FnA := ⟨[.v .str], true, [.bool], fun x => spec_WordValid x.1⟩
theorem spec_WordValid_eq : fnF E87 L87_1 [.v .str] true [.bool] f87.ntmps f87.results.toList (codeOf f87) = fun x => spec_WordValid x.1 := by kernel_rfl
theorem A87_ok : FnOk prog 87 A87 := by
  have h := fnOk_of_run (P := prog) (E := E87) (tysOk_of tyl_ok) E87_ok (L := L87_1) (ps := [.v .str]) (own := true) (outs := [.bool]) func87 (c := codeOf f87) (by kernel_rfl) (codeOk_in (L := L87_1) (tysOk_of tyl_ok) E87_ok mixed (c := codeOf f87) (bs := [loopOf f87 2]) (by kernel_rfl) (allCons (loop87_2 rfl) allNil) (by kernel_rfl))
  rw [spec_WordValid_eq] at h
  exact h
/-! spec.l4Asked -/
noncomputable def E62 : Env := ⟨ty0, fun g => ifEq g 66 (some A66) (ifEq g 87 (some A87) (none)), fun _ => none, fun _ => none⟩
theorem E62_ok : FnsOk prog E62 := (oneFn A66_ok func66 (by kernel_rfl) (by kernel_rfl) (oneFn A87_ok func87 (by kernel_rfl) (by kernel_rfl) (noFns _ _)))
noncomputable def L62_0 : Nat → Option LoopD := fun _ => none
noncomputable def spec_l4Asked : (Int × ((List Int) × ((List Int) × (List (Int × (ByteArray × (Int × Int))))))) → ByteArray → Option (Bool) := fun (a0_0, a0_1, a0_2, a0_3) a1 =>
  Option.bind (spec_AutomatonValid (a0_0, a0_1, a0_2, a0_3)) fun r0 =>
    bif r0 then
      Option.bind (spec_WordValid a1) fun r1 =>
        some r1
    else
      some false
noncomputable def A62 : FnA := ⟨[.v (.pair (.int .i64) (.pair (.sl (.int .i64)) (.pair (.sl (.int .i64)) (.sl (.pair (.int .i64) (.pair .str (.pair (.int .i64) (.int .i64)))))))), .v .str], true, [.bool], fun x => spec_l4Asked x.1 x.2.1⟩
theorem spec_l4Asked_eq : fnF E62 L62_0 [.v (.pair (.int .i64) (.pair (.sl (.int .i64)) (.pair (.sl (.int .i64)) (.sl (.pair (.int .i64) (.pair .str (.pair (.int .i64) (.int .i64)))))))), .v .str] true [.bool] f62.ntmps f62.results.toList (codeOf f62) = fun x => spec_l4Asked x.1 x.2.1 := by kernel_rfl
theorem A62_ok : FnOk prog 62 A62 := by
  have h := fnOk_of_run (P := prog) (E := E62) (tysOk_of tyl_ok) E62_ok (L := L62_0) (ps := [.v (.pair (.int .i64) (.pair (.sl (.int .i64)) (.pair (.sl (.int .i64)) (.sl (.pair (.int .i64) (.pair .str (.pair (.int .i64) (.int .i64)))))))), .v .str]) (own := true) (outs := [.bool]) func62 (c := codeOf f62) (by kernel_rfl) (codeOk_in (L := L62_0) (tysOk_of tyl_ok) E62_ok mixed (c := codeOf f62) (bs := []) (by kernel_rfl) allNil (by kernel_rfl))
  rw [spec_l4Asked_eq] at h
  exact h
/-! spec.l10Least -/
noncomputable def E68 : Env := ⟨ty0, fun g => ifEq g 55 (some A55) (ifEq g 94 (some A94) (none)), fun _ => none, fun _ => none⟩
theorem E68_ok : FnsOk prog E68 := (oneFn A55_ok func55 (by kernel_rfl) (by kernel_rfl) (oneFn A94_ok func94 (by kernel_rfl) (by kernel_rfl) (noFns _ _)))
noncomputable def L68_0 : Nat → Option LoopD := fun _ => none
def sh68_7 : List Fm := [d, .cell (.val .str), .box 100200 [.val (.int .i64), .val (.sl (.int .i64)), .val (.sl (.int .i64)), .val (.sl (.pair (.int .i64) (.pair .str (.pair (.int .i64) (.int .i64)))))], d, d, .cell (.own (.int .i64) 100500 false), .cell (.val (.int .i64)), .cell (.val (.int .i64)), d, d, d, d, d, d, d, d, .cell (.val (.int .i64)), .cell (.val (.int .i64)), d, d, d, d, d, d, d, d, d, d, d, d, d, d, d, d, d, d, d, d, d, d]
def xs68_7 : List (Ex × List Fm) := [(.exit 2, [d, .cell (.val .str), .box 100200 [.val (.int .i64), .val (.sl (.int .i64)), .val (.sl (.int .i64)), .val (.sl (.pair (.int .i64) (.pair .str (.pair (.int .i64) (.int .i64)))))], d, d, .cell (.own (.int .i64) 100500 false), .cell (.val (.int .i64)), .cell (.val (.int .i64)), d, d, d, d, d, d, d, d, d, d, d, d, d, d, d, d, d, d, d, d, d, d, d, d, d, d, d, d, d, d, d, d])]
noncomputable def spec_l10Least_l7 : (ByteArray × (Int × (List Int) × (List Int) × (List (Int × (ByteArray × (Int × Int)))) × Unit) × (List Int) × Int × Int × Int × Int × Unit) → Option ((ByteArray × (Int × (List Int) × (List Int) × (List (Int × (ByteArray × (Int × Int)))) × Unit) × (List Int) × Int × Int × Int × Int × Unit) ⊕ ((ByteArray × (Int × (List Int) × (List Int) × (List (Int × (ByteArray × (Int × Int)))) × Unit) × (List Int) × Int × Int × Unit))) := fun (v1, (v2_0, v2_1, v2_2, v2_3, _), v5, v6, v7, v16, v17, _) =>
  bif (decide (v17 < v16)) then
    if (((0 : Int) ≤ v17) ∧ ((v17 ≤ v6) ∧ (v6 ≤ (((ByteArray.size v1) : Nat) : Int)))) then
      Option.bind (spec_l4Cost (v2_0, v2_1, v2_2, v2_3) (ByteArray.extract v1 (Int.toNat v17) (Int.toNat v6))) fun r0 =>
        bif (decide (r0 < (1000000 : Int))) then
          if (((0 : Int) ≤ v17) ∧ (v17 < (((List.length v5) : Nat) : Int))) then
            Option.bind (spec_l1Add (List.getD v5 (0 + (Int.toNat v17)) (0 : Int)) (1 : Int)) fun r1 =>
              some (Sum.inl (v1, (v2_0, v2_1, v2_2, v2_3, ()), (List.take (List.length v5) (List.drop 0 v5)), v6, (if (r1 < v7) then r1 else v7), v16, (IntKind.wrap .i64 (v17 + (1 : Int))), ()))
          else
            none
        else
          some (Sum.inl (v1, (v2_0, v2_1, v2_2, v2_3, ()), (List.take (List.length v5) (List.drop 0 v5)), v6, v7, v16, (IntKind.wrap .i64 (v17 + (1 : Int))), ()))
    else
      none
  else
    some (Sum.inr (v1, (v2_0, v2_1, v2_2, v2_3, ()), (List.take (List.length v5) (List.drop 0 v5)), v6, v7, ()))
theorem spec_l10Least_l7_eq : loopStep E68 L68_0 (loopOf f68 7) sh68_7 xs68_7 = spec_l10Least_l7 := by kernel_rfl
theorem loop68_7 {L : Nat → Option LoopD} (h : L 7 = some ⟨sh68_7, xs68_7, spec_l10Least_l7⟩) : LoopOk prog L (loopOf f68 7) :=
  loopOk (tysOk_of tyl_ok) E68_ok (codeOk_in (L := L68_0) (tysOk_of tyl_ok) E68_ok mixed (c := loopOf f68 7) (bs := []) (by kernel_rfl) allNil (by kernel_rfl)) (by kernel_rfl) (by kernel_rfl) spec_l10Least_l7_eq (by rw [show firstId (loopOf f68 7) = 7 from by kernel_rfl]; exact h)
noncomputable def L68_1 : Nat → Option LoopD := fun n => ifEq n 7 (some ⟨sh68_7, xs68_7, spec_l10Least_l7⟩) (L68_0 n)
def sh68_3 : List Fm := [d, .cell (.val .str), .box 100200 [.val (.int .i64), .val (.sl (.int .i64)), .val (.sl (.int .i64)), .val (.sl (.pair (.int .i64) (.pair .str (.pair (.int .i64) (.int .i64)))))], d, d, .cell (.own (.int .i64) 100500 false), .cell (.val (.int .i64)), d, d, d, d, d, d, d, d, d, d, d, d, d, d, d, d, d, d, d, d, d, d, d, d, d, d, d, d, d, d, d, d, d]
def xs68_3 : List (Ex × List Fm) := [(.exit 0, [d, d, d, d, d, .cell (.own (.int .i64) 100500 false), d, d, d, d, d, d, d, d, d, d, d, d, d, d, d, d, d, d, d, d, d, d, d, d, d, d, d, d, d, d, d, d, d, d])]
noncomputable def spec_l10Least_l3 : (ByteArray × (Int × (List Int) × (List Int) × (List (Int × (ByteArray × (Int × Int)))) × Unit) × (List Int) × Int × Unit) → Option ((ByteArray × (Int × (List Int) × (List Int) × (List (Int × (ByteArray × (Int × Int)))) × Unit) × (List Int) × Int × Unit) ⊕ (((List Int) × Unit))) := fun (v1, (v2_0, v2_1, v2_2, v2_3, _), v5, v6, _) =>
  bif (decide (v6 ≤ (((ByteArray.size v1) : Nat) : Int))) then
    Option.bind (loopF spec_l10Least_l7 (v1, (v2_0, v2_1, v2_2, v2_3, ()), (List.take (List.length v5) (List.drop 0 v5)), v6, (1000000 : Int), v6, (0 : Int), ())) fun (r0, (r1, r2, r3, r4, _), r5, r6, r7, _) =>
      if (((0 + (List.length r5)) = (List.length r5)) ∧ ((((List.length r5) + (List.length (List.take 1 (List.drop 0 [r7])))) * 8) ≤ 140737488355328)) then
        some (Sum.inl (r0, (r1, r2, r3, r4, ()), (List.take ((List.length r5) + (List.length (List.take 1 (List.drop 0 [r7])))) (List.drop 0 ((List.drop 0 r5) ++ (List.take 1 (List.drop 0 [r7]))))), (IntKind.wrap .i64 (r6 + (1 : Int))), ()))
      else
        none
  else
    some (Sum.inr ((List.take (List.length v5) (List.drop 0 v5)), ()))
theorem spec_l10Least_l3_eq : loopStep E68 L68_1 (loopOf f68 3) sh68_3 xs68_3 = spec_l10Least_l3 := by kernel_rfl
theorem loop68_3 {L : Nat → Option LoopD} (h : L 3 = some ⟨sh68_3, xs68_3, spec_l10Least_l3⟩) : LoopOk prog L (loopOf f68 3) :=
  loopOk (tysOk_of tyl_ok) E68_ok (codeOk_in (L := L68_1) (tysOk_of tyl_ok) E68_ok mixed (c := loopOf f68 3) (bs := [loopOf f68 7]) (by kernel_rfl) (allCons (loop68_7 rfl) allNil) (by kernel_rfl)) (by kernel_rfl) (by kernel_rfl) spec_l10Least_l3_eq (by rw [show firstId (loopOf f68 3) = 3 from by kernel_rfl]; exact h)
noncomputable def L68_2 : Nat → Option LoopD := fun n => ifEq n 3 (some ⟨sh68_3, xs68_3, spec_l10Least_l3⟩) (L68_1 n)
noncomputable def spec_l10Least : (Int × ((List Int) × ((List Int) × (List (Int × (ByteArray × (Int × Int))))))) → ByteArray → Option ((List Int)) := fun (a0_0, a0_1, a0_2, a0_3) a1 =>
  Option.bind (loopF spec_l10Least_l3 (a1, (a0_0, a0_1, a0_2, a0_3, ()), (List.take 1 (List.drop 0 [(0 : Int)])), (1 : Int), ())) fun (r0, _) =>
    some (List.take (List.length r0) (List.drop 0 r0))
noncomputable def A68 : FnA := ⟨[.v (.pair (.int .i64) (.pair (.sl (.int .i64)) (.pair (.sl (.int .i64)) (.sl (.pair (.int .i64) (.pair .str (.pair (.int .i64) (.int .i64)))))))), .v .str], true, [.sl (.int .i64)], fun x => spec_l10Least x.1 x.2.1⟩
theorem spec_l10Least_eq : fnF E68 L68_2 [.v (.pair (.int .i64) (.pair (.sl (.int .i64)) (.pair (.sl (.int .i64)) (.sl (.pair (.int .i64) (.pair .str (.pair (.int .i64) (.int .i64)))))))), .v .str] true [.sl (.int .i64)] f68.ntmps f68.results.toList (codeOf f68) = fun x => spec_l10Least x.1 x.2.1 := by kernel_rfl
theorem A68_ok : FnOk prog 68 A68 := by
  have h := fnOk_of_run (P := prog) (E := E68) (tysOk_of tyl_ok) E68_ok (L := L68_2) (ps := [.v (.pair (.int .i64) (.pair (.sl (.int .i64)) (.pair (.sl (.int .i64)) (.sl (.pair (.int .i64) (.pair .str (.pair (.int .i64) (.int .i64)))))))), .v .str]) (own := true) (outs := [.sl (.int .i64)]) func68 (c := codeOf f68) (by kernel_rfl) (codeOk_in (L := L68_2) (tysOk_of tyl_ok) E68_ok mixed (c := codeOf f68) (bs := [loopOf f68 3]) (by kernel_rfl) (allCons (loop68_3 rfl) allNil) (by kernel_rfl))
  rw [spec_l10Least_eq] at h
  exact h
end Go.Proofs.Ytcjlhckebkibaaa
