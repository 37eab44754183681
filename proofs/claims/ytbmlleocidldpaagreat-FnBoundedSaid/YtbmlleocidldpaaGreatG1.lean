/- What Go functions that the laws reach compute, and that they do: written by a program of this session. -/
import Derived.Test.YtbmlleocidldpaaGreatG0
import Derived.Test.YtbmlleocidldpaaGreatSort
import Derived.KernelRfl
set_option linter.unusedVariables false
namespace Go.Proofs.YtbmlleocidldpaaGreat
open Go Go.Proofs.YtbmlleocidldpaaGreat.Am Go.Proofs.Tryz
set_option maxRecDepth 100000
/-! spec.l13Open -/
noncomputable def E57 : Env := ⟨ty0, fun _ => none, fun _ => none, fun _ => none, fun _ => none⟩
theorem E57_ok : FnsOk prog E57 := (noFns _ _)
noncomputable def L57_0 : Nat → Option LoopD := fun _ => none
noncomputable def spec_l13Open : (List Int) → Option (((List Int) × Int)) := fun a0 =>
 bif (decide ((((List.length a0) : Nat) : Int) > (2000 : Int))) then
  if (((0 : Int) ≤ (2000 : Int)) ∧ ((2000 : Int) ≤ (((List.length a0) : Nat) : Int))) then
   some ((List.take ((Int.toNat (2000 : Int)) - 0) (List.drop 0 a0)), (0 : Int))
  else
   none
 else
  some (a0, (0 : Int))
noncomputable def A57 : FnB := ⟨[.v (.sl (.int .u8))], .pair (.sl (.int .u8)) (.int .i64), fun x => spec_l13Open x.1⟩
theorem spec_l13Open_eq : fnBF E57 L57_0 [.v (.sl (.int .u8))] (.pair (.sl (.int .u8)) (.int .i64)) f57.ntmps f57.results.toList (codeOf f57) = fun x => spec_l13Open x.1 := by kernel_rfl
theorem A57_ok : FnBOk prog 57 A57 := by
 have h := fnBOk_of_run (P := prog) (E := E57) (tysOk_of tyl_ok) E57_ok (L := L57_0) (ps := [.v (.sl (.int .u8))]) (k := .pair (.sl (.int .u8)) (.int .i64)) func57 (c := codeOf f57) (by kernel_rfl) (codeOk_in (L := L57_0) (tysOk_of tyl_ok) E57_ok mixed (c := codeOf f57) (bs := []) (by kernel_rfl) allNil (by kernel_rfl))
 rw [spec_l13Open_eq] at h
 exact h
/-! (*spec.l13Rd).pick -/
noncomputable def E76 : Env := ⟨ty0, fun _ => none, fun _ => none, fun _ => none, fun _ => none⟩
theorem E76_ok : FnsOk prog E76 := (noFns _ _)
noncomputable def L76_0 : Nat → Option LoopD := fun _ => none
noncomputable def spec_l13Rd_pick : ((List Int) × Int) → Int → Option ((Int) × (((List Int) × Int) × Unit)) := fun (a0_0, a0_1) a1 =>
 bif (decide (a1 < (1 : Int))) then
  some ((0 : Int), (a0_0, (IntKind.wrap .i64 (a0_1 + (1 : Int)))), ())
 else
  bif ((((List.length a0_0) : Nat) : Int) == (0 : Int)) then
   some ((0 : Int), (a0_0, (IntKind.wrap .i64 (a0_1 + (1 : Int)))), ())
  else
   bif (decide ((IntKind.wrap .i64 ((IntKind.wrap .i64 (a0_1 + (1 : Int))) - (1 : Int))) < (((List.length a0_0) : Nat) : Int))) then
    if (((0 : Int) ≤ (IntKind.wrap .i64 ((IntKind.wrap .i64 (a0_1 + (1 : Int))) - (1 : Int)))) ∧ ((IntKind.wrap .i64 ((IntKind.wrap .i64 (a0_1 + (1 : Int))) - (1 : Int))) < (((List.length a0_0) : Nat) : Int))) then
     if (a1 = (0 : Int)) then
      none
     else
      some ((Int.tmod (IntKind.wrap .i64 (List.getD a0_0 (Int.toNat (IntKind.wrap .i64 ((IntKind.wrap .i64 (a0_1 + (1 : Int))) - (1 : Int)))) (0 : Int))) a1), (a0_0, (IntKind.wrap .i64 (a0_1 + (1 : Int)))), ())
    else
     none
   else
    if ((((List.length a0_0) : Nat) : Int) = (0 : Int)) then
     none
    else
     if (((0 : Int) ≤ (Int.tmod (IntKind.wrap .i64 ((IntKind.wrap .i64 (a0_1 + (1 : Int))) - (1 : Int))) (((List.length a0_0) : Nat) : Int))) ∧ ((Int.tmod (IntKind.wrap .i64 ((IntKind.wrap .i64 (a0_1 + (1 : Int))) - (1 : Int))) (((List.length a0_0) : Nat) : Int)) < (((List.length a0_0) : Nat) : Int))) then
      if ((((List.length a0_0) : Nat) : Int) = (0 : Int)) then
       none
      else
       if (((0 : Int) ≤ (Int.tmod (IntKind.wrap .i64 ((IntKind.wrap .i64 ((IntKind.wrap .i64 ((IntKind.wrap .i64 (a0_1 + (1 : Int))) - (1 : Int))) * (7 : Int))) + (3 : Int))) (((List.length a0_0) : Nat) : Int))) ∧ ((Int.tmod (IntKind.wrap .i64 ((IntKind.wrap .i64 ((IntKind.wrap .i64 ((IntKind.wrap .i64 (a0_1 + (1 : Int))) - (1 : Int))) * (7 : Int))) + (3 : Int))) (((List.length a0_0) : Nat) : Int)) < (((List.length a0_0) : Nat) : Int))) then
        if ((((List.length a0_0) : Nat) : Int) = (0 : Int)) then
         none
        else
         if ((64 : Int) = (0 : Int)) then
          none
         else
          if (a1 = (0 : Int)) then
           none
          else
           some ((Int.tmod (Decidable.rec (fun y0 => ((((BitVec.toNat ((BitVec.ofInt (IntKind.bits .i64) (IntKind.wrap .i64 ((IntKind.wrap .i64 ((IntKind.wrap .i64 ((IntKind.wrap .i64 ((IntKind.wrap .i64 (List.getD a0_0 (Int.toNat (Int.tmod (IntKind.wrap .i64 ((IntKind.wrap .i64 (a0_1 + (1 : Int))) - (1 : Int))) (((List.length a0_0) : Nat) : Int))) (0 : Int))) * (131 : Int))) + (IntKind.wrap .i64 ((IntKind.wrap .i64 (List.getD a0_0 (Int.toNat (Int.tmod (IntKind.wrap .i64 ((IntKind.wrap .i64 ((IntKind.wrap .i64 ((IntKind.wrap .i64 (a0_1 + (1 : Int))) - (1 : Int))) * (7 : Int))) + (3 : Int))) (((List.length a0_0) : Nat) : Int))) (0 : Int))) * (1117 : Int))))) + (IntKind.wrap .i64 ((IntKind.wrap .i64 ((IntKind.wrap .i64 (a0_1 + (1 : Int))) - (1 : Int))) * (29 : Int))))) + (IntKind.wrap .i64 ((IntKind.wrap .i64 (Int.tdiv (IntKind.wrap .i64 ((IntKind.wrap .i64 (a0_1 + (1 : Int))) - (1 : Int))) (((List.length a0_0) : Nat) : Int))) * (53 : Int)))))) ^^^ (BitVec.ofInt (IntKind.bits .i64) (IntKind.wrap .i64 (Int.tdiv (IntKind.wrap .i64 ((IntKind.wrap .i64 ((IntKind.wrap .i64 ((IntKind.wrap .i64 ((IntKind.wrap .i64 (List.getD a0_0 (Int.toNat (Int.tmod (IntKind.wrap .i64 ((IntKind.wrap .i64 (a0_1 + (1 : Int))) - (1 : Int))) (((List.length a0_0) : Nat) : Int))) (0 : Int))) * (131 : Int))) + (IntKind.wrap .i64 ((IntKind.wrap .i64 (List.getD a0_0 (Int.toNat (Int.tmod (IntKind.wrap .i64 ((IntKind.wrap .i64 ((IntKind.wrap .i64 ((IntKind.wrap .i64 (a0_1 + (1 : Int))) - (1 : Int))) * (7 : Int))) + (3 : Int))) (((List.length a0_0) : Nat) : Int))) (0 : Int))) * (1117 : Int))))) + (IntKind.wrap .i64 ((IntKind.wrap .i64 ((IntKind.wrap .i64 (a0_1 + (1 : Int))) - (1 : Int))) * (29 : Int))))) + (IntKind.wrap .i64 ((IntKind.wrap .i64 (Int.tdiv (IntKind.wrap .i64 ((IntKind.wrap .i64 (a0_1 + (1 : Int))) - (1 : Int))) (((List.length a0_0) : Nat) : Int))) * (53 : Int))))) (64 : Int)))))) : Nat) : Int) % ((2 : Int) ^ (IntKind.bits .i64)))) (fun y1 => (((((BitVec.toNat ((BitVec.ofInt (IntKind.bits .i64) (IntKind.wrap .i64 ((IntKind.wrap .i64 ((IntKind.wrap .i64 ((IntKind.wrap .i64 ((IntKind.wrap .i64 (List.getD a0_0 (Int.toNat (Int.tmod (IntKind.wrap .i64 ((IntKind.wrap .i64 (a0_1 + (1 : Int))) - (1 : Int))) (((List.length a0_0) : Nat) : Int))) (0 : Int))) * (131 : Int))) + (IntKind.wrap .i64 ((IntKind.wrap .i64 (List.getD a0_0 (Int.toNat (Int.tmod (IntKind.wrap .i64 ((IntKind.wrap .i64 ((IntKind.wrap .i64 ((IntKind.wrap .i64 (a0_1 + (1 : Int))) - (1 : Int))) * (7 : Int))) + (3 : Int))) (((List.length a0_0) : Nat) : Int))) (0 : Int))) * (1117 : Int))))) + (IntKind.wrap .i64 ((IntKind.wrap .i64 ((IntKind.wrap .i64 (a0_1 + (1 : Int))) - (1 : Int))) * (29 : Int))))) + (IntKind.wrap .i64 ((IntKind.wrap .i64 (Int.tdiv (IntKind.wrap .i64 ((IntKind.wrap .i64 (a0_1 + (1 : Int))) - (1 : Int))) (((List.length a0_0) : Nat) : Int))) * (53 : Int)))))) ^^^ (BitVec.ofInt (IntKind.bits .i64) (IntKind.wrap .i64 (Int.tdiv (IntKind.wrap .i64 ((IntKind.wrap .i64 ((IntKind.wrap .i64 ((IntKind.wrap .i64 ((IntKind.wrap .i64 (List.getD a0_0 (Int.toNat (Int.tmod (IntKind.wrap .i64 ((IntKind.wrap .i64 (a0_1 + (1 : Int))) - (1 : Int))) (((List.length a0_0) : Nat) : Int))) (0 : Int))) * (131 : Int))) + (IntKind.wrap .i64 ((IntKind.wrap .i64 (List.getD a0_0 (Int.toNat (Int.tmod (IntKind.wrap .i64 ((IntKind.wrap .i64 ((IntKind.wrap .i64 ((IntKind.wrap .i64 (a0_1 + (1 : Int))) - (1 : Int))) * (7 : Int))) + (3 : Int))) (((List.length a0_0) : Nat) : Int))) (0 : Int))) * (1117 : Int))))) + (IntKind.wrap .i64 ((IntKind.wrap .i64 ((IntKind.wrap .i64 (a0_1 + (1 : Int))) - (1 : Int))) * (29 : Int))))) + (IntKind.wrap .i64 ((IntKind.wrap .i64 (Int.tdiv (IntKind.wrap .i64 ((IntKind.wrap .i64 (a0_1 + (1 : Int))) - (1 : Int))) (((List.length a0_0) : Nat) : Int))) * (53 : Int))))) (64 : Int)))))) : Nat) : Int) % ((2 : Int) ^ (IntKind.bits .i64))) - ((2 : Int) ^ (IntKind.bits .i64)))) (instDecidableEqBool ((IntKind.signed .i64) && (decide (((((BitVec.toNat ((BitVec.ofInt (IntKind.bits .i64) (IntKind.wrap .i64 ((IntKind.wrap .i64 ((IntKind.wrap .i64 ((IntKind.wrap .i64 ((IntKind.wrap .i64 (List.getD a0_0 (Int.toNat (Int.tmod (IntKind.wrap .i64 ((IntKind.wrap .i64 (a0_1 + (1 : Int))) - (1 : Int))) (((List.length a0_0) : Nat) : Int))) (0 : Int))) * (131 : Int))) + (IntKind.wrap .i64 ((IntKind.wrap .i64 (List.getD a0_0 (Int.toNat (Int.tmod (IntKind.wrap .i64 ((IntKind.wrap .i64 ((IntKind.wrap .i64 ((IntKind.wrap .i64 (a0_1 + (1 : Int))) - (1 : Int))) * (7 : Int))) + (3 : Int))) (((List.length a0_0) : Nat) : Int))) (0 : Int))) * (1117 : Int))))) + (IntKind.wrap .i64 ((IntKind.wrap .i64 ((IntKind.wrap .i64 (a0_1 + (1 : Int))) - (1 : Int))) * (29 : Int))))) + (IntKind.wrap .i64 ((IntKind.wrap .i64 (Int.tdiv (IntKind.wrap .i64 ((IntKind.wrap .i64 (a0_1 + (1 : Int))) - (1 : Int))) (((List.length a0_0) : Nat) : Int))) * (53 : Int)))))) ^^^ (BitVec.ofInt (IntKind.bits .i64) (IntKind.wrap .i64 (Int.tdiv (IntKind.wrap .i64 ((IntKind.wrap .i64 ((IntKind.wrap .i64 ((IntKind.wrap .i64 ((IntKind.wrap .i64 (List.getD a0_0 (Int.toNat (Int.tmod (IntKind.wrap .i64 ((IntKind.wrap .i64 (a0_1 + (1 : Int))) - (1 : Int))) (((List.length a0_0) : Nat) : Int))) (0 : Int))) * (131 : Int))) + (IntKind.wrap .i64 ((IntKind.wrap .i64 (List.getD a0_0 (Int.toNat (Int.tmod (IntKind.wrap .i64 ((IntKind.wrap .i64 ((IntKind.wrap .i64 ((IntKind.wrap .i64 (a0_1 + (1 : Int))) - (1 : Int))) * (7 : Int))) + (3 : Int))) (((List.length a0_0) : Nat) : Int))) (0 : Int))) * (1117 : Int))))) + (IntKind.wrap .i64 ((IntKind.wrap .i64 ((IntKind.wrap .i64 (a0_1 + (1 : Int))) - (1 : Int))) * (29 : Int))))) + (IntKind.wrap .i64 ((IntKind.wrap .i64 (Int.tdiv (IntKind.wrap .i64 ((IntKind.wrap .i64 (a0_1 + (1 : Int))) - (1 : Int))) (((List.length a0_0) : Nat) : Int))) * (53 : Int))))) (64 : Int)))))) : Nat) : Int) % ((2 : Int) ^ (IntKind.bits .i64))) ≥ ((2 : Int) ^ ((IntKind.bits .i64) - 1))))) true)) a1), (a0_0, (IntKind.wrap .i64 (a0_1 + (1 : Int)))), ())
       else
        none
     else
      none
noncomputable def A76 : FnM := ⟨[.bx (.pair (.sl (.int .u8)) (.int .i64)), .v (.int .i64)], true, [.int .i64], none, fun x => spec_l13Rd_pick x.1 x.2.1⟩
theorem spec_l13Rd_pick_eq : fnMF E76 L76_0 [.bx (.pair (.sl (.int .u8)) (.int .i64)), .v (.int .i64)] true [.int .i64] f76.ntmps f76.results.toList (codeOf f76) = fun x => spec_l13Rd_pick x.1 x.2.1 := by kernel_rfl
theorem A76_ok : FnMOk prog 76 A76 := by
 have h := fnMOk_of_run (P := prog) (E := E76) (tysOk_of tyl_ok) E76_ok (L := L76_0) (ps := [.bx (.pair (.sl (.int .u8)) (.int .i64)), .v (.int .i64)]) (own := true) (outs := [.int .i64]) func76 (c := codeOf f76) (by kernel_rfl) (codeOk_in (L := L76_0) (tysOk_of tyl_ok) E76_ok mixed (c := codeOf f76) (bs := []) (by kernel_rfl) allNil (by kernel_rfl)) (by kernel_rfl)
 rw [spec_l13Rd_pick_eq] at h
 exact h
/-! spec.l13Cut -/
noncomputable def E196 : Env := ⟨ty0, fun _ => none, fun _ => none, fun _ => none, fun _ => none⟩
theorem E196_ok : FnsOk prog E196 := (noFns _ _)
noncomputable def L196_0 : Nat → Option LoopD := fun _ => none
def sh196_4 : List Fm := .cell (.val .str) :: .cell (.val (.int .u8)) :: d :: d :: d :: .cell (.own .str 100500 false) :: .cell (.val (.int .i64)) :: .cell (.val (.int .i64)) :: D 28 []
def xs196_4 : List (Ex × List Fm) := [(.exit 0, (D 5 (.cell (.own .str 100500 false) :: D 30 [])))]
noncomputable def spec_l13Cut_l4 : (ByteArray × Int × (List ByteArray) × Int × Int × Unit) → Option ((ByteArray × Int × (List ByteArray) × Int × Int × Unit) ⊕ (((List ByteArray) × Unit))) := fun (v0, v1, v5, v6, v7, _) =>
 bif (decide (v7 ≤ (((ByteArray.size v0) : Nat) : Int))) then
  bif (v7 == (((ByteArray.size v0) : Nat) : Int)) then
   if (((0 : Int) ≤ v6) ∧ ((v6 ≤ v7) ∧ (v7 ≤ (((ByteArray.size v0) : Nat) : Int)))) then
    if (((0 + (List.length v5)) = (List.length v5)) ∧ ((((List.length v5) + (List.length (List.take 1 (List.drop 0 [(ByteArray.extract v0 (Int.toNat v6) (Int.toNat v7))])))) * 16) ≤ 140737488355328)) then
     some (Sum.inl (v0, v1, (List.take ((List.length v5) + (List.length (List.take 1 (List.drop 0 [(ByteArray.extract v0 (Int.toNat v6) (Int.toNat v7))])))) (List.drop 0 ((List.drop 0 v5) ++ (List.take 1 (List.drop 0 [(ByteArray.extract v0 (Int.toNat v6) (Int.toNat v7))]))))), (IntKind.wrap .i64 (v7 + (1 : Int))), (IntKind.wrap .i64 (v7 + (1 : Int))), ()))
    else
     none
   else
    none
  else
   if (((0 : Int) ≤ v7) ∧ (v7 < (((ByteArray.size v0) : Nat) : Int))) then
    bif ((((UInt8.toNat (Array.getD (ByteArray.data v0) (Int.toNat v7) (0 : UInt8))) : Nat) : Int) == v1) then
     if (((0 : Int) ≤ v6) ∧ ((v6 ≤ v7) ∧ (v7 ≤ (((ByteArray.size v0) : Nat) : Int)))) then
      if (((0 + (List.length v5)) = (List.length v5)) ∧ ((((List.length v5) + (List.length (List.take 1 (List.drop 0 [(ByteArray.extract v0 (Int.toNat v6) (Int.toNat v7))])))) * 16) ≤ 140737488355328)) then
       some (Sum.inl (v0, v1, (List.take ((List.length v5) + (List.length (List.take 1 (List.drop 0 [(ByteArray.extract v0 (Int.toNat v6) (Int.toNat v7))])))) (List.drop 0 ((List.drop 0 v5) ++ (List.take 1 (List.drop 0 [(ByteArray.extract v0 (Int.toNat v6) (Int.toNat v7))]))))), (IntKind.wrap .i64 (v7 + (1 : Int))), (IntKind.wrap .i64 (v7 + (1 : Int))), ()))
      else
       none
     else
      none
    else
     some (Sum.inl (v0, v1, (List.take (List.length v5) (List.drop 0 v5)), v6, (IntKind.wrap .i64 (v7 + (1 : Int))), ()))
   else
    none
 else
  some (Sum.inr ((List.take (List.length v5) (List.drop 0 v5)), ()))
theorem spec_l13Cut_l4_eq : loopStep 36 E196 L196_0 (loopOf f196 4) sh196_4 xs196_4 = spec_l13Cut_l4 := by kernel_rfl
theorem loop196_4 {L} (h : L 4 = some ⟨36, sh196_4, xs196_4, spec_l13Cut_l4⟩) : LoopOk prog L (loopOf f196 4) := lo spec_l13Cut_l4_eq E196_ok allNil h
noncomputable def L196_1 : Nat → Option LoopD := fun n => ifEq n 4 (some ⟨36, sh196_4, xs196_4, spec_l13Cut_l4⟩) (L196_0 n)
noncomputable def spec_l13Cut : ByteArray → Int → Option ((List ByteArray)) := fun a0 a1 =>
 Option.bind (loopF spec_l13Cut_l4 (a0, a1, (List.take 0 (List.drop 0 [])), (0 : Int), (0 : Int), ())) fun (r0, _) =>
  some (List.take (List.length r0) (List.drop 0 r0))
noncomputable def A196 : FnA := ⟨[.v .str, .v (.int .u8)], true, [.sl .str], fun x => spec_l13Cut x.1 x.2.1⟩
theorem spec_l13Cut_eq : fnF E196 L196_1 [.v .str, .v (.int .u8)] true [.sl .str] f196.ntmps f196.results.toList (codeOf f196) = fun x => spec_l13Cut x.1 x.2.1 := by kernel_rfl
theorem A196_ok : FnOk prog 196 A196 := fo spec_l13Cut_eq func196 E196_ok (allCons (loop196_4 rfl) allNil)
/-! spec.l13Num -/
noncomputable def E197 : Env := ⟨ty0, fun _ => none, fun _ => none, fun _ => none, fun _ => none⟩
theorem E197_ok : FnsOk prog E197 := (noFns _ _)
noncomputable def L197_0 : Nat → Option LoopD := fun _ => none
def sh197_8 : List Fm := .cell (.val .str) :: d :: d :: d :: .cell (.val .bool) :: .cell (.val (.int .i64)) :: .cell (.val (.int .i64)) :: D 60 []
def xs197_8 : List (Ex × List Fm) := [(.ret, (d :: d :: .cell (.val (.int .i64)) :: .cell (.val .bool) :: D 63 [])), (.exit 0, (D 4 (.cell (.val .bool) :: .cell (.val (.int .i64)) :: D 61 [])))]
noncomputable def spec_l13Num_l8 : (ByteArray × Bool × Int × Int × Unit) → Option ((ByteArray × Bool × Int × Int × Unit) ⊕ ((Int × Bool × Unit) ⊕ (Bool × Int × Unit))) := fun (v0, v4, v5, v6, _) =>
 bif (decide (v6 < (((ByteArray.size v0) : Nat) : Int))) then
  if (((0 : Int) ≤ v6) ∧ (v6 < (((ByteArray.size v0) : Nat) : Int))) then
   bif (decide ((((UInt8.toNat (Array.getD (ByteArray.data v0) (Int.toNat v6) (0 : UInt8))) : Nat) : Int) < (48 : Int))) then
    some (Sum.inr (Sum.inl ((0 : Int), false, ())))
   else
    if (((0 : Int) ≤ v6) ∧ (v6 < (((ByteArray.size v0) : Nat) : Int))) then
     bif (decide ((((UInt8.toNat (Array.getD (ByteArray.data v0) (Int.toNat v6) (0 : UInt8))) : Nat) : Int) > (57 : Int))) then
      some (Sum.inr (Sum.inl ((0 : Int), false, ())))
     else
      if (((0 : Int) ≤ v6) ∧ (v6 < (((ByteArray.size v0) : Nat) : Int))) then
       some (Sum.inl (v0, v4, (IntKind.wrap .i64 ((IntKind.wrap .i64 (v5 * (10 : Int))) + (IntKind.wrap .i64 (IntKind.wrap .u8 ((((UInt8.toNat (Array.getD (ByteArray.data v0) (Int.toNat v6) (0 : UInt8))) : Nat) : Int) - (48 : Int)))))), (IntKind.wrap .i64 (v6 + (1 : Int))), ()))
      else
       none
    else
     none
  else
   none
 else
  some (Sum.inr (Sum.inr (v4, v5, ())))
theorem spec_l13Num_l8_eq : loopStep 67 E197 L197_0 (loopOf f197 8) sh197_8 xs197_8 = spec_l13Num_l8 := by kernel_rfl
theorem loop197_8 {L} (h : L 8 = some ⟨67, sh197_8, xs197_8, spec_l13Num_l8⟩) : LoopOk prog L (loopOf f197 8) := lo spec_l13Num_l8_eq E197_ok allNil h
noncomputable def L197_1 : Nat → Option LoopD := fun n => ifEq n 8 (some ⟨67, sh197_8, xs197_8, spec_l13Num_l8⟩) (L197_0 n)
noncomputable def spec_l13Num : ByteArray → Option (Int × Bool) := fun a0 =>
 bif (decide ((((ByteArray.size a0) : Nat) : Int) > (0 : Int))) then
  if (((0 : Int) ≤ (0 : Int)) ∧ ((0 : Int) < (((ByteArray.size a0) : Nat) : Int))) then
   bif ((((UInt8.toNat (Array.getD (ByteArray.data a0) (Int.toNat (0 : Int)) (0 : UInt8))) : Nat) : Int) == (45 : Int)) then
    if (((0 : Int) ≤ (1 : Int)) ∧ ((1 : Int) ≤ (((ByteArray.size a0) : Nat) : Int))) then
     bif ((((ByteArray.size (ByteArray.extract a0 (Int.toNat (1 : Int)) (ByteArray.size a0))) : Nat) : Int) == (0 : Int)) then
      some ((0 : Int), false)
     else
      bif (decide ((((ByteArray.size (ByteArray.extract a0 (Int.toNat (1 : Int)) (ByteArray.size a0))) : Nat) : Int) > (17 : Int))) then
       some ((0 : Int), false)
      else
       if (((0 : Int) ≤ (0 : Int)) ∧ ((0 : Int) < (((ByteArray.size (ByteArray.extract a0 (Int.toNat (1 : Int)) (ByteArray.size a0))) : Nat) : Int))) then
        bif ((((UInt8.toNat (Array.getD (ByteArray.data (ByteArray.extract a0 (Int.toNat (1 : Int)) (ByteArray.size a0))) (Int.toNat (0 : Int)) (0 : UInt8))) : Nat) : Int) == (48 : Int)) then
         bif (decide ((((ByteArray.size (ByteArray.extract a0 (Int.toNat (1 : Int)) (ByteArray.size a0))) : Nat) : Int) > (1 : Int))) then
          some ((0 : Int), false)
         else
          bif ((((UInt8.toNat (Array.getD (ByteArray.data a0) (Int.toNat (0 : Int)) (0 : UInt8))) : Nat) : Int) == (45 : Int)) then
           some ((0 : Int), false)
          else
           Option.bind (loopF spec_l13Num_l8 ((ByteArray.extract a0 (Int.toNat (1 : Int)) (ByteArray.size a0)), ((((UInt8.toNat (Array.getD (ByteArray.data a0) (Int.toNat (0 : Int)) (0 : UInt8))) : Nat) : Int) == (45 : Int)), (0 : Int), (0 : Int), ())) fun r0 =>
            (match r0 with
            | .inl (d1, d2, _) =>
              some (d1, d2)
            | .inr (d3, d4, _) =>
              bif d3 then
               some ((IntKind.wrap .i64 ((0 : Int) - d4)), true)
              else
               some (d4, true))
        else
         Option.bind (loopF spec_l13Num_l8 ((ByteArray.extract a0 (Int.toNat (1 : Int)) (ByteArray.size a0)), ((((UInt8.toNat (Array.getD (ByteArray.data a0) (Int.toNat (0 : Int)) (0 : UInt8))) : Nat) : Int) == (45 : Int)), (0 : Int), (0 : Int), ())) fun r5 =>
          (match r5 with
          | .inl (d6, d7, _) =>
            some (d6, d7)
          | .inr (d8, d9, _) =>
            bif d8 then
             some ((IntKind.wrap .i64 ((0 : Int) - d9)), true)
            else
             some (d9, true))
       else
        none
    else
     none
   else
    bif ((((ByteArray.size a0) : Nat) : Int) == (0 : Int)) then
     some ((0 : Int), false)
    else
     bif (decide ((((ByteArray.size a0) : Nat) : Int) > (17 : Int))) then
      some ((0 : Int), false)
     else
      if (((0 : Int) ≤ (0 : Int)) ∧ ((0 : Int) < (((ByteArray.size a0) : Nat) : Int))) then
       bif ((((UInt8.toNat (Array.getD (ByteArray.data a0) (Int.toNat (0 : Int)) (0 : UInt8))) : Nat) : Int) == (48 : Int)) then
        bif (decide ((((ByteArray.size a0) : Nat) : Int) > (1 : Int))) then
         some ((0 : Int), false)
        else
         bif ((((UInt8.toNat (Array.getD (ByteArray.data a0) (Int.toNat (0 : Int)) (0 : UInt8))) : Nat) : Int) == (45 : Int)) then
          some ((0 : Int), false)
         else
          Option.bind (loopF spec_l13Num_l8 (a0, ((((UInt8.toNat (Array.getD (ByteArray.data a0) (Int.toNat (0 : Int)) (0 : UInt8))) : Nat) : Int) == (45 : Int)), (0 : Int), (0 : Int), ())) fun r10 =>
           (match r10 with
           | .inl (d11, d12, _) =>
             some (d11, d12)
           | .inr (d13, d14, _) =>
             bif d13 then
              some ((IntKind.wrap .i64 ((0 : Int) - d14)), true)
             else
              some (d14, true))
       else
        Option.bind (loopF spec_l13Num_l8 (a0, ((((UInt8.toNat (Array.getD (ByteArray.data a0) (Int.toNat (0 : Int)) (0 : UInt8))) : Nat) : Int) == (45 : Int)), (0 : Int), (0 : Int), ())) fun r15 =>
         (match r15 with
         | .inl (d16, d17, _) =>
           some (d16, d17)
         | .inr (d18, d19, _) =>
           bif d18 then
            some ((IntKind.wrap .i64 ((0 : Int) - d19)), true)
           else
            some (d19, true))
      else
       none
  else
   none
 else
  bif ((((ByteArray.size a0) : Nat) : Int) == (0 : Int)) then
   some ((0 : Int), false)
  else
   bif (decide ((((ByteArray.size a0) : Nat) : Int) > (17 : Int))) then
    some ((0 : Int), false)
   else
    if (((0 : Int) ≤ (0 : Int)) ∧ ((0 : Int) < (((ByteArray.size a0) : Nat) : Int))) then
     bif ((((UInt8.toNat (Array.getD (ByteArray.data a0) (Int.toNat (0 : Int)) (0 : UInt8))) : Nat) : Int) == (48 : Int)) then
      bif (decide ((((ByteArray.size a0) : Nat) : Int) > (1 : Int))) then
       some ((0 : Int), false)
      else
       Option.bind (loopF spec_l13Num_l8 (a0, false, (0 : Int), (0 : Int), ())) fun r20 =>
        (match r20 with
        | .inl (d21, d22, _) =>
          some (d21, d22)
        | .inr (d23, d24, _) =>
          bif d23 then
           some ((IntKind.wrap .i64 ((0 : Int) - d24)), true)
          else
           some (d24, true))
     else
      Option.bind (loopF spec_l13Num_l8 (a0, false, (0 : Int), (0 : Int), ())) fun r25 =>
       (match r25 with
       | .inl (d26, d27, _) =>
         some (d26, d27)
       | .inr (d28, d29, _) =>
         bif d28 then
          some ((IntKind.wrap .i64 ((0 : Int) - d29)), true)
         else
          some (d29, true))
    else
     none
noncomputable def A197 : FnA := ⟨[.v .str], true, [.int .i64, .bool], fun x => spec_l13Num x.1⟩
theorem spec_l13Num_eq : fnF E197 L197_1 [.v .str] true [.int .i64, .bool] f197.ntmps f197.results.toList (codeOf f197) = fun x => spec_l13Num x.1 := by kernel_rfl
theorem A197_ok : FnOk prog 197 A197 := fo spec_l13Num_eq func197 E197_ok (allCons (loop197_8 rfl) allNil)
/-! spec.l3Read -/
noncomputable def E198 : Env := ⟨ty0, fun g => ifEq g 196 (some A196) (ifEq g 197 (some A197) (none)), fun _ => none, fun _ => none, fun _ => none⟩
theorem E198_ok : FnsOk prog E198 := (oF A196_ok func196 (oF A197_ok func197 (noFns _ _)))
noncomputable def L198_0 : Nat → Option LoopD := fun _ => none
def sh198_5 : List Fm := D 4 (.cell (.own (.int .i64) 100400 false) :: D 9 (.cell (.own .str 101400 false) :: .cell (.val (.int .i64)) :: .cell (.val (.int .i64)) :: D 17 []))
def xs198_5 : List (Ex × List Fm) := [(.ret, (d :: d :: .cell (.own (.int .i64) 100200 false) :: .cell (.val .bool) :: D 30 [])), (.exit 0, (D 4 (.cell (.own (.int .i64) 100400 false) :: D 29 [])))]
noncomputable def spec_l3Read_l5 : ((List Int) × (List ByteArray) × Int × Int × Unit) → Option (((List Int) × (List ByteArray) × Int × Int × Unit) ⊕ (((List Int) × Bool × Unit) ⊕ ((List Int) × Unit))) := fun (v4, v14, v15, v16, _) =>
 bif (decide (v16 < v15)) then
  if (((0 : Int) ≤ v16) ∧ (v16 < (((List.length v14) : Nat) : Int))) then
   Option.bind (spec_l13Num (List.getD v14 (0 + (Int.toNat v16)) (⟨Array.empty⟩ : ByteArray))) fun (r0, r1) =>
    bif (!r1) then
     some (Sum.inr (Sum.inl ((List.take 0 (List.drop 0 [])), false, ())))
    else
     if (((0 + (List.length v4)) = (List.length v4)) ∧ ((((List.length v4) + (List.length (List.take 1 (List.drop 0 [r0])))) * 8) ≤ 140737488355328)) then
      some (Sum.inl ((List.take ((List.length v4) + (List.length (List.take 1 (List.drop 0 [r0])))) (List.drop 0 ((List.drop 0 v4) ++ (List.take 1 (List.drop 0 [r0]))))), (List.take (List.length v14) (List.drop 0 v14)), v15, (IntKind.wrap .i64 (v16 + (1 : Int))), ()))
     else
      none
  else
   none
 else
  some (Sum.inr (Sum.inr ((List.take (List.length v4) (List.drop 0 v4)), ())))
theorem spec_l3Read_l5_eq : loopStep 34 E198 L198_0 (loopOf f198 5) sh198_5 xs198_5 = spec_l3Read_l5 := by kernel_rfl
theorem loop198_5 {L} (h : L 5 = some ⟨34, sh198_5, xs198_5, spec_l3Read_l5⟩) : LoopOk prog L (loopOf f198 5) := lo spec_l3Read_l5_eq E198_ok allNil h
noncomputable def L198_1 : Nat → Option LoopD := fun n => ifEq n 5 (some ⟨34, sh198_5, xs198_5, spec_l3Read_l5⟩) (L198_0 n)
noncomputable def spec_l3Read : ByteArray → Option ((List Int) × Bool) := fun a0 =>
 bif ((ByteArray.toList a0) == (ByteArray.toList (⟨#[]⟩ : ByteArray))) then
  some ((List.take 0 (List.drop 0 [])), true)
 else
  Option.bind (spec_l13Cut a0 (32 : Int)) fun r0 =>
   Option.bind (loopF spec_l3Read_l5 ((List.take 0 (List.drop 0 [])), (List.take (List.length r0) (List.drop 0 r0)), (((List.length r0) : Nat) : Int), (0 : Int), ())) fun r1 =>
    (match r1 with
    | .inl (d2, d3, _) =>
      some ((List.take (List.length d2) (List.drop 0 d2)), d3)
    | .inr (d4, _) =>
      some ((List.take (List.length d4) (List.drop 0 d4)), true))
noncomputable def A198 : FnA := ⟨[.v .str], true, [.sl (.int .i64), .bool], fun x => spec_l3Read x.1⟩
theorem spec_l3Read_eq : fnF E198 L198_1 [.v .str] true [.sl (.int .i64), .bool] f198.ntmps f198.results.toList (codeOf f198) = fun x => spec_l3Read x.1 := by kernel_rfl
theorem A198_ok : FnOk prog 198 A198 := fo spec_l3Read_eq func198 E198_ok (allCons (loop198_5 rfl) allNil)
/-! spec.l1In -/
noncomputable def E113 : Env := ⟨ty0, fun _ => none, fun _ => none, fun _ => none, fun _ => none⟩
theorem E113_ok : FnsOk prog E113 := (noFns _ _)
noncomputable def L113_0 : Nat → Option LoopD := fun _ => none
noncomputable def spec_l1In : Int → Int → Int → Option (Bool) := fun a0 a1 a2 =>
 bif (decide (a0 ≥ a1)) then
  some (decide (a0 ≤ a2))
 else
  some false
noncomputable def A113 : FnA := ⟨[.v (.int .i64), .v (.int .i64), .v (.int .i64)], true, [.bool], fun x => spec_l1In x.1 x.2.1 x.2.2.1⟩
theorem spec_l1In_eq : fnF E113 L113_0 [.v (.int .i64), .v (.int .i64), .v (.int .i64)] true [.bool] f113.ntmps f113.results.toList (codeOf f113) = fun x => spec_l1In x.1 x.2.1 x.2.2.1 := by kernel_rfl
theorem A113_ok : FnOk prog 113 A113 := fo spec_l1In_eq func113 E113_ok allNil
/-! spec.l3Marks -/
noncomputable def E114 : Env := ⟨ty0, fun g => ifEq g 113 (some A113) (none), fun _ => none, fun _ => none, fun _ => none⟩
theorem E114_ok : FnsOk prog E114 := (oF A113_ok func113 (noFns _ _))
noncomputable def L114_0 : Nat → Option LoopD := fun _ => none
def sh114_2 : List Fm := .cell (.val (.int .i64)) :: .cell (.val (.sl (.int .i64))) :: D 5 (.cell (.val (.sl (.int .i64))) :: .cell (.val (.int .i64)) :: .cell (.val (.int .i64)) :: D 23 [])
def xs114_2 : List (Ex × List Fm) := [(.ret, (D 4 (.cell (.val .bool) :: D 28 []))), (.exit 0, (D 33 []))]
noncomputable def spec_l3Marks_l2 : (Int × (List Int) × (List Int) × Int × Int × Unit) → Option ((Int × (List Int) × (List Int) × Int × Int × Unit) ⊕ ((Bool × Unit) ⊕ (Unit))) := fun (v0, v1, v7, v8, v9, _) =>
 bif (decide (v9 < v8)) then
  if (((0 : Int) ≤ v9) ∧ (v9 < (((List.length v7) : Nat) : Int))) then
   Option.bind (spec_l1In (List.getD v7 (Int.toNat v9) (0 : Int)) (0 : Int) (IntKind.wrap .i64 (v0 - (1 : Int)))) fun r0 =>
    bif (!r0) then
     some (Sum.inr (Sum.inl (false, ())))
    else
     bif (decide (v9 > (0 : Int))) then
      if (((0 : Int) ≤ (IntKind.wrap .i64 (v9 - (1 : Int)))) ∧ ((IntKind.wrap .i64 (v9 - (1 : Int))) < (((List.length v1) : Nat) : Int))) then
       bif (decide ((List.getD v1 (Int.toNat (IntKind.wrap .i64 (v9 - (1 : Int)))) (0 : Int)) ≥ (List.getD v7 (Int.toNat v9) (0 : Int)))) then
        some (Sum.inr (Sum.inl (false, ())))
       else
        some (Sum.inl (v0, v1, v7, v8, (IntKind.wrap .i64 (v9 + (1 : Int))), ()))
      else
       none
     else
      some (Sum.inl (v0, v1, v7, v8, (IntKind.wrap .i64 (v9 + (1 : Int))), ()))
  else
   none
 else
  some (Sum.inr (Sum.inr ()))
theorem spec_l3Marks_l2_eq : loopStep 33 E114 L114_0 (loopOf f114 2) sh114_2 xs114_2 = spec_l3Marks_l2 := by kernel_rfl
theorem loop114_2 {L} (h : L 2 = some ⟨33, sh114_2, xs114_2, spec_l3Marks_l2⟩) : LoopOk prog L (loopOf f114 2) := lo spec_l3Marks_l2_eq E114_ok allNil h
noncomputable def L114_1 : Nat → Option LoopD := fun n => ifEq n 2 (some ⟨33, sh114_2, xs114_2, spec_l3Marks_l2⟩) (L114_0 n)
noncomputable def spec_l3Marks : Int → (List Int) → Option (Bool) := fun a0 a1 =>
 Option.bind (loopF spec_l3Marks_l2 (a0, a1, a1, (((List.length a1) : Nat) : Int), (0 : Int), ())) fun r0 =>
  (match r0 with
  | .inl (d1, _) =>
    some d1
  | .inr _ =>
    some true)
noncomputable def A114 : FnA := ⟨[.v (.int .i64), .v (.sl (.int .i64))], true, [.bool], fun x => spec_l3Marks x.1 x.2.1⟩
theorem spec_l3Marks_eq : fnF E114 L114_1 [.v (.int .i64), .v (.sl (.int .i64))] true [.bool] f114.ntmps f114.results.toList (codeOf f114) = fun x => spec_l3Marks x.1 x.2.1 := by kernel_rfl
theorem A114_ok : FnOk prog 114 A114 := fo spec_l3Marks_eq func114 E114_ok (allCons (loop114_2 rfl) allNil)
/-! spec.l3Step -/
noncomputable def E115 : Env := ⟨ty0, fun g => ifEq g 113 (some A113) (none), fun _ => none, fun _ => none, fun _ => none⟩
theorem E115_ok : FnsOk prog E115 := (oF A113_ok func113 (noFns _ _))
noncomputable def L115_0 : Nat → Option LoopD := fun _ => none
noncomputable def spec_l3Step : Int → (Int × (ByteArray × (Int × Int))) → Option (Bool) := fun a0 (a1_0, a1_1, a1_2, a1_3) =>
 Option.bind (spec_l1In a1_0 (0 : Int) (IntKind.wrap .i64 (a0 - (1 : Int)))) fun r0 =>
  bif r0 then
   Option.bind (spec_l1In a1_2 (0 : Int) (IntKind.wrap .i64 (a0 - (1 : Int)))) fun r1 =>
    bif r1 then
     Option.bind (spec_l1In a1_3 (0 : Int) (3 : Int)) fun r2 =>
      bif r2 then
       bif ((ByteArray.toList a1_1) == (ByteArray.toList (⟨#[(97 : UInt8)]⟩ : ByteArray))) then
        some true
       else
        some ((ByteArray.toList a1_1) == (ByteArray.toList (⟨#[(98 : UInt8)]⟩ : ByteArray)))
      else
       some false
    else
     some false
  else
   some false
noncomputable def A115 : FnA := ⟨[.v (.int .i64), .v (.pair (.int .i64) (.pair .str (.pair (.int .i64) (.int .i64))))], true, [.bool], fun x => spec_l3Step x.1 x.2.1⟩
theorem spec_l3Step_eq : fnF E115 L115_0 [.v (.int .i64), .v (.pair (.int .i64) (.pair .str (.pair (.int .i64) (.int .i64))))] true [.bool] f115.ntmps f115.results.toList (codeOf f115) = fun x => spec_l3Step x.1 x.2.1 := by kernel_rfl
theorem A115_ok : FnOk prog 115 A115 := fo spec_l3Step_eq func115 E115_ok allNil
/-! spec.l3Before -/
noncomputable def E116 : Env := ⟨ty0, fun _ => none, fun _ => none, fun _ => none, fun _ => none⟩
theorem E116_ok : FnsOk prog E116 := (noFns _ _)
noncomputable def L116_0 : Nat → Option LoopD := fun _ => none
noncomputable def spec_l3Before : (Int × (ByteArray × (Int × Int))) → (Int × (ByteArray × (Int × Int))) → Option (Bool) := fun (a0_0, a0_1, a0_2, a0_3) (a1_0, a1_1, a1_2, a1_3) =>
 bif (a0_0 != a1_0) then
  some (decide (a0_0 < a1_0))
 else
  bif (!((ByteArray.toList a0_1) == (ByteArray.toList a1_1))) then
   some (Op.bytesLess (ByteArray.toList a0_1) (ByteArray.toList a1_1))
  else
   some (decide (a0_2 < a1_2))
noncomputable def A116 : FnA := ⟨[.v (.pair (.int .i64) (.pair .str (.pair (.int .i64) (.int .i64)))), .v (.pair (.int .i64) (.pair .str (.pair (.int .i64) (.int .i64))))], true, [.bool], fun x => spec_l3Before x.1 x.2.1⟩
theorem spec_l3Before_eq : fnF E116 L116_0 [.v (.pair (.int .i64) (.pair .str (.pair (.int .i64) (.int .i64)))), .v (.pair (.int .i64) (.pair .str (.pair (.int .i64) (.int .i64))))] true [.bool] f116.ntmps f116.results.toList (codeOf f116) = fun x => spec_l3Before x.1 x.2.1 := by kernel_rfl
theorem A116_ok : FnOk prog 116 A116 := fo spec_l3Before_eq func116 E116_ok allNil
/-! spec.AutomatonValid -/
noncomputable def E72 : Env := ⟨ty0, fun g => ifEq g 113 (some A113) (ifEq g 114 (some A114) (ifEq g 115 (some A115) (ifEq g 116 (some A116) (none)))), fun _ => none, fun _ => none, fun _ => none⟩
theorem E72_ok : FnsOk prog E72 := (oF A113_ok func113 (oF A114_ok func114 (oF A115_ok func115 (oF A116_ok func116 (noFns _ _)))))
noncomputable def L72_0 : Nat → Option LoopD := fun _ => none
def sh72_4 : List Fm := d :: .box 100100 [.val (.int .i64), .val (.sl (.int .i64)), .val (.sl (.int .i64)), .val (.sl (.pair (.int .i64) (.pair .str (.pair (.int .i64) (.int .i64)))))] :: D 30 (.cell (.val (.sl (.pair (.int .i64) (.pair .str (.pair (.int .i64) (.int .i64)))))) :: .cell (.val (.int .i64)) :: .cell (.val (.int .i64)) :: D 25 [])
def xs72_4 : List (Ex × List Fm) := [(.ret, (d :: d :: .cell (.val .bool) :: D 57 [])), (.exit 0, (D 60 []))]
noncomputable def spec_AutomatonValid_l4 : ((Int × (List Int) × (List Int) × (List (Int × (ByteArray × (Int × Int)))) × Unit) × (List (Int × (ByteArray × (Int × Int)))) × Int × Int × Unit) → Option (((Int × (List Int) × (List Int) × (List (Int × (ByteArray × (Int × Int)))) × Unit) × (List (Int × (ByteArray × (Int × Int)))) × Int × Int × Unit) ⊕ ((Bool × Unit) ⊕ (Unit))) := fun ((v1_0, v1_1, v1_2, v1_3, _), v32, v33, v34, _) =>
 bif (decide (v34 < v33)) then
  if (((0 : Int) ≤ v34) ∧ (v34 < (((List.length v32) : Nat) : Int))) then
   Option.bind (spec_l3Step v1_0 ((List.getD v32 (Int.toNat v34) ((0 : Int), (⟨Array.empty⟩ : ByteArray), (0 : Int), (0 : Int))).1, (List.getD v32 (Int.toNat v34) ((0 : Int), (⟨Array.empty⟩ : ByteArray), (0 : Int), (0 : Int))).2.1, (List.getD v32 (Int.toNat v34) ((0 : Int), (⟨Array.empty⟩ : ByteArray), (0 : Int), (0 : Int))).2.2.1, (List.getD v32 (Int.toNat v34) ((0 : Int), (⟨Array.empty⟩ : ByteArray), (0 : Int), (0 : Int))).2.2.2)) fun r0 =>
    bif (!r0) then
     some (Sum.inr (Sum.inl (false, ())))
    else
     bif (decide (v34 > (0 : Int))) then
      if (((0 : Int) ≤ (IntKind.wrap .i64 (v34 - (1 : Int)))) ∧ ((IntKind.wrap .i64 (v34 - (1 : Int))) < (((List.length v1_3) : Nat) : Int))) then
       Option.bind (spec_l3Before (List.getD v1_3 (Int.toNat (IntKind.wrap .i64 (v34 - (1 : Int)))) ((0 : Int), (⟨Array.empty⟩ : ByteArray), (0 : Int), (0 : Int))) ((List.getD v32 (Int.toNat v34) ((0 : Int), (⟨Array.empty⟩ : ByteArray), (0 : Int), (0 : Int))).1, (List.getD v32 (Int.toNat v34) ((0 : Int), (⟨Array.empty⟩ : ByteArray), (0 : Int), (0 : Int))).2.1, (List.getD v32 (Int.toNat v34) ((0 : Int), (⟨Array.empty⟩ : ByteArray), (0 : Int), (0 : Int))).2.2.1, (List.getD v32 (Int.toNat v34) ((0 : Int), (⟨Array.empty⟩ : ByteArray), (0 : Int), (0 : Int))).2.2.2)) fun r1 =>
        bif (!r1) then
         some (Sum.inr (Sum.inl (false, ())))
        else
         some (Sum.inl ((v1_0, v1_1, v1_2, v1_3, ()), v32, v33, (IntKind.wrap .i64 (v34 + (1 : Int))), ()))
      else
       none
     else
      some (Sum.inl ((v1_0, v1_1, v1_2, v1_3, ()), v32, v33, (IntKind.wrap .i64 (v34 + (1 : Int))), ()))
  else
   none
 else
  some (Sum.inr (Sum.inr ()))
theorem spec_AutomatonValid_l4_eq : loopStep 60 E72 L72_0 (loopOf f72 4) sh72_4 xs72_4 = spec_AutomatonValid_l4 := by kernel_rfl
theorem loop72_4 {L} (h : L 4 = some ⟨60, sh72_4, xs72_4, spec_AutomatonValid_l4⟩) : LoopOk prog L (loopOf f72 4) := lo spec_AutomatonValid_l4_eq E72_ok allNil h
noncomputable def L72_1 : Nat → Option LoopD := fun n => ifEq n 4 (some ⟨60, sh72_4, xs72_4, spec_AutomatonValid_l4⟩) (L72_0 n)
noncomputable def spec_AutomatonValid : (Int × ((List Int) × ((List Int) × (List (Int × (ByteArray × (Int × Int))))))) → Option (Bool) := fun (a0_0, a0_1, a0_2, a0_3) =>
 Option.bind (spec_l1In a0_0 (1 : Int) (4 : Int)) fun r0 =>
  bif (!r0) then
   some false
  else
   Option.bind (spec_l3Marks a0_0 a0_1) fun r1 =>
    bif (!r1) then
     some false
    else
     Option.bind (spec_l3Marks a0_0 a0_2) fun r2 =>
      bif (!r2) then
       some false
      else
       bif (decide ((((List.length a0_3) : Nat) : Int) > (24 : Int))) then
        some false
       else
        Option.bind (loopF spec_AutomatonValid_l4 ((a0_0, a0_1, a0_2, a0_3, ()), a0_3, (((List.length a0_3) : Nat) : Int), (0 : Int), ())) fun r3 =>
         (match r3 with
         | .inl (d4, _) =>
           some d4
         | .inr _ =>
           some true)
noncomputable def A72 : FnA := ⟨[.v (.pair (.int .i64) (.pair (.sl (.int .i64)) (.pair (.sl (.int .i64)) (.sl (.pair (.int .i64) (.pair .str (.pair (.int .i64) (.int .i64))))))))], true, [.bool], fun x => spec_AutomatonValid x.1⟩
theorem spec_AutomatonValid_eq : fnF E72 L72_1 [.v (.pair (.int .i64) (.pair (.sl (.int .i64)) (.pair (.sl (.int .i64)) (.sl (.pair (.int .i64) (.pair .str (.pair (.int .i64) (.int .i64))))))))] true [.bool] f72.ntmps f72.results.toList (codeOf f72) = fun x => spec_AutomatonValid x.1 := by kernel_rfl
theorem A72_ok : FnOk prog 72 A72 := fo spec_AutomatonValid_eq func72 E72_ok (allCons (loop72_4 rfl) allNil)
/-! spec.ParseAutomaton -/
noncomputable def E182 : Env := ⟨ty0, fun g => ifEq g 196 (some A196) (ifEq g 197 (some A197) (ifEq g 198 (some A198) (ifEq g 72 (some A72) (none)))), fun _ => none, fun _ => none, fun _ => none⟩
theorem E182_ok : FnsOk prog E182 := (oF A196_ok func196 (oF A197_ok func197 (oF A198_ok func198 (oF A72_ok func72 (noFns _ _)))))
noncomputable def L182_0 : Nat → Option LoopD := fun _ => none
def sh182_11 : List Fm := d :: d :: .box 100200 [.val (.int .i64), .own (.int .i64) 100202 false, .own (.int .i64) 100203 false, .own (.pair (.int .i64) (.pair .str (.pair (.int .i64) (.int .i64)))) 100204 false] :: D 8 (.box 101100 [.val (.int .i64), .own (.int .i64) 101102 false, .own (.int .i64) 101103 false, .own (.pair (.int .i64) (.pair .str (.pair (.int .i64) (.int .i64)))) 101104 false] :: .cell (.val .bool) :: D 54 (.cell (.own .str 106700 false) :: .cell (.val (.int .i64)) :: .cell (.val (.int .i64)) :: D 61 []))
def xs182_11 : List (Ex × List Fm) := [(.ret, [d, d, .box 100200 [.val (.int .i64), .own (.int .i64) 100202 false, .own (.int .i64) 100203 false, .own (.pair (.int .i64) (.pair .str (.pair (.int .i64) (.int .i64)))) 100204 false], .cell (.val .bool), d, d, d, d, d, d, d, d, d, d, d, d, d, d, d, d, d, d, d, d, d, d, d, d, d, d, d, d, d, d, d, d, d, d, d, d, d, d, d, d, d, d, d, d, d, d, d, d, d, d, d, d, d, d, d, d, d, d, d, d, d, d, d, d, d, d, d, d, d, d, d, d, d, d, d, d, d, d, d, d, d, d, d, d, d, d, d, d, d, d, d, d, d, d, d, d, d, d, d, d, d, d, d, d, d, d, d, d, d, d, d, d, d, d, d, d, d, d, d, d, d, d, d, d, d, d, d]), (.exit 0, [d, d, .box 100200 [.val (.int .i64), .own (.int .i64) 100202 false, .own (.int .i64) 100203 false, .own (.pair (.int .i64) (.pair .str (.pair (.int .i64) (.int .i64)))) 100204 false], d, d, d, d, d, d, d, d, .box 101100 [.val (.int .i64), .own (.int .i64) 101102 false, .own (.int .i64) 101103 false, .own (.pair (.int .i64) (.pair .str (.pair (.int .i64) (.int .i64)))) 101104 false], .cell (.val .bool), d, d, d, d, d, d, d, d, d, d, d, d, d, d, d, d, d, d, d, d, d, d, d, d, d, d, d, d, d, d, d, d, d, d, d, d, d, d, d, d, d, d, d, d, d, d, d, d, d, d, d, d, d, d, d, d, d, d, d, d, d, d, d, d, d, d, d, d, d, d, d, d, d, d, d, d, d, d, d, d, d, d, d, d, d, d, d, d, d, d, d, d, d, d, d, d, d, d, d, d, d, d, d, d, d, d, d, d, d, d, d, d, d, d, d, d, d, d])]
noncomputable def spec_ParseAutomaton_l11 : ((Int × (List Int) × (List Int) × (List (Int × (ByteArray × (Int × Int)))) × Unit) × (Int × (List Int) × (List Int) × (List (Int × (ByteArray × (Int × Int)))) × Unit) × Bool × (List ByteArray) × Int × Int × Unit) → Option (((Int × (List Int) × (List Int) × (List (Int × (ByteArray × (Int × Int)))) × Unit) × (Int × (List Int) × (List Int) × (List (Int × (ByteArray × (Int × Int)))) × Unit) × Bool × (List ByteArray) × Int × Int × Unit) ⊕ (((Int × (List Int) × (List Int) × (List (Int × (ByteArray × (Int × Int)))) × Unit) × Bool × Unit) ⊕ ((Int × (List Int) × (List Int) × (List (Int × (ByteArray × (Int × Int)))) × Unit) × (Int × (List Int) × (List Int) × (List (Int × (ByteArray × (Int × Int)))) × Unit) × Bool × Unit))) := fun ((v2_0, v2_1, v2_2, v2_3, _), (v11_0, v11_1, v11_2, v11_3, _), v12, v67, v68, v69, _) =>
 bif (decide (v69 < v68)) then
  if (((0 : Int) ≤ v69) ∧ (v69 < (((List.length v67) : Nat) : Int))) then
   bif ((((ByteArray.size (List.getD v67 (0 + (Int.toNat v69)) (⟨Array.empty⟩ : ByteArray))) : Nat) : Int) != (5 : Int)) then
    some (Sum.inr (Sum.inl (((0 : Int), [], [], [], ()), false, ())))
   else
    if (((0 : Int) ≤ (3 : Int)) ∧ ((3 : Int) < (((ByteArray.size (List.getD v67 (0 + (Int.toNat v69)) (⟨Array.empty⟩ : ByteArray))) : Nat) : Int))) then
     bif ((((UInt8.toNat (Array.getD (ByteArray.data (List.getD v67 (0 + (Int.toNat v69)) (⟨Array.empty⟩ : ByteArray))) (Int.toNat (3 : Int)) (0 : UInt8))) : Nat) : Int) != (58 : Int)) then
      some (Sum.inr (Sum.inl (((0 : Int), [], [], [], ()), false, ())))
     else
      if (((0 : Int) ≤ (1 : Int)) ∧ ((1 : Int) ≤ (((ByteArray.size (List.getD v67 (0 + (Int.toNat v69)) (⟨Array.empty⟩ : ByteArray))) : Nat) : Int))) then
       Option.bind (spec_l13Num (ByteArray.extract (List.getD v67 (0 + (Int.toNat v69)) (⟨Array.empty⟩ : ByteArray)) 0 (Int.toNat (1 : Int)))) fun (r0, r1) =>
        if (((0 : Int) ≤ (2 : Int)) ∧ (((2 : Int) ≤ (3 : Int)) ∧ ((3 : Int) ≤ (((ByteArray.size (List.getD v67 (0 + (Int.toNat v69)) (⟨Array.empty⟩ : ByteArray))) : Nat) : Int)))) then
         Option.bind (spec_l13Num (ByteArray.extract (List.getD v67 (0 + (Int.toNat v69)) (⟨Array.empty⟩ : ByteArray)) (Int.toNat (2 : Int)) (Int.toNat (3 : Int)))) fun (r2, r3) =>
          if (((0 : Int) ≤ (4 : Int)) ∧ ((4 : Int) ≤ (((ByteArray.size (List.getD v67 (0 + (Int.toNat v69)) (⟨Array.empty⟩ : ByteArray))) : Nat) : Int))) then
           Option.bind (spec_l13Num (ByteArray.extract (List.getD v67 (0 + (Int.toNat v69)) (⟨Array.empty⟩ : ByteArray)) (Int.toNat (4 : Int)) (ByteArray.size (List.getD v67 (0 + (Int.toNat v69)) (⟨Array.empty⟩ : ByteArray))))) fun (r4, r5) =>
            bif v12 then
             bif r1 then
              bif r3 then
               if (((0 : Int) ≤ (1 : Int)) ∧ (((1 : Int) ≤ (2 : Int)) ∧ ((2 : Int) ≤ (((ByteArray.size (List.getD v67 (0 + (Int.toNat v69)) (⟨Array.empty⟩ : ByteArray))) : Nat) : Int)))) then
                if (((0 + (List.length v11_3)) = (List.length v11_3)) ∧ ((((List.length v11_3) + (List.length (List.take 1 (List.drop 0 [(r0, (ByteArray.extract (List.getD v67 (0 + (Int.toNat v69)) (⟨Array.empty⟩ : ByteArray)) (Int.toNat (1 : Int)) (Int.toNat (2 : Int))), r2, r4)])))) * 40) ≤ 140737488355328)) then
                 some (Sum.inl ((v2_0, (List.take (List.length v2_1) (List.drop 0 v2_1)), (List.take (List.length v2_2) (List.drop 0 v2_2)), (List.take (List.length v2_3) (List.drop 0 v2_3)), ()), (v11_0, (List.take (List.length v11_1) (List.drop 0 v11_1)), (List.take (List.length v11_2) (List.drop 0 v11_2)), (List.take ((List.length v11_3) + (List.length (List.take 1 (List.drop 0 [(r0, (ByteArray.extract (List.getD v67 (0 + (Int.toNat v69)) (⟨Array.empty⟩ : ByteArray)) (Int.toNat (1 : Int)) (Int.toNat (2 : Int))), r2, r4)])))) (List.drop 0 ((List.drop 0 v11_3) ++ (List.take 1 (List.drop 0 [(r0, (ByteArray.extract (List.getD v67 (0 + (Int.toNat v69)) (⟨Array.empty⟩ : ByteArray)) (Int.toNat (1 : Int)) (Int.toNat (2 : Int))), r2, r4)]))))), ()), r5, (List.take (List.length v67) (List.drop 0 v67)), v68, (IntKind.wrap .i64 (v69 + (1 : Int))), ()))
                else
                 none
               else
                none
              else
               if (((0 : Int) ≤ (1 : Int)) ∧ (((1 : Int) ≤ (2 : Int)) ∧ ((2 : Int) ≤ (((ByteArray.size (List.getD v67 (0 + (Int.toNat v69)) (⟨Array.empty⟩ : ByteArray))) : Nat) : Int)))) then
                if (((0 + (List.length v11_3)) = (List.length v11_3)) ∧ ((((List.length v11_3) + (List.length (List.take 1 (List.drop 0 [(r0, (ByteArray.extract (List.getD v67 (0 + (Int.toNat v69)) (⟨Array.empty⟩ : ByteArray)) (Int.toNat (1 : Int)) (Int.toNat (2 : Int))), r2, r4)])))) * 40) ≤ 140737488355328)) then
                 some (Sum.inl ((v2_0, (List.take (List.length v2_1) (List.drop 0 v2_1)), (List.take (List.length v2_2) (List.drop 0 v2_2)), (List.take (List.length v2_3) (List.drop 0 v2_3)), ()), (v11_0, (List.take (List.length v11_1) (List.drop 0 v11_1)), (List.take (List.length v11_2) (List.drop 0 v11_2)), (List.take ((List.length v11_3) + (List.length (List.take 1 (List.drop 0 [(r0, (ByteArray.extract (List.getD v67 (0 + (Int.toNat v69)) (⟨Array.empty⟩ : ByteArray)) (Int.toNat (1 : Int)) (Int.toNat (2 : Int))), r2, r4)])))) (List.drop 0 ((List.drop 0 v11_3) ++ (List.take 1 (List.drop 0 [(r0, (ByteArray.extract (List.getD v67 (0 + (Int.toNat v69)) (⟨Array.empty⟩ : ByteArray)) (Int.toNat (1 : Int)) (Int.toNat (2 : Int))), r2, r4)]))))), ()), false, (List.take (List.length v67) (List.drop 0 v67)), v68, (IntKind.wrap .i64 (v69 + (1 : Int))), ()))
                else
                 none
               else
                none
             else
              if (((0 : Int) ≤ (1 : Int)) ∧ (((1 : Int) ≤ (2 : Int)) ∧ ((2 : Int) ≤ (((ByteArray.size (List.getD v67 (0 + (Int.toNat v69)) (⟨Array.empty⟩ : ByteArray))) : Nat) : Int)))) then
               if (((0 + (List.length v11_3)) = (List.length v11_3)) ∧ ((((List.length v11_3) + (List.length (List.take 1 (List.drop 0 [(r0, (ByteArray.extract (List.getD v67 (0 + (Int.toNat v69)) (⟨Array.empty⟩ : ByteArray)) (Int.toNat (1 : Int)) (Int.toNat (2 : Int))), r2, r4)])))) * 40) ≤ 140737488355328)) then
                some (Sum.inl ((v2_0, (List.take (List.length v2_1) (List.drop 0 v2_1)), (List.take (List.length v2_2) (List.drop 0 v2_2)), (List.take (List.length v2_3) (List.drop 0 v2_3)), ()), (v11_0, (List.take (List.length v11_1) (List.drop 0 v11_1)), (List.take (List.length v11_2) (List.drop 0 v11_2)), (List.take ((List.length v11_3) + (List.length (List.take 1 (List.drop 0 [(r0, (ByteArray.extract (List.getD v67 (0 + (Int.toNat v69)) (⟨Array.empty⟩ : ByteArray)) (Int.toNat (1 : Int)) (Int.toNat (2 : Int))), r2, r4)])))) (List.drop 0 ((List.drop 0 v11_3) ++ (List.take 1 (List.drop 0 [(r0, (ByteArray.extract (List.getD v67 (0 + (Int.toNat v69)) (⟨Array.empty⟩ : ByteArray)) (Int.toNat (1 : Int)) (Int.toNat (2 : Int))), r2, r4)]))))), ()), false, (List.take (List.length v67) (List.drop 0 v67)), v68, (IntKind.wrap .i64 (v69 + (1 : Int))), ()))
               else
                none
              else
               none
            else
             if (((0 : Int) ≤ (1 : Int)) ∧ (((1 : Int) ≤ (2 : Int)) ∧ ((2 : Int) ≤ (((ByteArray.size (List.getD v67 (0 + (Int.toNat v69)) (⟨Array.empty⟩ : ByteArray))) : Nat) : Int)))) then
              if (((0 + (List.length v11_3)) = (List.length v11_3)) ∧ ((((List.length v11_3) + (List.length (List.take 1 (List.drop 0 [(r0, (ByteArray.extract (List.getD v67 (0 + (Int.toNat v69)) (⟨Array.empty⟩ : ByteArray)) (Int.toNat (1 : Int)) (Int.toNat (2 : Int))), r2, r4)])))) * 40) ≤ 140737488355328)) then
               some (Sum.inl ((v2_0, (List.take (List.length v2_1) (List.drop 0 v2_1)), (List.take (List.length v2_2) (List.drop 0 v2_2)), (List.take (List.length v2_3) (List.drop 0 v2_3)), ()), (v11_0, (List.take (List.length v11_1) (List.drop 0 v11_1)), (List.take (List.length v11_2) (List.drop 0 v11_2)), (List.take ((List.length v11_3) + (List.length (List.take 1 (List.drop 0 [(r0, (ByteArray.extract (List.getD v67 (0 + (Int.toNat v69)) (⟨Array.empty⟩ : ByteArray)) (Int.toNat (1 : Int)) (Int.toNat (2 : Int))), r2, r4)])))) (List.drop 0 ((List.drop 0 v11_3) ++ (List.take 1 (List.drop 0 [(r0, (ByteArray.extract (List.getD v67 (0 + (Int.toNat v69)) (⟨Array.empty⟩ : ByteArray)) (Int.toNat (1 : Int)) (Int.toNat (2 : Int))), r2, r4)]))))), ()), false, (List.take (List.length v67) (List.drop 0 v67)), v68, (IntKind.wrap .i64 (v69 + (1 : Int))), ()))
              else
               none
             else
              none
          else
           none
        else
         none
      else
       none
    else
     none
  else
   none
 else
  some (Sum.inr (Sum.inr ((v2_0, (List.take (List.length v2_1) (List.drop 0 v2_1)), (List.take (List.length v2_2) (List.drop 0 v2_2)), (List.take (List.length v2_3) (List.drop 0 v2_3)), ()), (v11_0, (List.take (List.length v11_1) (List.drop 0 v11_1)), (List.take (List.length v11_2) (List.drop 0 v11_2)), (List.take (List.length v11_3) (List.drop 0 v11_3)), ()), v12, ())))
theorem spec_ParseAutomaton_l11_eq : loopStep 131 E182 L182_0 (loopOf f182 11) sh182_11 xs182_11 = spec_ParseAutomaton_l11 := by kernel_rfl
theorem loop182_11 {L} (h : L 11 = some ⟨131, sh182_11, xs182_11, spec_ParseAutomaton_l11⟩) : LoopOk prog L (loopOf f182 11) := lo spec_ParseAutomaton_l11_eq E182_ok allNil h
noncomputable def L182_1 : Nat → Option LoopD := fun n => ifEq n 11 (some ⟨131, sh182_11, xs182_11, spec_ParseAutomaton_l11⟩) (L182_0 n)
noncomputable def spec_ParseAutomaton : ByteArray → Option ((Int × ((List Int) × ((List Int) × (List (Int × (ByteArray × (Int × Int))))))) × Bool) := fun a0 =>
 Option.bind (spec_l13Cut a0 (59 : Int)) fun r0 =>
  bif ((((List.length r0) : Nat) : Int) != (4 : Int)) then
   some (((0 : Int), [], [], []), false)
  else
   if (((0 : Int) ≤ (0 : Int)) ∧ ((0 : Int) < (((List.length r0) : Nat) : Int))) then
    Option.bind (spec_l13Num (List.getD r0 (0 + (Int.toNat (0 : Int))) (⟨Array.empty⟩ : ByteArray))) fun (r1, r2) =>
     if (((0 : Int) ≤ (1 : Int)) ∧ ((1 : Int) < (((List.length r0) : Nat) : Int))) then
      Option.bind (spec_l3Read (List.getD r0 (0 + (Int.toNat (1 : Int))) (⟨Array.empty⟩ : ByteArray))) fun (r3, r4) =>
       if (((0 : Int) ≤ (2 : Int)) ∧ ((2 : Int) < (((List.length r0) : Nat) : Int))) then
        Option.bind (spec_l3Read (List.getD r0 (0 + (Int.toNat (2 : Int))) (⟨Array.empty⟩ : ByteArray))) fun (r5, r6) =>
         bif r2 then
          bif r4 then
           if (((0 : Int) ≤ (3 : Int)) ∧ ((3 : Int) < (((List.length r0) : Nat) : Int))) then
            bif (!((ByteArray.toList (List.getD r0 (0 + (Int.toNat (3 : Int))) (⟨Array.empty⟩ : ByteArray))) == (ByteArray.toList (⟨#[]⟩ : ByteArray)))) then
             if (((0 : Int) ≤ (3 : Int)) ∧ ((3 : Int) < (((List.length r0) : Nat) : Int))) then
              Option.bind (spec_l13Cut (List.getD r0 (0 + (Int.toNat (3 : Int))) (⟨Array.empty⟩ : ByteArray)) (32 : Int)) fun r7 =>
               Option.bind (loopF spec_ParseAutomaton_l11 (((0 : Int), [], [], [], ()), (r1, (List.take (List.length r3) (List.drop 0 r3)), (List.take (List.length r5) (List.drop 0 r5)), (List.take 0 (List.drop 0 [])), ()), r6, (List.take (List.length r7) (List.drop 0 r7)), (((List.length r7) : Nat) : Int), (0 : Int), ())) fun r8 =>
                (match r8 with
                | .inl ((d9, d10, d11, d12, _), d13, _) =>
                  some ((d9, (List.take (List.length d10) (List.drop 0 d10)), (List.take (List.length d11) (List.drop 0 d11)), (List.take (List.length d12) (List.drop 0 d12))), d13)
                | .inr ((d14, d15, d16, d17, _), (d18, d19, d20, d21, _), d22, _) =>
                  bif (!d22) then
                   some (((0 : Int), [], [], []), false)
                  else
                   Option.bind (spec_AutomatonValid (d18, (List.take (List.length d19) (List.drop 0 d19)), (List.take (List.length d20) (List.drop 0 d20)), (List.take (List.length d21) (List.drop 0 d21)))) fun r23 =>
                    bif (!r23) then
                     some (((0 : Int), [], [], []), false)
                    else
                     some ((d18, (List.take (List.length d19) (List.drop 0 d19)), (List.take (List.length d20) (List.drop 0 d20)), (List.take (List.length d21) (List.drop 0 d21))), true))
             else
              none
            else
             bif (!r6) then
              some (((0 : Int), [], [], []), false)
             else
              Option.bind (spec_AutomatonValid (r1, (List.take (List.length r3) (List.drop 0 r3)), (List.take (List.length r5) (List.drop 0 r5)), (List.take 0 (List.drop 0 [])))) fun r24 =>
               bif (!r24) then
                some (((0 : Int), [], [], []), false)
               else
                some ((r1, (List.take (List.length r3) (List.drop 0 r3)), (List.take (List.length r5) (List.drop 0 r5)), (List.take 0 (List.drop 0 []))), true)
           else
            none
          else
           if (((0 : Int) ≤ (3 : Int)) ∧ ((3 : Int) < (((List.length r0) : Nat) : Int))) then
            bif (!((ByteArray.toList (List.getD r0 (0 + (Int.toNat (3 : Int))) (⟨Array.empty⟩ : ByteArray))) == (ByteArray.toList (⟨#[]⟩ : ByteArray)))) then
             if (((0 : Int) ≤ (3 : Int)) ∧ ((3 : Int) < (((List.length r0) : Nat) : Int))) then
              Option.bind (spec_l13Cut (List.getD r0 (0 + (Int.toNat (3 : Int))) (⟨Array.empty⟩ : ByteArray)) (32 : Int)) fun r25 =>
               Option.bind (loopF spec_ParseAutomaton_l11 (((0 : Int), [], [], [], ()), (r1, (List.take (List.length r3) (List.drop 0 r3)), (List.take (List.length r5) (List.drop 0 r5)), (List.take 0 (List.drop 0 [])), ()), false, (List.take (List.length r25) (List.drop 0 r25)), (((List.length r25) : Nat) : Int), (0 : Int), ())) fun r26 =>
                (match r26 with
                | .inl ((d27, d28, d29, d30, _), d31, _) =>
                  some ((d27, (List.take (List.length d28) (List.drop 0 d28)), (List.take (List.length d29) (List.drop 0 d29)), (List.take (List.length d30) (List.drop 0 d30))), d31)
                | .inr ((d32, d33, d34, d35, _), (d36, d37, d38, d39, _), d40, _) =>
                  bif (!d40) then
                   some (((0 : Int), [], [], []), false)
                  else
                   Option.bind (spec_AutomatonValid (d36, (List.take (List.length d37) (List.drop 0 d37)), (List.take (List.length d38) (List.drop 0 d38)), (List.take (List.length d39) (List.drop 0 d39)))) fun r41 =>
                    bif (!r41) then
                     some (((0 : Int), [], [], []), false)
                    else
                     some ((d36, (List.take (List.length d37) (List.drop 0 d37)), (List.take (List.length d38) (List.drop 0 d38)), (List.take (List.length d39) (List.drop 0 d39))), true))
             else
              none
            else
             some (((0 : Int), [], [], []), false)
           else
            none
         else
          if (((0 : Int) ≤ (3 : Int)) ∧ ((3 : Int) < (((List.length r0) : Nat) : Int))) then
           bif (!((ByteArray.toList (List.getD r0 (0 + (Int.toNat (3 : Int))) (⟨Array.empty⟩ : ByteArray))) == (ByteArray.toList (⟨#[]⟩ : ByteArray)))) then
            if (((0 : Int) ≤ (3 : Int)) ∧ ((3 : Int) < (((List.length r0) : Nat) : Int))) then
             Option.bind (spec_l13Cut (List.getD r0 (0 + (Int.toNat (3 : Int))) (⟨Array.empty⟩ : ByteArray)) (32 : Int)) fun r42 =>
              Option.bind (loopF spec_ParseAutomaton_l11 (((0 : Int), [], [], [], ()), (r1, (List.take (List.length r3) (List.drop 0 r3)), (List.take (List.length r5) (List.drop 0 r5)), (List.take 0 (List.drop 0 [])), ()), false, (List.take (List.length r42) (List.drop 0 r42)), (((List.length r42) : Nat) : Int), (0 : Int), ())) fun r43 =>
               (match r43 with
               | .inl ((d44, d45, d46, d47, _), d48, _) =>
                 some ((d44, (List.take (List.length d45) (List.drop 0 d45)), (List.take (List.length d46) (List.drop 0 d46)), (List.take (List.length d47) (List.drop 0 d47))), d48)
               | .inr ((d49, d50, d51, d52, _), (d53, d54, d55, d56, _), d57, _) =>
                 bif (!d57) then
                  some (((0 : Int), [], [], []), false)
                 else
                  Option.bind (spec_AutomatonValid (d53, (List.take (List.length d54) (List.drop 0 d54)), (List.take (List.length d55) (List.drop 0 d55)), (List.take (List.length d56) (List.drop 0 d56)))) fun r58 =>
                   bif (!r58) then
                    some (((0 : Int), [], [], []), false)
                   else
                    some ((d53, (List.take (List.length d54) (List.drop 0 d54)), (List.take (List.length d55) (List.drop 0 d55)), (List.take (List.length d56) (List.drop 0 d56))), true))
            else
             none
           else
            some (((0 : Int), [], [], []), false)
          else
           none
       else
        none
     else
      none
   else
    none
noncomputable def A182 : FnA := ⟨[.v .str], true, [.pair (.int .i64) (.pair (.sl (.int .i64)) (.pair (.sl (.int .i64)) (.sl (.pair (.int .i64) (.pair .str (.pair (.int .i64) (.int .i64))))))), .bool], fun x => spec_ParseAutomaton x.1⟩
theorem spec_ParseAutomaton_eq : fnF E182 L182_1 [.v .str] true [.pair (.int .i64) (.pair (.sl (.int .i64)) (.pair (.sl (.int .i64)) (.sl (.pair (.int .i64) (.pair .str (.pair (.int .i64) (.int .i64))))))), .bool] f182.ntmps f182.results.toList (codeOf f182) = fun x => spec_ParseAutomaton x.1 := by kernel_rfl
theorem A182_ok : FnOk prog 182 A182 := fo spec_ParseAutomaton_eq func182 E182_ok (allCons (loop182_11 rfl) allNil)
/-! spec.l3Known -/
noncomputable def E156 : Env := ⟨ty0, fun g => ifEq g 182 (some A182) (none), fun _ => none, fun _ => none, fun _ => none⟩
theorem E156_ok : FnsOk prog E156 := (oF A182_ok func182 (noFns _ _))
noncomputable def L156_0 : Nat → Option LoopD := fun _ => none
noncomputable def spec_l3Known : Int → Option ((Int × ((List Int) × ((List Int) × (List (Int × (ByteArray × (Int × Int)))))))) := fun a0 =>
 if (((9 : Nat) : Int) = (0 : Int)) then
  none
 else
  if (((0 : Int) ≤ (Int.tmod a0 ((9 : Nat) : Int))) ∧ ((Int.tmod a0 ((9 : Nat) : Int)) < ((9 : Nat) : Int))) then
   Option.bind (spec_ParseAutomaton (List.getD [(⟨#[(49 : UInt8), (59 : UInt8), (48 : UInt8), (59 : UInt8), (48 : UInt8), (59 : UInt8), (48 : UInt8), (97 : UInt8), (48 : UInt8), (58 : UInt8), (49 : UInt8), (32 : UInt8), (48 : UInt8), (98 : UInt8), (48 : UInt8), (58 : UInt8), (48 : UInt8)]⟩ : ByteArray), (⟨#[(50 : UInt8), (59 : UInt8), (48 : UInt8), (59 : UInt8), (49 : UInt8), (59 : UInt8), (48 : UInt8), (97 : UInt8), (48 : UInt8), (58 : UInt8), (48 : UInt8), (32 : UInt8), (48 : UInt8), (97 : UInt8), (49 : UInt8), (58 : UInt8), (49 : UInt8), (32 : UInt8), (49 : UInt8), (98 : UInt8), (49 : UInt8), (58 : UInt8), (48 : UInt8)]⟩ : ByteArray), (⟨#[(50 : UInt8), (59 : UInt8), (48 : UInt8), (32 : UInt8), (49 : UInt8), (59 : UInt8), (48 : UInt8), (32 : UInt8), (49 : UInt8), (59 : UInt8), (48 : UInt8), (97 : UInt8), (48 : UInt8), (58 : UInt8), (49 : UInt8), (32 : UInt8), (48 : UInt8), (98 : UInt8), (48 : UInt8), (58 : UInt8), (48 : UInt8), (32 : UInt8), (49 : UInt8), (97 : UInt8), (49 : UInt8), (58 : UInt8), (48 : UInt8), (32 : UInt8), (49 : UInt8), (98 : UInt8), (49 : UInt8), (58 : UInt8), (49 : UInt8)]⟩ : ByteArray), (⟨#[(51 : UInt8), (59 : UInt8), (48 : UInt8), (59 : UInt8), (48 : UInt8), (32 : UInt8), (50 : UInt8), (59 : UInt8), (48 : UInt8), (97 : UInt8), (48 : UInt8), (58 : UInt8), (48 : UInt8), (32 : UInt8), (48 : UInt8), (97 : UInt8), (49 : UInt8), (58 : UInt8), (48 : UInt8), (32 : UInt8), (48 : UInt8), (98 : UInt8), (48 : UInt8), (58 : UInt8), (49 : UInt8), (32 : UInt8), (49 : UInt8), (97 : UInt8), (49 : UInt8), (58 : UInt8), (49 : UInt8), (32 : UInt8), (49 : UInt8), (98 : UInt8), (50 : UInt8), (58 : UInt8), (48 : UInt8), (32 : UInt8), (50 : UInt8), (97 : UInt8), (50 : UInt8), (58 : UInt8), (48 : UInt8), (32 : UInt8), (50 : UInt8), (98 : UInt8), (50 : UInt8), (58 : UInt8), (48 : UInt8)]⟩ : ByteArray), (⟨#[(50 : UInt8), (59 : UInt8), (48 : UInt8), (59 : UInt8), (48 : UInt8), (59 : UInt8), (48 : UInt8), (97 : UInt8), (49 : UInt8), (58 : UInt8), (49 : UInt8), (32 : UInt8), (49 : UInt8), (98 : UInt8), (48 : UInt8), (58 : UInt8), (48 : UInt8)]⟩ : ByteArray), (⟨#[(51 : UInt8), (59 : UInt8), (48 : UInt8), (59 : UInt8), (50 : UInt8), (59 : UInt8), (48 : UInt8), (97 : UInt8), (48 : UInt8), (58 : UInt8), (48 : UInt8), (32 : UInt8), (48 : UInt8), (98 : UInt8), (48 : UInt8), (58 : UInt8), (48 : UInt8), (32 : UInt8), (48 : UInt8), (98 : UInt8), (49 : UInt8), (58 : UInt8), (48 : UInt8), (32 : UInt8), (49 : UInt8), (97 : UInt8), (49 : UInt8), (58 : UInt8), (49 : UInt8), (32 : UInt8), (49 : UInt8), (98 : UInt8), (50 : UInt8), (58 : UInt8), (48 : UInt8), (32 : UInt8), (50 : UInt8), (97 : UInt8), (50 : UInt8), (58 : UInt8), (48 : UInt8), (32 : UInt8), (50 : UInt8), (98 : UInt8), (50 : UInt8), (58 : UInt8), (48 : UInt8)]⟩ : ByteArray), (⟨#[(49 : UInt8), (59 : UInt8), (48 : UInt8), (59 : UInt8), (48 : UInt8), (59 : UInt8), (48 : UInt8), (97 : UInt8), (48 : UInt8), (58 : UInt8), (48 : UInt8)]⟩ : ByteArray), (⟨#[(50 : UInt8), (59 : UInt8), (48 : UInt8), (59 : UInt8), (48 : UInt8), (32 : UInt8), (49 : UInt8), (59 : UInt8), (48 : UInt8), (97 : UInt8), (48 : UInt8), (58 : UInt8), (48 : UInt8), (32 : UInt8), (48 : UInt8), (98 : UInt8), (49 : UInt8), (58 : UInt8), (49 : UInt8), (32 : UInt8), (49 : UInt8), (97 : UInt8), (48 : UInt8), (58 : UInt8), (48 : UInt8), (32 : UInt8), (49 : UInt8), (98 : UInt8), (49 : UInt8), (58 : UInt8), (48 : UInt8)]⟩ : ByteArray), (⟨#[(50 : UInt8), (59 : UInt8), (48 : UInt8), (59 : UInt8), (49 : UInt8), (59 : UInt8), (48 : UInt8), (97 : UInt8), (49 : UInt8), (58 : UInt8), (50 : UInt8), (32 : UInt8), (49 : UInt8), (97 : UInt8), (49 : UInt8), (58 : UInt8), (48 : UInt8), (32 : UInt8), (49 : UInt8), (98 : UInt8), (48 : UInt8), (58 : UInt8), (49 : UInt8)]⟩ : ByteArray)] (0 + (Int.toNat (Int.tmod a0 ((9 : Nat) : Int)))) (⟨Array.empty⟩ : ByteArray))) fun ((r0, r1, r2, r3), r4) =>
    some (r0, (List.take (List.length r1) (List.drop 0 r1)), (List.take (List.length r2) (List.drop 0 r2)), (List.take (List.length r3) (List.drop 0 r3)))
  else
   none
noncomputable def A156 : FnA := ⟨[.v (.int .i64)], true, [.pair (.int .i64) (.pair (.sl (.int .i64)) (.pair (.sl (.int .i64)) (.sl (.pair (.int .i64) (.pair .str (.pair (.int .i64) (.int .i64)))))))], fun x => spec_l3Known x.1⟩
theorem spec_l3Known_eq : fnF E156 L156_0 [.v (.int .i64)] true [.pair (.int .i64) (.pair (.sl (.int .i64)) (.pair (.sl (.int .i64)) (.sl (.pair (.int .i64) (.pair .str (.pair (.int .i64) (.int .i64)))))))] f156.ntmps f156.results.toList (codeOf f156) = fun x => spec_l3Known x.1 := by kernel_rfl
theorem A156_ok : FnOk prog 156 A156 := fo spec_l3Known_eq func156 E156_ok allNil
/-! spec.l3Some -/
noncomputable def E157 : Env := ⟨ty0, fun _ => none, fun g => ifEq g 76 (some A76) (none), fun _ => none, fun _ => none⟩
theorem E157_ok : FnsOk prog E157 := (oneMs A76_ok (by kernel_rfl) func76 (by kernel_rfl) (by kernel_rfl) (noFns _ _))
noncomputable def L157_0 : Nat → Option LoopD := fun _ => none
def sh157_3 : List Fm := .box 200000 [.val (.sl (.int .u8)), .val (.int .i64)] :: D 4 (.cell (.own (.int .i64) 100500 false) :: d :: d :: .cell (.val (.int .i64)) :: .cell (.val (.int .i64)) :: D 11 [])
def xs157_3 : List (Ex × List Fm) := [(.exit 0, [.box 200000 [.val (.sl (.int .u8)), .val (.int .i64)], d, d, d, d, .cell (.own (.int .i64) 100500 false), d, d, d, d, d, d, d, d, d, d, d, d, d, d, d])]
noncomputable def spec_l3Some_l3 : (((List Int) × Int × Unit) × (List Int) × Int × Int × Unit) → Option ((((List Int) × Int × Unit) × (List Int) × Int × Int × Unit) ⊕ ((((List Int) × Int × Unit) × (List Int) × Unit))) := fun ((v0_0, v0_1, _), v5, v8, v9, _) =>
 bif (decide (v9 < v8)) then
  Option.bind (spec_l13Rd_pick (v0_0, v0_1) (2 : Int)) fun (r0, (r1, r2), _) =>
   bif (r0 == (0 : Int)) then
    if (((0 + (List.length v5)) = (List.length v5)) ∧ ((((List.length v5) + (List.length (List.take 1 (List.drop 0 [v9])))) * 8) ≤ 140737488355328)) then
     some (Sum.inl ((r1, r2, ()), (List.take ((List.length v5) + (List.length (List.take 1 (List.drop 0 [v9])))) (List.drop 0 ((List.drop 0 v5) ++ (List.take 1 (List.drop 0 [v9]))))), v8, (IntKind.wrap .i64 (v9 + (1 : Int))), ()))
    else
     none
   else
    some (Sum.inl ((r1, r2, ()), (List.take (List.length v5) (List.drop 0 v5)), v8, (IntKind.wrap .i64 (v9 + (1 : Int))), ()))
 else
  some (Sum.inr ((v0_0, v0_1, ()), (List.take (List.length v5) (List.drop 0 v5)), ()))
theorem spec_l3Some_l3_eq : loopStep 21 E157 L157_0 (loopOf f157 3) sh157_3 xs157_3 = spec_l3Some_l3 := by kernel_rfl
theorem loop157_3 {L} (h : L 3 = some ⟨21, sh157_3, xs157_3, spec_l3Some_l3⟩) : LoopOk prog L (loopOf f157 3) := lo spec_l3Some_l3_eq E157_ok allNil h
noncomputable def L157_1 : Nat → Option LoopD := fun n => ifEq n 3 (some ⟨21, sh157_3, xs157_3, spec_l3Some_l3⟩) (L157_0 n)
noncomputable def spec_l3Some : ((List Int) × Int) → Int → Option (((List Int)) × (((List Int) × Int) × Unit)) := fun (a0_0, a0_1) a1 =>
 Option.bind (loopF spec_l3Some_l3 ((a0_0, a0_1, ()), (List.take 0 (List.drop 0 [])), a1, (0 : Int), ())) fun ((r0, r1, _), r2, _) =>
  some ((List.take (List.length r2) (List.drop 0 r2)), (r0, r1), ())
noncomputable def A157 : FnM := ⟨[.bx (.pair (.sl (.int .u8)) (.int .i64)), .v (.int .i64)], true, [.sl (.int .i64)], none, fun x => spec_l3Some x.1 x.2.1⟩
theorem spec_l3Some_eq : fnMF E157 L157_1 [.bx (.pair (.sl (.int .u8)) (.int .i64)), .v (.int .i64)] true [.sl (.int .i64)] f157.ntmps f157.results.toList (codeOf f157) = fun x => spec_l3Some x.1 x.2.1 := by kernel_rfl
theorem A157_ok : FnMOk prog 157 A157 := by
 have h := fnMOk_of_run (P := prog) (E := E157) (tysOk_of tyl_ok) E157_ok (L := L157_1) (ps := [.bx (.pair (.sl (.int .u8)) (.int .i64)), .v (.int .i64)]) (own := true) (outs := [.sl (.int .i64)]) func157 (c := codeOf f157) (by kernel_rfl) (codeOk_in (L := L157_1) (tysOk_of tyl_ok) E157_ok mixed (c := codeOf f157) (bs := [loopOf f157 3]) (by kernel_rfl) (allCons (loop157_3 rfl) allNil) (by kernel_rfl)) (by kernel_rfl)
 rw [spec_l3Some_eq] at h
 exact h
/-! (*spec.l13Rd).of -/
noncomputable def E133 : Env := ⟨ty0, fun _ => none, fun g => ifEq g 76 (some A76) (none), fun _ => none, fun _ => none⟩
theorem E133_ok : FnsOk prog E133 := (oneMs A76_ok (by kernel_rfl) func76 (by kernel_rfl) (by kernel_rfl) (noFns _ _))
noncomputable def L133_0 : Nat → Option LoopD := fun _ => none
noncomputable def spec_l13Rd_of : ((List Int) × Int) → (List ByteArray) → Option ((ByteArray) × (((List Int) × Int) × Unit)) := fun (a0_0, a0_1) a1 =>
 Option.bind (spec_l13Rd_pick (a0_0, a0_1) (((List.length a1) : Nat) : Int)) fun (r0, (r1, r2), _) =>
  if (((0 : Int) ≤ r0) ∧ (r0 < (((List.length a1) : Nat) : Int))) then
   some ((List.getD a1 (Int.toNat r0) (⟨Array.empty⟩ : ByteArray)), (r1, r2), ())
  else
   none
noncomputable def A133 : FnM := ⟨[.bx (.pair (.sl (.int .u8)) (.int .i64)), .v (.sl .str)], true, [.str], none, fun x => spec_l13Rd_of x.1 x.2.1⟩
theorem spec_l13Rd_of_eq : fnMF E133 L133_0 [.bx (.pair (.sl (.int .u8)) (.int .i64)), .v (.sl .str)] true [.str] f133.ntmps f133.results.toList (codeOf f133) = fun x => spec_l13Rd_of x.1 x.2.1 := by kernel_rfl
theorem A133_ok : FnMOk prog 133 A133 := by
 have h := fnMOk_of_run (P := prog) (E := E133) (tysOk_of tyl_ok) E133_ok (L := L133_0) (ps := [.bx (.pair (.sl (.int .u8)) (.int .i64)), .v (.sl .str)]) (own := true) (outs := [.str]) func133 (c := codeOf f133) (by kernel_rfl) (codeOk_in (L := L133_0) (tysOk_of tyl_ok) E133_ok mixed (c := codeOf f133) (bs := []) (by kernel_rfl) allNil (by kernel_rfl)) (by kernel_rfl)
 rw [spec_l13Rd_of_eq] at h
 exact h
/-! (*spec.l13Rd).num -/
noncomputable def E155 : Env := ⟨ty0, fun _ => none, fun g => ifEq g 76 (some A76) (none), fun _ => none, fun _ => none⟩
theorem E155_ok : FnsOk prog E155 := (oneMs A76_ok (by kernel_rfl) func76 (by kernel_rfl) (by kernel_rfl) (noFns _ _))
noncomputable def L155_0 : Nat → Option LoopD := fun _ => none
noncomputable def spec_l13Rd_num : ((List Int) × Int) → (List Int) → Option ((Int) × (((List Int) × Int) × Unit)) := fun (a0_0, a0_1) a1 =>
 Option.bind (spec_l13Rd_pick (a0_0, a0_1) (((List.length a1) : Nat) : Int)) fun (r0, (r1, r2), _) =>
  if (((0 : Int) ≤ r0) ∧ (r0 < (((List.length a1) : Nat) : Int))) then
   some ((List.getD a1 (Int.toNat r0) (0 : Int)), (r1, r2), ())
  else
   none
noncomputable def A155 : FnM := ⟨[.bx (.pair (.sl (.int .u8)) (.int .i64)), .v (.sl (.int .i64))], true, [.int .i64], none, fun x => spec_l13Rd_num x.1 x.2.1⟩
theorem spec_l13Rd_num_eq : fnMF E155 L155_0 [.bx (.pair (.sl (.int .u8)) (.int .i64)), .v (.sl (.int .i64))] true [.int .i64] f155.ntmps f155.results.toList (codeOf f155) = fun x => spec_l13Rd_num x.1 x.2.1 := by kernel_rfl
theorem A155_ok : FnMOk prog 155 A155 := by
 have h := fnMOk_of_run (P := prog) (E := E155) (tysOk_of tyl_ok) E155_ok (L := L155_0) (ps := [.bx (.pair (.sl (.int .u8)) (.int .i64)), .v (.sl (.int .i64))]) (own := true) (outs := [.int .i64]) func155 (c := codeOf f155) (by kernel_rfl) (codeOk_in (L := L155_0) (tysOk_of tyl_ok) E155_ok mixed (c := codeOf f155) (bs := []) (by kernel_rfl) allNil (by kernel_rfl)) (by kernel_rfl)
 rw [spec_l13Rd_num_eq] at h
 exact h
/-! spec.l3Put -/
noncomputable def E124 : Env := ⟨ty0, fun g => ifEq g 116 (some A116) (none), fun _ => none, fun _ => none, fun _ => none⟩
theorem E124_ok : FnsOk prog E124 := (oF A116_ok func116 (noFns _ _))
noncomputable def L124_0 : Nat → Option LoopD := fun _ => none
def sh124_2 : List Fm := .cell (.val (.sl (.pair (.int .i64) (.pair .str (.pair (.int .i64) (.int .i64)))))) :: d :: d :: .box 100300 [.val (.int .i64), .val .str, .val (.int .i64), .val (.int .i64)] :: d :: .cell (.val (.int .i64)) :: D 56 []
def xs124_2 : List (Ex × List Fm) := [(.exit 0, [.cell (.val (.sl (.pair (.int .i64) (.pair .str (.pair (.int .i64) (.int .i64)))))), d, d, .box 100300 [.val (.int .i64), .val .str, .val (.int .i64), .val (.int .i64)], d, .cell (.val (.int .i64)), d, d, d, d, d, d, d, d, d, d, d, d, d, d, d, d, d, d, d, d, d, d, d, d, d, d, d, d, d, d, d, d, d, d, d, d, d, d, d, d, d, d, d, d, d, d, d, d, d, d, d, d, d, d, d, d])]
noncomputable def spec_l3Put_l2 : ((List (Int × (ByteArray × (Int × Int)))) × (Int × ByteArray × Int × Int × Unit) × Int × Unit) → Option (((List (Int × (ByteArray × (Int × Int)))) × (Int × ByteArray × Int × Int × Unit) × Int × Unit) ⊕ (((List (Int × (ByteArray × (Int × Int)))) × (Int × ByteArray × Int × Int × Unit) × Int × Unit))) := fun (v0, (v3_0, v3_1, v3_2, v3_3, _), v5, _) =>
 bif (decide (v5 < (((List.length v0) : Nat) : Int))) then
  if (((0 : Int) ≤ v5) ∧ (v5 < (((List.length v0) : Nat) : Int))) then
   Option.bind (spec_l3Before (List.getD v0 (Int.toNat v5) ((0 : Int), (⟨Array.empty⟩ : ByteArray), (0 : Int), (0 : Int))) (v3_0, v3_1, v3_2, v3_3)) fun r0 =>
    bif r0 then
     some (Sum.inl (v0, (v3_0, v3_1, v3_2, v3_3, ()), (IntKind.wrap .i64 (v5 + (1 : Int))), ()))
    else
     some (Sum.inr (v0, (v3_0, v3_1, v3_2, v3_3, ()), v5, ()))
  else
   none
 else
  some (Sum.inr (v0, (v3_0, v3_1, v3_2, v3_3, ()), v5, ()))
theorem spec_l3Put_l2_eq : loopStep 62 E124 L124_0 (loopOf f124 2) sh124_2 xs124_2 = spec_l3Put_l2 := by kernel_rfl
theorem loop124_2 {L} (h : L 2 = some ⟨62, sh124_2, xs124_2, spec_l3Put_l2⟩) : LoopOk prog L (loopOf f124 2) := lo spec_l3Put_l2_eq E124_ok allNil h
noncomputable def L124_1 : Nat → Option LoopD := fun n => ifEq n 2 (some ⟨62, sh124_2, xs124_2, spec_l3Put_l2⟩) (L124_0 n)
noncomputable def spec_l3Put : (List (Int × (ByteArray × (Int × Int)))) → (Int × (ByteArray × (Int × Int))) → Option ((List (Int × (ByteArray × (Int × Int))))) := fun a0 (a1_0, a1_1, a1_2, a1_3) =>
 Option.bind (loopF spec_l3Put_l2 (a0, (a1_0, a1_1, a1_2, a1_3, ()), (0 : Int), ())) fun (r0, (r1, r2, r3, r4, _), r5, _) =>
  bif (decide (r5 < (((List.length r0) : Nat) : Int))) then
   if (((0 : Int) ≤ r5) ∧ (r5 < (((List.length r0) : Nat) : Int))) then
    Option.bind (spec_l3Before (r1, r2, r3, r4) (List.getD r0 (Int.toNat r5) ((0 : Int), (⟨Array.empty⟩ : ByteArray), (0 : Int), (0 : Int)))) fun r6 =>
     bif (!r6) then
      if (((0 + 0) = (List.length ([] : List Unit))) ∧ (((0 + (List.length r0)) * 40) ≤ 140737488355328)) then
       if (((0 : Int) ≤ r5) ∧ (r5 < (((0 + (List.length r0)) : Nat) : Int))) then
        if (((0 : Int) ≤ r5) ∧ (r5 < (((0 + (List.length r0)) : Nat) : Int))) then
         Option.bind (Option.some (List.set ((List.drop 0 []) ++ r0) (0 + (Int.toNat r5)) ((List.getD ((List.drop 0 []) ++ r0) (0 + (Int.toNat r5)) ((0 : Int), (⟨Array.empty⟩ : ByteArray), (0 : Int), (0 : Int))).1, (List.getD ((List.drop 0 []) ++ r0) (0 + (Int.toNat r5)) ((0 : Int), (⟨Array.empty⟩ : ByteArray), (0 : Int), (0 : Int))).2.1, (List.getD ((List.drop 0 []) ++ r0) (0 + (Int.toNat r5)) ((0 : Int), (⟨Array.empty⟩ : ByteArray), (0 : Int), (0 : Int))).2.2.1, (if (r4 < (List.getD ((List.drop 0 []) ++ r0) (0 + (Int.toNat r5)) ((0 : Int), (⟨Array.empty⟩ : ByteArray), (0 : Int), (0 : Int))).2.2.2) then r4 else (List.getD ((List.drop 0 []) ++ r0) (0 + (Int.toNat r5)) ((0 : Int), (⟨Array.empty⟩ : ByteArray), (0 : Int), (0 : Int))).2.2.2)))) fun r7 =>
          some (List.take (0 + (List.length r0)) (List.drop 0 r7))
        else
         none
       else
        none
      else
       none
     else
      if (((0 : Int) ≤ r5) ∧ (r5 ≤ (((List.length r0) : Nat) : Int))) then
       if (((0 + 0) = (List.length ([] : List Unit))) ∧ (((0 + (List.length (List.take ((Int.toNat r5) - 0) (List.drop 0 r0)))) * 40) ≤ 140737488355328)) then
        if (((0 + (0 + (List.length (List.take ((Int.toNat r5) - 0) (List.drop 0 r0))))) = (List.length ((List.drop 0 []) ++ (List.take ((Int.toNat r5) - 0) (List.drop 0 r0))))) ∧ ((((0 + (List.length (List.take ((Int.toNat r5) - 0) (List.drop 0 r0)))) + (List.length (List.take 1 (List.drop 0 [(r1, r2, r3, r4)])))) * 40) ≤ 140737488355328)) then
         if (((0 : Int) ≤ r5) ∧ (r5 ≤ (((List.length r0) : Nat) : Int))) then
          if (((0 + ((0 + (List.length (List.take ((Int.toNat r5) - 0) (List.drop 0 r0)))) + (List.length (List.take 1 (List.drop 0 [(r1, r2, r3, r4)]))))) = (List.length ((List.drop 0 ((List.drop 0 []) ++ (List.take ((Int.toNat r5) - 0) (List.drop 0 r0)))) ++ (List.take 1 (List.drop 0 [(r1, r2, r3, r4)]))))) ∧ (((((0 + (List.length (List.take ((Int.toNat r5) - 0) (List.drop 0 r0)))) + (List.length (List.take 1 (List.drop 0 [(r1, r2, r3, r4)])))) + (List.length (List.take ((List.length r0) - (Int.toNat r5)) (List.drop (Int.toNat r5) r0)))) * 40) ≤ 140737488355328)) then
           some (List.take (((0 + (List.length (List.take ((Int.toNat r5) - 0) (List.drop 0 r0)))) + (List.length (List.take 1 (List.drop 0 [(r1, r2, r3, r4)])))) + (List.length (List.take ((List.length r0) - (Int.toNat r5)) (List.drop (Int.toNat r5) r0)))) (List.drop 0 ((List.drop 0 ((List.drop 0 ((List.drop 0 []) ++ (List.take ((Int.toNat r5) - 0) (List.drop 0 r0)))) ++ (List.take 1 (List.drop 0 [(r1, r2, r3, r4)])))) ++ (List.take ((List.length r0) - (Int.toNat r5)) (List.drop (Int.toNat r5) r0)))))
          else
           none
         else
          none
        else
         none
       else
        none
      else
       none
   else
    none
  else
   if (((0 : Int) ≤ r5) ∧ (r5 ≤ (((List.length r0) : Nat) : Int))) then
    if (((0 + 0) = (List.length ([] : List Unit))) ∧ (((0 + (List.length (List.take ((Int.toNat r5) - 0) (List.drop 0 r0)))) * 40) ≤ 140737488355328)) then
     if (((0 + (0 + (List.length (List.take ((Int.toNat r5) - 0) (List.drop 0 r0))))) = (List.length ((List.drop 0 []) ++ (List.take ((Int.toNat r5) - 0) (List.drop 0 r0))))) ∧ ((((0 + (List.length (List.take ((Int.toNat r5) - 0) (List.drop 0 r0)))) + (List.length (List.take 1 (List.drop 0 [(r1, r2, r3, r4)])))) * 40) ≤ 140737488355328)) then
      if (((0 : Int) ≤ r5) ∧ (r5 ≤ (((List.length r0) : Nat) : Int))) then
       if (((0 + ((0 + (List.length (List.take ((Int.toNat r5) - 0) (List.drop 0 r0)))) + (List.length (List.take 1 (List.drop 0 [(r1, r2, r3, r4)]))))) = (List.length ((List.drop 0 ((List.drop 0 []) ++ (List.take ((Int.toNat r5) - 0) (List.drop 0 r0)))) ++ (List.take 1 (List.drop 0 [(r1, r2, r3, r4)]))))) ∧ (((((0 + (List.length (List.take ((Int.toNat r5) - 0) (List.drop 0 r0)))) + (List.length (List.take 1 (List.drop 0 [(r1, r2, r3, r4)])))) + (List.length (List.take ((List.length r0) - (Int.toNat r5)) (List.drop (Int.toNat r5) r0)))) * 40) ≤ 140737488355328)) then
        some (List.take (((0 + (List.length (List.take ((Int.toNat r5) - 0) (List.drop 0 r0)))) + (List.length (List.take 1 (List.drop 0 [(r1, r2, r3, r4)])))) + (List.length (List.take ((List.length r0) - (Int.toNat r5)) (List.drop (Int.toNat r5) r0)))) (List.drop 0 ((List.drop 0 ((List.drop 0 ((List.drop 0 []) ++ (List.take ((Int.toNat r5) - 0) (List.drop 0 r0)))) ++ (List.take 1 (List.drop 0 [(r1, r2, r3, r4)])))) ++ (List.take ((List.length r0) - (Int.toNat r5)) (List.drop (Int.toNat r5) r0)))))
       else
        none
      else
       none
     else
      none
    else
     none
   else
    none
noncomputable def A124 : FnA := ⟨[.v (.sl (.pair (.int .i64) (.pair .str (.pair (.int .i64) (.int .i64))))), .v (.pair (.int .i64) (.pair .str (.pair (.int .i64) (.int .i64))))], true, [.sl (.pair (.int .i64) (.pair .str (.pair (.int .i64) (.int .i64))))], fun x => spec_l3Put x.1 x.2.1⟩
theorem spec_l3Put_eq : fnF E124 L124_1 [.v (.sl (.pair (.int .i64) (.pair .str (.pair (.int .i64) (.int .i64))))), .v (.pair (.int .i64) (.pair .str (.pair (.int .i64) (.int .i64))))] true [.sl (.pair (.int .i64) (.pair .str (.pair (.int .i64) (.int .i64))))] f124.ntmps f124.results.toList (codeOf f124) = fun x => spec_l3Put x.1 x.2.1 := by kernel_rfl
theorem A124_ok : FnOk prog 124 A124 := fo spec_l3Put_eq func124 E124_ok (allCons (loop124_2 rfl) allNil)
/-! spec.l3Draw -/
noncomputable def E103 : Env := ⟨ty0, fun g => ifEq g 156 (some A156) (ifEq g 124 (some A124) (none)), fun g => ifEq g 76 (some A76) (ifEq g 157 (some A157) (ifEq g 133 (some A133) (ifEq g 155 (some A155) (none)))), fun _ => none, fun _ => none⟩
theorem E103_ok : FnsOk prog E103 := (oF A156_ok func156 (oF A124_ok func124 (oneMs A76_ok (by kernel_rfl) func76 (by kernel_rfl) (by kernel_rfl) (oneMs A157_ok (by kernel_rfl) func157 (by kernel_rfl) (by kernel_rfl) (oneMs A133_ok (by kernel_rfl) func133 (by kernel_rfl) (by kernel_rfl) (oneMs A155_ok (by kernel_rfl) func155 (by kernel_rfl) (by kernel_rfl) (noFns _ _)))))))
noncomputable def L103_0 : Nat → Option LoopD := fun _ => none
def sh103_8 : List Fm := .box 200000 [.val (.sl (.int .u8)), .val (.int .i64)] :: d :: d :: d :: .box 100400 [.val (.int .i64), .own (.int .i64) 100402 false, .own (.int .i64) 100403 false, .own (.pair (.int .i64) (.pair .str (.pair (.int .i64) (.int .i64)))) 100404 false] :: d :: .cell (.val (.int .i64)) :: .box 100700 [.val (.int .i64), .own (.int .i64) 100702 false, .own (.int .i64) 100703 false, .own (.pair (.int .i64) (.pair .str (.pair (.int .i64) (.int .i64)))) 100704 false] :: D 30 (.cell (.val (.int .i64)) :: .cell (.val (.int .i64)) :: D 21 [])
def xs103_8 : List (Ex × List Fm) := [(.exit 0, [.box 200000 [.val (.sl (.int .u8)), .val (.int .i64)], d, d, d, .box 100400 [.val (.int .i64), .own (.int .i64) 100402 false, .own (.int .i64) 100403 false, .own (.pair (.int .i64) (.pair .str (.pair (.int .i64) (.int .i64)))) 100404 false], d, d, .box 100700 [.val (.int .i64), .own (.int .i64) 100702 false, .own (.int .i64) 100703 false, .own (.pair (.int .i64) (.pair .str (.pair (.int .i64) (.int .i64)))) 100704 false], d, d, d, d, d, d, d, d, d, d, d, d, d, d, d, d, d, d, d, d, d, d, d, d, d, d, d, d, d, d, d, d, d, d, d, d, d, d, d, d, d, d, d, d, d, d, d, d, d, d, d, d, d])]
noncomputable def spec_l3Draw_l8 : (((List Int) × Int × Unit) × (Int × (List Int) × (List Int) × (List (Int × (ByteArray × (Int × Int)))) × Unit) × Int × (Int × (List Int) × (List Int) × (List (Int × (ByteArray × (Int × Int)))) × Unit) × Int × Int × Unit) → Option ((((List Int) × Int × Unit) × (Int × (List Int) × (List Int) × (List (Int × (ByteArray × (Int × Int)))) × Unit) × Int × (Int × (List Int) × (List Int) × (List (Int × (ByteArray × (Int × Int)))) × Unit) × Int × Int × Unit) ⊕ ((((List Int) × Int × Unit) × (Int × (List Int) × (List Int) × (List (Int × (ByteArray × (Int × Int)))) × Unit) × (Int × (List Int) × (List Int) × (List (Int × (ByteArray × (Int × Int)))) × Unit) × Unit))) := fun ((v0_0, v0_1, _), (v4_0, v4_1, v4_2, v4_3, _), v6, (v7_0, v7_1, v7_2, v7_3, _), v38, v39, _) =>
 bif (decide (v39 < v38)) then
  Option.bind (spec_l13Rd_pick (v0_0, v0_1) v6) fun (r0, (r1, r2), _) =>
   Option.bind (spec_l13Rd_of (r1, r2) (List.take 2 (List.drop 0 [(⟨#[(97 : UInt8)]⟩ : ByteArray), (⟨#[(98 : UInt8)]⟩ : ByteArray)]))) fun (r3, (r4, r5), _) =>
    Option.bind (spec_l13Rd_pick (r4, r5) v6) fun (r6, (r7, r8), _) =>
     Option.bind (spec_l13Rd_num (r7, r8) (List.take 6 (List.drop 0 [(0 : Int), (1 : Int), (0 : Int), (1 : Int), (2 : Int), (0 : Int)]))) fun (r9, (r10, r11), _) =>
      Option.bind (spec_l3Put (List.take (List.length v7_3) (List.drop 0 v7_3)) (r0, r3, r6, r9)) fun r12 =>
       some (Sum.inl ((r10, r11, ()), (v4_0, (List.take (List.length v4_1) (List.drop 0 v4_1)), (List.take (List.length v4_2) (List.drop 0 v4_2)), (List.take (List.length v4_3) (List.drop 0 v4_3)), ()), v6, (v7_0, (List.take (List.length v7_1) (List.drop 0 v7_1)), (List.take (List.length v7_2) (List.drop 0 v7_2)), (List.take (List.length r12) (List.drop 0 r12)), ()), v38, (IntKind.wrap .i64 (v39 + (1 : Int))), ()))
 else
  some (Sum.inr ((v0_0, v0_1, ()), (v4_0, (List.take (List.length v4_1) (List.drop 0 v4_1)), (List.take (List.length v4_2) (List.drop 0 v4_2)), (List.take (List.length v4_3) (List.drop 0 v4_3)), ()), (v7_0, (List.take (List.length v7_1) (List.drop 0 v7_1)), (List.take (List.length v7_2) (List.drop 0 v7_2)), (List.take (List.length v7_3) (List.drop 0 v7_3)), ()), ()))
theorem spec_l3Draw_l8_eq : loopStep 61 E103 L103_0 (loopOf f103 8) sh103_8 xs103_8 = spec_l3Draw_l8 := by kernel_rfl
theorem loop103_8 {L} (h : L 8 = some ⟨61, sh103_8, xs103_8, spec_l3Draw_l8⟩) : LoopOk prog L (loopOf f103 8) := lo spec_l3Draw_l8_eq E103_ok allNil h
noncomputable def L103_1 : Nat → Option LoopD := fun n => ifEq n 8 (some ⟨61, sh103_8, xs103_8, spec_l3Draw_l8⟩) (L103_0 n)
noncomputable def spec_l3Draw : ((List Int) × Int) → Int → Option (((Int × ((List Int) × ((List Int) × (List (Int × (ByteArray × (Int × Int)))))))) × (((List Int) × Int) × Unit)) := fun (a0_0, a0_1) a1 =>
 Option.bind (spec_l13Rd_pick (a0_0, a0_1) (3 : Int)) fun (r0, (r1, r2), _) =>
  bif (r0 == (0 : Int)) then
   Option.bind (spec_l13Rd_pick (r1, r2) (9 : Int)) fun (r3, (r4, r5), _) =>
    Option.bind (spec_l3Known r3) fun (r6, r7, r8, r9) =>
     bif (decide (r6 ≤ a1)) then
      some ((r6, (List.take (List.length r7) (List.drop 0 r7)), (List.take (List.length r8) (List.drop 0 r8)), (List.take (List.length r9) (List.drop 0 r9))), (r4, r5), ())
     else
      Option.bind (spec_l13Rd_pick (r4, r5) a1) fun (r10, (r11, r12), _) =>
       Option.bind (spec_l3Some (r11, r12) (IntKind.wrap .i64 ((1 : Int) + r10))) fun (r13, (r14, r15), _) =>
        Option.bind (spec_l3Some (r14, r15) (IntKind.wrap .i64 ((1 : Int) + r10))) fun (r16, (r17, r18), _) =>
         Option.bind (spec_l13Rd_pick (r17, r18) (IntKind.wrap .i64 ((IntKind.wrap .i64 ((2 : Int) * (IntKind.wrap .i64 ((1 : Int) + r10)))) + (1 : Int)))) fun (r19, (r20, r21), _) =>
          Option.bind (loopF spec_l3Draw_l8 ((r20, r21, ()), ((0 : Int), [], [], [], ()), (IntKind.wrap .i64 ((1 : Int) + r10)), ((IntKind.wrap .i64 ((1 : Int) + r10)), (List.take (List.length r13) (List.drop 0 r13)), (List.take (List.length r16) (List.drop 0 r16)), (List.take 0 (List.drop 0 [])), ()), (IntKind.wrap .i64 ((1 : Int) + r19)), (0 : Int), ())) fun ((r22, r23, _), (r24, r25, r26, r27, _), (r28, r29, r30, r31, _), _) =>
           some ((r28, (List.take (List.length r29) (List.drop 0 r29)), (List.take (List.length r30) (List.drop 0 r30)), (List.take (List.length r31) (List.drop 0 r31))), (r22, r23), ())
  else
   Option.bind (spec_l13Rd_pick (r1, r2) a1) fun (r32, (r33, r34), _) =>
    Option.bind (spec_l3Some (r33, r34) (IntKind.wrap .i64 ((1 : Int) + r32))) fun (r35, (r36, r37), _) =>
     Option.bind (spec_l3Some (r36, r37) (IntKind.wrap .i64 ((1 : Int) + r32))) fun (r38, (r39, r40), _) =>
      Option.bind (spec_l13Rd_pick (r39, r40) (IntKind.wrap .i64 ((IntKind.wrap .i64 ((2 : Int) * (IntKind.wrap .i64 ((1 : Int) + r32)))) + (1 : Int)))) fun (r41, (r42, r43), _) =>
       Option.bind (loopF spec_l3Draw_l8 ((r42, r43, ()), ((0 : Int), [], [], [], ()), (IntKind.wrap .i64 ((1 : Int) + r32)), ((IntKind.wrap .i64 ((1 : Int) + r32)), (List.take (List.length r35) (List.drop 0 r35)), (List.take (List.length r38) (List.drop 0 r38)), (List.take 0 (List.drop 0 [])), ()), (IntKind.wrap .i64 ((1 : Int) + r41)), (0 : Int), ())) fun ((r44, r45, _), (r46, r47, r48, r49, _), (r50, r51, r52, r53, _), _) =>
        some ((r50, (List.take (List.length r51) (List.drop 0 r51)), (List.take (List.length r52) (List.drop 0 r52)), (List.take (List.length r53) (List.drop 0 r53))), (r44, r45), ())
noncomputable def A103 : FnM := ⟨[.bx (.pair (.sl (.int .u8)) (.int .i64)), .v (.int .i64)], true, [.pair (.int .i64) (.pair (.sl (.int .i64)) (.pair (.sl (.int .i64)) (.sl (.pair (.int .i64) (.pair .str (.pair (.int .i64) (.int .i64)))))))], none, fun x => spec_l3Draw x.1 x.2.1⟩
theorem spec_l3Draw_eq : fnMF E103 L103_1 [.bx (.pair (.sl (.int .u8)) (.int .i64)), .v (.int .i64)] true [.pair (.int .i64) (.pair (.sl (.int .i64)) (.pair (.sl (.int .i64)) (.sl (.pair (.int .i64) (.pair .str (.pair (.int .i64) (.int .i64)))))))] f103.ntmps f103.results.toList (codeOf f103) = fun x => spec_l3Draw x.1 x.2.1 := by kernel_rfl
theorem A103_ok : FnMOk prog 103 A103 := by
 have h := fnMOk_of_run (P := prog) (E := E103) (tysOk_of tyl_ok) E103_ok (L := L103_1) (ps := [.bx (.pair (.sl (.int .u8)) (.int .i64)), .v (.int .i64)]) (own := true) (outs := [.pair (.int .i64) (.pair (.sl (.int .i64)) (.pair (.sl (.int .i64)) (.sl (.pair (.int .i64) (.pair .str (.pair (.int .i64) (.int .i64)))))))]) func103 (c := codeOf f103) (by kernel_rfl) (codeOk_in (L := L103_1) (tysOk_of tyl_ok) E103_ok mixed (c := codeOf f103) (bs := [loopOf f103 8]) (by kernel_rfl) (allCons (loop103_8 rfl) allNil) (by kernel_rfl)) (by kernel_rfl)
 rw [spec_l3Draw_eq] at h
 exact h
/-! spec.l3Bad -/
noncomputable def E102 : Env := ⟨ty0, fun _ => none, fun g => ifEq g 76 (some A76) (ifEq g 155 (some A155) (ifEq g 133 (some A133) (none))), fun _ => none, fun _ => none⟩
theorem E102_ok : FnsOk prog E102 := (oneMs A76_ok (by kernel_rfl) func76 (by kernel_rfl) (by kernel_rfl) (oneMs A155_ok (by kernel_rfl) func155 (by kernel_rfl) (by kernel_rfl) (oneMs A133_ok (by kernel_rfl) func133 (by kernel_rfl) (by kernel_rfl) (noFns _ _))))
noncomputable def L102_0 : Nat → Option LoopD := fun _ => none
noncomputable def spec_l3Bad : ((List Int) × Int) → (Int × ((List Int) × ((List Int) × (List (Int × (ByteArray × (Int × Int))))))) → Option (((Int × ((List Int) × ((List Int) × (List (Int × (ByteArray × (Int × Int)))))))) × (((List Int) × Int) × Unit)) := fun (a0_0, a0_1) (a1_0, a1_1, a1_2, a1_3) =>
 Option.bind (spec_l13Rd_pick (a0_0, a0_1) (36 : Int)) fun (r0, (r1, r2), _) =>
  bif (r0 == (0 : Int)) then
   Option.bind (spec_l13Rd_num (r1, r2) (List.take 5 (List.drop 0 [(0 : Int), (5 : Int), (-1 : Int), (1 : Int), (9223372036854775807 : Int)]))) fun (r3, (r4, r5), _) =>
    some ((r3, a1_1, a1_2, a1_3), (r4, r5), ())
  else
   bif (r0 == (1 : Int)) then
    if (((0 + 0) = (List.length ([] : List Unit))) ∧ (((0 + (List.length a1_3)) * 40) ≤ 140737488355328)) then
     Option.bind (spec_l13Rd_pick (r1, r2) (2 : Int)) fun (r6, (r7, r8), _) =>
      Option.bind (spec_l13Rd_of (r7, r8) (List.take 3 (List.drop 0 [(⟨#[(97 : UInt8)]⟩ : ByteArray), (⟨#[(99 : UInt8)]⟩ : ByteArray), (⟨#[]⟩ : ByteArray)]))) fun (r9, (r10, r11), _) =>
       Option.bind (spec_l13Rd_num (r10, r11) (List.take 3 (List.drop 0 [(0 : Int), (4 : Int), (-1 : Int)]))) fun (r12, (r13, r14), _) =>
        Option.bind (spec_l13Rd_num (r13, r14) (List.take 3 (List.drop 0 [(0 : Int), (4 : Int), (-1 : Int)]))) fun (r15, (r16, r17), _) =>
         if (((0 + (0 + (List.length a1_3))) = (List.length ((List.drop 0 []) ++ a1_3))) ∧ ((((0 + (List.length a1_3)) + (List.length (List.take 1 (List.drop 0 [(r6, r9, r12, r15)])))) * 40) ≤ 140737488355328)) then
          some ((a1_0, a1_1, a1_2, (List.take ((0 + (List.length a1_3)) + (List.length (List.take 1 (List.drop 0 [(r6, r9, r12, r15)])))) (List.drop 0 ((List.drop 0 ((List.drop 0 []) ++ a1_3)) ++ (List.take 1 (List.drop 0 [(r6, r9, r12, r15)])))))), (r16, r17), ())
         else
          none
    else
     none
   else
    bif (r0 == (2 : Int)) then
     if (((0 + 0) = (List.length ([] : List Unit))) ∧ (((0 + (List.length a1_1)) * 8) ≤ 140737488355328)) then
      Option.bind (spec_l13Rd_num (r1, r2) (List.take 3 (List.drop 0 [(0 : Int), (4 : Int), (-1 : Int)]))) fun (r18, (r19, r20), _) =>
       if (((0 + (0 + (List.length a1_1))) = (List.length ((List.drop 0 []) ++ a1_1))) ∧ ((((0 + (List.length a1_1)) + (List.length (List.take 1 (List.drop 0 [r18])))) * 8) ≤ 140737488355328)) then
        some ((a1_0, (List.take ((0 + (List.length a1_1)) + (List.length (List.take 1 (List.drop 0 [r18])))) (List.drop 0 ((List.drop 0 ((List.drop 0 []) ++ a1_1)) ++ (List.take 1 (List.drop 0 [r18]))))), a1_2, a1_3), (r19, r20), ())
       else
        none
     else
      none
    else
     some ((a1_0, a1_1, a1_2, a1_3), (r1, r2), ())
noncomputable def A102 : FnM := ⟨[.bx (.pair (.sl (.int .u8)) (.int .i64)), .v (.pair (.int .i64) (.pair (.sl (.int .i64)) (.pair (.sl (.int .i64)) (.sl (.pair (.int .i64) (.pair .str (.pair (.int .i64) (.int .i64))))))))], false, [.pair (.int .i64) (.pair (.sl (.int .i64)) (.pair (.sl (.int .i64)) (.sl (.pair (.int .i64) (.pair .str (.pair (.int .i64) (.int .i64)))))))], none, fun x => spec_l3Bad x.1 x.2.1⟩
theorem spec_l3Bad_eq : fnMF E102 L102_0 [.bx (.pair (.sl (.int .u8)) (.int .i64)), .v (.pair (.int .i64) (.pair (.sl (.int .i64)) (.pair (.sl (.int .i64)) (.sl (.pair (.int .i64) (.pair .str (.pair (.int .i64) (.int .i64))))))))] false [.pair (.int .i64) (.pair (.sl (.int .i64)) (.pair (.sl (.int .i64)) (.sl (.pair (.int .i64) (.pair .str (.pair (.int .i64) (.int .i64)))))))] f102.ntmps f102.results.toList (codeOf f102) = fun x => spec_l3Bad x.1 x.2.1 := by kernel_rfl
theorem A102_ok : FnMOk prog 102 A102 := by
 have h := fnMOk_of_run (P := prog) (E := E102) (tysOk_of tyl_ok) E102_ok (L := L102_0) (ps := [.bx (.pair (.sl (.int .u8)) (.int .i64)), .v (.pair (.int .i64) (.pair (.sl (.int .i64)) (.pair (.sl (.int .i64)) (.sl (.pair (.int .i64) (.pair .str (.pair (.int .i64) (.int .i64))))))))]) (own := false) (outs := [.pair (.int .i64) (.pair (.sl (.int .i64)) (.pair (.sl (.int .i64)) (.sl (.pair (.int .i64) (.pair .str (.pair (.int .i64) (.int .i64)))))))]) func102 (c := codeOf f102) (by kernel_rfl) (codeOk_in (L := L102_0) (tysOk_of tyl_ok) E102_ok mixed (c := codeOf f102) (bs := []) (by kernel_rfl) allNil (by kernel_rfl)) (by kernel_rfl)
 rw [spec_l3Bad_eq] at h
 exact h
/-! spec.l8Draw -/
noncomputable def E56 : Env := ⟨ty0, fun _ => none, fun g => ifEq g 76 (some A76) (ifEq g 103 (some A103) (ifEq g 102 (some A102) (none))), fun _ => none, fun _ => none⟩
theorem E56_ok : FnsOk prog E56 := (oneMs A76_ok (by kernel_rfl) func76 (by kernel_rfl) (by kernel_rfl) (oneMs A103_ok (by kernel_rfl) func103 (by kernel_rfl) (by kernel_rfl) (oneMs A102_ok (by kernel_rfl) func102 (by kernel_rfl) (by kernel_rfl) (noFns _ _))))
noncomputable def L56_0 : Nat → Option LoopD := fun _ => none
noncomputable def spec_l8Draw : ((List Int) × Int) → Option (((Int × ((List Int) × ((List Int) × (List (Int × (ByteArray × (Int × Int)))))))) × (((List Int) × Int) × Unit)) := fun (a0_0, a0_1) =>
 Option.bind (spec_l13Rd_pick (a0_0, a0_1) (3 : Int)) fun (r0, (r1, r2), _) =>
  bif (r0 == (0 : Int)) then
   Option.bind (spec_l3Draw (r1, r2) (3 : Int)) fun ((r3, r4, r5, r6), (r7, r8), _) =>
    Option.bind (spec_l3Bad (r7, r8) (r3, (List.take (List.length r4) (List.drop 0 r4)), (List.take (List.length r5) (List.drop 0 r5)), (List.take (List.length r6) (List.drop 0 r6)))) fun ((r9, r10, r11, r12), (r13, r14), _) =>
     some ((r9, r10, r11, r12), (r13, r14), ())
  else
   Option.bind (spec_l3Draw (r1, r2) (2 : Int)) fun ((r15, r16, r17, r18), (r19, r20), _) =>
    Option.bind (spec_l3Bad (r19, r20) (r15, (List.take (List.length r16) (List.drop 0 r16)), (List.take (List.length r17) (List.drop 0 r17)), (List.take (List.length r18) (List.drop 0 r18)))) fun ((r21, r22, r23, r24), (r25, r26), _) =>
     some ((r21, r22, r23, r24), (r25, r26), ())
noncomputable def A56 : FnM := ⟨[.bx (.pair (.sl (.int .u8)) (.int .i64))], false, [.pair (.int .i64) (.pair (.sl (.int .i64)) (.pair (.sl (.int .i64)) (.sl (.pair (.int .i64) (.pair .str (.pair (.int .i64) (.int .i64)))))))], none, fun x => spec_l8Draw x.1⟩
theorem spec_l8Draw_eq : fnMF E56 L56_0 [.bx (.pair (.sl (.int .u8)) (.int .i64))] false [.pair (.int .i64) (.pair (.sl (.int .i64)) (.pair (.sl (.int .i64)) (.sl (.pair (.int .i64) (.pair .str (.pair (.int .i64) (.int .i64)))))))] f56.ntmps f56.results.toList (codeOf f56) = fun x => spec_l8Draw x.1 := by kernel_rfl
theorem A56_ok : FnMOk prog 56 A56 := by
 have h := fnMOk_of_run (P := prog) (E := E56) (tysOk_of tyl_ok) E56_ok (L := L56_0) (ps := [.bx (.pair (.sl (.int .u8)) (.int .i64))]) (own := false) (outs := [.pair (.int .i64) (.pair (.sl (.int .i64)) (.pair (.sl (.int .i64)) (.sl (.pair (.int .i64) (.pair .str (.pair (.int .i64) (.int .i64)))))))]) func56 (c := codeOf f56) (by kernel_rfl) (codeOk_in (L := L56_0) (tysOk_of tyl_ok) E56_ok mixed (c := codeOf f56) (bs := []) (by kernel_rfl) allNil (by kernel_rfl)) (by kernel_rfl)
 rw [spec_l8Draw_eq] at h
 exact h
/-! spec.DrawSomeOf -/
noncomputable def E38 : Env := ⟨ty0, fun _ => none, fun g => ifEq g 56 (some A56) (none), fun g => ifEq g 57 (some A57) (none), fun _ => none⟩
theorem E38_ok : FnsOk prog E38 := (oneBs A57_ok func57 (by kernel_rfl) (by kernel_rfl) (oneMs A56_ok (by kernel_rfl) func56 (by kernel_rfl) (by kernel_rfl) (noFns _ _)))
noncomputable def L38_0 : Nat → Option LoopD := fun _ => none
noncomputable def spec_DrawSomeOf : (List Int) → Option ((Int × ((List Int) × ((List Int) × (List (Int × (ByteArray × (Int × Int)))))))) := fun a0 =>
 Option.bind (spec_l13Open a0) fun (r0, r1) =>
  Option.bind (spec_l8Draw (r0, r1)) fun ((r2, r3, r4, r5), (r6, r7), _) =>
   some (r2, r3, r4, r5)
noncomputable def A38 : FnA := ⟨[.v (.sl (.int .u8))], false, [.pair (.int .i64) (.pair (.sl (.int .i64)) (.pair (.sl (.int .i64)) (.sl (.pair (.int .i64) (.pair .str (.pair (.int .i64) (.int .i64)))))))], fun x => spec_DrawSomeOf x.1⟩
theorem spec_DrawSomeOf_eq : fnF E38 L38_0 [.v (.sl (.int .u8))] false [.pair (.int .i64) (.pair (.sl (.int .i64)) (.pair (.sl (.int .i64)) (.sl (.pair (.int .i64) (.pair .str (.pair (.int .i64) (.int .i64)))))))] f38.ntmps f38.results.toList (codeOf f38) = fun x => spec_DrawSomeOf x.1 := by kernel_rfl
theorem A38_ok : FnOk prog 38 A38 := fo spec_DrawSomeOf_eq func38 E38_ok allNil
/-! impl.statesOk -/
noncomputable def E78 : Env := ⟨ty0, fun _ => none, fun _ => none, fun _ => none, fun _ => none⟩
theorem E78_ok : FnsOk prog E78 := (noFns _ _)
noncomputable def L78_0 : Nat → Option LoopD := fun _ => none
def sh78_2 : List Fm := .cell (.val (.sl (.int .i64))) :: .cell (.val (.int .i64)) :: D 5 (.cell (.val (.sl (.int .i64))) :: .cell (.val (.int .i64)) :: .cell (.val (.int .i64)) :: D 25 [])
def xs78_2 : List (Ex × List Fm) := [(.ret, (D 4 (.cell (.val .bool) :: D 30 []))), (.exit 0, (D 35 []))]
noncomputable def impl_statesOk_l2 : ((List Int) × Int × (List Int) × Int × Int × Unit) → Option (((List Int) × Int × (List Int) × Int × Int × Unit) ⊕ ((Bool × Unit) ⊕ (Unit))) := fun (v0, v1, v7, v8, v9, _) =>
 bif (decide (v9 < v8)) then
  if (((0 : Int) ≤ v9) ∧ (v9 < (((List.length v7) : Nat) : Int))) then
   bif (decide ((List.getD v7 (Int.toNat v9) (0 : Int)) < (0 : Int))) then
    some (Sum.inr (Sum.inl (false, ())))
   else
    bif (decide ((List.getD v7 (Int.toNat v9) (0 : Int)) ≥ v1)) then
     some (Sum.inr (Sum.inl (false, ())))
    else
     bif (decide (v9 > (0 : Int))) then
      if (((0 : Int) ≤ (IntKind.wrap .i64 (v9 - (1 : Int)))) ∧ ((IntKind.wrap .i64 (v9 - (1 : Int))) < (((List.length v0) : Nat) : Int))) then
       bif (decide ((List.getD v0 (Int.toNat (IntKind.wrap .i64 (v9 - (1 : Int)))) (0 : Int)) ≥ (List.getD v7 (Int.toNat v9) (0 : Int)))) then
        some (Sum.inr (Sum.inl (false, ())))
       else
        some (Sum.inl (v0, v1, v7, v8, (IntKind.wrap .i64 (v9 + (1 : Int))), ()))
      else
       none
     else
      some (Sum.inl (v0, v1, v7, v8, (IntKind.wrap .i64 (v9 + (1 : Int))), ()))
  else
   none
 else
  some (Sum.inr (Sum.inr ()))
theorem impl_statesOk_l2_eq : loopStep 35 E78 L78_0 (loopOf f78 2) sh78_2 xs78_2 = impl_statesOk_l2 := by kernel_rfl
theorem loop78_2 {L} (h : L 2 = some ⟨35, sh78_2, xs78_2, impl_statesOk_l2⟩) : LoopOk prog L (loopOf f78 2) := lo impl_statesOk_l2_eq E78_ok allNil h
noncomputable def L78_1 : Nat → Option LoopD := fun n => ifEq n 2 (some ⟨35, sh78_2, xs78_2, impl_statesOk_l2⟩) (L78_0 n)
noncomputable def impl_statesOk : (List Int) → Int → Option (Bool) := fun a0 a1 =>
 Option.bind (loopF impl_statesOk_l2 (a0, a1, a0, (((List.length a0) : Nat) : Int), (0 : Int), ())) fun r0 =>
  (match r0 with
  | .inl (d1, _) =>
    some d1
  | .inr _ =>
    some true)
noncomputable def A78 : FnA := ⟨[.v (.sl (.int .i64)), .v (.int .i64)], true, [.bool], fun x => impl_statesOk x.1 x.2.1⟩
theorem impl_statesOk_eq : fnF E78 L78_1 [.v (.sl (.int .i64)), .v (.int .i64)] true [.bool] f78.ntmps f78.results.toList (codeOf f78) = fun x => impl_statesOk x.1 x.2.1 := by kernel_rfl
theorem A78_ok : FnOk prog 78 A78 := fo impl_statesOk_eq func78 E78_ok (allCons (loop78_2 rfl) allNil)
/-! impl.AutomatonValid -/
noncomputable def E30 : Env := ⟨ty0, fun g => ifEq g 78 (some A78) (ifEq g 79 (some A79) (none)), fun _ => none, fun _ => none, fun _ => none⟩
theorem E30_ok : FnsOk prog E30 := (oF A78_ok func78 (oF A79_ok func79 (noFns _ _)))
noncomputable def L30_0 : Nat → Option LoopD := fun _ => none
def sh30_4 : List Fm := d :: .box 100100 [.val (.int .i64), .val (.sl (.int .i64)), .val (.sl (.int .i64)), .val (.sl (.pair (.int .i64) (.pair .str (.pair (.int .i64) (.int .i64)))))] :: D 34 (.cell (.val (.sl (.pair (.int .i64) (.pair .str (.pair (.int .i64) (.int .i64)))))) :: .cell (.val (.int .i64)) :: .cell (.val (.int .i64)) :: D 62 [])
def xs30_4 : List (Ex × List Fm) := [(.ret, (d :: d :: .cell (.val .bool) :: D 98 [])), (.exit 0, (D 101 []))]
noncomputable def impl_AutomatonValid_l4 : ((Int × (List Int) × (List Int) × (List (Int × (ByteArray × (Int × Int)))) × Unit) × (List (Int × (ByteArray × (Int × Int)))) × Int × Int × Unit) → Option (((Int × (List Int) × (List Int) × (List (Int × (ByteArray × (Int × Int)))) × Unit) × (List (Int × (ByteArray × (Int × Int)))) × Int × Int × Unit) ⊕ ((Bool × Unit) ⊕ (Unit))) := fun ((v1_0, v1_1, v1_2, v1_3, _), v36, v37, v38, _) =>
 bif (decide (v38 < v37)) then
  if (((0 : Int) ≤ v38) ∧ (v38 < (((List.length v36) : Nat) : Int))) then
   bif (decide ((List.getD v36 (Int.toNat v38) ((0 : Int), (⟨Array.empty⟩ : ByteArray), (0 : Int), (0 : Int))).1 < (0 : Int))) then
    some (Sum.inr (Sum.inl (false, ())))
   else
    bif (decide ((List.getD v36 (Int.toNat v38) ((0 : Int), (⟨Array.empty⟩ : ByteArray), (0 : Int), (0 : Int))).1 ≥ v1_0)) then
     some (Sum.inr (Sum.inl (false, ())))
    else
     bif (decide ((List.getD v36 (Int.toNat v38) ((0 : Int), (⟨Array.empty⟩ : ByteArray), (0 : Int), (0 : Int))).2.2.1 < (0 : Int))) then
      some (Sum.inr (Sum.inl (false, ())))
     else
      bif (decide ((List.getD v36 (Int.toNat v38) ((0 : Int), (⟨Array.empty⟩ : ByteArray), (0 : Int), (0 : Int))).2.2.1 ≥ v1_0)) then
       some (Sum.inr (Sum.inl (false, ())))
      else
       bif (!((ByteArray.toList (List.getD v36 (Int.toNat v38) ((0 : Int), (⟨Array.empty⟩ : ByteArray), (0 : Int), (0 : Int))).2.1) == (ByteArray.toList (⟨#[(97 : UInt8)]⟩ : ByteArray)))) then
        bif (!((ByteArray.toList (List.getD v36 (Int.toNat v38) ((0 : Int), (⟨Array.empty⟩ : ByteArray), (0 : Int), (0 : Int))).2.1) == (ByteArray.toList (⟨#[(98 : UInt8)]⟩ : ByteArray)))) then
         some (Sum.inr (Sum.inl (false, ())))
        else
         bif (decide ((List.getD v36 (Int.toNat v38) ((0 : Int), (⟨Array.empty⟩ : ByteArray), (0 : Int), (0 : Int))).2.2.2 < (0 : Int))) then
          some (Sum.inr (Sum.inl (false, ())))
         else
          bif (decide ((List.getD v36 (Int.toNat v38) ((0 : Int), (⟨Array.empty⟩ : ByteArray), (0 : Int), (0 : Int))).2.2.2 > (3 : Int))) then
           some (Sum.inr (Sum.inl (false, ())))
          else
           bif (decide (v38 > (0 : Int))) then
            if (((0 : Int) ≤ (IntKind.wrap .i64 (v38 - (1 : Int)))) ∧ ((IntKind.wrap .i64 (v38 - (1 : Int))) < (((List.length v1_3) : Nat) : Int))) then
             Option.bind (impl_stepOrder (List.getD v1_3 (Int.toNat (IntKind.wrap .i64 (v38 - (1 : Int)))) ((0 : Int), (⟨Array.empty⟩ : ByteArray), (0 : Int), (0 : Int))) ((List.getD v36 (Int.toNat v38) ((0 : Int), (⟨Array.empty⟩ : ByteArray), (0 : Int), (0 : Int))).1, (List.getD v36 (Int.toNat v38) ((0 : Int), (⟨Array.empty⟩ : ByteArray), (0 : Int), (0 : Int))).2.1, (List.getD v36 (Int.toNat v38) ((0 : Int), (⟨Array.empty⟩ : ByteArray), (0 : Int), (0 : Int))).2.2.1, (List.getD v36 (Int.toNat v38) ((0 : Int), (⟨Array.empty⟩ : ByteArray), (0 : Int), (0 : Int))).2.2.2)) fun r0 =>
              bif (decide (r0 ≥ (0 : Int))) then
               some (Sum.inr (Sum.inl (false, ())))
              else
               some (Sum.inl ((v1_0, v1_1, v1_2, v1_3, ()), v36, v37, (IntKind.wrap .i64 (v38 + (1 : Int))), ()))
            else
             none
           else
            some (Sum.inl ((v1_0, v1_1, v1_2, v1_3, ()), v36, v37, (IntKind.wrap .i64 (v38 + (1 : Int))), ()))
       else
        bif (decide ((List.getD v36 (Int.toNat v38) ((0 : Int), (⟨Array.empty⟩ : ByteArray), (0 : Int), (0 : Int))).2.2.2 < (0 : Int))) then
         some (Sum.inr (Sum.inl (false, ())))
        else
         bif (decide ((List.getD v36 (Int.toNat v38) ((0 : Int), (⟨Array.empty⟩ : ByteArray), (0 : Int), (0 : Int))).2.2.2 > (3 : Int))) then
          some (Sum.inr (Sum.inl (false, ())))
         else
          bif (decide (v38 > (0 : Int))) then
           if (((0 : Int) ≤ (IntKind.wrap .i64 (v38 - (1 : Int)))) ∧ ((IntKind.wrap .i64 (v38 - (1 : Int))) < (((List.length v1_3) : Nat) : Int))) then
            Option.bind (impl_stepOrder (List.getD v1_3 (Int.toNat (IntKind.wrap .i64 (v38 - (1 : Int)))) ((0 : Int), (⟨Array.empty⟩ : ByteArray), (0 : Int), (0 : Int))) ((List.getD v36 (Int.toNat v38) ((0 : Int), (⟨Array.empty⟩ : ByteArray), (0 : Int), (0 : Int))).1, (List.getD v36 (Int.toNat v38) ((0 : Int), (⟨Array.empty⟩ : ByteArray), (0 : Int), (0 : Int))).2.1, (List.getD v36 (Int.toNat v38) ((0 : Int), (⟨Array.empty⟩ : ByteArray), (0 : Int), (0 : Int))).2.2.1, (List.getD v36 (Int.toNat v38) ((0 : Int), (⟨Array.empty⟩ : ByteArray), (0 : Int), (0 : Int))).2.2.2)) fun r1 =>
             bif (decide (r1 ≥ (0 : Int))) then
              some (Sum.inr (Sum.inl (false, ())))
             else
              some (Sum.inl ((v1_0, v1_1, v1_2, v1_3, ()), v36, v37, (IntKind.wrap .i64 (v38 + (1 : Int))), ()))
           else
            none
          else
           some (Sum.inl ((v1_0, v1_1, v1_2, v1_3, ()), v36, v37, (IntKind.wrap .i64 (v38 + (1 : Int))), ()))
  else
   none
 else
  some (Sum.inr (Sum.inr ()))
theorem impl_AutomatonValid_l4_eq : loopStep 101 E30 L30_0 (loopOf f30 4) sh30_4 xs30_4 = impl_AutomatonValid_l4 := by kernel_rfl
theorem loop30_4 {L} (h : L 4 = some ⟨101, sh30_4, xs30_4, impl_AutomatonValid_l4⟩) : LoopOk prog L (loopOf f30 4) := lo impl_AutomatonValid_l4_eq E30_ok allNil h
noncomputable def L30_1 : Nat → Option LoopD := fun n => ifEq n 4 (some ⟨101, sh30_4, xs30_4, impl_AutomatonValid_l4⟩) (L30_0 n)
noncomputable def impl_AutomatonValid : (Int × ((List Int) × ((List Int) × (List (Int × (ByteArray × (Int × Int))))))) → Option (Bool) := fun (a0_0, a0_1, a0_2, a0_3) =>
 bif (decide (a0_0 < (1 : Int))) then
  some false
 else
  bif (decide (a0_0 > (4 : Int))) then
   some false
  else
   bif (decide ((((List.length a0_3) : Nat) : Int) > (24 : Int))) then
    some false
   else
    Option.bind (impl_statesOk a0_1 a0_0) fun r0 =>
     bif (!r0) then
      some false
     else
      Option.bind (impl_statesOk a0_2 a0_0) fun r1 =>
       bif (!r1) then
        some false
       else
        Option.bind (loopF impl_AutomatonValid_l4 ((a0_0, a0_1, a0_2, a0_3, ()), a0_3, (((List.length a0_3) : Nat) : Int), (0 : Int), ())) fun r2 =>
         (match r2 with
         | .inl (d3, _) =>
           some d3
         | .inr _ =>
           some true)
noncomputable def A30 : FnA := ⟨[.v (.pair (.int .i64) (.pair (.sl (.int .i64)) (.pair (.sl (.int .i64)) (.sl (.pair (.int .i64) (.pair .str (.pair (.int .i64) (.int .i64))))))))], true, [.bool], fun x => impl_AutomatonValid x.1⟩
theorem impl_AutomatonValid_eq : fnF E30 L30_1 [.v (.pair (.int .i64) (.pair (.sl (.int .i64)) (.pair (.sl (.int .i64)) (.sl (.pair (.int .i64) (.pair .str (.pair (.int .i64) (.int .i64))))))))] true [.bool] f30.ntmps f30.results.toList (codeOf f30) = fun x => impl_AutomatonValid x.1 := by kernel_rfl
theorem A30_ok : FnOk prog 30 A30 := fo impl_AutomatonValid_eq func30 E30_ok (allCons (loop30_4 rfl) allNil)
/-! internal/stringslite.HasPrefix -/
noncomputable def E183 : Env := ⟨ty0, fun _ => none, fun _ => none, fun _ => none, fun _ => none⟩
theorem E183_ok : FnsOk prog E183 := (noFns _ _)
noncomputable def L183_0 : Nat → Option LoopD := fun _ => none
noncomputable def internal_stringslite_HasPrefix : ByteArray → ByteArray → Option (Bool) := fun a0 a1 =>
 bif (decide ((((ByteArray.size a0) : Nat) : Int) ≥ (((ByteArray.size a1) : Nat) : Int))) then
  if (((0 : Int) ≤ (((ByteArray.size a1) : Nat) : Int)) ∧ ((((ByteArray.size a1) : Nat) : Int) ≤ (((ByteArray.size a0) : Nat) : Int))) then
   some ((ByteArray.toList (ByteArray.extract a0 0 (Int.toNat (((ByteArray.size a1) : Nat) : Int)))) == (ByteArray.toList a1))
  else
   none
 else
  some false
noncomputable def A183 : FnA := ⟨[.v .str, .v .str], true, [.bool], fun x => internal_stringslite_HasPrefix x.1 x.2.1⟩
theorem internal_stringslite_HasPrefix_eq : fnF E183 L183_0 [.v .str, .v .str] true [.bool] f183.ntmps f183.results.toList (codeOf f183) = fun x => internal_stringslite_HasPrefix x.1 x.2.1 := by kernel_rfl
theorem A183_ok : FnOk prog 183 A183 := fo internal_stringslite_HasPrefix_eq func183 E183_ok allNil
/-! strings.HasPrefix -/
noncomputable def E158 : Env := ⟨ty0, fun g => ifEq g 183 (some A183) (none), fun _ => none, fun _ => none, fun _ => none⟩
theorem E158_ok : FnsOk prog E158 := (oF A183_ok func183 (noFns _ _))
noncomputable def L158_0 : Nat → Option LoopD := fun _ => none
noncomputable def strings_HasPrefix : ByteArray → ByteArray → Option (Bool) := fun a0 a1 =>
 Option.bind (internal_stringslite_HasPrefix a0 a1) fun r0 =>
  some r0
noncomputable def A158 : FnA := ⟨[.v .str, .v .str], true, [.bool], fun x => strings_HasPrefix x.1 x.2.1⟩
theorem strings_HasPrefix_eq : fnF E158 L158_0 [.v .str, .v .str] true [.bool] f158.ntmps f158.results.toList (codeOf f158) = fun x => strings_HasPrefix x.1 x.2.1 := by kernel_rfl
theorem A158_ok : FnOk prog 158 A158 := fo strings_HasPrefix_eq func158 E158_ok allNil
/-! impl.readParts -/
noncomputable def R107 (impl_readParts_rec : ByteArray → Option ((List (ByteArray × PT)) × ByteArray)) : FnA := ⟨[.v .str], true, [.sl (.pair .str .pt), .str], fun x => impl_readParts_rec x.1⟩
noncomputable def E107 (impl_readParts_rec : ByteArray → Option ((List (ByteArray × PT)) × ByteArray)) : Env := ⟨ty0, fun g => ifEq g 107 (some (R107 impl_readParts_rec)) (ifEq g 158 (some A158) (none)), fun _ => none, fun _ => none, fun _ => none⟩
theorem E107_ok (impl_readParts_rec : ByteArray → Option ((List (ByteArray × PT)) × ByteArray)) (hrec : FnOk prog 107 (R107 impl_readParts_rec)) : FnsOk prog (E107 impl_readParts_rec) := (oF hrec func107 (oF A158_ok func158 (noFns _ _)))
noncomputable def L107_0 (impl_readParts_rec : ByteArray → Option ((List (ByteArray × PT)) × ByteArray)) : Nat → Option LoopD := fun _ => none
def sh107_2 : List Fm := .cell (.val .str) :: d :: d :: d :: .cell (.own (.pair .str .pt) 100400 false) :: D 44 []
def xs107_2 : List (Ex × List Fm) := [(.ret, (d :: d :: .cell (.own (.pair .str .pt) 100200 false) :: .cell (.val .str) :: D 45 [])), (.exit 0, (.cell (.val .str) :: d :: d :: d :: .cell (.own (.pair .str .pt) 100400 false) :: D 44 []))]
noncomputable def impl_readParts_l2 (impl_readParts_rec : ByteArray → Option ((List (ByteArray × PT)) × ByteArray)) : (ByteArray × (List (ByteArray × PT)) × Unit) → Option ((ByteArray × (List (ByteArray × PT)) × Unit) ⊕ (((List (ByteArray × PT)) × ByteArray × Unit) ⊕ (ByteArray × (List (ByteArray × PT)) × Unit))) := fun (v0, v4, _) =>
 bif (!((ByteArray.toList v0) == (ByteArray.toList (⟨#[]⟩ : ByteArray)))) then
  if (((0 : Int) ≤ (0 : Int)) ∧ ((0 : Int) < (((ByteArray.size v0) : Nat) : Int))) then
   bif ((((UInt8.toNat (Array.getD (ByteArray.data v0) (Int.toNat (0 : Int)) (0 : UInt8))) : Nat) : Int) == (97 : Int)) then
    bif ((((UInt8.toNat (Array.getD (ByteArray.data v0) (Int.toNat (0 : Int)) (0 : UInt8))) : Nat) : Int) == (97 : Int)) then
     if (((0 : Int) ≤ (1 : Int)) ∧ ((1 : Int) ≤ (((ByteArray.size v0) : Nat) : Int))) then
      if (((0 + (List.length v4)) = (List.length v4)) ∧ ((((List.length v4) + (List.length (List.take 1 (List.drop 0 [((ByteArray.extract v0 0 (Int.toNat (1 : Int))), (PT.mk []))])))) * 40) ≤ 140737488355328)) then
       if (((0 : Int) ≤ (1 : Int)) ∧ ((1 : Int) ≤ (((ByteArray.size v0) : Nat) : Int))) then
        some (Sum.inl ((ByteArray.extract v0 (Int.toNat (1 : Int)) (ByteArray.size v0)), (List.take ((List.length v4) + (List.length (List.take 1 (List.drop 0 [((ByteArray.extract v0 0 (Int.toNat (1 : Int))), (PT.mk []))])))) (List.drop 0 ((List.drop 0 v4) ++ (List.take 1 (List.drop 0 [((ByteArray.extract v0 0 (Int.toNat (1 : Int))), (PT.mk []))]))))), ()))
       else
        none
      else
       none
     else
      none
    else
     bif ((((UInt8.toNat (Array.getD (ByteArray.data v0) (Int.toNat (0 : Int)) (0 : UInt8))) : Nat) : Int) == (40 : Int)) then
      if (((0 : Int) ≤ (1 : Int)) ∧ ((1 : Int) ≤ (((ByteArray.size v0) : Nat) : Int))) then
       Option.bind (impl_readParts_rec (ByteArray.extract v0 (Int.toNat (1 : Int)) (ByteArray.size v0))) fun (r0, r1) =>
        bif (decide ((((List.length r0) : Nat) : Int) > (0 : Int))) then
         Option.bind (strings_HasPrefix r1 (⟨#[(41 : UInt8), (35 : UInt8)]⟩ : ByteArray)) fun r2 =>
          bif r2 then
           if (((0 + (List.length v4)) = (List.length v4)) ∧ ((((List.length v4) + (List.length (List.take 1 (List.drop 0 [((⟨Array.empty⟩ : ByteArray), (PT.mk (List.take (List.length r0) (List.drop 0 r0))))])))) * 40) ≤ 140737488355328)) then
            if (((0 : Int) ≤ (2 : Int)) ∧ ((2 : Int) ≤ (((ByteArray.size r1) : Nat) : Int))) then
             some (Sum.inl ((ByteArray.extract r1 (Int.toNat (2 : Int)) (ByteArray.size r1)), (List.take ((List.length v4) + (List.length (List.take 1 (List.drop 0 [((⟨Array.empty⟩ : ByteArray), (PT.mk (List.take (List.length r0) (List.drop 0 r0))))])))) (List.drop 0 ((List.drop 0 v4) ++ (List.take 1 (List.drop 0 [((⟨Array.empty⟩ : ByteArray), (PT.mk (List.take (List.length r0) (List.drop 0 r0))))]))))), ()))
            else
             none
           else
            none
          else
           some (Sum.inr (Sum.inl ((List.take (List.length v4) (List.drop 0 v4)), v0, ())))
        else
         some (Sum.inr (Sum.inl ((List.take (List.length v4) (List.drop 0 v4)), v0, ())))
      else
       none
     else
      some (Sum.inr (Sum.inl ((List.take (List.length v4) (List.drop 0 v4)), v0, ())))
   else
    bif ((((UInt8.toNat (Array.getD (ByteArray.data v0) (Int.toNat (0 : Int)) (0 : UInt8))) : Nat) : Int) == (98 : Int)) then
     if (((0 : Int) ≤ (1 : Int)) ∧ ((1 : Int) ≤ (((ByteArray.size v0) : Nat) : Int))) then
      if (((0 + (List.length v4)) = (List.length v4)) ∧ ((((List.length v4) + (List.length (List.take 1 (List.drop 0 [((ByteArray.extract v0 0 (Int.toNat (1 : Int))), (PT.mk []))])))) * 40) ≤ 140737488355328)) then
       if (((0 : Int) ≤ (1 : Int)) ∧ ((1 : Int) ≤ (((ByteArray.size v0) : Nat) : Int))) then
        some (Sum.inl ((ByteArray.extract v0 (Int.toNat (1 : Int)) (ByteArray.size v0)), (List.take ((List.length v4) + (List.length (List.take 1 (List.drop 0 [((ByteArray.extract v0 0 (Int.toNat (1 : Int))), (PT.mk []))])))) (List.drop 0 ((List.drop 0 v4) ++ (List.take 1 (List.drop 0 [((ByteArray.extract v0 0 (Int.toNat (1 : Int))), (PT.mk []))]))))), ()))
       else
        none
      else
       none
     else
      none
    else
     bif ((((UInt8.toNat (Array.getD (ByteArray.data v0) (Int.toNat (0 : Int)) (0 : UInt8))) : Nat) : Int) == (40 : Int)) then
      if (((0 : Int) ≤ (1 : Int)) ∧ ((1 : Int) ≤ (((ByteArray.size v0) : Nat) : Int))) then
       Option.bind (impl_readParts_rec (ByteArray.extract v0 (Int.toNat (1 : Int)) (ByteArray.size v0))) fun (r3, r4) =>
        bif (decide ((((List.length r3) : Nat) : Int) > (0 : Int))) then
         Option.bind (strings_HasPrefix r4 (⟨#[(41 : UInt8), (35 : UInt8)]⟩ : ByteArray)) fun r5 =>
          bif r5 then
           if (((0 + (List.length v4)) = (List.length v4)) ∧ ((((List.length v4) + (List.length (List.take 1 (List.drop 0 [((⟨Array.empty⟩ : ByteArray), (PT.mk (List.take (List.length r3) (List.drop 0 r3))))])))) * 40) ≤ 140737488355328)) then
            if (((0 : Int) ≤ (2 : Int)) ∧ ((2 : Int) ≤ (((ByteArray.size r4) : Nat) : Int))) then
             some (Sum.inl ((ByteArray.extract r4 (Int.toNat (2 : Int)) (ByteArray.size r4)), (List.take ((List.length v4) + (List.length (List.take 1 (List.drop 0 [((⟨Array.empty⟩ : ByteArray), (PT.mk (List.take (List.length r3) (List.drop 0 r3))))])))) (List.drop 0 ((List.drop 0 v4) ++ (List.take 1 (List.drop 0 [((⟨Array.empty⟩ : ByteArray), (PT.mk (List.take (List.length r3) (List.drop 0 r3))))]))))), ()))
            else
             none
           else
            none
          else
           some (Sum.inr (Sum.inl ((List.take (List.length v4) (List.drop 0 v4)), v0, ())))
        else
         some (Sum.inr (Sum.inl ((List.take (List.length v4) (List.drop 0 v4)), v0, ())))
      else
       none
     else
      some (Sum.inr (Sum.inl ((List.take (List.length v4) (List.drop 0 v4)), v0, ())))
  else
   none
 else
  some (Sum.inr (Sum.inr (v0, (List.take (List.length v4) (List.drop 0 v4)), ())))
theorem impl_readParts_l2_eq (impl_readParts_rec : ByteArray → Option ((List (ByteArray × PT)) × ByteArray)) : loopStep 49 (E107 impl_readParts_rec) (L107_0 impl_readParts_rec) (loopOf f107 2) sh107_2 xs107_2 = (impl_readParts_l2 impl_readParts_rec) := by kernel_rfl
theorem loop107_2 (impl_readParts_rec : ByteArray → Option ((List (ByteArray × PT)) × ByteArray)) (hrec : FnOk prog 107 (R107 impl_readParts_rec)) {L : Nat → Option LoopD} (h : L 2 = some ⟨49, sh107_2, xs107_2, (impl_readParts_l2 impl_readParts_rec)⟩) : LoopOk prog L (loopOf f107 2) :=
 loopOk (tysOk_of tyl_ok) (E107_ok impl_readParts_rec hrec) (codeOk_in (L := (L107_0 impl_readParts_rec)) (tysOk_of tyl_ok) (E107_ok impl_readParts_rec hrec) mixed (c := loopOf f107 2) (bs := []) (by kernel_rfl) allNil (by kernel_rfl)) (by kernel_rfl) (by kernel_rfl) (impl_readParts_l2_eq impl_readParts_rec) (by rw [show firstId (loopOf f107 2) = 2 from by kernel_rfl]; exact h)
noncomputable def L107_1 (impl_readParts_rec : ByteArray → Option ((List (ByteArray × PT)) × ByteArray)) : Nat → Option LoopD := fun n => ifEq n 2 (some ⟨49, sh107_2, xs107_2, (impl_readParts_l2 impl_readParts_rec)⟩) ((L107_0 impl_readParts_rec) n)
noncomputable def impl_readParts_step (impl_readParts_rec : ByteArray → Option ((List (ByteArray × PT)) × ByteArray)) : ByteArray → Option ((List (ByteArray × PT)) × ByteArray) := fun a0 =>
 Option.bind (loopF (impl_readParts_l2 impl_readParts_rec) (a0, (List.take 0 (List.drop 0 [])), ())) fun r0 =>
  (match r0 with
  | .inl (d1, d2, _) =>
    some ((List.take (List.length d1) (List.drop 0 d1)), d2)
  | .inr (d3, d4, _) =>
    some ((List.take (List.length d4) (List.drop 0 d4)), d3))
theorem impl_readParts_step_eq (impl_readParts_rec : ByteArray → Option ((List (ByteArray × PT)) × ByteArray)) : fnF (E107 impl_readParts_rec) (L107_1 impl_readParts_rec) [.v .str] true [.sl (.pair .str .pt), .str] f107.ntmps f107.results.toList (codeOf f107) = fun x => (impl_readParts_step impl_readParts_rec) x.1 := by kernel_rfl
theorem impl_readParts_step_ok (impl_readParts_rec : ByteArray → Option ((List (ByteArray × PT)) × ByteArray)) (hrec : FnOk prog 107 (R107 impl_readParts_rec)) : FnOk prog 107 ⟨[.v .str], true, [.sl (.pair .str .pt), .str], fun x => (impl_readParts_step impl_readParts_rec) x.1⟩ := by
 have h := fnOk_of_run (P := prog) (E := (E107 impl_readParts_rec)) (tysOk_of tyl_ok) (E107_ok impl_readParts_rec hrec) (L := (L107_1 impl_readParts_rec)) (ps := [.v .str]) (own := true) (outs := [.sl (.pair .str .pt), .str]) func107 (c := codeOf f107) (by kernel_rfl) (codeOk_in (L := (L107_1 impl_readParts_rec)) (tysOk_of tyl_ok) (E107_ok impl_readParts_rec hrec) mixed (c := codeOf f107) (bs := [loopOf f107 2]) (by kernel_rfl) (allCons (loop107_2 impl_readParts_rec hrec rfl) allNil) (by kernel_rfl))
 rw [(impl_readParts_step_eq impl_readParts_rec)] at h
 exact h
/-- so many calls within each other -/
noncomputable def impl_readParts_fuel : Nat → ByteArray → Option ((List (ByteArray × PT)) × ByteArray)
 | 0 => fun _ => none
 | n + 1 => impl_readParts_step (impl_readParts_fuel n)
theorem impl_readParts_fuel_ok : ∀ n, FnOk prog 107 (R107 (impl_readParts_fuel n))
 | 0 => fun xs r h => by cases h
 | n + 1 => impl_readParts_step_ok (impl_readParts_fuel n) (impl_readParts_fuel_ok n)
noncomputable def impl_readParts : ByteArray → Option ((List (ByteArray × PT)) × ByteArray) := impl_readParts_fuel 200
noncomputable def A107 : FnA := R107 impl_readParts
theorem A107_ok : FnOk prog 107 A107 := impl_readParts_fuel_ok 200
/-! impl.parts -/
noncomputable def E62 : Env := ⟨ty0, fun g => ifEq g 107 (some A107) (none), fun _ => none, fun _ => none, fun _ => none⟩
theorem E62_ok : FnsOk prog E62 := (oF A107_ok func107 (noFns _ _))
noncomputable def L62_0 : Nat → Option LoopD := fun _ => none
noncomputable def impl_parts : ByteArray → Option ((List (ByteArray × PT)) × Bool) := fun a0 =>
 bif (decide ((((ByteArray.size a0) : Nat) : Int) > (120 : Int))) then
  some ([], false)
 else
  Option.bind (impl_readParts a0) fun (r0, r1) =>
   bif (decide ((((List.length r0) : Nat) : Int) > (0 : Int))) then
    some ((List.take (List.length r0) (List.drop 0 r0)), ((ByteArray.toList r1) == (ByteArray.toList (⟨#[]⟩ : ByteArray))))
   else
    some ((List.take (List.length r0) (List.drop 0 r0)), false)
noncomputable def A62 : FnA := ⟨[.v .str], true, [.sl (.pair .str .pt), .bool], fun x => impl_parts x.1⟩
theorem impl_parts_eq : fnF E62 L62_0 [.v .str] true [.sl (.pair .str .pt), .bool] f62.ntmps f62.results.toList (codeOf f62) = fun x => impl_parts x.1 := by kernel_rfl
theorem A62_ok : FnOk prog 62 A62 := fo impl_parts_eq func62 E62_ok allNil
/-! impl.filled -/
noncomputable def E65 : Env := ⟨ty0, fun _ => none, fun _ => none, fun _ => none, fun _ => none⟩
theorem E65_ok : FnsOk prog E65 := (noFns _ _)
noncomputable def L65_0 : Nat → Option LoopD := fun _ => none
def sh65_6 : List Fm := .cell (.val (.int .i64)) :: .clo [.int .i64, .int .i64] (.int .i64) :: d :: d :: .box 100400 [.val (.int .i64), .own (.int .i64) 100402 false] :: .box 100500 [.val (.int .i64), .own (.int .i64) 100502 false] :: .cell (.val (.int .i64)) :: d :: d :: d :: .cell (.val (.int .i64)) :: .cell (.val (.int .i64)) :: d :: d :: .cell (.val (.int .i64)) :: .cell (.val (.int .i64)) :: D 14 []
def xs65_6 : List (Ex × List Fm) := [(.exit 2, [.cell (.val (.int .i64)), .clo [.int .i64, .int .i64] (.int .i64), d, d, .box 100400 [.val (.int .i64), .own (.int .i64) 100402 false], .box 100500 [.val (.int .i64), .own (.int .i64) 100502 false], d, d, d, d, .cell (.val (.int .i64)), .cell (.val (.int .i64)), d, d, d, d, d, d, d, d, d, d, d, d, d, d, d, d, d, d])]
noncomputable def impl_filled_l6 : (Int × ((Int × Int × Unit) → Option (Int)) × (Int × (List Int) × Unit) × (Int × (List Int) × Unit) × Int × Int × Int × Int × Int × Unit) → Option ((Int × ((Int × Int × Unit) → Option (Int)) × (Int × (List Int) × Unit) × (Int × (List Int) × Unit) × Int × Int × Int × Int × Int × Unit) ⊕ ((Int × ((Int × Int × Unit) → Option (Int)) × (Int × (List Int) × Unit) × (Int × (List Int) × Unit) × Int × Int × Unit))) := fun (v0, v1, (v4_0, v4_1, _), (v5_0, v5_1, _), v6, v10, v11, v14, v15, _) =>
 bif (decide (v15 < v14)) then
  Option.bind (v1 (v6, v15, ())) fun r0 =>
   if (((0 + (List.length v5_1)) = (List.length v5_1)) ∧ ((((List.length v5_1) + (List.length (List.take 1 (List.drop 0 [r0])))) * 8) ≤ 140737488355328)) then
    some (Sum.inl (v0, v1, (v4_0, (List.take (List.length v4_1) (List.drop 0 v4_1)), ()), (v5_0, (List.take ((List.length v5_1) + (List.length (List.take 1 (List.drop 0 [r0])))) (List.drop 0 ((List.drop 0 v5_1) ++ (List.take 1 (List.drop 0 [r0]))))), ()), v6, v10, v11, v14, (IntKind.wrap .i64 (v15 + (1 : Int))), ()))
   else
    none
 else
  some (Sum.inr (v0, v1, (v4_0, (List.take (List.length v4_1) (List.drop 0 v4_1)), ()), (v5_0, (List.take (List.length v5_1) (List.drop 0 v5_1)), ()), v10, v11, ()))
theorem impl_filled_l6_eq : loopStep 30 E65 L65_0 (loopOf f65 6) sh65_6 xs65_6 = impl_filled_l6 := by kernel_rfl
theorem loop65_6 {L} (h : L 6 = some ⟨30, sh65_6, xs65_6, impl_filled_l6⟩) : LoopOk prog L (loopOf f65 6) := lo impl_filled_l6_eq E65_ok allNil h
noncomputable def L65_1 : Nat → Option LoopD := fun n => ifEq n 6 (some ⟨30, sh65_6, xs65_6, impl_filled_l6⟩) (L65_0 n)
def sh65_3 : List Fm := .cell (.val (.int .i64)) :: .clo [.int .i64, .int .i64] (.int .i64) :: d :: d :: .box 100400 [.val (.int .i64), .own (.int .i64) 100402 false] :: .box 100500 [.val (.int .i64), .own (.int .i64) 100502 false] :: D 4 (.cell (.val (.int .i64)) :: .cell (.val (.int .i64)) :: D 18 [])
def xs65_3 : List (Ex × List Fm) := [(.exit 0, [d, d, d, d, .box 100400 [.val (.int .i64), .own (.int .i64) 100402 false], .box 100500 [.val (.int .i64), .own (.int .i64) 100502 false], d, d, d, d, d, d, d, d, d, d, d, d, d, d, d, d, d, d, d, d, d, d, d, d])]
noncomputable def impl_filled_l3 : (Int × ((Int × Int × Unit) → Option (Int)) × (Int × (List Int) × Unit) × (Int × (List Int) × Unit) × Int × Int × Unit) → Option ((Int × ((Int × Int × Unit) → Option (Int)) × (Int × (List Int) × Unit) × (Int × (List Int) × Unit) × Int × Int × Unit) ⊕ (((Int × (List Int) × Unit) × (Int × (List Int) × Unit) × Unit))) := fun (v0, v1, (v4_0, v4_1, _), (v5_0, v5_1, _), v10, v11, _) =>
 bif (decide (v11 < v10)) then
  Option.bind (loopF impl_filled_l6 (v0, v1, (v4_0, (List.take (List.length v4_1) (List.drop 0 v4_1)), ()), (v5_0, (List.take (List.length v5_1) (List.drop 0 v5_1)), ()), v11, v10, v11, v0, (0 : Int), ())) fun (r0, r1, (r2, r3, _), (r4, r5, _), r6, r7, _) =>
   some (Sum.inl (r0, r1, (r2, (List.take (List.length r3) (List.drop 0 r3)), ()), (r4, (List.take (List.length r5) (List.drop 0 r5)), ()), r6, (IntKind.wrap .i64 (r7 + (1 : Int))), ()))
 else
  some (Sum.inr ((v4_0, (List.take (List.length v4_1) (List.drop 0 v4_1)), ()), (v5_0, (List.take (List.length v5_1) (List.drop 0 v5_1)), ()), ()))
theorem impl_filled_l3_eq : loopStep 30 E65 L65_1 (loopOf f65 3) sh65_3 xs65_3 = impl_filled_l3 := by kernel_rfl
theorem loop65_3 {L} (h : L 3 = some ⟨30, sh65_3, xs65_3, impl_filled_l3⟩) : LoopOk prog L (loopOf f65 3) := lo impl_filled_l3_eq E65_ok (allCons (loop65_6 rfl) allNil) h
noncomputable def L65_2 : Nat → Option LoopD := fun n => ifEq n 3 (some ⟨30, sh65_3, xs65_3, impl_filled_l3⟩) (L65_1 n)
noncomputable def impl_filled : Int → ((Int × Int × Unit) → Option (Int)) → Option ((Int × (List Int))) := fun a0 a1 =>
 Option.bind (loopF impl_filled_l3 (a0, a1, ((0 : Int), [], ()), (a0, [], ()), a0, (0 : Int), ())) fun ((r0, r1, _), (r2, r3, _), _) =>
  some (r2, (List.take (List.length r3) (List.drop 0 r3)))
noncomputable def A65 : FnA := ⟨[.v (.int .i64), .clo [.int .i64, .int .i64] (.int .i64)], true, [.pair (.int .i64) (.sl (.int .i64))], fun x => impl_filled x.1 x.2.1⟩
theorem impl_filled_eq : fnF E65 L65_2 [.v (.int .i64), .clo [.int .i64, .int .i64] (.int .i64)] true [.pair (.int .i64) (.sl (.int .i64))] f65.ntmps f65.results.toList (codeOf f65) = fun x => impl_filled x.1 x.2.1 := by kernel_rfl
theorem A65_ok : FnOk prog 65 A65 := fo impl_filled_eq func65 E65_ok (allCons (loop65_3 rfl) allNil)
/-! impl.StepMatrix$1 -/
noncomputable def E159 : Env := ⟨ty0, fun _ => none, fun _ => none, fun _ => none, fun _ => none⟩
theorem E159_ok : FnsOk prog E159 := (noFns _ _)
noncomputable def L159_0 : Nat → Option LoopD := fun _ => none
noncomputable def impl_StepMatrix_1 : Int → Int → Option (Int) := fun a0 a1 =>
 some (1000000 : Int)
noncomputable def A159 : FnA := ⟨[.v (.int .i64), .v (.int .i64)], true, [.int .i64], fun x => impl_StepMatrix_1 x.1 x.2.1⟩
theorem impl_StepMatrix_1_eq : fnF E159 L159_0 [.v (.int .i64), .v (.int .i64)] true [.int .i64] f159.ntmps f159.results.toList (codeOf f159) = fun x => impl_StepMatrix_1 x.1 x.2.1 := by kernel_rfl
theorem A159_ok : FnOk prog 159 A159 := fo impl_StepMatrix_1_eq func159 E159_ok allNil
/-! impl.StepMatrix -/
noncomputable def E108 : Env := ⟨ty0, fun g => ifEq g 30 (some A30) (ifEq g 65 (some A65) (ifEq g 159 (some A159) (none))), fun _ => none, fun _ => none, fun _ => none⟩
theorem E108_ok : FnsOk prog E108 := (oF A30_ok func30 (oF A65_ok func65 (oF A159_ok func159 (noFns _ _))))
noncomputable def L108_0 : Nat → Option LoopD := fun _ => none
def sh108_5 : List Fm := d :: .cell (.val .str) :: d :: d :: .box 100400 [.val (.int .i64), .own (.int .i64) 100402 false] :: d :: .box 100600 [.val (.int .i64), .own (.int .i64) 100602 false] :: D 18 (.cell (.val (.sl (.pair (.int .i64) (.pair .str (.pair (.int .i64) (.int .i64)))))) :: .cell (.val (.int .i64)) :: .cell (.val (.int .i64)) :: D 22 [])
def xs108_5 : List (Ex × List Fm) := [(.exit 0, [d, d, d, d, .box 100400 [.val (.int .i64), .own (.int .i64) 100402 false], d, .box 100600 [.val (.int .i64), .own (.int .i64) 100602 false], d, d, d, d, d, d, d, d, d, d, d, d, d, d, d, d, d, d, d, d, d, d, d, d, d, d, d, d, d, d, d, d, d, d, d, d, d, d, d, d, d, d, d])]
noncomputable def impl_StepMatrix_l5 : (ByteArray × (Int × (List Int) × Unit) × (Int × (List Int) × Unit) × (List (Int × (ByteArray × (Int × Int)))) × Int × Int × Unit) → Option ((ByteArray × (Int × (List Int) × Unit) × (Int × (List Int) × Unit) × (List (Int × (ByteArray × (Int × Int)))) × Int × Int × Unit) ⊕ (((Int × (List Int) × Unit) × (Int × (List Int) × Unit) × Unit))) := fun (v1, (v4_0, v4_1, _), (v6_0, v6_1, _), v25, v26, v27, _) =>
 bif (decide (v27 < v26)) then
  if (((0 : Int) ≤ v27) ∧ (v27 < (((List.length v25) : Nat) : Int))) then
   bif ((ByteArray.toList (List.getD v25 (Int.toNat v27) ((0 : Int), (⟨Array.empty⟩ : ByteArray), (0 : Int), (0 : Int))).2.1) == (ByteArray.toList v1)) then
    if (((0 : Int) ≤ (IntKind.wrap .i64 ((IntKind.wrap .i64 ((List.getD v25 (Int.toNat v27) ((0 : Int), (⟨Array.empty⟩ : ByteArray), (0 : Int), (0 : Int))).1 * v6_0)) + (List.getD v25 (Int.toNat v27) ((0 : Int), (⟨Array.empty⟩ : ByteArray), (0 : Int), (0 : Int))).2.2.1))) ∧ ((IntKind.wrap .i64 ((IntKind.wrap .i64 ((List.getD v25 (Int.toNat v27) ((0 : Int), (⟨Array.empty⟩ : ByteArray), (0 : Int), (0 : Int))).1 * v6_0)) + (List.getD v25 (Int.toNat v27) ((0 : Int), (⟨Array.empty⟩ : ByteArray), (0 : Int), (0 : Int))).2.2.1)) < (((List.length v6_1) : Nat) : Int))) then
     some (Sum.inl (v1, (v4_0, (List.take (List.length v4_1) (List.drop 0 v4_1)), ()), (v6_0, (List.take (List.length v6_1) (List.drop 0 (List.set v6_1 (0 + (Int.toNat (IntKind.wrap .i64 ((IntKind.wrap .i64 ((List.getD v25 (Int.toNat v27) ((0 : Int), (⟨Array.empty⟩ : ByteArray), (0 : Int), (0 : Int))).1 * v6_0)) + (List.getD v25 (Int.toNat v27) ((0 : Int), (⟨Array.empty⟩ : ByteArray), (0 : Int), (0 : Int))).2.2.1)))) (List.getD v25 (Int.toNat v27) ((0 : Int), (⟨Array.empty⟩ : ByteArray), (0 : Int), (0 : Int))).2.2.2))), ()), v25, v26, (IntKind.wrap .i64 (v27 + (1 : Int))), ()))
    else
     none
   else
    some (Sum.inl (v1, (v4_0, (List.take (List.length v4_1) (List.drop 0 v4_1)), ()), (v6_0, (List.take (List.length v6_1) (List.drop 0 v6_1)), ()), v25, v26, (IntKind.wrap .i64 (v27 + (1 : Int))), ()))
  else
   none
 else
  some (Sum.inr ((v4_0, (List.take (List.length v4_1) (List.drop 0 v4_1)), ()), (v6_0, (List.take (List.length v6_1) (List.drop 0 v6_1)), ()), ()))
theorem impl_StepMatrix_l5_eq : loopStep 50 E108 L108_0 (loopOf f108 5) sh108_5 xs108_5 = impl_StepMatrix_l5 := by kernel_rfl
theorem loop108_5 {L} (h : L 5 = some ⟨50, sh108_5, xs108_5, impl_StepMatrix_l5⟩) : LoopOk prog L (loopOf f108 5) := lo impl_StepMatrix_l5_eq E108_ok allNil h
noncomputable def L108_1 : Nat → Option LoopD := fun n => ifEq n 5 (some ⟨50, sh108_5, xs108_5, impl_StepMatrix_l5⟩) (L108_0 n)
noncomputable def impl_StepMatrix : (Int × ((List Int) × ((List Int) × (List (Int × (ByteArray × (Int × Int))))))) → ByteArray → Option ((Int × (List Int)) × Bool) := fun (a0_0, a0_1, a0_2, a0_3) a1 =>
 Option.bind (impl_AutomatonValid (a0_0, a0_1, a0_2, a0_3)) fun r0 =>
  bif (!r0) then
   some (((0 : Int), []), false)
  else
   bif (!((ByteArray.toList a1) == (ByteArray.toList (⟨#[(97 : UInt8)]⟩ : ByteArray)))) then
    bif (!((ByteArray.toList a1) == (ByteArray.toList (⟨#[(98 : UInt8)]⟩ : ByteArray)))) then
     some (((0 : Int), []), false)
    else
     Option.bind (impl_filled a0_0 (fun y1 => (impl_StepMatrix_1 y1.1 y1.2.1))) fun (r2, r3) =>
      Option.bind (loopF impl_StepMatrix_l5 (a1, ((0 : Int), [], ()), (r2, (List.take (List.length r3) (List.drop 0 r3)), ()), a0_3, (((List.length a0_3) : Nat) : Int), (0 : Int), ())) fun ((r4, r5, _), (r6, r7, _), _) =>
       some ((r6, (List.take (List.length r7) (List.drop 0 r7))), true)
   else
    Option.bind (impl_filled a0_0 (fun y8 => (impl_StepMatrix_1 y8.1 y8.2.1))) fun (r9, r10) =>
     Option.bind (loopF impl_StepMatrix_l5 (a1, ((0 : Int), [], ()), (r9, (List.take (List.length r10) (List.drop 0 r10)), ()), a0_3, (((List.length a0_3) : Nat) : Int), (0 : Int), ())) fun ((r11, r12, _), (r13, r14, _), _) =>
      some ((r13, (List.take (List.length r14) (List.drop 0 r14))), true)
noncomputable def A108 : FnA := ⟨[.v (.pair (.int .i64) (.pair (.sl (.int .i64)) (.pair (.sl (.int .i64)) (.sl (.pair (.int .i64) (.pair .str (.pair (.int .i64) (.int .i64)))))))), .v .str], true, [.pair (.int .i64) (.sl (.int .i64)), .bool], fun x => impl_StepMatrix x.1 x.2.1⟩
theorem impl_StepMatrix_eq : fnF E108 L108_1 [.v (.pair (.int .i64) (.pair (.sl (.int .i64)) (.pair (.sl (.int .i64)) (.sl (.pair (.int .i64) (.pair .str (.pair (.int .i64) (.int .i64)))))))), .v .str] true [.pair (.int .i64) (.sl (.int .i64)), .bool] f108.ntmps f108.results.toList (codeOf f108) = fun x => impl_StepMatrix x.1 x.2.1 := by kernel_rfl
theorem A108_ok : FnOk prog 108 A108 := fo impl_StepMatrix_eq func108 E108_ok (allCons (loop108_5 rfl) allNil)
/-! slices.IndexFunc[[]int,int] -/
noncomputable def E176 : Env := ⟨ty0, fun _ => none, fun _ => none, fun _ => none, fun _ => none⟩
theorem E176_ok : FnsOk prog E176 := (noFns _ _)
noncomputable def L176_0 : Nat → Option LoopD := fun _ => none
def sh176_2 : List Fm := .cell (.val (.sl (.int .i64))) :: .clo [.int .i64] .bool :: D 5 (.cell (.val (.int .i64)) :: .cell (.val (.int .i64)) :: D 10 [])
def xs176_2 : List (Ex × List Fm) := [(.ret, (D 4 (.cell (.val (.int .i64)) :: D 14 []))), (.exit 0, (D 19 []))]
noncomputable def slices_IndexFunc_l2 : ((List Int) × ((Int × Unit) → Option (Bool)) × Int × Int × Unit) → Option (((List Int) × ((Int × Unit) → Option (Bool)) × Int × Int × Unit) ⊕ ((Int × Unit) ⊕ (Unit))) := fun (v0, v1, v7, v8, _) =>
 bif (decide (v8 < v7)) then
  if (((0 : Int) ≤ v8) ∧ (v8 < (((List.length v0) : Nat) : Int))) then
   Option.bind (v1 ((List.getD v0 (Int.toNat v8) (0 : Int)), ())) fun r0 =>
    bif r0 then
     some (Sum.inr (Sum.inl (v8, ())))
    else
     some (Sum.inl (v0, v1, v7, (IntKind.wrap .i64 (v8 + (1 : Int))), ()))
  else
   none
 else
  some (Sum.inr (Sum.inr ()))
theorem slices_IndexFunc_l2_eq : loopStep 19 E176 L176_0 (loopOf f176 2) sh176_2 xs176_2 = slices_IndexFunc_l2 := by kernel_rfl
theorem loop176_2 {L} (h : L 2 = some ⟨19, sh176_2, xs176_2, slices_IndexFunc_l2⟩) : LoopOk prog L (loopOf f176 2) := lo slices_IndexFunc_l2_eq E176_ok allNil h
noncomputable def L176_1 : Nat → Option LoopD := fun n => ifEq n 2 (some ⟨19, sh176_2, xs176_2, slices_IndexFunc_l2⟩) (L176_0 n)
noncomputable def slices_IndexFunc : (List Int) → ((Int × Unit) → Option (Bool)) → Option (Int) := fun a0 a1 =>
 Option.bind (loopF slices_IndexFunc_l2 (a0, a1, (((List.length a0) : Nat) : Int), (0 : Int), ())) fun r0 =>
  (match r0 with
  | .inl (d1, _) =>
    some d1
  | .inr _ =>
    some (-1 : Int))
noncomputable def A176 : FnA := ⟨[.v (.sl (.int .i64)), .clo [.int .i64] .bool], true, [.int .i64], fun x => slices_IndexFunc x.1 x.2.1⟩
theorem slices_IndexFunc_eq : fnF E176 L176_1 [.v (.sl (.int .i64)), .clo [.int .i64] .bool] true [.int .i64] f176.ntmps f176.results.toList (codeOf f176) = fun x => slices_IndexFunc x.1 x.2.1 := by kernel_rfl
theorem A176_ok : FnOk prog 176 A176 := fo slices_IndexFunc_eq func176 E176_ok (allCons (loop176_2 rfl) allNil)
/-! slices.ContainsFunc[[]int,int] -/
noncomputable def E142 : Env := ⟨ty0, fun g => ifEq g 176 (some A176) (none), fun _ => none, fun _ => none, fun _ => none⟩
theorem E142_ok : FnsOk prog E142 := (oF A176_ok func176 (noFns _ _))
noncomputable def L142_0 : Nat → Option LoopD := fun _ => none
noncomputable def slices_ContainsFunc : (List Int) → ((Int × Unit) → Option (Bool)) → Option (Bool) := fun a0 a1 =>
 Option.bind (slices_IndexFunc a0 a1) fun r0 =>
  some (decide (r0 ≥ (0 : Int)))
noncomputable def A142 : FnA := ⟨[.v (.sl (.int .i64)), .clo [.int .i64] .bool], true, [.bool], fun x => slices_ContainsFunc x.1 x.2.1⟩
theorem slices_ContainsFunc_eq : fnF E142 L142_0 [.v (.sl (.int .i64)), .clo [.int .i64] .bool] true [.bool] f142.ntmps f142.results.toList (codeOf f142) = fun x => slices_ContainsFunc x.1 x.2.1 := by kernel_rfl
theorem A142_ok : FnOk prog 142 A142 := fo slices_ContainsFunc_eq func142 E142_ok allNil
/-! impl.CostValid -/
noncomputable def E168 : Env := ⟨ty0, fun _ => none, fun _ => none, fun _ => none, fun _ => none⟩
theorem E168_ok : FnsOk prog E168 := (noFns _ _)
noncomputable def L168_0 : Nat → Option LoopD := fun _ => none
noncomputable def impl_CostValid : Int → Option (Bool) := fun a0 =>
 bif (decide (a0 ≥ (0 : Int))) then
  some (decide (a0 ≤ (1000000 : Int)))
 else
  some false
noncomputable def A168 : FnA := ⟨[.v (.int .i64)], true, [.bool], fun x => impl_CostValid x.1⟩
theorem impl_CostValid_eq : fnF E168 L168_0 [.v (.int .i64)] true [.bool] f168.ntmps f168.results.toList (codeOf f168) = fun x => impl_CostValid x.1 := by kernel_rfl
theorem A168_ok : FnOk prog 168 A168 := fo impl_CostValid_eq func168 E168_ok allNil
/-! impl.MatrixValid$1 -/
noncomputable def E175 : Env := ⟨ty0, fun g => ifEq g 168 (some A168) (none), fun _ => none, fun _ => none, fun _ => none⟩
theorem E175_ok : FnsOk prog E175 := (oF A168_ok func168 (noFns _ _))
noncomputable def L175_0 : Nat → Option LoopD := fun _ => none
noncomputable def impl_MatrixValid_1 : Int → Option (Bool) := fun a0 =>
 Option.bind (impl_CostValid a0) fun r0 =>
  some (!r0)
noncomputable def A175 : FnA := ⟨[.v (.int .i64)], true, [.bool], fun x => impl_MatrixValid_1 x.1⟩
theorem impl_MatrixValid_1_eq : fnF E175 L175_0 [.v (.int .i64)] true [.bool] f175.ntmps f175.results.toList (codeOf f175) = fun x => impl_MatrixValid_1 x.1 := by kernel_rfl
theorem A175_ok : FnOk prog 175 A175 := fo impl_MatrixValid_1_eq func175 E175_ok allNil
/-! impl.MatrixValid -/
noncomputable def E141 : Env := ⟨ty0, fun g => ifEq g 142 (some A142) (ifEq g 175 (some A175) (none)), fun _ => none, fun _ => none, fun _ => none⟩
theorem E141_ok : FnsOk prog E141 := (oF A142_ok func142 (oF A175_ok func175 (noFns _ _)))
noncomputable def L141_0 : Nat → Option LoopD := fun _ => none
noncomputable def impl_MatrixValid : (Int × (List Int)) → Option (Bool) := fun (a0_0, a0_1) =>
 bif (decide (a0_0 < (1 : Int))) then
  some false
 else
  bif (decide (a0_0 > (4 : Int))) then
   some false
  else
   bif ((((List.length a0_1) : Nat) : Int) != (IntKind.wrap .i64 (a0_0 * a0_0))) then
    some false
   else
    Option.bind (slices_ContainsFunc a0_1 (fun y0 => (impl_MatrixValid_1 y0.1))) fun r1 =>
     some (!r1)
noncomputable def A141 : FnA := ⟨[.v (.pair (.int .i64) (.sl (.int .i64)))], true, [.bool], fun x => impl_MatrixValid x.1⟩
theorem impl_MatrixValid_eq : fnF E141 L141_0 [.v (.pair (.int .i64) (.sl (.int .i64)))] true [.bool] f141.ntmps f141.results.toList (codeOf f141) = fun x => impl_MatrixValid x.1 := by kernel_rfl
theorem A141_ok : FnOk prog 141 A141 := fo impl_MatrixValid_eq func141 E141_ok allNil
/-! (impl.Matrix).at -/
noncomputable def E67 : Env := ⟨ty0, fun _ => none, fun _ => none, fun _ => none, fun _ => none⟩
theorem E67_ok : FnsOk prog E67 := (noFns _ _)
noncomputable def L67_0 : Nat → Option LoopD := fun _ => none
noncomputable def impl_Matrix_at : (Int × (List Int)) → Int → Int → Option (Int) := fun (a0_0, a0_1) a1 a2 =>
 if (((0 : Int) ≤ (IntKind.wrap .i64 ((IntKind.wrap .i64 (a1 * a0_0)) + a2))) ∧ ((IntKind.wrap .i64 ((IntKind.wrap .i64 (a1 * a0_0)) + a2)) < (((List.length a0_1) : Nat) : Int))) then
  some (List.getD a0_1 (Int.toNat (IntKind.wrap .i64 ((IntKind.wrap .i64 (a1 * a0_0)) + a2))) (0 : Int))
 else
  none
noncomputable def A67 : FnA := ⟨[.v (.pair (.int .i64) (.sl (.int .i64))), .v (.int .i64), .v (.int .i64)], true, [.int .i64], fun x => impl_Matrix_at x.1 x.2.1 x.2.2.1⟩
theorem impl_Matrix_at_eq : fnF E67 L67_0 [.v (.pair (.int .i64) (.sl (.int .i64))), .v (.int .i64), .v (.int .i64)] true [.int .i64] f67.ntmps f67.results.toList (codeOf f67) = fun x => impl_Matrix_at x.1 x.2.1 x.2.2.1 := by kernel_rfl
theorem A67_ok : FnOk prog 67 A67 := fo impl_Matrix_at_eq func67 E67_ok allNil
/-! impl.GradesOf$1 -/
noncomputable def E160 : Env := ⟨ty0, fun g => ifEq g 67 (some A67) (none), fun _ => none, fun _ => none, fun _ => none⟩
theorem E160_ok : FnsOk prog E160 := (oF A67_ok func67 (noFns _ _))
noncomputable def L160_0 : Nat → Option LoopD := fun _ => none
noncomputable def impl_GradesOf_1 : Int → Int → (Int × (List Int)) → Option (Int) := fun a0 a1 (a2_0, a2_1) =>
 Option.bind (impl_Matrix_at (a2_0, a2_1) a0 a1) fun r0 =>
  bif (r0 == (0 : Int)) then
   some (0 : Int)
  else
   bif (r0 == (1000000 : Int)) then
    some (3 : Int)
   else
    some (1 : Int)
noncomputable def A160 : FnA := ⟨[.v (.int .i64), .v (.int .i64), .cap (.pair (.int .i64) (.sl (.int .i64)))], true, [.int .i64], fun x => impl_GradesOf_1 x.1 x.2.1 x.2.2.1⟩
theorem impl_GradesOf_1_eq : fnF E160 L160_0 [.v (.int .i64), .v (.int .i64), .cap (.pair (.int .i64) (.sl (.int .i64)))] true [.int .i64] f160.ntmps f160.results.toList (codeOf f160) = fun x => impl_GradesOf_1 x.1 x.2.1 x.2.2.1 := by kernel_rfl
theorem A160_ok : FnOk prog 160 A160 := fo impl_GradesOf_1_eq func160 E160_ok allNil
/-! impl.GradesOf -/
noncomputable def E109 : Env := ⟨ty0, fun g => ifEq g 141 (some A141) (ifEq g 65 (some A65) (ifEq g 160 (some A160) (none))), fun _ => none, fun _ => none, fun _ => none⟩
theorem E109_ok : FnsOk prog E109 := (oF A141_ok func141 (oF A65_ok func65 (oF A160_ok func160 (noFns _ _))))
noncomputable def L109_0 : Nat → Option LoopD := fun _ => none
noncomputable def impl_GradesOf : (Int × (List Int)) → Option ((Int × (List Int)) × Bool) := fun (a0_0, a0_1) =>
 Option.bind (impl_MatrixValid (a0_0, a0_1)) fun r0 =>
  bif (!r0) then
   some (((0 : Int), []), false)
  else
   Option.bind (impl_filled a0_0 (fun y1 => (impl_GradesOf_1 y1.1 y1.2.1 (a0_0, a0_1)))) fun (r2, r3) =>
    some ((r2, (List.take (List.length r3) (List.drop 0 r3))), true)
noncomputable def A109 : FnA := ⟨[.v (.pair (.int .i64) (.sl (.int .i64)))], true, [.pair (.int .i64) (.sl (.int .i64)), .bool], fun x => impl_GradesOf x.1⟩
theorem impl_GradesOf_eq : fnF E109 L109_0 [.v (.pair (.int .i64) (.sl (.int .i64)))] true [.pair (.int .i64) (.sl (.int .i64)), .bool] f109.ntmps f109.results.toList (codeOf f109) = fun x => impl_GradesOf x.1 := by kernel_rfl
theorem A109_ok : FnOk prog 109 A109 := fo impl_GradesOf_eq func109 E109_ok allNil
/-! impl.GradesValid$1 -/
noncomputable def E143 : Env := ⟨ty0, fun _ => none, fun _ => none, fun _ => none, fun _ => none⟩
theorem E143_ok : FnsOk prog E143 := (noFns _ _)
noncomputable def L143_0 : Nat → Option LoopD := fun _ => none
noncomputable def impl_GradesValid_1 : Int → Option (Bool) := fun a0 =>
 some (decide (a0 > (3 : Int)))
noncomputable def A143 : FnA := ⟨[.v (.int .i64)], true, [.bool], fun x => impl_GradesValid_1 x.1⟩
theorem impl_GradesValid_1_eq : fnF E143 L143_0 [.v (.int .i64)] true [.bool] f143.ntmps f143.results.toList (codeOf f143) = fun x => impl_GradesValid_1 x.1 := by kernel_rfl
theorem A143_ok : FnOk prog 143 A143 := fo impl_GradesValid_1_eq func143 E143_ok allNil
/-! impl.GradesValid -/
noncomputable def E97 : Env := ⟨ty0, fun g => ifEq g 141 (some A141) (ifEq g 142 (some A142) (ifEq g 143 (some A143) (none))), fun _ => none, fun _ => none, fun _ => none⟩
theorem E97_ok : FnsOk prog E97 := (oF A141_ok func141 (oF A142_ok func142 (oF A143_ok func143 (noFns _ _))))
noncomputable def L97_0 : Nat → Option LoopD := fun _ => none
noncomputable def impl_GradesValid : (Int × (List Int)) → Option (Bool) := fun (a0_0, a0_1) =>
 Option.bind (impl_MatrixValid (a0_0, a0_1)) fun r0 =>
  bif r0 then
   Option.bind (slices_ContainsFunc a0_1 (fun y1 => (impl_GradesValid_1 y1.1))) fun r2 =>
    some (!r2)
  else
   some false
noncomputable def A97 : FnA := ⟨[.v (.pair (.int .i64) (.sl (.int .i64)))], true, [.bool], fun x => impl_GradesValid x.1⟩
theorem impl_GradesValid_eq : fnF E97 L97_0 [.v (.pair (.int .i64) (.sl (.int .i64)))] true [.bool] f97.ntmps f97.results.toList (codeOf f97) = fun x => impl_GradesValid x.1 := by kernel_rfl
theorem A97_ok : FnOk prog 97 A97 := fo impl_GradesValid_eq func97 E97_ok allNil
/-! impl.MulGrades$1 -/
noncomputable def E112 : Env := ⟨ty0, fun g => ifEq g 67 (some A67) (none), fun _ => none, fun _ => none, fun _ => none⟩
theorem E112_ok : FnsOk prog E112 := (oF A67_ok func67 (noFns _ _))
noncomputable def L112_0 : Nat → Option LoopD := fun _ => none
def sh112_3 : List Fm := .cell (.val (.int .i64)) :: .cell (.val (.int .i64)) :: .fp (.pair (.int .i64) (.sl (.int .i64))) :: .fp (.pair (.int .i64) (.sl (.int .i64))) :: d :: d :: d :: .cell (.val (.int .i64)) :: d :: d :: .cell (.val (.int .i64)) :: .cell (.val (.int .i64)) :: D 15 []
def xs112_3 : List (Ex × List Fm) := [(.exit 0, (D 7 (.cell (.val (.int .i64)) :: D 19 [])))]
noncomputable def impl_MulGrades_1_l3 : (Int × Int × (Int × (List Int)) × (Int × (List Int)) × Int × Int × Int × Unit) → Option ((Int × Int × (Int × (List Int)) × (Int × (List Int)) × Int × Int × Int × Unit) ⊕ ((Int × Unit))) := fun (v0, v1, (v2_0, v2_1), (v3_0, v3_1), v7, v10, v11, _) =>
 bif (decide (v11 < v10)) then
  Option.bind (impl_Matrix_at (v2_0, v2_1) v0 v11) fun r0 =>
   Option.bind (impl_Matrix_at (v3_0, v3_1) v11 v1) fun r1 =>
    some (Sum.inl (v0, v1, (v2_0, v2_1), (v3_0, v3_1), (if ((if (r1 > r0) then r1 else r0) < v7) then (if (r1 > r0) then r1 else r0) else v7), v10, (IntKind.wrap .i64 (v11 + (1 : Int))), ()))
 else
  some (Sum.inr (v7, ()))
theorem impl_MulGrades_1_l3_eq : loopStep 27 E112 L112_0 (loopOf f112 3) sh112_3 xs112_3 = impl_MulGrades_1_l3 := by kernel_rfl
theorem loop112_3 {L} (h : L 3 = some ⟨27, sh112_3, xs112_3, impl_MulGrades_1_l3⟩) : LoopOk prog L (loopOf f112 3) := lo impl_MulGrades_1_l3_eq E112_ok allNil h
noncomputable def L112_1 : Nat → Option LoopD := fun n => ifEq n 3 (some ⟨27, sh112_3, xs112_3, impl_MulGrades_1_l3⟩) (L112_0 n)
noncomputable def impl_MulGrades_1 : Int → Int → (Int × (List Int)) → (Int × (List Int)) → Option (Int) := fun a0 a1 (a2_0, a2_1) (a3_0, a3_1) =>
 Option.bind (loopF impl_MulGrades_1_l3 (a0, a1, (a2_0, a2_1), (a3_0, a3_1), (3 : Int), a2_0, (0 : Int), ())) fun (r0, _) =>
  some r0
noncomputable def A112 : FnA := ⟨[.v (.int .i64), .v (.int .i64), .cap (.pair (.int .i64) (.sl (.int .i64))), .cap (.pair (.int .i64) (.sl (.int .i64)))], true, [.int .i64], fun x => impl_MulGrades_1 x.1 x.2.1 x.2.2.1 x.2.2.2.1⟩
theorem impl_MulGrades_1_eq : fnF E112 L112_1 [.v (.int .i64), .v (.int .i64), .cap (.pair (.int .i64) (.sl (.int .i64))), .cap (.pair (.int .i64) (.sl (.int .i64)))] true [.int .i64] f112.ntmps f112.results.toList (codeOf f112) = fun x => impl_MulGrades_1 x.1 x.2.1 x.2.2.1 x.2.2.2.1 := by kernel_rfl
theorem A112_ok : FnOk prog 112 A112 := fo impl_MulGrades_1_eq func112 E112_ok (allCons (loop112_3 rfl) allNil)
/-! impl.MulGrades -/
noncomputable def E71 : Env := ⟨ty0, fun g => ifEq g 97 (some A97) (ifEq g 65 (some A65) (ifEq g 112 (some A112) (none))), fun _ => none, fun _ => none, fun _ => none⟩
theorem E71_ok : FnsOk prog E71 := (oF A97_ok func97 (oF A65_ok func65 (oF A112_ok func112 (noFns _ _))))
noncomputable def L71_0 : Nat → Option LoopD := fun _ => none
noncomputable def impl_MulGrades : (Int × (List Int)) → (Int × (List Int)) → Option ((Int × (List Int)) × Bool) := fun (a0_0, a0_1) (a1_0, a1_1) =>
 Option.bind (impl_GradesValid (a0_0, a0_1)) fun r0 =>
  bif (!r0) then
   some (((0 : Int), []), false)
  else
   Option.bind (impl_GradesValid (a1_0, a1_1)) fun r1 =>
    bif (!r1) then
     some (((0 : Int), []), false)
    else
     bif (a0_0 != a1_0) then
      some (((0 : Int), []), false)
     else
      Option.bind (impl_filled a0_0 (fun y2 => (impl_MulGrades_1 y2.1 y2.2.1 (a0_0, a0_1) (a1_0, a1_1)))) fun (r3, r4) =>
       some ((r3, (List.take (List.length r4) (List.drop 0 r4))), true)
noncomputable def A71 : FnA := ⟨[.v (.pair (.int .i64) (.sl (.int .i64))), .v (.pair (.int .i64) (.sl (.int .i64)))], true, [.pair (.int .i64) (.sl (.int .i64)), .bool], fun x => impl_MulGrades x.1 x.2.1⟩
theorem impl_MulGrades_eq : fnF E71 L71_0 [.v (.pair (.int .i64) (.sl (.int .i64))), .v (.pair (.int .i64) (.sl (.int .i64)))] true [.pair (.int .i64) (.sl (.int .i64)), .bool] f71.ntmps f71.results.toList (codeOf f71) = fun x => impl_MulGrades x.1 x.2.1 := by kernel_rfl
theorem A71_ok : FnOk prog 71 A71 := fo impl_MulGrades_eq func71 E71_ok allNil
/-! slices.Equal[[]int,int] -/
noncomputable def E104 : Env := ⟨ty0, fun _ => none, fun _ => none, fun _ => none, fun _ => none⟩
theorem E104_ok : FnsOk prog E104 := (noFns _ _)
noncomputable def L104_0 : Nat → Option LoopD := fun _ => none
def sh104_4 : List Fm := .cell (.val (.sl (.int .i64))) :: .cell (.val (.sl (.int .i64))) :: D 10 (.cell (.val (.int .i64)) :: .cell (.val (.int .i64)) :: D 12 [])
def xs104_4 : List (Ex × List Fm) := [(.ret, (D 4 (.cell (.val .bool) :: D 21 []))), (.exit 0, (D 26 []))]
noncomputable def slices_Equal_l4 : ((List Int) × (List Int) × Int × Int × Unit) → Option (((List Int) × (List Int) × Int × Int × Unit) ⊕ ((Bool × Unit) ⊕ (Unit))) := fun (v0, v1, v12, v13, _) =>
 bif (decide (v13 < v12)) then
  if (((0 : Int) ≤ v13) ∧ (v13 < (((List.length v0) : Nat) : Int))) then
   if (((0 : Int) ≤ v13) ∧ (v13 < (((List.length v1) : Nat) : Int))) then
    bif ((List.getD v0 (Int.toNat v13) (0 : Int)) != (List.getD v1 (Int.toNat v13) (0 : Int))) then
     some (Sum.inr (Sum.inl (false, ())))
    else
     some (Sum.inl (v0, v1, v12, (IntKind.wrap .i64 (v13 + (1 : Int))), ()))
   else
    none
  else
   none
 else
  some (Sum.inr (Sum.inr ()))
theorem slices_Equal_l4_eq : loopStep 26 E104 L104_0 (loopOf f104 4) sh104_4 xs104_4 = slices_Equal_l4 := by kernel_rfl
theorem loop104_4 {L} (h : L 4 = some ⟨26, sh104_4, xs104_4, slices_Equal_l4⟩) : LoopOk prog L (loopOf f104 4) := lo slices_Equal_l4_eq E104_ok allNil h
noncomputable def L104_1 : Nat → Option LoopD := fun n => ifEq n 4 (some ⟨26, sh104_4, xs104_4, slices_Equal_l4⟩) (L104_0 n)
noncomputable def slices_Equal : (List Int) → (List Int) → Option (Bool) := fun a0 a1 =>
 bif ((((List.length a0) : Nat) : Int) != (((List.length a1) : Nat) : Int)) then
  some false
 else
  Option.bind (loopF slices_Equal_l4 (a0, a1, (((List.length a0) : Nat) : Int), (0 : Int), ())) fun r0 =>
   (match r0 with
   | .inl (d1, _) =>
     some d1
   | .inr _ =>
     some true)
noncomputable def A104 : FnA := ⟨[.v (.sl (.int .i64)), .v (.sl (.int .i64))], true, [.bool], fun x => slices_Equal x.1 x.2.1⟩
theorem slices_Equal_eq : fnF E104 L104_1 [.v (.sl (.int .i64)), .v (.sl (.int .i64))] true [.bool] f104.ntmps f104.results.toList (codeOf f104) = fun x => slices_Equal x.1 x.2.1 := by kernel_rfl
theorem A104_ok : FnOk prog 104 A104 := fo slices_Equal_eq func104 E104_ok (allCons (loop104_4 rfl) allNil)
/-! impl.SameMatrix -/
noncomputable def E58 : Env := ⟨ty0, fun g => ifEq g 104 (some A104) (none), fun _ => none, fun _ => none, fun _ => none⟩
theorem E58_ok : FnsOk prog E58 := (oF A104_ok func104 (noFns _ _))
noncomputable def L58_0 : Nat → Option LoopD := fun _ => none
noncomputable def impl_SameMatrix : (Int × (List Int)) → (Int × (List Int)) → Option (Bool) := fun (a0_0, a0_1) (a1_0, a1_1) =>
 bif (a0_0 == a1_0) then
  Option.bind (slices_Equal a0_1 a1_1) fun r0 =>
   some r0
 else
  some false
noncomputable def A58 : FnA := ⟨[.v (.pair (.int .i64) (.sl (.int .i64))), .v (.pair (.int .i64) (.sl (.int .i64)))], true, [.bool], fun x => impl_SameMatrix x.1 x.2.1⟩
theorem impl_SameMatrix_eq : fnF E58 L58_0 [.v (.pair (.int .i64) (.sl (.int .i64))), .v (.pair (.int .i64) (.sl (.int .i64)))] true [.bool] f58.ntmps f58.results.toList (codeOf f58) = fun x => impl_SameMatrix x.1 x.2.1 := by kernel_rfl
theorem A58_ok : FnOk prog 58 A58 := fo impl_SameMatrix_eq func58 E58_ok allNil
/-! impl.IsIdempotent -/
noncomputable def E64 : Env := ⟨ty0, fun g => ifEq g 71 (some A71) (ifEq g 58 (some A58) (none)), fun _ => none, fun _ => none, fun _ => none⟩
theorem E64_ok : FnsOk prog E64 := (oF A71_ok func71 (oF A58_ok func58 (noFns _ _)))
noncomputable def L64_0 : Nat → Option LoopD := fun _ => none
noncomputable def impl_IsIdempotent : (Int × (List Int)) → Option (Bool) := fun (a0_0, a0_1) =>
 Option.bind (impl_MulGrades (a0_0, a0_1) (a0_0, a0_1)) fun ((r0, r1), r2) =>
  bif r2 then
   Option.bind (impl_SameMatrix (r0, (List.take (List.length r1) (List.drop 0 r1))) (a0_0, a0_1)) fun r3 =>
    some r3
  else
   some false
noncomputable def A64 : FnA := ⟨[.v (.pair (.int .i64) (.sl (.int .i64)))], true, [.bool], fun x => impl_IsIdempotent x.1⟩
theorem impl_IsIdempotent_eq : fnF E64 L64_0 [.v (.pair (.int .i64) (.sl (.int .i64)))] true [.bool] f64.ntmps f64.results.toList (codeOf f64) = fun x => impl_IsIdempotent x.1 := by kernel_rfl
theorem A64_ok : FnOk prog 64 A64 := fo impl_IsIdempotent_eq func64 E64_ok allNil
/-! impl.Stabilise$1 -/
noncomputable def E66 : Env := ⟨ty0, fun g => ifEq g 67 (some A67) (none), fun _ => none, fun _ => none, fun _ => none⟩
theorem E66_ok : FnsOk prog E66 := (oF A67_ok func67 (noFns _ _))
noncomputable def L66_0 : Nat → Option LoopD := fun _ => none
def sh66_3 : List Fm := .cell (.val (.int .i64)) :: .cell (.val (.int .i64)) :: .fp (.pair (.int .i64) (.sl (.int .i64))) :: d :: d :: d :: .cell (.val (.int .i64)) :: d :: d :: d :: .cell (.val (.int .i64)) :: .cell (.val (.int .i64)) :: D 22 []
def xs66_3 : List (Ex × List Fm) := [(.exit 0, (D 6 (.cell (.val (.int .i64)) :: D 27 [])))]
noncomputable def impl_Stabilise_1_l3 : (Int × Int × (Int × (List Int)) × Int × Int × Int × Unit) → Option ((Int × Int × (Int × (List Int)) × Int × Int × Int × Unit) ⊕ ((Int × Unit))) := fun (v0, v1, (v2_0, v2_1), v6, v10, v11, _) =>
 bif (decide (v11 < v10)) then
  Option.bind (impl_Matrix_at (v2_0, v2_1) v11 v11) fun r0 =>
   bif (r0 == (1 : Int)) then
    Option.bind (impl_Matrix_at (v2_0, v2_1) v0 v11) fun r1 =>
     Option.bind (impl_Matrix_at (v2_0, v2_1) v11 v1) fun r2 =>
      some (Sum.inl (v0, v1, (v2_0, v2_1), (if ((if (r2 > (if ((2 : Int) > r1) then (2 : Int) else r1)) then r2 else (if ((2 : Int) > r1) then (2 : Int) else r1)) < v6) then (if (r2 > (if ((2 : Int) > r1) then (2 : Int) else r1)) then r2 else (if ((2 : Int) > r1) then (2 : Int) else r1)) else v6), v10, (IntKind.wrap .i64 (v11 + (1 : Int))), ()))
   else
    Option.bind (impl_Matrix_at (v2_0, v2_1) v0 v11) fun r3 =>
     Option.bind (impl_Matrix_at (v2_0, v2_1) v11 v1) fun r4 =>
      some (Sum.inl (v0, v1, (v2_0, v2_1), (if ((if (r4 > (if (r0 > r3) then r0 else r3)) then r4 else (if (r0 > r3) then r0 else r3)) < v6) then (if (r4 > (if (r0 > r3) then r0 else r3)) then r4 else (if (r0 > r3) then r0 else r3)) else v6), v10, (IntKind.wrap .i64 (v11 + (1 : Int))), ()))
 else
  some (Sum.inr (v6, ()))
theorem impl_Stabilise_1_l3_eq : loopStep 34 E66 L66_0 (loopOf f66 3) sh66_3 xs66_3 = impl_Stabilise_1_l3 := by kernel_rfl
theorem loop66_3 {L} (h : L 3 = some ⟨34, sh66_3, xs66_3, impl_Stabilise_1_l3⟩) : LoopOk prog L (loopOf f66 3) := lo impl_Stabilise_1_l3_eq E66_ok allNil h
noncomputable def L66_1 : Nat → Option LoopD := fun n => ifEq n 3 (some ⟨34, sh66_3, xs66_3, impl_Stabilise_1_l3⟩) (L66_0 n)
noncomputable def impl_Stabilise_1 : Int → Int → (Int × (List Int)) → Option (Int) := fun a0 a1 (a2_0, a2_1) =>
 Option.bind (loopF impl_Stabilise_1_l3 (a0, a1, (a2_0, a2_1), (3 : Int), a2_0, (0 : Int), ())) fun (r0, _) =>
  some r0
noncomputable def A66 : FnA := ⟨[.v (.int .i64), .v (.int .i64), .cap (.pair (.int .i64) (.sl (.int .i64)))], true, [.int .i64], fun x => impl_Stabilise_1 x.1 x.2.1 x.2.2.1⟩
theorem impl_Stabilise_1_eq : fnF E66 L66_1 [.v (.int .i64), .v (.int .i64), .cap (.pair (.int .i64) (.sl (.int .i64)))] true [.int .i64] f66.ntmps f66.results.toList (codeOf f66) = fun x => impl_Stabilise_1 x.1 x.2.1 x.2.2.1 := by kernel_rfl
theorem A66_ok : FnOk prog 66 A66 := fo impl_Stabilise_1_eq func66 E66_ok (allCons (loop66_3 rfl) allNil)
/-! impl.Stabilise -/
noncomputable def E23 : Env := ⟨ty0, fun g => ifEq g 64 (some A64) (ifEq g 65 (some A65) (ifEq g 66 (some A66) (none))), fun _ => none, fun _ => none, fun _ => none⟩
theorem E23_ok : FnsOk prog E23 := (oF A64_ok func64 (oF A65_ok func65 (oF A66_ok func66 (noFns _ _))))
noncomputable def L23_0 : Nat → Option LoopD := fun _ => none
noncomputable def impl_Stabilise : (Int × (List Int)) → Option ((Int × (List Int)) × Bool) := fun (a0_0, a0_1) =>
 Option.bind (impl_IsIdempotent (a0_0, a0_1)) fun r0 =>
  bif (!r0) then
   some (((0 : Int), []), false)
  else
   Option.bind (impl_filled a0_0 (fun y1 => (impl_Stabilise_1 y1.1 y1.2.1 (a0_0, a0_1)))) fun (r2, r3) =>
    some ((r2, (List.take (List.length r3) (List.drop 0 r3))), true)
noncomputable def A23 : FnA := ⟨[.v (.pair (.int .i64) (.sl (.int .i64)))], true, [.pair (.int .i64) (.sl (.int .i64)), .bool], fun x => impl_Stabilise x.1⟩
theorem impl_Stabilise_eq : fnF E23 L23_0 [.v (.pair (.int .i64) (.sl (.int .i64)))] true [.pair (.int .i64) (.sl (.int .i64)), .bool] f23.ntmps f23.results.toList (codeOf f23) = fun x => impl_Stabilise x.1 := by kernel_rfl
theorem A23_ok : FnOk prog 23 A23 := fo impl_Stabilise_eq func23 E23_ok allNil
/-! impl.value -/
noncomputable def R63 (impl_value_rec : (Int × ((List Int) × ((List Int) × (List (Int × (ByteArray × (Int × Int))))))) → (List (ByteArray × PT)) → Option ((Int × (List Int)) × Bool)) : FnA := ⟨[.v (.pair (.int .i64) (.pair (.sl (.int .i64)) (.pair (.sl (.int .i64)) (.sl (.pair (.int .i64) (.pair .str (.pair (.int .i64) (.int .i64)))))))), .v (.sl (.pair .str .pt))], true, [.pair (.int .i64) (.sl (.int .i64)), .bool], fun x => impl_value_rec x.1 x.2.1⟩
noncomputable def E63 (impl_value_rec : (Int × ((List Int) × ((List Int) × (List (Int × (ByteArray × (Int × Int))))))) → (List (ByteArray × PT)) → Option ((Int × (List Int)) × Bool)) : Env := ⟨ty0, fun g => ifEq g 108 (some A108) (ifEq g 109 (some A109) (ifEq g 63 (some (R63 impl_value_rec)) (ifEq g 23 (some A23) (ifEq g 71 (some A71) (none))))), fun _ => none, fun _ => none, fun _ => none⟩
theorem E63_ok (impl_value_rec : (Int × ((List Int) × ((List Int) × (List (Int × (ByteArray × (Int × Int))))))) → (List (ByteArray × PT)) → Option ((Int × (List Int)) × Bool)) (hrec : FnOk prog 63 (R63 impl_value_rec)) : FnsOk prog (E63 impl_value_rec) := (oF A108_ok func108 (oF A109_ok func109 (oF hrec func63 (oF A23_ok func23 (oF A71_ok func71 (noFns _ _))))))
noncomputable def L63_0 (impl_value_rec : (Int × ((List Int) × ((List Int) × (List (Int × (ByteArray × (Int × Int))))))) → (List (ByteArray × PT)) → Option ((Int × (List Int)) × Bool)) : Nat → Option LoopD := fun _ => none
def sh63_3 : List Fm := d :: d :: .box 100200 [.val (.int .i64), .val (.sl (.int .i64)), .val (.sl (.int .i64)), .val (.sl (.pair (.int .i64) (.pair .str (.pair (.int .i64) (.int .i64)))))] :: d :: .box 100400 [.val (.int .i64), .own (.int .i64) 100402 false] :: d :: .box 100600 [.val (.int .i64), .own (.int .i64) 100602 false] :: D 6 (.cell (.val (.sl (.pair .str .pt))) :: .cell (.val (.int .i64)) :: .cell (.val (.int .i64)) :: D 46 [])
def xs63_3 : List (Ex × List Fm) := [(.ret, [d, d, d, d, .box 100400 [.val (.int .i64), .own (.int .i64) 100402 false], .cell (.val .bool), d, d, d, d, d, d, d, d, d, d, d, d, d, d, d, d, d, d, d, d, d, d, d, d, d, d, d, d, d, d, d, d, d, d, d, d, d, d, d, d, d, d, d, d, d, d, d, d, d, d, d, d, d, d, d, d]), (.exit 0, [d, d, d, d, .box 100400 [.val (.int .i64), .own (.int .i64) 100402 false], d, .box 100600 [.val (.int .i64), .own (.int .i64) 100602 false], d, d, d, d, d, d, d, d, d, d, d, d, d, d, d, d, d, d, d, d, d, d, d, d, d, d, d, d, d, d, d, d, d, d, d, d, d, d, d, d, d, d, d, d, d, d, d, d, d, d, d, d, d, d, d])]
noncomputable def impl_value_l3 (impl_value_rec : (Int × ((List Int) × ((List Int) × (List (Int × (ByteArray × (Int × Int))))))) → (List (ByteArray × PT)) → Option ((Int × (List Int)) × Bool)) : ((Int × (List Int) × (List Int) × (List (Int × (ByteArray × (Int × Int)))) × Unit) × (Int × (List Int) × Unit) × (Int × (List Int) × Unit) × (List (ByteArray × PT)) × Int × Int × Unit) → Option (((Int × (List Int) × (List Int) × (List (Int × (ByteArray × (Int × Int)))) × Unit) × (Int × (List Int) × Unit) × (Int × (List Int) × Unit) × (List (ByteArray × PT)) × Int × Int × Unit) ⊕ (((Int × (List Int) × Unit) × Bool × Unit) ⊕ ((Int × (List Int) × Unit) × (Int × (List Int) × Unit) × Unit))) := fun ((v2_0, v2_1, v2_2, v2_3, _), (v4_0, v4_1, _), (v6_0, v6_1, _), v13, v14, v15, _) =>
 bif (decide (v15 < v14)) then
  if (((0 : Int) ≤ v15) ∧ (v15 < (((List.length v13) : Nat) : Int))) then
   bif (!((ByteArray.toList (List.getD v13 (Int.toNat v15) ((⟨Array.empty⟩ : ByteArray), (PT.mk []))).1) == (ByteArray.toList (⟨#[]⟩ : ByteArray)))) then
    Option.bind (impl_StepMatrix (v2_0, v2_1, v2_2, v2_3) (List.getD v13 (Int.toNat v15) ((⟨Array.empty⟩ : ByteArray), (PT.mk []))).1) fun ((r0, r1), r2) =>
     Option.bind (impl_GradesOf (r0, (List.take (List.length r1) (List.drop 0 r1)))) fun ((r3, r4), r5) =>
      bif (decide (v15 > (0 : Int))) then
       Option.bind (impl_MulGrades (v6_0, (List.take (List.length v6_1) (List.drop 0 v6_1))) (r3, (List.take (List.length r4) (List.drop 0 r4)))) fun ((r6, r7), r8) =>
        some (Sum.inl ((v2_0, v2_1, v2_2, v2_3, ()), (v4_0, (List.take (List.length v4_1) (List.drop 0 v4_1)), ()), (r6, (List.take (List.length r7) (List.drop 0 r7)), ()), v13, v14, (IntKind.wrap .i64 (v15 + (1 : Int))), ()))
      else
       some (Sum.inl ((v2_0, v2_1, v2_2, v2_3, ()), (v4_0, (List.take (List.length v4_1) (List.drop 0 v4_1)), ()), (r3, (List.take (List.length r4) (List.drop 0 r4)), ()), v13, v14, (IntKind.wrap .i64 (v15 + (1 : Int))), ()))
   else
    Option.bind (impl_value_rec (v2_0, v2_1, v2_2, v2_3) (PT.l (List.getD v13 (Int.toNat v15) ((⟨Array.empty⟩ : ByteArray), (PT.mk []))).2)) fun ((r9, r10), r11) =>
     bif r11 then
      Option.bind (impl_Stabilise (r9, (List.take (List.length r10) (List.drop 0 r10)))) fun ((r12, r13), r14) =>
       bif (!r14) then
        some (Sum.inr (Sum.inl (((0 : Int), [], ()), false, ())))
       else
        bif (decide (v15 > (0 : Int))) then
         Option.bind (impl_MulGrades (v6_0, (List.take (List.length v6_1) (List.drop 0 v6_1))) (r12, (List.take (List.length r13) (List.drop 0 r13)))) fun ((r15, r16), r17) =>
          some (Sum.inl ((v2_0, v2_1, v2_2, v2_3, ()), (v4_0, (List.take (List.length v4_1) (List.drop 0 v4_1)), ()), (r15, (List.take (List.length r16) (List.drop 0 r16)), ()), v13, v14, (IntKind.wrap .i64 (v15 + (1 : Int))), ()))
        else
         some (Sum.inl ((v2_0, v2_1, v2_2, v2_3, ()), (v4_0, (List.take (List.length v4_1) (List.drop 0 v4_1)), ()), (r12, (List.take (List.length r13) (List.drop 0 r13)), ()), v13, v14, (IntKind.wrap .i64 (v15 + (1 : Int))), ()))
     else
      bif (!r11) then
       some (Sum.inr (Sum.inl (((0 : Int), [], ()), false, ())))
      else
       bif (decide (v15 > (0 : Int))) then
        Option.bind (impl_MulGrades (v6_0, (List.take (List.length v6_1) (List.drop 0 v6_1))) (r9, (List.take (List.length r10) (List.drop 0 r10)))) fun ((r18, r19), r20) =>
         some (Sum.inl ((v2_0, v2_1, v2_2, v2_3, ()), (v4_0, (List.take (List.length v4_1) (List.drop 0 v4_1)), ()), (r18, (List.take (List.length r19) (List.drop 0 r19)), ()), v13, v14, (IntKind.wrap .i64 (v15 + (1 : Int))), ()))
       else
        some (Sum.inl ((v2_0, v2_1, v2_2, v2_3, ()), (v4_0, (List.take (List.length v4_1) (List.drop 0 v4_1)), ()), (r9, (List.take (List.length r10) (List.drop 0 r10)), ()), v13, v14, (IntKind.wrap .i64 (v15 + (1 : Int))), ()))
  else
   none
 else
  some (Sum.inr (Sum.inr ((v4_0, (List.take (List.length v4_1) (List.drop 0 v4_1)), ()), (v6_0, (List.take (List.length v6_1) (List.drop 0 v6_1)), ()), ())))
theorem impl_value_l3_eq (impl_value_rec : (Int × ((List Int) × ((List Int) × (List (Int × (ByteArray × (Int × Int))))))) → (List (ByteArray × PT)) → Option ((Int × (List Int)) × Bool)) : loopStep 62 (E63 impl_value_rec) (L63_0 impl_value_rec) (loopOf f63 3) sh63_3 xs63_3 = (impl_value_l3 impl_value_rec) := by kernel_rfl
theorem loop63_3 (impl_value_rec : (Int × ((List Int) × ((List Int) × (List (Int × (ByteArray × (Int × Int))))))) → (List (ByteArray × PT)) → Option ((Int × (List Int)) × Bool)) (hrec : FnOk prog 63 (R63 impl_value_rec)) {L : Nat → Option LoopD} (h : L 3 = some ⟨62, sh63_3, xs63_3, (impl_value_l3 impl_value_rec)⟩) : LoopOk prog L (loopOf f63 3) :=
 loopOk (tysOk_of tyl_ok) (E63_ok impl_value_rec hrec) (codeOk_in (L := (L63_0 impl_value_rec)) (tysOk_of tyl_ok) (E63_ok impl_value_rec hrec) mixed (c := loopOf f63 3) (bs := []) (by kernel_rfl) allNil (by kernel_rfl)) (by kernel_rfl) (by kernel_rfl) (impl_value_l3_eq impl_value_rec) (by rw [show firstId (loopOf f63 3) = 3 from by kernel_rfl]; exact h)
noncomputable def L63_1 (impl_value_rec : (Int × ((List Int) × ((List Int) × (List (Int × (ByteArray × (Int × Int))))))) → (List (ByteArray × PT)) → Option ((Int × (List Int)) × Bool)) : Nat → Option LoopD := fun n => ifEq n 3 (some ⟨62, sh63_3, xs63_3, (impl_value_l3 impl_value_rec)⟩) ((L63_0 impl_value_rec) n)
noncomputable def impl_value_step (impl_value_rec : (Int × ((List Int) × ((List Int) × (List (Int × (ByteArray × (Int × Int))))))) → (List (ByteArray × PT)) → Option ((Int × (List Int)) × Bool)) : (Int × ((List Int) × ((List Int) × (List (Int × (ByteArray × (Int × Int))))))) → (List (ByteArray × PT)) → Option ((Int × (List Int)) × Bool) := fun (a0_0, a0_1, a0_2, a0_3) a1 =>
 Option.bind (loopF (impl_value_l3 impl_value_rec) ((a0_0, a0_1, a0_2, a0_3, ()), ((0 : Int), [], ()), ((0 : Int), [], ()), a1, (((List.length a1) : Nat) : Int), (0 : Int), ())) fun r0 =>
  (match r0 with
  | .inl ((d1, d2, _), d3, _) =>
    some ((d1, (List.take (List.length d2) (List.drop 0 d2))), d3)
  | .inr ((d4, d5, _), (d6, d7, _), _) =>
    some ((d6, (List.take (List.length d7) (List.drop 0 d7))), true))
theorem impl_value_step_eq (impl_value_rec : (Int × ((List Int) × ((List Int) × (List (Int × (ByteArray × (Int × Int))))))) → (List (ByteArray × PT)) → Option ((Int × (List Int)) × Bool)) : fnF (E63 impl_value_rec) (L63_1 impl_value_rec) [.v (.pair (.int .i64) (.pair (.sl (.int .i64)) (.pair (.sl (.int .i64)) (.sl (.pair (.int .i64) (.pair .str (.pair (.int .i64) (.int .i64)))))))), .v (.sl (.pair .str .pt))] true [.pair (.int .i64) (.sl (.int .i64)), .bool] f63.ntmps f63.results.toList (codeOf f63) = fun x => (impl_value_step impl_value_rec) x.1 x.2.1 := by kernel_rfl
theorem impl_value_step_ok (impl_value_rec : (Int × ((List Int) × ((List Int) × (List (Int × (ByteArray × (Int × Int))))))) → (List (ByteArray × PT)) → Option ((Int × (List Int)) × Bool)) (hrec : FnOk prog 63 (R63 impl_value_rec)) : FnOk prog 63 ⟨[.v (.pair (.int .i64) (.pair (.sl (.int .i64)) (.pair (.sl (.int .i64)) (.sl (.pair (.int .i64) (.pair .str (.pair (.int .i64) (.int .i64)))))))), .v (.sl (.pair .str .pt))], true, [.pair (.int .i64) (.sl (.int .i64)), .bool], fun x => (impl_value_step impl_value_rec) x.1 x.2.1⟩ := by
 have h := fnOk_of_run (P := prog) (E := (E63 impl_value_rec)) (tysOk_of tyl_ok) (E63_ok impl_value_rec hrec) (L := (L63_1 impl_value_rec)) (ps := [.v (.pair (.int .i64) (.pair (.sl (.int .i64)) (.pair (.sl (.int .i64)) (.sl (.pair (.int .i64) (.pair .str (.pair (.int .i64) (.int .i64)))))))), .v (.sl (.pair .str .pt))]) (own := true) (outs := [.pair (.int .i64) (.sl (.int .i64)), .bool]) func63 (c := codeOf f63) (by kernel_rfl) (codeOk_in (L := (L63_1 impl_value_rec)) (tysOk_of tyl_ok) (E63_ok impl_value_rec hrec) mixed (c := codeOf f63) (bs := [loopOf f63 3]) (by kernel_rfl) (allCons (loop63_3 impl_value_rec hrec rfl) allNil) (by kernel_rfl))
 rw [(impl_value_step_eq impl_value_rec)] at h
 exact h
/-- so many calls within each other -/
noncomputable def impl_value_fuel : Nat → (Int × ((List Int) × ((List Int) × (List (Int × (ByteArray × (Int × Int))))))) → (List (ByteArray × PT)) → Option ((Int × (List Int)) × Bool)
 | 0 => fun _ _ => none
 | n + 1 => impl_value_step (impl_value_fuel n)
theorem impl_value_fuel_ok : ∀ n, FnOk prog 63 (R63 (impl_value_fuel n))
 | 0 => fun xs r h => by cases h
 | n + 1 => impl_value_step_ok (impl_value_fuel n) (impl_value_fuel_ok n)
noncomputable def impl_value : (Int × ((List Int) × ((List Int) × (List (Int × (ByteArray × (Int × Int))))))) → (List (ByteArray × PT)) → Option ((Int × (List Int)) × Bool) := impl_value_fuel 200
noncomputable def A63 : FnA := R63 impl_value
theorem A63_ok : FnOk prog 63 A63 := impl_value_fuel_ok 200
/-! impl.ValueOf -/
noncomputable def E22 : Env := ⟨ty0, fun g => ifEq g 62 (some A62) (ifEq g 30 (some A30) (ifEq g 63 (some A63) (none))), fun _ => none, fun _ => none, fun _ => none⟩
theorem E22_ok : FnsOk prog E22 := (oF A62_ok func62 (oF A30_ok func30 (oF A63_ok func63 (noFns _ _))))
noncomputable def L22_0 : Nat → Option LoopD := fun _ => none
noncomputable def impl_ValueOf : (Int × ((List Int) × ((List Int) × (List (Int × (ByteArray × (Int × Int))))))) → ByteArray → Option ((Int × (List Int)) × Bool) := fun (a0_0, a0_1, a0_2, a0_3) a1 =>
 Option.bind (impl_parts a1) fun (r0, r1) =>
  bif (!r1) then
   some (((0 : Int), []), false)
  else
   Option.bind (impl_AutomatonValid (a0_0, a0_1, a0_2, a0_3)) fun r2 =>
    bif (!r2) then
     some (((0 : Int), []), false)
    else
     Option.bind (impl_value (a0_0, a0_1, a0_2, a0_3) (List.take (List.length r0) (List.drop 0 r0))) fun ((r3, r4), r5) =>
      some ((r3, (List.take (List.length r4) (List.drop 0 r4))), r5)
noncomputable def A22 : FnA := ⟨[.v (.pair (.int .i64) (.pair (.sl (.int .i64)) (.pair (.sl (.int .i64)) (.sl (.pair (.int .i64) (.pair .str (.pair (.int .i64) (.int .i64)))))))), .v .str], true, [.pair (.int .i64) (.sl (.int .i64)), .bool], fun x => impl_ValueOf x.1 x.2.1⟩
theorem impl_ValueOf_eq : fnF E22 L22_0 [.v (.pair (.int .i64) (.pair (.sl (.int .i64)) (.pair (.sl (.int .i64)) (.sl (.pair (.int .i64) (.pair .str (.pair (.int .i64) (.int .i64)))))))), .v .str] true [.pair (.int .i64) (.sl (.int .i64)), .bool] f22.ntmps f22.results.toList (codeOf f22) = fun x => impl_ValueOf x.1 x.2.1 := by kernel_rfl
theorem A22_ok : FnOk prog 22 A22 := fo impl_ValueOf_eq func22 E22_ok allNil
/-! slices.IndexFunc[[]impl.Element,impl.Element] -/
noncomputable def E161 : Env := ⟨ty0, fun _ => none, fun _ => none, fun _ => none, fun _ => none⟩
theorem E161_ok : FnsOk prog E161 := (noFns _ _)
noncomputable def L161_0 : Nat → Option LoopD := fun _ => none
def sh161_2 : List Fm := .cell (.val (.sl (.pair (.pair (.int .i64) (.sl (.int .i64))) .str))) :: .clo [.pair (.pair (.int .i64) (.sl (.int .i64))) .str] .bool :: D 5 (.cell (.val (.int .i64)) :: .cell (.val (.int .i64)) :: D 10 [])
def xs161_2 : List (Ex × List Fm) := [(.ret, (D 4 (.cell (.val (.int .i64)) :: D 14 []))), (.exit 0, (D 19 []))]
noncomputable def slices_IndexFunc_Element_l2 : ((List ((Int × (List Int)) × ByteArray)) × ((((Int × (List Int)) × ByteArray) × Unit) → Option (Bool)) × Int × Int × Unit) → Option (((List ((Int × (List Int)) × ByteArray)) × ((((Int × (List Int)) × ByteArray) × Unit) → Option (Bool)) × Int × Int × Unit) ⊕ ((Int × Unit) ⊕ (Unit))) := fun (v0, v1, v7, v8, _) =>
 bif (decide (v8 < v7)) then
  if (((0 : Int) ≤ v8) ∧ (v8 < (((List.length v0) : Nat) : Int))) then
   Option.bind (v1 ((List.getD v0 (Int.toNat v8) (((0 : Int), []), (⟨Array.empty⟩ : ByteArray))), ())) fun r0 =>
    bif r0 then
     some (Sum.inr (Sum.inl (v8, ())))
    else
     some (Sum.inl (v0, v1, v7, (IntKind.wrap .i64 (v8 + (1 : Int))), ()))
  else
   none
 else
  some (Sum.inr (Sum.inr ()))
theorem slices_IndexFunc_Element_l2_eq : loopStep 19 E161 L161_0 (loopOf f161 2) sh161_2 xs161_2 = slices_IndexFunc_Element_l2 := by kernel_rfl
theorem loop161_2 {L} (h : L 2 = some ⟨19, sh161_2, xs161_2, slices_IndexFunc_Element_l2⟩) : LoopOk prog L (loopOf f161 2) := lo slices_IndexFunc_Element_l2_eq E161_ok allNil h
noncomputable def L161_1 : Nat → Option LoopD := fun n => ifEq n 2 (some ⟨19, sh161_2, xs161_2, slices_IndexFunc_Element_l2⟩) (L161_0 n)
noncomputable def slices_IndexFunc_Element : (List ((Int × (List Int)) × ByteArray)) → ((((Int × (List Int)) × ByteArray) × Unit) → Option (Bool)) → Option (Int) := fun a0 a1 =>
 Option.bind (loopF slices_IndexFunc_Element_l2 (a0, a1, (((List.length a0) : Nat) : Int), (0 : Int), ())) fun r0 =>
  (match r0 with
  | .inl (d1, _) =>
    some d1
  | .inr _ =>
    some (-1 : Int))
noncomputable def A161 : FnA := ⟨[.v (.sl (.pair (.pair (.int .i64) (.sl (.int .i64))) .str)), .clo [.pair (.pair (.int .i64) (.sl (.int .i64))) .str] .bool], true, [.int .i64], fun x => slices_IndexFunc_Element x.1 x.2.1⟩
theorem slices_IndexFunc_Element_eq : fnF E161 L161_1 [.v (.sl (.pair (.pair (.int .i64) (.sl (.int .i64))) .str)), .clo [.pair (.pair (.int .i64) (.sl (.int .i64))) .str] .bool] true [.int .i64] f161.ntmps f161.results.toList (codeOf f161) = fun x => slices_IndexFunc_Element x.1 x.2.1 := by kernel_rfl
theorem A161_ok : FnOk prog 161 A161 := fo slices_IndexFunc_Element_eq func161 E161_ok (allCons (loop161_2 rfl) allNil)
/-! slices.ContainsFunc[[]impl.Element,impl.Element] -/
noncomputable def E110 : Env := ⟨ty0, fun g => ifEq g 161 (some A161) (none), fun _ => none, fun _ => none, fun _ => none⟩
theorem E110_ok : FnsOk prog E110 := (oF A161_ok func161 (noFns _ _))
noncomputable def L110_0 : Nat → Option LoopD := fun _ => none
noncomputable def slices_ContainsFunc_Element : (List ((Int × (List Int)) × ByteArray)) → ((((Int × (List Int)) × ByteArray) × Unit) → Option (Bool)) → Option (Bool) := fun a0 a1 =>
 Option.bind (slices_IndexFunc_Element a0 a1) fun r0 =>
  some (decide (r0 ≥ (0 : Int)))
noncomputable def A110 : FnA := ⟨[.v (.sl (.pair (.pair (.int .i64) (.sl (.int .i64))) .str)), .clo [.pair (.pair (.int .i64) (.sl (.int .i64))) .str] .bool], true, [.bool], fun x => slices_ContainsFunc_Element x.1 x.2.1⟩
theorem slices_ContainsFunc_Element_eq : fnF E110 L110_0 [.v (.sl (.pair (.pair (.int .i64) (.sl (.int .i64))) .str)), .clo [.pair (.pair (.int .i64) (.sl (.int .i64))) .str] .bool] true [.bool] f110.ntmps f110.results.toList (codeOf f110) = fun x => slices_ContainsFunc_Element x.1 x.2.1 := by kernel_rfl
theorem A110_ok : FnOk prog 110 A110 := fo slices_ContainsFunc_Element_eq func110 E110_ok allNil
/-! (*impl.found).put$1 -/
noncomputable def E111 : Env := ⟨ty0, fun g => ifEq g 58 (some A58) (none), fun _ => none, fun _ => none, fun _ => none⟩
theorem E111_ok : FnsOk prog E111 := (oF A58_ok func58 (noFns _ _))
noncomputable def L111_0 : Nat → Option LoopD := fun _ => none
noncomputable def impl_found_put_1 : ((Int × (List Int)) × ByteArray) → (Int × (List Int)) → Option (Bool) := fun ((a0_0, a0_1), a0_2) (a1_0, a1_1) =>
 Option.bind (impl_SameMatrix (a0_0, a0_1) (a1_0, a1_1)) fun r0 =>
  some r0
noncomputable def A111 : FnA := ⟨[.v (.pair (.pair (.int .i64) (.sl (.int .i64))) .str), .cap (.pair (.int .i64) (.sl (.int .i64)))], true, [.bool], fun x => impl_found_put_1 x.1 x.2.1⟩
theorem impl_found_put_1_eq : fnF E111 L111_0 [.v (.pair (.pair (.int .i64) (.sl (.int .i64))) .str), .cap (.pair (.int .i64) (.sl (.int .i64)))] true [.bool] f111.ntmps f111.results.toList (codeOf f111) = fun x => impl_found_put_1 x.1 x.2.1 := by kernel_rfl
theorem A111_ok : FnOk prog 111 A111 := fo impl_found_put_1_eq func111 E111_ok allNil
end Go.Proofs.YtbmlleocidldpaaGreat
