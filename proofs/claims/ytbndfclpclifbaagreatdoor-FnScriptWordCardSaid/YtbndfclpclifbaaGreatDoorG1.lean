/- What Go functions that the laws reach compute, and that they do: written by a program of this session. -/
import Derived.Test.YtbndfclpclifbaaGreatDoorG0
import Derived.Test.YtbndfclpclifbaaGreatDoorSort
import Derived.KernelRfl
set_option linter.unusedVariables false
namespace Go.Proofs.YtbndfclpclifbaaGreatDoor
open Go Go.Proofs.YtbndfclpclifbaaGreatDoor.Am Go.Proofs.Tryz
set_option maxRecDepth 100000
noncomputable section
def spec_l13Open : LI → Option ((LI × Int)) := fun a0 =>
 bif (decide ((((List.length a0) : Nat) : Int) > 2000)) then
  if (((0 : Int) ≤ 2000) ∧ ((2000 : Int) ≤ (((List.length a0) : Nat) : Int))) then
   some ((List.take ((Int.toNat 2000) - 0) (List.drop 0 a0)), 0)
  else
   none
 else
  some (a0, 0)
def A19 : FnB := ⟨[.v (.sl (.int .u8))], .pair (.sl (.int .u8)) i6, fun x => spec_l13Open x.1⟩
theorem spec_l13Open_eq : fnBF E0 L0 [.v (.sl (.int .u8))] kR f19.ntmps f19.results.toList (codeOf f19) = fun x => spec_l13Open x.1 := by kernel_rfl
theorem A19_ok : FnBOk prog 19 A19 := by
 have h := fnBOk_of_run (P := prog) (E := E0) (tysOk_of tyl_ok) E0_ok (L := L0) (ps := [.v (.sl (.int .u8))]) (k := .pair (.sl (.int .u8)) i6) func19 (c := codeOf f19) (by kernel_rfl) (codeOk_in (L := L0) (tysOk_of tyl_ok) E0_ok mixed (c := codeOf f19) (bs := []) (by kernel_rfl) allNil (by kernel_rfl))
 rw [spec_l13Open_eq] at h
 exact h
def spec_l13Rd_pick : (LI × Int) → Int → Option ((Int) × ((LI × Int) × Unit)) := fun (a0_0, a0_1) a1 =>
 bif (decide (a1 < 1)) then
  some ((0 : Int), (a0_0, (IntKind.wrap .i64 (a0_1 + 1))), ())
 else
  bif ((((List.length a0_0) : Nat) : Int) == 0) then
   some ((0 : Int), (a0_0, (IntKind.wrap .i64 (a0_1 + 1))), ())
  else
   bif (decide ((IntKind.wrap .i64 ((IntKind.wrap .i64 (a0_1 + 1)) - 1)) < (((List.length a0_0) : Nat) : Int))) then
    if (((0 : Int) ≤ (IntKind.wrap .i64 ((IntKind.wrap .i64 (a0_1 + 1)) - 1))) ∧ ((IntKind.wrap .i64 ((IntKind.wrap .i64 (a0_1 + 1)) - 1)) < (((List.length a0_0) : Nat) : Int))) then
     if (a1 = 0) then
      none
     else
      some ((Int.tmod (IntKind.wrap .i64 (List.getD a0_0 (Int.toNat (IntKind.wrap .i64 ((IntKind.wrap .i64 (a0_1 + 1)) - 1))) 0)) a1), (a0_0, (IntKind.wrap .i64 (a0_1 + 1))), ())
    else
     none
   else
    if ((((List.length a0_0) : Nat) : Int) = 0) then
     none
    else
     if (((0 : Int) ≤ (Int.tmod (IntKind.wrap .i64 ((IntKind.wrap .i64 (a0_1 + 1)) - 1)) (((List.length a0_0) : Nat) : Int))) ∧ ((Int.tmod (IntKind.wrap .i64 ((IntKind.wrap .i64 (a0_1 + 1)) - 1)) (((List.length a0_0) : Nat) : Int)) < (((List.length a0_0) : Nat) : Int))) then
      if ((((List.length a0_0) : Nat) : Int) = 0) then
       none
      else
       if (((0 : Int) ≤ (Int.tmod (IntKind.wrap .i64 ((IntKind.wrap .i64 ((IntKind.wrap .i64 ((IntKind.wrap .i64 (a0_1 + 1)) - 1)) * 7)) + 3)) (((List.length a0_0) : Nat) : Int))) ∧ ((Int.tmod (IntKind.wrap .i64 ((IntKind.wrap .i64 ((IntKind.wrap .i64 ((IntKind.wrap .i64 (a0_1 + 1)) - 1)) * 7)) + 3)) (((List.length a0_0) : Nat) : Int)) < (((List.length a0_0) : Nat) : Int))) then
        if ((((List.length a0_0) : Nat) : Int) = 0) then
         none
        else
         if ((64 : Int) = 0) then
          none
         else
          if (a1 = 0) then
           none
          else
           some ((Int.tmod (Decidable.rec (fun y0 => ((((BitVec.toNat ((BitVec.ofInt (IntKind.bits .i64) (IntKind.wrap .i64 ((IntKind.wrap .i64 ((IntKind.wrap .i64 ((IntKind.wrap .i64 ((IntKind.wrap .i64 (List.getD a0_0 (Int.toNat (Int.tmod (IntKind.wrap .i64 ((IntKind.wrap .i64 (a0_1 + 1)) - 1)) (((List.length a0_0) : Nat) : Int))) 0)) * 131)) + (IntKind.wrap .i64 ((IntKind.wrap .i64 (List.getD a0_0 (Int.toNat (Int.tmod (IntKind.wrap .i64 ((IntKind.wrap .i64 ((IntKind.wrap .i64 ((IntKind.wrap .i64 (a0_1 + 1)) - 1)) * 7)) + 3)) (((List.length a0_0) : Nat) : Int))) 0)) * 1117)))) + (IntKind.wrap .i64 ((IntKind.wrap .i64 ((IntKind.wrap .i64 (a0_1 + 1)) - 1)) * 29)))) + (IntKind.wrap .i64 ((IntKind.wrap .i64 (Int.tdiv (IntKind.wrap .i64 ((IntKind.wrap .i64 (a0_1 + 1)) - 1)) (((List.length a0_0) : Nat) : Int))) * 53))))) ^^^ (BitVec.ofInt (IntKind.bits .i64) (IntKind.wrap .i64 (Int.tdiv (IntKind.wrap .i64 ((IntKind.wrap .i64 ((IntKind.wrap .i64 ((IntKind.wrap .i64 ((IntKind.wrap .i64 (List.getD a0_0 (Int.toNat (Int.tmod (IntKind.wrap .i64 ((IntKind.wrap .i64 (a0_1 + 1)) - 1)) (((List.length a0_0) : Nat) : Int))) 0)) * 131)) + (IntKind.wrap .i64 ((IntKind.wrap .i64 (List.getD a0_0 (Int.toNat (Int.tmod (IntKind.wrap .i64 ((IntKind.wrap .i64 ((IntKind.wrap .i64 ((IntKind.wrap .i64 (a0_1 + 1)) - 1)) * 7)) + 3)) (((List.length a0_0) : Nat) : Int))) 0)) * 1117)))) + (IntKind.wrap .i64 ((IntKind.wrap .i64 ((IntKind.wrap .i64 (a0_1 + 1)) - 1)) * 29)))) + (IntKind.wrap .i64 ((IntKind.wrap .i64 (Int.tdiv (IntKind.wrap .i64 ((IntKind.wrap .i64 (a0_1 + 1)) - 1)) (((List.length a0_0) : Nat) : Int))) * 53)))) 64))))) : Nat) : Int) % ((2 : Int) ^ (IntKind.bits .i64)))) (fun y1 => (((((BitVec.toNat ((BitVec.ofInt (IntKind.bits .i64) (IntKind.wrap .i64 ((IntKind.wrap .i64 ((IntKind.wrap .i64 ((IntKind.wrap .i64 ((IntKind.wrap .i64 (List.getD a0_0 (Int.toNat (Int.tmod (IntKind.wrap .i64 ((IntKind.wrap .i64 (a0_1 + 1)) - 1)) (((List.length a0_0) : Nat) : Int))) 0)) * 131)) + (IntKind.wrap .i64 ((IntKind.wrap .i64 (List.getD a0_0 (Int.toNat (Int.tmod (IntKind.wrap .i64 ((IntKind.wrap .i64 ((IntKind.wrap .i64 ((IntKind.wrap .i64 (a0_1 + 1)) - 1)) * 7)) + 3)) (((List.length a0_0) : Nat) : Int))) 0)) * 1117)))) + (IntKind.wrap .i64 ((IntKind.wrap .i64 ((IntKind.wrap .i64 (a0_1 + 1)) - 1)) * 29)))) + (IntKind.wrap .i64 ((IntKind.wrap .i64 (Int.tdiv (IntKind.wrap .i64 ((IntKind.wrap .i64 (a0_1 + 1)) - 1)) (((List.length a0_0) : Nat) : Int))) * 53))))) ^^^ (BitVec.ofInt (IntKind.bits .i64) (IntKind.wrap .i64 (Int.tdiv (IntKind.wrap .i64 ((IntKind.wrap .i64 ((IntKind.wrap .i64 ((IntKind.wrap .i64 ((IntKind.wrap .i64 (List.getD a0_0 (Int.toNat (Int.tmod (IntKind.wrap .i64 ((IntKind.wrap .i64 (a0_1 + 1)) - 1)) (((List.length a0_0) : Nat) : Int))) 0)) * 131)) + (IntKind.wrap .i64 ((IntKind.wrap .i64 (List.getD a0_0 (Int.toNat (Int.tmod (IntKind.wrap .i64 ((IntKind.wrap .i64 ((IntKind.wrap .i64 ((IntKind.wrap .i64 (a0_1 + 1)) - 1)) * 7)) + 3)) (((List.length a0_0) : Nat) : Int))) 0)) * 1117)))) + (IntKind.wrap .i64 ((IntKind.wrap .i64 ((IntKind.wrap .i64 (a0_1 + 1)) - 1)) * 29)))) + (IntKind.wrap .i64 ((IntKind.wrap .i64 (Int.tdiv (IntKind.wrap .i64 ((IntKind.wrap .i64 (a0_1 + 1)) - 1)) (((List.length a0_0) : Nat) : Int))) * 53)))) 64))))) : Nat) : Int) % ((2 : Int) ^ (IntKind.bits .i64))) - ((2 : Int) ^ (IntKind.bits .i64)))) (instDecidableEqBool ((IntKind.signed .i64) && (decide (((((BitVec.toNat ((BitVec.ofInt (IntKind.bits .i64) (IntKind.wrap .i64 ((IntKind.wrap .i64 ((IntKind.wrap .i64 ((IntKind.wrap .i64 ((IntKind.wrap .i64 (List.getD a0_0 (Int.toNat (Int.tmod (IntKind.wrap .i64 ((IntKind.wrap .i64 (a0_1 + 1)) - 1)) (((List.length a0_0) : Nat) : Int))) 0)) * 131)) + (IntKind.wrap .i64 ((IntKind.wrap .i64 (List.getD a0_0 (Int.toNat (Int.tmod (IntKind.wrap .i64 ((IntKind.wrap .i64 ((IntKind.wrap .i64 ((IntKind.wrap .i64 (a0_1 + 1)) - 1)) * 7)) + 3)) (((List.length a0_0) : Nat) : Int))) 0)) * 1117)))) + (IntKind.wrap .i64 ((IntKind.wrap .i64 ((IntKind.wrap .i64 (a0_1 + 1)) - 1)) * 29)))) + (IntKind.wrap .i64 ((IntKind.wrap .i64 (Int.tdiv (IntKind.wrap .i64 ((IntKind.wrap .i64 (a0_1 + 1)) - 1)) (((List.length a0_0) : Nat) : Int))) * 53))))) ^^^ (BitVec.ofInt (IntKind.bits .i64) (IntKind.wrap .i64 (Int.tdiv (IntKind.wrap .i64 ((IntKind.wrap .i64 ((IntKind.wrap .i64 ((IntKind.wrap .i64 ((IntKind.wrap .i64 (List.getD a0_0 (Int.toNat (Int.tmod (IntKind.wrap .i64 ((IntKind.wrap .i64 (a0_1 + 1)) - 1)) (((List.length a0_0) : Nat) : Int))) 0)) * 131)) + (IntKind.wrap .i64 ((IntKind.wrap .i64 (List.getD a0_0 (Int.toNat (Int.tmod (IntKind.wrap .i64 ((IntKind.wrap .i64 ((IntKind.wrap .i64 ((IntKind.wrap .i64 (a0_1 + 1)) - 1)) * 7)) + 3)) (((List.length a0_0) : Nat) : Int))) 0)) * 1117)))) + (IntKind.wrap .i64 ((IntKind.wrap .i64 ((IntKind.wrap .i64 (a0_1 + 1)) - 1)) * 29)))) + (IntKind.wrap .i64 ((IntKind.wrap .i64 (Int.tdiv (IntKind.wrap .i64 ((IntKind.wrap .i64 (a0_1 + 1)) - 1)) (((List.length a0_0) : Nat) : Int))) * 53)))) 64))))) : Nat) : Int) % ((2 : Int) ^ (IntKind.bits .i64))) ≥ ((2 : Int) ^ ((IntKind.bits .i64) - 1))))) true)) a1), (a0_0, (IntKind.wrap .i64 (a0_1 + 1))), ())
       else
        none
     else
      none
def A115 : FnM := ⟨[.bx kR, .v i6], true, [.int .i64], none, fun x => spec_l13Rd_pick x.1 x.2.1⟩
theorem A115_ok : FnMOk prog 115 A115 := fm (L := L0) (by kernel_rfl) func115 E0_ok allNil
def sh279_4 : List Fm := .cell (.val .str) :: .cell (.val (.int .u8)) :: d :: d :: d :: .cell (.own .str 100500 false) :: .cell (.val i6) :: .cell (.val i6) :: D 28 []
def xs279_4 : List (Ex × List Fm) := [(.exit 0, (D 5 (.cell (.own .str 100500 false) :: D 30 [])))]
def spec_l13Cut_l4 : (ByteArray × Int × (List ByteArray) × Int × Int × Unit) → Option ((ByteArray × Int × (List ByteArray) × Int × Int × Unit) ⊕ (((List ByteArray) × Unit))) := fun (v0, v1, v5, v6, v7, _) =>
 bif (decide (v7 ≤ (((ByteArray.size v0) : Nat) : Int))) then
  bif (v7 == (((ByteArray.size v0) : Nat) : Int)) then
   if (((0 : Int) ≤ v6) ∧ ((v6 ≤ v7) ∧ (v7 ≤ (((ByteArray.size v0) : Nat) : Int)))) then
    if (((0 + (List.length v5)) = (List.length v5)) ∧ ((((List.length v5) + (List.length (List.take 1 (List.drop 0 [(ByteArray.extract v0 (Int.toNat v6) (Int.toNat v7))])))) * 16) ≤ 140737488355328)) then
     some (Sum.inl (v0, v1, (List.take ((List.length v5) + (List.length (List.take 1 (List.drop 0 [(ByteArray.extract v0 (Int.toNat v6) (Int.toNat v7))])))) (List.drop 0 ((List.drop 0 v5) ++ (List.take 1 (List.drop 0 [(ByteArray.extract v0 (Int.toNat v6) (Int.toNat v7))]))))), (IntKind.wrap .i64 (v7 + 1)), (IntKind.wrap .i64 (v7 + 1)), ()))
    else
     none
   else
    none
  else
   if (((0 : Int) ≤ v7) ∧ (v7 < (((ByteArray.size v0) : Nat) : Int))) then
    bif ((((UInt8.toNat (Array.getD (ByteArray.data v0) (Int.toNat v7) (0 : UInt8))) : Nat) : Int) == v1) then
     if (((0 : Int) ≤ v6) ∧ ((v6 ≤ v7) ∧ (v7 ≤ (((ByteArray.size v0) : Nat) : Int)))) then
      if (((0 + (List.length v5)) = (List.length v5)) ∧ ((((List.length v5) + (List.length (List.take 1 (List.drop 0 [(ByteArray.extract v0 (Int.toNat v6) (Int.toNat v7))])))) * 16) ≤ 140737488355328)) then
       some (Sum.inl (v0, v1, (List.take ((List.length v5) + (List.length (List.take 1 (List.drop 0 [(ByteArray.extract v0 (Int.toNat v6) (Int.toNat v7))])))) (List.drop 0 ((List.drop 0 v5) ++ (List.take 1 (List.drop 0 [(ByteArray.extract v0 (Int.toNat v6) (Int.toNat v7))]))))), (IntKind.wrap .i64 (v7 + 1)), (IntKind.wrap .i64 (v7 + 1)), ()))
      else
       none
     else
      none
    else
     some (Sum.inl (v0, v1, (List.take (List.length v5) (List.drop 0 v5)), v6, (IntKind.wrap .i64 (v7 + 1)), ()))
   else
    none
 else
  some (Sum.inr ((List.take (List.length v5) (List.drop 0 v5)), ()))
theorem loop279_4 {L} (h : L 4 = some ⟨36, sh279_4, xs279_4, spec_l13Cut_l4⟩) : LoopOk prog L (loopOf f279 4) := lo (L' := L0) (by kernel_rfl) E0_ok allNil h
def L279_1 : Nat → Option LoopD := fun n => ifEq n 4 (some ⟨36, sh279_4, xs279_4, spec_l13Cut_l4⟩) (L0 n)
def spec_l13Cut : ByteArray → Int → Option ((List ByteArray)) := fun a0 a1 =>
 Option.bind (loopF spec_l13Cut_l4 (a0, a1, (List.take 0 (List.drop 0 [])), 0, 0, ())) fun (r0, _) =>
  some (List.take (List.length r0) (List.drop 0 r0))
def A279 : FnA := ⟨[.v .str, .v (.int .u8)], true, [.sl .str], fun x => spec_l13Cut x.1 x.2.1⟩
theorem A279_ok : FnOk prog 279 A279 := fo (L := L279_1) (by kernel_rfl) func279 E0_ok (allCons (loop279_4 rfl) allNil)
def sh280_8 : List Fm := .cell (.val .str) :: d :: d :: d :: .cell (.val .bool) :: .cell (.val i6) :: .cell (.val i6) :: D 60 []
def xs280_8 : List (Ex × List Fm) := [(.ret, (d :: d :: .cell (.val i6) :: .cell (.val .bool) :: D 63 [])), (.exit 0, (D 4 (.cell (.val .bool) :: .cell (.val i6) :: D 61 [])))]
def spec_l13Num_l8 : (ByteArray × Bool × Int × Int × Unit) → Option ((ByteArray × Bool × Int × Int × Unit) ⊕ ((Int × Bool × Unit) ⊕ (Bool × Int × Unit))) := fun (v0, v4, v5, v6, _) =>
 bif (decide (v6 < (((ByteArray.size v0) : Nat) : Int))) then
  if (((0 : Int) ≤ v6) ∧ (v6 < (((ByteArray.size v0) : Nat) : Int))) then
   bif (decide ((((UInt8.toNat (Array.getD (ByteArray.data v0) (Int.toNat v6) (0 : UInt8))) : Nat) : Int) < 48)) then
    some (Sum.inr (Sum.inl ((0 : Int), false, ())))
   else
    if (((0 : Int) ≤ v6) ∧ (v6 < (((ByteArray.size v0) : Nat) : Int))) then
     bif (decide ((((UInt8.toNat (Array.getD (ByteArray.data v0) (Int.toNat v6) (0 : UInt8))) : Nat) : Int) > 57)) then
      some (Sum.inr (Sum.inl ((0 : Int), false, ())))
     else
      if (((0 : Int) ≤ v6) ∧ (v6 < (((ByteArray.size v0) : Nat) : Int))) then
       some (Sum.inl (v0, v4, (IntKind.wrap .i64 ((IntKind.wrap .i64 (v5 * 10)) + (IntKind.wrap .i64 (IntKind.wrap .u8 ((((UInt8.toNat (Array.getD (ByteArray.data v0) (Int.toNat v6) (0 : UInt8))) : Nat) : Int) - 48))))), (IntKind.wrap .i64 (v6 + 1)), ()))
      else
       none
    else
     none
  else
   none
 else
  some (Sum.inr (Sum.inr (v4, v5, ())))
theorem loop280_8 {L} (h : L 8 = some ⟨67, sh280_8, xs280_8, spec_l13Num_l8⟩) : LoopOk prog L (loopOf f280 8) := lo (L' := L0) (by kernel_rfl) E0_ok allNil h
def L280_1 : Nat → Option LoopD := fun n => ifEq n 8 (some ⟨67, sh280_8, xs280_8, spec_l13Num_l8⟩) (L0 n)
def spec_l13Num : ByteArray → Option (Int × Bool) := fun a0 =>
 bif (decide ((((ByteArray.size a0) : Nat) : Int) > 0)) then
  if (((0 : Int) ≤ 0) ∧ ((0 : Int) < (((ByteArray.size a0) : Nat) : Int))) then
   bif ((((UInt8.toNat (Array.getD (ByteArray.data a0) (Int.toNat 0) (0 : UInt8))) : Nat) : Int) == 45) then
    if (((0 : Int) ≤ 1) ∧ ((1 : Int) ≤ (((ByteArray.size a0) : Nat) : Int))) then
     bif ((((ByteArray.size (ByteArray.extract a0 (Int.toNat 1) (ByteArray.size a0))) : Nat) : Int) == 0) then
      some ((0 : Int), false)
     else
      bif (decide ((((ByteArray.size (ByteArray.extract a0 (Int.toNat 1) (ByteArray.size a0))) : Nat) : Int) > 17)) then
       some ((0 : Int), false)
      else
       if (((0 : Int) ≤ 0) ∧ ((0 : Int) < (((ByteArray.size (ByteArray.extract a0 (Int.toNat 1) (ByteArray.size a0))) : Nat) : Int))) then
        bif ((((UInt8.toNat (Array.getD (ByteArray.data (ByteArray.extract a0 (Int.toNat 1) (ByteArray.size a0))) (Int.toNat 0) (0 : UInt8))) : Nat) : Int) == 48) then
         bif (decide ((((ByteArray.size (ByteArray.extract a0 (Int.toNat 1) (ByteArray.size a0))) : Nat) : Int) > 1)) then
          some ((0 : Int), false)
         else
          bif ((((UInt8.toNat (Array.getD (ByteArray.data a0) (Int.toNat 0) (0 : UInt8))) : Nat) : Int) == 45) then
           some ((0 : Int), false)
          else
           Option.bind (loopF spec_l13Num_l8 ((ByteArray.extract a0 (Int.toNat 1) (ByteArray.size a0)), ((((UInt8.toNat (Array.getD (ByteArray.data a0) (Int.toNat 0) (0 : UInt8))) : Nat) : Int) == 45), 0, 0, ())) fun r0 =>
            (match r0 with
            | .inl (d1, d2, _) =>
              some (d1, d2)
            | .inr (d3, d4, _) =>
              bif d3 then
               some ((IntKind.wrap .i64 ((0 : Int) - d4)), true)
              else
               some (d4, true))
        else
         Option.bind (loopF spec_l13Num_l8 ((ByteArray.extract a0 (Int.toNat 1) (ByteArray.size a0)), ((((UInt8.toNat (Array.getD (ByteArray.data a0) (Int.toNat 0) (0 : UInt8))) : Nat) : Int) == 45), 0, 0, ())) fun r5 =>
          (match r5 with
          | .inl (d6, d7, _) =>
            some (d6, d7)
          | .inr (d8, d9, _) =>
            bif d8 then
             some ((IntKind.wrap .i64 ((0 : Int) - d9)), true)
            else
             some (d9, true))
       else
        none
    else
     none
   else
    bif ((((ByteArray.size a0) : Nat) : Int) == 0) then
     some ((0 : Int), false)
    else
     bif (decide ((((ByteArray.size a0) : Nat) : Int) > 17)) then
      some ((0 : Int), false)
     else
      if (((0 : Int) ≤ 0) ∧ ((0 : Int) < (((ByteArray.size a0) : Nat) : Int))) then
       bif ((((UInt8.toNat (Array.getD (ByteArray.data a0) (Int.toNat 0) (0 : UInt8))) : Nat) : Int) == 48) then
        bif (decide ((((ByteArray.size a0) : Nat) : Int) > 1)) then
         some ((0 : Int), false)
        else
         bif ((((UInt8.toNat (Array.getD (ByteArray.data a0) (Int.toNat 0) (0 : UInt8))) : Nat) : Int) == 45) then
          some ((0 : Int), false)
         else
          Option.bind (loopF spec_l13Num_l8 (a0, ((((UInt8.toNat (Array.getD (ByteArray.data a0) (Int.toNat 0) (0 : UInt8))) : Nat) : Int) == 45), 0, 0, ())) fun r10 =>
           (match r10 with
           | .inl (d11, d12, _) =>
             some (d11, d12)
           | .inr (d13, d14, _) =>
             bif d13 then
              some ((IntKind.wrap .i64 ((0 : Int) - d14)), true)
             else
              some (d14, true))
       else
        Option.bind (loopF spec_l13Num_l8 (a0, ((((UInt8.toNat (Array.getD (ByteArray.data a0) (Int.toNat 0) (0 : UInt8))) : Nat) : Int) == 45), 0, 0, ())) fun r15 =>
         (match r15 with
         | .inl (d16, d17, _) =>
           some (d16, d17)
         | .inr (d18, d19, _) =>
           bif d18 then
            some ((IntKind.wrap .i64 ((0 : Int) - d19)), true)
           else
            some (d19, true))
      else
       none
  else
   none
 else
  bif ((((ByteArray.size a0) : Nat) : Int) == 0) then
   some ((0 : Int), false)
  else
   bif (decide ((((ByteArray.size a0) : Nat) : Int) > 17)) then
    some ((0 : Int), false)
   else
    if (((0 : Int) ≤ 0) ∧ ((0 : Int) < (((ByteArray.size a0) : Nat) : Int))) then
     bif ((((UInt8.toNat (Array.getD (ByteArray.data a0) (Int.toNat 0) (0 : UInt8))) : Nat) : Int) == 48) then
      bif (decide ((((ByteArray.size a0) : Nat) : Int) > 1)) then
       some ((0 : Int), false)
      else
       Option.bind (loopF spec_l13Num_l8 (a0, false, 0, 0, ())) fun r20 =>
        (match r20 with
        | .inl (d21, d22, _) =>
          some (d21, d22)
        | .inr (d23, d24, _) =>
          bif d23 then
           some ((IntKind.wrap .i64 ((0 : Int) - d24)), true)
          else
           some (d24, true))
     else
      Option.bind (loopF spec_l13Num_l8 (a0, false, 0, 0, ())) fun r25 =>
       (match r25 with
       | .inl (d26, d27, _) =>
         some (d26, d27)
       | .inr (d28, d29, _) =>
         bif d28 then
          some ((IntKind.wrap .i64 ((0 : Int) - d29)), true)
         else
          some (d29, true))
    else
     none
def A280 : FnA := ⟨[.v .str], true, [.int .i64, .bool], fun x => spec_l13Num x.1⟩
theorem A280_ok : FnOk prog 280 A280 := fo (L := L280_1) (by kernel_rfl) func280 E0_ok (allCons (loop280_8 rfl) allNil)
def E281 : Env := ev fun g => ifEq g 279 (some A279) (ifEq g 280 (some A280) (none))
theorem E281_ok : FnsOk prog E281 := (oF A279_ok func279 (oF A280_ok func280 (noFns _ _)))
def sh281_5 : List Fm := D 4 (.cell (.own i6 100400 false) :: D 9 (.cell (.own .str 101400 false) :: .cell (.val i6) :: .cell (.val i6) :: D 17 []))
def xs281_5 : List (Ex × List Fm) := [(.ret, (d :: d :: .cell (.own i6 100200 false) :: .cell (.val .bool) :: D 30 [])), (.exit 0, (D 4 (.cell (.own i6 100400 false) :: D 29 [])))]
def spec_l3Read_l5 : (LI × (List ByteArray) × Int × Int × Unit) → Option ((LI × (List ByteArray) × Int × Int × Unit) ⊕ ((LI × Bool × Unit) ⊕ (LI × Unit))) := fun (v4, v14, v15, v16, _) =>
 bif (decide (v16 < v15)) then
  if (((0 : Int) ≤ v16) ∧ (v16 < (((List.length v14) : Nat) : Int))) then
   Option.bind (spec_l13Num (List.getD v14 (0 + (Int.toNat v16)) ⟨Array.empty⟩)) fun (r0, r1) =>
    bif (!r1) then
     some (Sum.inr (Sum.inl ((List.take 0 (List.drop 0 [])), false, ())))
    else
     if (((0 + (List.length v4)) = (List.length v4)) ∧ ((((List.length v4) + (List.length (List.take 1 (List.drop 0 [r0])))) * 8) ≤ 140737488355328)) then
      some (Sum.inl ((List.take ((List.length v4) + (List.length (List.take 1 (List.drop 0 [r0])))) (List.drop 0 ((List.drop 0 v4) ++ (List.take 1 (List.drop 0 [r0]))))), (List.take (List.length v14) (List.drop 0 v14)), v15, (IntKind.wrap .i64 (v16 + 1)), ()))
     else
      none
  else
   none
 else
  some (Sum.inr (Sum.inr ((List.take (List.length v4) (List.drop 0 v4)), ())))
theorem loop281_5 {L} (h : L 5 = some ⟨34, sh281_5, xs281_5, spec_l3Read_l5⟩) : LoopOk prog L (loopOf f281 5) := lo (L' := L0) (by kernel_rfl) E281_ok allNil h
def L281_1 : Nat → Option LoopD := fun n => ifEq n 5 (some ⟨34, sh281_5, xs281_5, spec_l3Read_l5⟩) (L0 n)
def spec_l3Read : ByteArray → Option (LI × Bool) := fun a0 =>
 bif ((ByteArray.toList a0) == (ByteArray.toList (⟨#[]⟩ : ByteArray))) then
  some ((List.take 0 (List.drop 0 [])), true)
 else
  Option.bind (spec_l13Cut a0 32) fun r0 =>
   Option.bind (loopF spec_l3Read_l5 ((List.take 0 (List.drop 0 [])), (List.take (List.length r0) (List.drop 0 r0)), (((List.length r0) : Nat) : Int), 0, ())) fun r1 =>
    (match r1 with
    | .inl (d2, d3, _) =>
      some ((List.take (List.length d2) (List.drop 0 d2)), d3)
    | .inr (d4, _) =>
      some ((List.take (List.length d4) (List.drop 0 d4)), true))
def A281 : FnA := ⟨[.v .str], true, [.sl i6, .bool], fun x => spec_l3Read x.1⟩
theorem A281_ok : FnOk prog 281 A281 := fo (L := L281_1) (by kernel_rfl) func281 E281_ok (allCons (loop281_5 rfl) allNil)
def spec_l1In : Int → Int → Int → Option (Bool) := fun a0 a1 a2 =>
 bif (decide (a0 ≥ a1)) then
  some (decide (a0 ≤ a2))
 else
  some false
def A122 : FnA := ⟨[.v i6, .v i6, .v i6], true, [.bool], fun x => spec_l1In x.1 x.2.1 x.2.2.1⟩
theorem A122_ok : FnOk prog 122 A122 := fo (L := L0) (by kernel_rfl) func122 E0_ok allNil
def E123 : Env := ev fun g => ifEq g 122 (some A122) (none)
theorem E123_ok : FnsOk prog E123 := (oF A122_ok func122 (noFns _ _))
def sh123_2 : List Fm := .cell (.val i6) :: .cell (.val sI) :: D 5 (.cell (.val sI) :: .cell (.val i6) :: .cell (.val i6) :: D 23 [])
def xs123_2 : List (Ex × List Fm) := [(.ret, (D 4 (.cell (.val .bool) :: D 28 []))), (.exit 0, (D 33 []))]
def spec_l3Marks_l2 : (Int × LI × LI × Int × Int × Unit) → Option ((Int × LI × LI × Int × Int × Unit) ⊕ ((Bool × Unit) ⊕ (Unit))) := fun (v0, v1, v7, v8, v9, _) =>
 bif (decide (v9 < v8)) then
  if (((0 : Int) ≤ v9) ∧ (v9 < (((List.length v7) : Nat) : Int))) then
   Option.bind (spec_l1In (List.getD v7 (Int.toNat v9) 0) 0 (IntKind.wrap .i64 (v0 - 1))) fun r0 =>
    bif (!r0) then
     some (Sum.inr (Sum.inl (false, ())))
    else
     bif (decide (v9 > 0)) then
      if (((0 : Int) ≤ (IntKind.wrap .i64 (v9 - 1))) ∧ ((IntKind.wrap .i64 (v9 - 1)) < (((List.length v1) : Nat) : Int))) then
       bif (decide ((List.getD v1 (Int.toNat (IntKind.wrap .i64 (v9 - 1))) 0) ≥ (List.getD v7 (Int.toNat v9) 0))) then
        some (Sum.inr (Sum.inl (false, ())))
       else
        some (Sum.inl (v0, v1, v7, v8, (IntKind.wrap .i64 (v9 + 1)), ()))
      else
       none
     else
      some (Sum.inl (v0, v1, v7, v8, (IntKind.wrap .i64 (v9 + 1)), ()))
  else
   none
 else
  some (Sum.inr (Sum.inr ()))
theorem loop123_2 {L} (h : L 2 = some ⟨33, sh123_2, xs123_2, spec_l3Marks_l2⟩) : LoopOk prog L (loopOf f123 2) := lo (L' := L0) (by kernel_rfl) E123_ok allNil h
def L123_1 : Nat → Option LoopD := fun n => ifEq n 2 (some ⟨33, sh123_2, xs123_2, spec_l3Marks_l2⟩) (L0 n)
def spec_l3Marks : Int → LI → Option (Bool) := fun a0 a1 =>
 Option.bind (loopF spec_l3Marks_l2 (a0, a1, a1, (((List.length a1) : Nat) : Int), 0, ())) fun r0 =>
  (match r0 with
  | .inl (d1, _) =>
    some d1
  | .inr _ =>
    some true)
def A123 : FnA := ⟨[.v i6, .v sI], true, [.bool], fun x => spec_l3Marks x.1 x.2.1⟩
theorem A123_ok : FnOk prog 123 A123 := fo (L := L123_1) (by kernel_rfl) func123 E123_ok (allCons (loop123_2 rfl) allNil)
def E124 : Env := ev fun g => ifEq g 122 (some A122) (none)
theorem E124_ok : FnsOk prog E124 := (oF A122_ok func122 (noFns _ _))
def spec_l3Step : Int → TS → Option (Bool) := fun a0 (a1_0, a1_1, a1_2, a1_3) =>
 Option.bind (spec_l1In a1_0 0 (IntKind.wrap .i64 (a0 - 1))) fun r0 =>
  bif r0 then
   Option.bind (spec_l1In a1_2 0 (IntKind.wrap .i64 (a0 - 1))) fun r1 =>
    bif r1 then
     Option.bind (spec_l1In a1_3 0 3) fun r2 =>
      bif r2 then
       bif ((ByteArray.toList a1_1) == (ByteArray.toList (⟨#[(97 : UInt8)]⟩ : ByteArray))) then
        some true
       else
        some ((ByteArray.toList a1_1) == (ByteArray.toList (⟨#[(98 : UInt8)]⟩ : ByteArray)))
      else
       some false
    else
     some false
  else
   some false
def A124 : FnA := ⟨[.v i6, .v kS], true, [.bool], fun x => spec_l3Step x.1 x.2.1⟩
theorem A124_ok : FnOk prog 124 A124 := fo (L := L0) (by kernel_rfl) func124 E124_ok allNil
def spec_l3Before : TS → TS → Option (Bool) := fun (a0_0, a0_1, a0_2, a0_3) (a1_0, a1_1, a1_2, a1_3) =>
 bif (a0_0 != a1_0) then
  some (decide (a0_0 < a1_0))
 else
  bif (!((ByteArray.toList a0_1) == (ByteArray.toList a1_1))) then
   some (Op.bytesLess (ByteArray.toList a0_1) (ByteArray.toList a1_1))
  else
   some (decide (a0_2 < a1_2))
def A125 : FnA := ⟨[.v kS, .v kS], true, [.bool], fun x => spec_l3Before x.1 x.2.1⟩
theorem A125_ok : FnOk prog 125 A125 := fo (L := L0) (by kernel_rfl) func125 E0_ok allNil
def E48 : Env := ev fun g => ifEq g 122 (some A122) (ifEq g 123 (some A123) (ifEq g 124 (some A124) (ifEq g 125 (some A125) (none))))
theorem E48_ok : FnsOk prog E48 := (oF A122_ok func122 (oF A123_ok func123 (oF A124_ok func124 (oF A125_ok func125 (noFns _ _)))))
def sh48_4 : List Fm := d :: .box 100100 [.val i6, .val sI, .val sI, .val sS] :: D 30 (.cell (.val sS) :: .cell (.val i6) :: .cell (.val i6) :: D 25 [])
def xs48_4 : List (Ex × List Fm) := [(.ret, (d :: d :: .cell (.val .bool) :: D 57 [])), (.exit 0, (D 60 []))]
def spec_AutomatonValid_l4 : ((Int × LI × LI × LS × Unit) × LS × Int × Int × Unit) → Option (((Int × LI × LI × LS × Unit) × LS × Int × Int × Unit) ⊕ ((Bool × Unit) ⊕ (Unit))) := fun ((v1_0, v1_1, v1_2, v1_3, _), v32, v33, v34, _) =>
 bif (decide (v34 < v33)) then
  if (((0 : Int) ≤ v34) ∧ (v34 < (((List.length v32) : Nat) : Int))) then
   Option.bind (spec_l3Step v1_0 ((List.getD v32 (Int.toNat v34) ((0 : Int), ⟨Array.empty⟩, 0, 0)).1, (List.getD v32 (Int.toNat v34) ((0 : Int), ⟨Array.empty⟩, 0, 0)).2.1, (List.getD v32 (Int.toNat v34) ((0 : Int), ⟨Array.empty⟩, 0, 0)).2.2.1, (List.getD v32 (Int.toNat v34) ((0 : Int), ⟨Array.empty⟩, 0, 0)).2.2.2)) fun r0 =>
    bif (!r0) then
     some (Sum.inr (Sum.inl (false, ())))
    else
     bif (decide (v34 > 0)) then
      if (((0 : Int) ≤ (IntKind.wrap .i64 (v34 - 1))) ∧ ((IntKind.wrap .i64 (v34 - 1)) < (((List.length v1_3) : Nat) : Int))) then
       Option.bind (spec_l3Before (List.getD v1_3 (Int.toNat (IntKind.wrap .i64 (v34 - 1))) ((0 : Int), ⟨Array.empty⟩, 0, 0)) ((List.getD v32 (Int.toNat v34) ((0 : Int), ⟨Array.empty⟩, 0, 0)).1, (List.getD v32 (Int.toNat v34) ((0 : Int), ⟨Array.empty⟩, 0, 0)).2.1, (List.getD v32 (Int.toNat v34) ((0 : Int), ⟨Array.empty⟩, 0, 0)).2.2.1, (List.getD v32 (Int.toNat v34) ((0 : Int), ⟨Array.empty⟩, 0, 0)).2.2.2)) fun r1 =>
        bif (!r1) then
         some (Sum.inr (Sum.inl (false, ())))
        else
         some (Sum.inl ((v1_0, v1_1, v1_2, v1_3, ()), v32, v33, (IntKind.wrap .i64 (v34 + 1)), ()))
      else
       none
     else
      some (Sum.inl ((v1_0, v1_1, v1_2, v1_3, ()), v32, v33, (IntKind.wrap .i64 (v34 + 1)), ()))
  else
   none
 else
  some (Sum.inr (Sum.inr ()))
theorem loop48_4 {L} (h : L 4 = some ⟨60, sh48_4, xs48_4, spec_AutomatonValid_l4⟩) : LoopOk prog L (loopOf f48 4) := lo (L' := L0) (by kernel_rfl) E48_ok allNil h
def L48_1 : Nat → Option LoopD := fun n => ifEq n 4 (some ⟨60, sh48_4, xs48_4, spec_AutomatonValid_l4⟩) (L0 n)
def spec_AutomatonValid : TA → Option (Bool) := fun (a0_0, a0_1, a0_2, a0_3) =>
 Option.bind (spec_l1In a0_0 1 4) fun r0 =>
  bif (!r0) then
   some false
  else
   Option.bind (spec_l3Marks a0_0 a0_1) fun r1 =>
    bif (!r1) then
     some false
    else
     Option.bind (spec_l3Marks a0_0 a0_2) fun r2 =>
      bif (!r2) then
       some false
      else
       bif (decide ((((List.length a0_3) : Nat) : Int) > 24)) then
        some false
       else
        Option.bind (loopF spec_AutomatonValid_l4 ((a0_0, a0_1, a0_2, a0_3, ()), a0_3, (((List.length a0_3) : Nat) : Int), 0, ())) fun r3 =>
         (match r3 with
         | .inl (d4, _) =>
           some d4
         | .inr _ =>
           some true)
def A48 : FnA := ⟨[.v kA], true, [.bool], fun x => spec_AutomatonValid x.1⟩
theorem A48_ok : FnOk prog 48 A48 := fo (L := L48_1) (by kernel_rfl) func48 E48_ok (allCons (loop48_4 rfl) allNil)
def E240 : Env := ev fun g => ifEq g 279 (some A279) (ifEq g 280 (some A280) (ifEq g 281 (some A281) (ifEq g 48 (some A48) (none))))
theorem E240_ok : FnsOk prog E240 := (oF A279_ok func279 (oF A280_ok func280 (oF A281_ok func281 (oF A48_ok func48 (noFns _ _)))))
def sh240_11 : List Fm := d :: d :: .box 100200 [.val i6, .own i6 100202 false, .own i6 100203 false, .own kS 100204 false] :: D 8 (.box 101100 [.val i6, .own i6 101102 false, .own i6 101103 false, .own kS 101104 false] :: .cell (.val .bool) :: D 54 (.cell (.own .str 106700 false) :: .cell (.val i6) :: .cell (.val i6) :: D 61 []))
def xs240_11 : List (Ex × List Fm) := [(.ret, [d, d, .box 100200 [.val i6, .own i6 100202 false, .own i6 100203 false, .own kS 100204 false], .cell (.val .bool), d, d, d, d, d, d, d, d, d, d, d, d, d, d, d, d, d, d, d, d, d, d, d, d, d, d, d, d, d, d, d, d, d, d, d, d, d, d, d, d, d, d, d, d, d, d, d, d, d, d, d, d, d, d, d, d, d, d, d, d, d, d, d, d, d, d, d, d, d, d, d, d, d, d, d, d, d, d, d, d, d, d, d, d, d, d, d, d, d, d, d, d, d, d, d, d, d, d, d, d, d, d, d, d, d, d, d, d, d, d, d, d, d, d, d, d, d, d, d, d, d, d, d, d, d, d, d]), (.exit 0, [d, d, .box 100200 [.val i6, .own i6 100202 false, .own i6 100203 false, .own kS 100204 false], d, d, d, d, d, d, d, d, .box 101100 [.val i6, .own i6 101102 false, .own i6 101103 false, .own kS 101104 false], .cell (.val .bool), d, d, d, d, d, d, d, d, d, d, d, d, d, d, d, d, d, d, d, d, d, d, d, d, d, d, d, d, d, d, d, d, d, d, d, d, d, d, d, d, d, d, d, d, d, d, d, d, d, d, d, d, d, d, d, d, d, d, d, d, d, d, d, d, d, d, d, d, d, d, d, d, d, d, d, d, d, d, d, d, d, d, d, d, d, d, d, d, d, d, d, d, d, d, d, d, d, d, d, d, d, d, d, d, d, d, d, d, d, d, d, d, d, d, d, d, d, d])]
def spec_ParseAutomaton_l11 : ((Int × LI × LI × LS × Unit) × (Int × LI × LI × LS × Unit) × Bool × (List ByteArray) × Int × Int × Unit) → Option (((Int × LI × LI × LS × Unit) × (Int × LI × LI × LS × Unit) × Bool × (List ByteArray) × Int × Int × Unit) ⊕ (((Int × LI × LI × LS × Unit) × Bool × Unit) ⊕ ((Int × LI × LI × LS × Unit) × (Int × LI × LI × LS × Unit) × Bool × Unit))) := fun ((v2_0, v2_1, v2_2, v2_3, _), (v11_0, v11_1, v11_2, v11_3, _), v12, v67, v68, v69, _) =>
 bif (decide (v69 < v68)) then
  if (((0 : Int) ≤ v69) ∧ (v69 < (((List.length v67) : Nat) : Int))) then
   bif ((((ByteArray.size (List.getD v67 (0 + (Int.toNat v69)) ⟨Array.empty⟩)) : Nat) : Int) != 5) then
    some (Sum.inr (Sum.inl (((0 : Int), [], [], [], ()), false, ())))
   else
    if (((0 : Int) ≤ 3) ∧ ((3 : Int) < (((ByteArray.size (List.getD v67 (0 + (Int.toNat v69)) ⟨Array.empty⟩)) : Nat) : Int))) then
     bif ((((UInt8.toNat (Array.getD (ByteArray.data (List.getD v67 (0 + (Int.toNat v69)) ⟨Array.empty⟩)) (Int.toNat 3) (0 : UInt8))) : Nat) : Int) != 58) then
      some (Sum.inr (Sum.inl (((0 : Int), [], [], [], ()), false, ())))
     else
      if (((0 : Int) ≤ 1) ∧ ((1 : Int) ≤ (((ByteArray.size (List.getD v67 (0 + (Int.toNat v69)) ⟨Array.empty⟩)) : Nat) : Int))) then
       Option.bind (spec_l13Num (ByteArray.extract (List.getD v67 (0 + (Int.toNat v69)) ⟨Array.empty⟩) 0 (Int.toNat 1))) fun (r0, r1) =>
        if (((0 : Int) ≤ 2) ∧ (((2 : Int) ≤ 3) ∧ ((3 : Int) ≤ (((ByteArray.size (List.getD v67 (0 + (Int.toNat v69)) ⟨Array.empty⟩)) : Nat) : Int)))) then
         Option.bind (spec_l13Num (ByteArray.extract (List.getD v67 (0 + (Int.toNat v69)) ⟨Array.empty⟩) (Int.toNat 2) (Int.toNat 3))) fun (r2, r3) =>
          if (((0 : Int) ≤ 4) ∧ ((4 : Int) ≤ (((ByteArray.size (List.getD v67 (0 + (Int.toNat v69)) ⟨Array.empty⟩)) : Nat) : Int))) then
           Option.bind (spec_l13Num (ByteArray.extract (List.getD v67 (0 + (Int.toNat v69)) ⟨Array.empty⟩) (Int.toNat 4) (ByteArray.size (List.getD v67 (0 + (Int.toNat v69)) ⟨Array.empty⟩)))) fun (r4, r5) =>
            bif v12 then
             bif r1 then
              bif r3 then
               if (((0 : Int) ≤ 1) ∧ (((1 : Int) ≤ 2) ∧ ((2 : Int) ≤ (((ByteArray.size (List.getD v67 (0 + (Int.toNat v69)) ⟨Array.empty⟩)) : Nat) : Int)))) then
                if (((0 + (List.length v11_3)) = (List.length v11_3)) ∧ ((((List.length v11_3) + (List.length (List.take 1 (List.drop 0 [(r0, (ByteArray.extract (List.getD v67 (0 + (Int.toNat v69)) (⟨Array.empty⟩ : ByteArray)) (Int.toNat (1 : Int)) (Int.toNat (2 : Int))), r2, r4)])))) * 40) ≤ 140737488355328)) then
                 some (Sum.inl ((v2_0, (List.take (List.length v2_1) (List.drop 0 v2_1)), (List.take (List.length v2_2) (List.drop 0 v2_2)), (List.take (List.length v2_3) (List.drop 0 v2_3)), ()), (v11_0, (List.take (List.length v11_1) (List.drop 0 v11_1)), (List.take (List.length v11_2) (List.drop 0 v11_2)), (List.take ((List.length v11_3) + (List.length (List.take 1 (List.drop 0 [(r0, (ByteArray.extract (List.getD v67 (0 + (Int.toNat v69)) (⟨Array.empty⟩ : ByteArray)) (Int.toNat (1 : Int)) (Int.toNat (2 : Int))), r2, r4)])))) (List.drop 0 ((List.drop 0 v11_3) ++ (List.take 1 (List.drop 0 [(r0, (ByteArray.extract (List.getD v67 (0 + (Int.toNat v69)) (⟨Array.empty⟩ : ByteArray)) (Int.toNat (1 : Int)) (Int.toNat (2 : Int))), r2, r4)]))))), ()), r5, (List.take (List.length v67) (List.drop 0 v67)), v68, (IntKind.wrap .i64 (v69 + 1)), ()))
                else
                 none
               else
                none
              else
               if (((0 : Int) ≤ 1) ∧ (((1 : Int) ≤ 2) ∧ ((2 : Int) ≤ (((ByteArray.size (List.getD v67 (0 + (Int.toNat v69)) ⟨Array.empty⟩)) : Nat) : Int)))) then
                if (((0 + (List.length v11_3)) = (List.length v11_3)) ∧ ((((List.length v11_3) + (List.length (List.take 1 (List.drop 0 [(r0, (ByteArray.extract (List.getD v67 (0 + (Int.toNat v69)) (⟨Array.empty⟩ : ByteArray)) (Int.toNat (1 : Int)) (Int.toNat (2 : Int))), r2, r4)])))) * 40) ≤ 140737488355328)) then
                 some (Sum.inl ((v2_0, (List.take (List.length v2_1) (List.drop 0 v2_1)), (List.take (List.length v2_2) (List.drop 0 v2_2)), (List.take (List.length v2_3) (List.drop 0 v2_3)), ()), (v11_0, (List.take (List.length v11_1) (List.drop 0 v11_1)), (List.take (List.length v11_2) (List.drop 0 v11_2)), (List.take ((List.length v11_3) + (List.length (List.take 1 (List.drop 0 [(r0, (ByteArray.extract (List.getD v67 (0 + (Int.toNat v69)) (⟨Array.empty⟩ : ByteArray)) (Int.toNat (1 : Int)) (Int.toNat (2 : Int))), r2, r4)])))) (List.drop 0 ((List.drop 0 v11_3) ++ (List.take 1 (List.drop 0 [(r0, (ByteArray.extract (List.getD v67 (0 + (Int.toNat v69)) (⟨Array.empty⟩ : ByteArray)) (Int.toNat (1 : Int)) (Int.toNat (2 : Int))), r2, r4)]))))), ()), false, (List.take (List.length v67) (List.drop 0 v67)), v68, (IntKind.wrap .i64 (v69 + 1)), ()))
                else
                 none
               else
                none
             else
              if (((0 : Int) ≤ 1) ∧ (((1 : Int) ≤ 2) ∧ ((2 : Int) ≤ (((ByteArray.size (List.getD v67 (0 + (Int.toNat v69)) ⟨Array.empty⟩)) : Nat) : Int)))) then
               if (((0 + (List.length v11_3)) = (List.length v11_3)) ∧ ((((List.length v11_3) + (List.length (List.take 1 (List.drop 0 [(r0, (ByteArray.extract (List.getD v67 (0 + (Int.toNat v69)) (⟨Array.empty⟩ : ByteArray)) (Int.toNat (1 : Int)) (Int.toNat (2 : Int))), r2, r4)])))) * 40) ≤ 140737488355328)) then
                some (Sum.inl ((v2_0, (List.take (List.length v2_1) (List.drop 0 v2_1)), (List.take (List.length v2_2) (List.drop 0 v2_2)), (List.take (List.length v2_3) (List.drop 0 v2_3)), ()), (v11_0, (List.take (List.length v11_1) (List.drop 0 v11_1)), (List.take (List.length v11_2) (List.drop 0 v11_2)), (List.take ((List.length v11_3) + (List.length (List.take 1 (List.drop 0 [(r0, (ByteArray.extract (List.getD v67 (0 + (Int.toNat v69)) (⟨Array.empty⟩ : ByteArray)) (Int.toNat (1 : Int)) (Int.toNat (2 : Int))), r2, r4)])))) (List.drop 0 ((List.drop 0 v11_3) ++ (List.take 1 (List.drop 0 [(r0, (ByteArray.extract (List.getD v67 (0 + (Int.toNat v69)) (⟨Array.empty⟩ : ByteArray)) (Int.toNat (1 : Int)) (Int.toNat (2 : Int))), r2, r4)]))))), ()), false, (List.take (List.length v67) (List.drop 0 v67)), v68, (IntKind.wrap .i64 (v69 + 1)), ()))
               else
                none
              else
               none
            else
             if (((0 : Int) ≤ 1) ∧ (((1 : Int) ≤ 2) ∧ ((2 : Int) ≤ (((ByteArray.size (List.getD v67 (0 + (Int.toNat v69)) ⟨Array.empty⟩)) : Nat) : Int)))) then
              if (((0 + (List.length v11_3)) = (List.length v11_3)) ∧ ((((List.length v11_3) + (List.length (List.take 1 (List.drop 0 [(r0, (ByteArray.extract (List.getD v67 (0 + (Int.toNat v69)) (⟨Array.empty⟩ : ByteArray)) (Int.toNat (1 : Int)) (Int.toNat (2 : Int))), r2, r4)])))) * 40) ≤ 140737488355328)) then
               some (Sum.inl ((v2_0, (List.take (List.length v2_1) (List.drop 0 v2_1)), (List.take (List.length v2_2) (List.drop 0 v2_2)), (List.take (List.length v2_3) (List.drop 0 v2_3)), ()), (v11_0, (List.take (List.length v11_1) (List.drop 0 v11_1)), (List.take (List.length v11_2) (List.drop 0 v11_2)), (List.take ((List.length v11_3) + (List.length (List.take 1 (List.drop 0 [(r0, (ByteArray.extract (List.getD v67 (0 + (Int.toNat v69)) (⟨Array.empty⟩ : ByteArray)) (Int.toNat (1 : Int)) (Int.toNat (2 : Int))), r2, r4)])))) (List.drop 0 ((List.drop 0 v11_3) ++ (List.take 1 (List.drop 0 [(r0, (ByteArray.extract (List.getD v67 (0 + (Int.toNat v69)) (⟨Array.empty⟩ : ByteArray)) (Int.toNat (1 : Int)) (Int.toNat (2 : Int))), r2, r4)]))))), ()), false, (List.take (List.length v67) (List.drop 0 v67)), v68, (IntKind.wrap .i64 (v69 + 1)), ()))
              else
               none
             else
              none
          else
           none
        else
         none
      else
       none
    else
     none
  else
   none
 else
  some (Sum.inr (Sum.inr ((v2_0, (List.take (List.length v2_1) (List.drop 0 v2_1)), (List.take (List.length v2_2) (List.drop 0 v2_2)), (List.take (List.length v2_3) (List.drop 0 v2_3)), ()), (v11_0, (List.take (List.length v11_1) (List.drop 0 v11_1)), (List.take (List.length v11_2) (List.drop 0 v11_2)), (List.take (List.length v11_3) (List.drop 0 v11_3)), ()), v12, ())))
theorem loop240_11 {L} (h : L 11 = some ⟨131, sh240_11, xs240_11, spec_ParseAutomaton_l11⟩) : LoopOk prog L (loopOf f240 11) := lo (L' := L0) (by kernel_rfl) E240_ok allNil h
def L240_1 : Nat → Option LoopD := fun n => ifEq n 11 (some ⟨131, sh240_11, xs240_11, spec_ParseAutomaton_l11⟩) (L0 n)
def spec_ParseAutomaton : ByteArray → Option (TA × Bool) := fun a0 =>
 Option.bind (spec_l13Cut a0 59) fun r0 =>
  bif ((((List.length r0) : Nat) : Int) != 4) then
   some (((0 : Int), [], [], []), false)
  else
   if (((0 : Int) ≤ 0) ∧ ((0 : Int) < (((List.length r0) : Nat) : Int))) then
    Option.bind (spec_l13Num (List.getD r0 (0 + (Int.toNat 0)) ⟨Array.empty⟩)) fun (r1, r2) =>
     if (((0 : Int) ≤ 1) ∧ ((1 : Int) < (((List.length r0) : Nat) : Int))) then
      Option.bind (spec_l3Read (List.getD r0 (0 + (Int.toNat 1)) ⟨Array.empty⟩)) fun (r3, r4) =>
       if (((0 : Int) ≤ 2) ∧ ((2 : Int) < (((List.length r0) : Nat) : Int))) then
        Option.bind (spec_l3Read (List.getD r0 (0 + (Int.toNat 2)) ⟨Array.empty⟩)) fun (r5, r6) =>
         bif r2 then
          bif r4 then
           if (((0 : Int) ≤ 3) ∧ ((3 : Int) < (((List.length r0) : Nat) : Int))) then
            bif (!((ByteArray.toList (List.getD r0 (0 + (Int.toNat 3)) ⟨Array.empty⟩)) == (ByteArray.toList (⟨#[]⟩ : ByteArray)))) then
             if (((0 : Int) ≤ 3) ∧ ((3 : Int) < (((List.length r0) : Nat) : Int))) then
              Option.bind (spec_l13Cut (List.getD r0 (0 + (Int.toNat 3)) ⟨Array.empty⟩) 32) fun r7 =>
               Option.bind (loopF spec_ParseAutomaton_l11 (((0 : Int), [], [], [], ()), (r1, (List.take (List.length r3) (List.drop 0 r3)), (List.take (List.length r5) (List.drop 0 r5)), (List.take 0 (List.drop 0 [])), ()), r6, (List.take (List.length r7) (List.drop 0 r7)), (((List.length r7) : Nat) : Int), 0, ())) fun r8 =>
                (match r8 with
                | .inl ((d9, d10, d11, d12, _), d13, _) =>
                  some ((d9, (List.take (List.length d10) (List.drop 0 d10)), (List.take (List.length d11) (List.drop 0 d11)), (List.take (List.length d12) (List.drop 0 d12))), d13)
                | .inr ((d14, d15, d16, d17, _), (d18, d19, d20, d21, _), d22, _) =>
                  bif (!d22) then
                   some (((0 : Int), [], [], []), false)
                  else
                   Option.bind (spec_AutomatonValid (d18, (List.take (List.length d19) (List.drop 0 d19)), (List.take (List.length d20) (List.drop 0 d20)), (List.take (List.length d21) (List.drop 0 d21)))) fun r23 =>
                    bif (!r23) then
                     some (((0 : Int), [], [], []), false)
                    else
                     some ((d18, (List.take (List.length d19) (List.drop 0 d19)), (List.take (List.length d20) (List.drop 0 d20)), (List.take (List.length d21) (List.drop 0 d21))), true))
             else
              none
            else
             bif (!r6) then
              some (((0 : Int), [], [], []), false)
             else
              Option.bind (spec_AutomatonValid (r1, (List.take (List.length r3) (List.drop 0 r3)), (List.take (List.length r5) (List.drop 0 r5)), (List.take 0 (List.drop 0 [])))) fun r24 =>
               bif (!r24) then
                some (((0 : Int), [], [], []), false)
               else
                some ((r1, (List.take (List.length r3) (List.drop 0 r3)), (List.take (List.length r5) (List.drop 0 r5)), (List.take 0 (List.drop 0 []))), true)
           else
            none
          else
           if (((0 : Int) ≤ 3) ∧ ((3 : Int) < (((List.length r0) : Nat) : Int))) then
            bif (!((ByteArray.toList (List.getD r0 (0 + (Int.toNat 3)) ⟨Array.empty⟩)) == (ByteArray.toList (⟨#[]⟩ : ByteArray)))) then
             if (((0 : Int) ≤ 3) ∧ ((3 : Int) < (((List.length r0) : Nat) : Int))) then
              Option.bind (spec_l13Cut (List.getD r0 (0 + (Int.toNat 3)) ⟨Array.empty⟩) 32) fun r25 =>
               Option.bind (loopF spec_ParseAutomaton_l11 (((0 : Int), [], [], [], ()), (r1, (List.take (List.length r3) (List.drop 0 r3)), (List.take (List.length r5) (List.drop 0 r5)), (List.take 0 (List.drop 0 [])), ()), false, (List.take (List.length r25) (List.drop 0 r25)), (((List.length r25) : Nat) : Int), 0, ())) fun r26 =>
                (match r26 with
                | .inl ((d27, d28, d29, d30, _), d31, _) =>
                  some ((d27, (List.take (List.length d28) (List.drop 0 d28)), (List.take (List.length d29) (List.drop 0 d29)), (List.take (List.length d30) (List.drop 0 d30))), d31)
                | .inr ((d32, d33, d34, d35, _), (d36, d37, d38, d39, _), d40, _) =>
                  bif (!d40) then
                   some (((0 : Int), [], [], []), false)
                  else
                   Option.bind (spec_AutomatonValid (d36, (List.take (List.length d37) (List.drop 0 d37)), (List.take (List.length d38) (List.drop 0 d38)), (List.take (List.length d39) (List.drop 0 d39)))) fun r41 =>
                    bif (!r41) then
                     some (((0 : Int), [], [], []), false)
                    else
                     some ((d36, (List.take (List.length d37) (List.drop 0 d37)), (List.take (List.length d38) (List.drop 0 d38)), (List.take (List.length d39) (List.drop 0 d39))), true))
             else
              none
            else
             some (((0 : Int), [], [], []), false)
           else
            none
         else
          if (((0 : Int) ≤ 3) ∧ ((3 : Int) < (((List.length r0) : Nat) : Int))) then
           bif (!((ByteArray.toList (List.getD r0 (0 + (Int.toNat 3)) ⟨Array.empty⟩)) == (ByteArray.toList (⟨#[]⟩ : ByteArray)))) then
            if (((0 : Int) ≤ 3) ∧ ((3 : Int) < (((List.length r0) : Nat) : Int))) then
             Option.bind (spec_l13Cut (List.getD r0 (0 + (Int.toNat 3)) ⟨Array.empty⟩) 32) fun r42 =>
              Option.bind (loopF spec_ParseAutomaton_l11 (((0 : Int), [], [], [], ()), (r1, (List.take (List.length r3) (List.drop 0 r3)), (List.take (List.length r5) (List.drop 0 r5)), (List.take 0 (List.drop 0 [])), ()), false, (List.take (List.length r42) (List.drop 0 r42)), (((List.length r42) : Nat) : Int), 0, ())) fun r43 =>
               (match r43 with
               | .inl ((d44, d45, d46, d47, _), d48, _) =>
                 some ((d44, (List.take (List.length d45) (List.drop 0 d45)), (List.take (List.length d46) (List.drop 0 d46)), (List.take (List.length d47) (List.drop 0 d47))), d48)
               | .inr ((d49, d50, d51, d52, _), (d53, d54, d55, d56, _), d57, _) =>
                 bif (!d57) then
                  some (((0 : Int), [], [], []), false)
                 else
                  Option.bind (spec_AutomatonValid (d53, (List.take (List.length d54) (List.drop 0 d54)), (List.take (List.length d55) (List.drop 0 d55)), (List.take (List.length d56) (List.drop 0 d56)))) fun r58 =>
                   bif (!r58) then
                    some (((0 : Int), [], [], []), false)
                   else
                    some ((d53, (List.take (List.length d54) (List.drop 0 d54)), (List.take (List.length d55) (List.drop 0 d55)), (List.take (List.length d56) (List.drop 0 d56))), true))
            else
             none
           else
            some (((0 : Int), [], [], []), false)
          else
           none
       else
        none
     else
      none
   else
    none
def A240 : FnA := ⟨[.v .str], true, [.pair i6 (.pair sI (.pair sI sS)), .bool], fun x => spec_ParseAutomaton x.1⟩
theorem A240_ok : FnOk prog 240 A240 := fo (L := L240_1) (by kernel_rfl) func240 E240_ok (allCons (loop240_11 rfl) allNil)
def E190 : Env := ev fun g => ifEq g 240 (some A240) (none)
theorem E190_ok : FnsOk prog E190 := (oF A240_ok func240 (noFns _ _))
def spec_l3Known : Int → Option (TA) := fun a0 =>
 if (((9 : Nat) : Int) = 0) then
  none
 else
  if (((0 : Int) ≤ (Int.tmod a0 ((9 : Nat) : Int))) ∧ ((Int.tmod a0 ((9 : Nat) : Int)) < ((9 : Nat) : Int))) then
   Option.bind (spec_ParseAutomaton (List.getD [(⟨#[(49 : UInt8), (59 : UInt8), (48 : UInt8), (59 : UInt8), (48 : UInt8), (59 : UInt8), (48 : UInt8), (97 : UInt8), (48 : UInt8), (58 : UInt8), (49 : UInt8), (32 : UInt8), (48 : UInt8), (98 : UInt8), (48 : UInt8), (58 : UInt8), (48 : UInt8)]⟩ : ByteArray), (⟨#[(50 : UInt8), (59 : UInt8), (48 : UInt8), (59 : UInt8), (49 : UInt8), (59 : UInt8), (48 : UInt8), (97 : UInt8), (48 : UInt8), (58 : UInt8), (48 : UInt8), (32 : UInt8), (48 : UInt8), (97 : UInt8), (49 : UInt8), (58 : UInt8), (49 : UInt8), (32 : UInt8), (49 : UInt8), (98 : UInt8), (49 : UInt8), (58 : UInt8), (48 : UInt8)]⟩ : ByteArray), (⟨#[(50 : UInt8), (59 : UInt8), (48 : UInt8), (32 : UInt8), (49 : UInt8), (59 : UInt8), (48 : UInt8), (32 : UInt8), (49 : UInt8), (59 : UInt8), (48 : UInt8), (97 : UInt8), (48 : UInt8), (58 : UInt8), (49 : UInt8), (32 : UInt8), (48 : UInt8), (98 : UInt8), (48 : UInt8), (58 : UInt8), (48 : UInt8), (32 : UInt8), (49 : UInt8), (97 : UInt8), (49 : UInt8), (58 : UInt8), (48 : UInt8), (32 : UInt8), (49 : UInt8), (98 : UInt8), (49 : UInt8), (58 : UInt8), (49 : UInt8)]⟩ : ByteArray), (⟨#[(51 : UInt8), (59 : UInt8), (48 : UInt8), (59 : UInt8), (48 : UInt8), (32 : UInt8), (50 : UInt8), (59 : UInt8), (48 : UInt8), (97 : UInt8), (48 : UInt8), (58 : UInt8), (48 : UInt8), (32 : UInt8), (48 : UInt8), (97 : UInt8), (49 : UInt8), (58 : UInt8), (48 : UInt8), (32 : UInt8), (48 : UInt8), (98 : UInt8), (48 : UInt8), (58 : UInt8), (49 : UInt8), (32 : UInt8), (49 : UInt8), (97 : UInt8), (49 : UInt8), (58 : UInt8), (49 : UInt8), (32 : UInt8), (49 : UInt8), (98 : UInt8), (50 : UInt8), (58 : UInt8), (48 : UInt8), (32 : UInt8), (50 : UInt8), (97 : UInt8), (50 : UInt8), (58 : UInt8), (48 : UInt8), (32 : UInt8), (50 : UInt8), (98 : UInt8), (50 : UInt8), (58 : UInt8), (48 : UInt8)]⟩ : ByteArray), (⟨#[(50 : UInt8), (59 : UInt8), (48 : UInt8), (59 : UInt8), (48 : UInt8), (59 : UInt8), (48 : UInt8), (97 : UInt8), (49 : UInt8), (58 : UInt8), (49 : UInt8), (32 : UInt8), (49 : UInt8), (98 : UInt8), (48 : UInt8), (58 : UInt8), (48 : UInt8)]⟩ : ByteArray), (⟨#[(51 : UInt8), (59 : UInt8), (48 : UInt8), (59 : UInt8), (50 : UInt8), (59 : UInt8), (48 : UInt8), (97 : UInt8), (48 : UInt8), (58 : UInt8), (48 : UInt8), (32 : UInt8), (48 : UInt8), (98 : UInt8), (48 : UInt8), (58 : UInt8), (48 : UInt8), (32 : UInt8), (48 : UInt8), (98 : UInt8), (49 : UInt8), (58 : UInt8), (48 : UInt8), (32 : UInt8), (49 : UInt8), (97 : UInt8), (49 : UInt8), (58 : UInt8), (49 : UInt8), (32 : UInt8), (49 : UInt8), (98 : UInt8), (50 : UInt8), (58 : UInt8), (48 : UInt8), (32 : UInt8), (50 : UInt8), (97 : UInt8), (50 : UInt8), (58 : UInt8), (48 : UInt8), (32 : UInt8), (50 : UInt8), (98 : UInt8), (50 : UInt8), (58 : UInt8), (48 : UInt8)]⟩ : ByteArray), (⟨#[(49 : UInt8), (59 : UInt8), (48 : UInt8), (59 : UInt8), (48 : UInt8), (59 : UInt8), (48 : UInt8), (97 : UInt8), (48 : UInt8), (58 : UInt8), (48 : UInt8)]⟩ : ByteArray), (⟨#[(50 : UInt8), (59 : UInt8), (48 : UInt8), (59 : UInt8), (48 : UInt8), (32 : UInt8), (49 : UInt8), (59 : UInt8), (48 : UInt8), (97 : UInt8), (48 : UInt8), (58 : UInt8), (48 : UInt8), (32 : UInt8), (48 : UInt8), (98 : UInt8), (49 : UInt8), (58 : UInt8), (49 : UInt8), (32 : UInt8), (49 : UInt8), (97 : UInt8), (48 : UInt8), (58 : UInt8), (48 : UInt8), (32 : UInt8), (49 : UInt8), (98 : UInt8), (49 : UInt8), (58 : UInt8), (48 : UInt8)]⟩ : ByteArray), (⟨#[(50 : UInt8), (59 : UInt8), (48 : UInt8), (59 : UInt8), (49 : UInt8), (59 : UInt8), (48 : UInt8), (97 : UInt8), (49 : UInt8), (58 : UInt8), (50 : UInt8), (32 : UInt8), (49 : UInt8), (97 : UInt8), (49 : UInt8), (58 : UInt8), (48 : UInt8), (32 : UInt8), (49 : UInt8), (98 : UInt8), (48 : UInt8), (58 : UInt8), (49 : UInt8)]⟩ : ByteArray)] (0 + (Int.toNat (Int.tmod a0 ((9 : Nat) : Int)))) ⟨Array.empty⟩)) fun ((r0, r1, r2, r3), r4) =>
    some (r0, (List.take (List.length r1) (List.drop 0 r1)), (List.take (List.length r2) (List.drop 0 r2)), (List.take (List.length r3) (List.drop 0 r3)))
  else
   none
def A190 : FnA := ⟨[.v i6], true, [.pair i6 (.pair sI (.pair sI sS))], fun x => spec_l3Known x.1⟩
theorem A190_ok : FnOk prog 190 A190 := fo (L := L0) (by kernel_rfl) func190 E190_ok allNil
def E191 : Env := ⟨ty0, fun _ => none, fun g => ifEq g 115 (some A115) (none), fun _ => none, fun _ => none, fun _ => 0⟩
theorem E191_ok : FnsOk prog E191 := (oneMs A115_ok (by kernel_rfl) func115 (by kernel_rfl) (by kernel_rfl) (noFns _ _))
def sh191_3 : List Fm := .box 200000 [.val (.sl (.int .u8)), .val i6] :: D 4 (.cell (.own i6 100500 false) :: d :: d :: .cell (.val i6) :: .cell (.val i6) :: D 11 [])
def xs191_3 : List (Ex × List Fm) := [(.exit 0, [.box 200000 [.val (.sl (.int .u8)), .val i6], d, d, d, d, .cell (.own i6 100500 false), d, d, d, d, d, d, d, d, d, d, d, d, d, d, d])]
def spec_l3Some_l3 : ((LI × Int × Unit) × LI × Int × Int × Unit) → Option (((LI × Int × Unit) × LI × Int × Int × Unit) ⊕ (((LI × Int × Unit) × LI × Unit))) := fun ((v0_0, v0_1, _), v5, v8, v9, _) =>
 bif (decide (v9 < v8)) then
  Option.bind (spec_l13Rd_pick (v0_0, v0_1) 2) fun (r0, (r1, r2), _) =>
   bif (r0 == 0) then
    if (((0 + (List.length v5)) = (List.length v5)) ∧ ((((List.length v5) + (List.length (List.take 1 (List.drop 0 [v9])))) * 8) ≤ 140737488355328)) then
     some (Sum.inl ((r1, r2, ()), (List.take ((List.length v5) + (List.length (List.take 1 (List.drop 0 [v9])))) (List.drop 0 ((List.drop 0 v5) ++ (List.take 1 (List.drop 0 [v9]))))), v8, (IntKind.wrap .i64 (v9 + 1)), ()))
    else
     none
   else
    some (Sum.inl ((r1, r2, ()), (List.take (List.length v5) (List.drop 0 v5)), v8, (IntKind.wrap .i64 (v9 + 1)), ()))
 else
  some (Sum.inr ((v0_0, v0_1, ()), (List.take (List.length v5) (List.drop 0 v5)), ()))
theorem loop191_3 {L} (h : L 3 = some ⟨21, sh191_3, xs191_3, spec_l3Some_l3⟩) : LoopOk prog L (loopOf f191 3) := lo (L' := L0) (by kernel_rfl) E191_ok allNil h
def L191_1 : Nat → Option LoopD := fun n => ifEq n 3 (some ⟨21, sh191_3, xs191_3, spec_l3Some_l3⟩) (L0 n)
def spec_l3Some : (LI × Int) → Int → Option ((LI) × ((LI × Int) × Unit)) := fun (a0_0, a0_1) a1 =>
 Option.bind (loopF spec_l3Some_l3 ((a0_0, a0_1, ()), (List.take 0 (List.drop 0 [])), a1, 0, ())) fun ((r0, r1, _), r2, _) =>
  some ((List.take (List.length r2) (List.drop 0 r2)), (r0, r1), ())
def A191 : FnM := ⟨[.bx kR, .v i6], true, [.sl i6], none, fun x => spec_l3Some x.1 x.2.1⟩
theorem A191_ok : FnMOk prog 191 A191 := fm (L := L191_1) (by kernel_rfl) func191 E191_ok (allCons (loop191_3 rfl) allNil)
def E117 : Env := ⟨ty0, fun _ => none, fun g => ifEq g 115 (some A115) (none), fun _ => none, fun _ => none, fun _ => 0⟩
theorem E117_ok : FnsOk prog E117 := (oneMs A115_ok (by kernel_rfl) func115 (by kernel_rfl) (by kernel_rfl) (noFns _ _))
def spec_l13Rd_of : (LI × Int) → (List ByteArray) → Option ((ByteArray) × ((LI × Int) × Unit)) := fun (a0_0, a0_1) a1 =>
 Option.bind (spec_l13Rd_pick (a0_0, a0_1) (((List.length a1) : Nat) : Int)) fun (r0, (r1, r2), _) =>
  if (((0 : Int) ≤ r0) ∧ (r0 < (((List.length a1) : Nat) : Int))) then
   some ((List.getD a1 (Int.toNat r0) ⟨Array.empty⟩), (r1, r2), ())
  else
   none
def A117 : FnM := ⟨[.bx kR, .v (.sl .str)], true, [.str], none, fun x => spec_l13Rd_of x.1 x.2.1⟩
theorem A117_ok : FnMOk prog 117 A117 := fm (L := L0) (by kernel_rfl) func117 E117_ok allNil
def E189 : Env := ⟨ty0, fun _ => none, fun g => ifEq g 115 (some A115) (none), fun _ => none, fun _ => none, fun _ => 0⟩
theorem E189_ok : FnsOk prog E189 := (oneMs A115_ok (by kernel_rfl) func115 (by kernel_rfl) (by kernel_rfl) (noFns _ _))
def spec_l13Rd_num : (LI × Int) → LI → Option ((Int) × ((LI × Int) × Unit)) := fun (a0_0, a0_1) a1 =>
 Option.bind (spec_l13Rd_pick (a0_0, a0_1) (((List.length a1) : Nat) : Int)) fun (r0, (r1, r2), _) =>
  if (((0 : Int) ≤ r0) ∧ (r0 < (((List.length a1) : Nat) : Int))) then
   some ((List.getD a1 (Int.toNat r0) 0), (r1, r2), ())
  else
   none
def A189 : FnM := ⟨[.bx kR, .v sI], true, [.int .i64], none, fun x => spec_l13Rd_num x.1 x.2.1⟩
theorem A189_ok : FnMOk prog 189 A189 := fm (L := L0) (by kernel_rfl) func189 E189_ok allNil
def E192 : Env := ev fun g => ifEq g 125 (some A125) (none)
theorem E192_ok : FnsOk prog E192 := (oF A125_ok func125 (noFns _ _))
def sh192_2 : List Fm := .cell (.val sS) :: d :: d :: .box 100300 [.val i6, .val .str, .val i6, .val i6] :: d :: .cell (.val i6) :: D 56 []
def xs192_2 : List (Ex × List Fm) := [(.exit 0, [.cell (.val sS), d, d, .box 100300 [.val i6, .val .str, .val i6, .val i6], d, .cell (.val i6), d, d, d, d, d, d, d, d, d, d, d, d, d, d, d, d, d, d, d, d, d, d, d, d, d, d, d, d, d, d, d, d, d, d, d, d, d, d, d, d, d, d, d, d, d, d, d, d, d, d, d, d, d, d, d, d])]
def spec_l3Put_l2 : (LS × (Int × ByteArray × Int × Int × Unit) × Int × Unit) → Option ((LS × (Int × ByteArray × Int × Int × Unit) × Int × Unit) ⊕ ((LS × (Int × ByteArray × Int × Int × Unit) × Int × Unit))) := fun (v0, (v3_0, v3_1, v3_2, v3_3, _), v5, _) =>
 bif (decide (v5 < (((List.length v0) : Nat) : Int))) then
  if (((0 : Int) ≤ v5) ∧ (v5 < (((List.length v0) : Nat) : Int))) then
   Option.bind (spec_l3Before (List.getD v0 (Int.toNat v5) ((0 : Int), ⟨Array.empty⟩, 0, 0)) (v3_0, v3_1, v3_2, v3_3)) fun r0 =>
    bif r0 then
     some (Sum.inl (v0, (v3_0, v3_1, v3_2, v3_3, ()), (IntKind.wrap .i64 (v5 + 1)), ()))
    else
     some (Sum.inr (v0, (v3_0, v3_1, v3_2, v3_3, ()), v5, ()))
  else
   none
 else
  some (Sum.inr (v0, (v3_0, v3_1, v3_2, v3_3, ()), v5, ()))
theorem loop192_2 {L} (h : L 2 = some ⟨62, sh192_2, xs192_2, spec_l3Put_l2⟩) : LoopOk prog L (loopOf f192 2) := lo (L' := L0) (by kernel_rfl) E192_ok allNil h
def L192_1 : Nat → Option LoopD := fun n => ifEq n 2 (some ⟨62, sh192_2, xs192_2, spec_l3Put_l2⟩) (L0 n)
def spec_l3Put : LS → TS → Option (LS) := fun a0 (a1_0, a1_1, a1_2, a1_3) =>
 Option.bind (loopF spec_l3Put_l2 (a0, (a1_0, a1_1, a1_2, a1_3, ()), 0, ())) fun (r0, (r1, r2, r3, r4, _), r5, _) =>
  bif (decide (r5 < (((List.length r0) : Nat) : Int))) then
   if (((0 : Int) ≤ r5) ∧ (r5 < (((List.length r0) : Nat) : Int))) then
    Option.bind (spec_l3Before (r1, r2, r3, r4) (List.getD r0 (Int.toNat r5) ((0 : Int), ⟨Array.empty⟩, 0, 0))) fun r6 =>
     bif (!r6) then
      if (((0 + 0) = (List.length ([] : List Unit))) ∧ (((0 + (List.length r0)) * 40) ≤ 140737488355328)) then
       if (((0 : Int) ≤ r5) ∧ (r5 < (((0 + (List.length r0)) : Nat) : Int))) then
        if (((0 : Int) ≤ r5) ∧ (r5 < (((0 + (List.length r0)) : Nat) : Int))) then
         Option.bind (Option.some (List.set ((List.drop 0 []) ++ r0) (0 + (Int.toNat r5)) ((List.getD ((List.drop 0 []) ++ r0) (0 + (Int.toNat r5)) ((0 : Int), ⟨Array.empty⟩, 0, 0)).1, (List.getD ((List.drop 0 []) ++ r0) (0 + (Int.toNat r5)) ((0 : Int), ⟨Array.empty⟩, 0, 0)).2.1, (List.getD ((List.drop 0 []) ++ r0) (0 + (Int.toNat r5)) ((0 : Int), ⟨Array.empty⟩, 0, 0)).2.2.1, (if (r4 < (List.getD ((List.drop 0 []) ++ r0) (0 + (Int.toNat r5)) ((0 : Int), ⟨Array.empty⟩, 0, 0)).2.2.2) then r4 else (List.getD ((List.drop 0 []) ++ r0) (0 + (Int.toNat r5)) ((0 : Int), ⟨Array.empty⟩, 0, 0)).2.2.2)))) fun r7 =>
          some (List.take (0 + (List.length r0)) (List.drop 0 r7))
        else
         none
       else
        none
      else
       none
     else
      if (((0 : Int) ≤ r5) ∧ (r5 ≤ (((List.length r0) : Nat) : Int))) then
       if (((0 + 0) = (List.length ([] : List Unit))) ∧ (((0 + (List.length (List.take ((Int.toNat r5) - 0) (List.drop 0 r0)))) * 40) ≤ 140737488355328)) then
        if (((0 + (0 + (List.length (List.take ((Int.toNat r5) - 0) (List.drop 0 r0))))) = (List.length ((List.drop 0 []) ++ (List.take ((Int.toNat r5) - 0) (List.drop 0 r0))))) ∧ ((((0 + (List.length (List.take ((Int.toNat r5) - 0) (List.drop 0 r0)))) + (List.length (List.take 1 (List.drop 0 [(r1, r2, r3, r4)])))) * 40) ≤ 140737488355328)) then
         if (((0 : Int) ≤ r5) ∧ (r5 ≤ (((List.length r0) : Nat) : Int))) then
          if (((0 + ((0 + (List.length (List.take ((Int.toNat r5) - 0) (List.drop 0 r0)))) + (List.length (List.take 1 (List.drop 0 [(r1, r2, r3, r4)]))))) = (List.length ((List.drop 0 ((List.drop 0 []) ++ (List.take ((Int.toNat r5) - 0) (List.drop 0 r0)))) ++ (List.take 1 (List.drop 0 [(r1, r2, r3, r4)]))))) ∧ (((((0 + (List.length (List.take ((Int.toNat r5) - 0) (List.drop 0 r0)))) + (List.length (List.take 1 (List.drop 0 [(r1, r2, r3, r4)])))) + (List.length (List.take ((List.length r0) - (Int.toNat r5)) (List.drop (Int.toNat r5) r0)))) * 40) ≤ 140737488355328)) then
           some (List.take (((0 + (List.length (List.take ((Int.toNat r5) - 0) (List.drop 0 r0)))) + (List.length (List.take 1 (List.drop 0 [(r1, r2, r3, r4)])))) + (List.length (List.take ((List.length r0) - (Int.toNat r5)) (List.drop (Int.toNat r5) r0)))) (List.drop 0 ((List.drop 0 ((List.drop 0 ((List.drop 0 []) ++ (List.take ((Int.toNat r5) - 0) (List.drop 0 r0)))) ++ (List.take 1 (List.drop 0 [(r1, r2, r3, r4)])))) ++ (List.take ((List.length r0) - (Int.toNat r5)) (List.drop (Int.toNat r5) r0)))))
          else
           none
         else
          none
        else
         none
       else
        none
      else
       none
   else
    none
  else
   if (((0 : Int) ≤ r5) ∧ (r5 ≤ (((List.length r0) : Nat) : Int))) then
    if (((0 + 0) = (List.length ([] : List Unit))) ∧ (((0 + (List.length (List.take ((Int.toNat r5) - 0) (List.drop 0 r0)))) * 40) ≤ 140737488355328)) then
     if (((0 + (0 + (List.length (List.take ((Int.toNat r5) - 0) (List.drop 0 r0))))) = (List.length ((List.drop 0 []) ++ (List.take ((Int.toNat r5) - 0) (List.drop 0 r0))))) ∧ ((((0 + (List.length (List.take ((Int.toNat r5) - 0) (List.drop 0 r0)))) + (List.length (List.take 1 (List.drop 0 [(r1, r2, r3, r4)])))) * 40) ≤ 140737488355328)) then
      if (((0 : Int) ≤ r5) ∧ (r5 ≤ (((List.length r0) : Nat) : Int))) then
       if (((0 + ((0 + (List.length (List.take ((Int.toNat r5) - 0) (List.drop 0 r0)))) + (List.length (List.take 1 (List.drop 0 [(r1, r2, r3, r4)]))))) = (List.length ((List.drop 0 ((List.drop 0 []) ++ (List.take ((Int.toNat r5) - 0) (List.drop 0 r0)))) ++ (List.take 1 (List.drop 0 [(r1, r2, r3, r4)]))))) ∧ (((((0 + (List.length (List.take ((Int.toNat r5) - 0) (List.drop 0 r0)))) + (List.length (List.take 1 (List.drop 0 [(r1, r2, r3, r4)])))) + (List.length (List.take ((List.length r0) - (Int.toNat r5)) (List.drop (Int.toNat r5) r0)))) * 40) ≤ 140737488355328)) then
        some (List.take (((0 + (List.length (List.take ((Int.toNat r5) - 0) (List.drop 0 r0)))) + (List.length (List.take 1 (List.drop 0 [(r1, r2, r3, r4)])))) + (List.length (List.take ((List.length r0) - (Int.toNat r5)) (List.drop (Int.toNat r5) r0)))) (List.drop 0 ((List.drop 0 ((List.drop 0 ((List.drop 0 []) ++ (List.take ((Int.toNat r5) - 0) (List.drop 0 r0)))) ++ (List.take 1 (List.drop 0 [(r1, r2, r3, r4)])))) ++ (List.take ((List.length r0) - (Int.toNat r5)) (List.drop (Int.toNat r5) r0)))))
       else
        none
      else
       none
     else
      none
    else
     none
   else
    none
def A192 : FnA := ⟨[.v sS, .v kS], true, [.sl kS], fun x => spec_l3Put x.1 x.2.1⟩
theorem A192_ok : FnOk prog 192 A192 := fo (L := L192_1) (by kernel_rfl) func192 E192_ok (allCons (loop192_2 rfl) allNil)
def E114 : Env := ⟨ty0, fun g => ifEq g 190 (some A190) (ifEq g 192 (some A192) (none)), fun g => ifEq g 115 (some A115) (ifEq g 191 (some A191) (ifEq g 117 (some A117) (ifEq g 189 (some A189) (none)))), fun _ => none, fun _ => none, fun _ => 0⟩
theorem E114_ok : FnsOk prog E114 := (oF A190_ok func190 (oF A192_ok func192 (oneMs A115_ok (by kernel_rfl) func115 (by kernel_rfl) (by kernel_rfl) (oneMs A191_ok (by kernel_rfl) func191 (by kernel_rfl) (by kernel_rfl) (oneMs A117_ok (by kernel_rfl) func117 (by kernel_rfl) (by kernel_rfl) (oneMs A189_ok (by kernel_rfl) func189 (by kernel_rfl) (by kernel_rfl) (noFns _ _)))))))
def sh114_8 : List Fm := .box 200000 [.val (.sl (.int .u8)), .val i6] :: d :: d :: d :: .box 100400 [.val i6, .own i6 100402 false, .own i6 100403 false, .own kS 100404 false] :: d :: .cell (.val i6) :: .box 100700 [.val i6, .own i6 100702 false, .own i6 100703 false, .own kS 100704 false] :: D 30 (.cell (.val i6) :: .cell (.val i6) :: D 21 [])
def xs114_8 : List (Ex × List Fm) := [(.exit 0, [.box 200000 [.val (.sl (.int .u8)), .val i6], d, d, d, .box 100400 [.val i6, .own i6 100402 false, .own i6 100403 false, .own kS 100404 false], d, d, .box 100700 [.val i6, .own i6 100702 false, .own i6 100703 false, .own kS 100704 false], d, d, d, d, d, d, d, d, d, d, d, d, d, d, d, d, d, d, d, d, d, d, d, d, d, d, d, d, d, d, d, d, d, d, d, d, d, d, d, d, d, d, d, d, d, d, d, d, d, d, d, d, d])]
def spec_l3Draw_l8 : ((LI × Int × Unit) × (Int × LI × LI × LS × Unit) × Int × (Int × LI × LI × LS × Unit) × Int × Int × Unit) → Option (((LI × Int × Unit) × (Int × LI × LI × LS × Unit) × Int × (Int × LI × LI × LS × Unit) × Int × Int × Unit) ⊕ (((LI × Int × Unit) × (Int × LI × LI × LS × Unit) × (Int × LI × LI × LS × Unit) × Unit))) := fun ((v0_0, v0_1, _), (v4_0, v4_1, v4_2, v4_3, _), v6, (v7_0, v7_1, v7_2, v7_3, _), v38, v39, _) =>
 bif (decide (v39 < v38)) then
  Option.bind (spec_l13Rd_pick (v0_0, v0_1) v6) fun (r0, (r1, r2), _) =>
   Option.bind (spec_l13Rd_of (r1, r2) (List.take 2 (List.drop 0 [(⟨#[(97 : UInt8)]⟩ : ByteArray), (⟨#[(98 : UInt8)]⟩ : ByteArray)]))) fun (r3, (r4, r5), _) =>
    Option.bind (spec_l13Rd_pick (r4, r5) v6) fun (r6, (r7, r8), _) =>
     Option.bind (spec_l13Rd_num (r7, r8) (List.take 6 (List.drop 0 [(0 : Int), (1 : Int), (0 : Int), (1 : Int), (2 : Int), (0 : Int)]))) fun (r9, (r10, r11), _) =>
      Option.bind (spec_l3Put (List.take (List.length v7_3) (List.drop 0 v7_3)) (r0, r3, r6, r9)) fun r12 =>
       some (Sum.inl ((r10, r11, ()), (v4_0, (List.take (List.length v4_1) (List.drop 0 v4_1)), (List.take (List.length v4_2) (List.drop 0 v4_2)), (List.take (List.length v4_3) (List.drop 0 v4_3)), ()), v6, (v7_0, (List.take (List.length v7_1) (List.drop 0 v7_1)), (List.take (List.length v7_2) (List.drop 0 v7_2)), (List.take (List.length r12) (List.drop 0 r12)), ()), v38, (IntKind.wrap .i64 (v39 + 1)), ()))
 else
  some (Sum.inr ((v0_0, v0_1, ()), (v4_0, (List.take (List.length v4_1) (List.drop 0 v4_1)), (List.take (List.length v4_2) (List.drop 0 v4_2)), (List.take (List.length v4_3) (List.drop 0 v4_3)), ()), (v7_0, (List.take (List.length v7_1) (List.drop 0 v7_1)), (List.take (List.length v7_2) (List.drop 0 v7_2)), (List.take (List.length v7_3) (List.drop 0 v7_3)), ()), ()))
theorem loop114_8 {L} (h : L 8 = some ⟨61, sh114_8, xs114_8, spec_l3Draw_l8⟩) : LoopOk prog L (loopOf f114 8) := lo (L' := L0) (by kernel_rfl) E114_ok allNil h
def L114_1 : Nat → Option LoopD := fun n => ifEq n 8 (some ⟨61, sh114_8, xs114_8, spec_l3Draw_l8⟩) (L0 n)
def spec_l3Draw : (LI × Int) → Int → Option ((TA) × ((LI × Int) × Unit)) := fun (a0_0, a0_1) a1 =>
 Option.bind (spec_l13Rd_pick (a0_0, a0_1) 3) fun (r0, (r1, r2), _) =>
  bif (r0 == 0) then
   Option.bind (spec_l13Rd_pick (r1, r2) 9) fun (r3, (r4, r5), _) =>
    Option.bind (spec_l3Known r3) fun (r6, r7, r8, r9) =>
     bif (decide (r6 ≤ a1)) then
      some ((r6, (List.take (List.length r7) (List.drop 0 r7)), (List.take (List.length r8) (List.drop 0 r8)), (List.take (List.length r9) (List.drop 0 r9))), (r4, r5), ())
     else
      Option.bind (spec_l13Rd_pick (r4, r5) a1) fun (r10, (r11, r12), _) =>
       Option.bind (spec_l3Some (r11, r12) (IntKind.wrap .i64 ((1 : Int) + r10))) fun (r13, (r14, r15), _) =>
        Option.bind (spec_l3Some (r14, r15) (IntKind.wrap .i64 ((1 : Int) + r10))) fun (r16, (r17, r18), _) =>
         Option.bind (spec_l13Rd_pick (r17, r18) (IntKind.wrap .i64 ((IntKind.wrap .i64 ((2 : Int) * (IntKind.wrap .i64 ((1 : Int) + r10)))) + 1))) fun (r19, (r20, r21), _) =>
          Option.bind (loopF spec_l3Draw_l8 ((r20, r21, ()), ((0 : Int), [], [], [], ()), (IntKind.wrap .i64 ((1 : Int) + r10)), ((IntKind.wrap .i64 ((1 : Int) + r10)), (List.take (List.length r13) (List.drop 0 r13)), (List.take (List.length r16) (List.drop 0 r16)), (List.take 0 (List.drop 0 [])), ()), (IntKind.wrap .i64 ((1 : Int) + r19)), 0, ())) fun ((r22, r23, _), (r24, r25, r26, r27, _), (r28, r29, r30, r31, _), _) =>
           some ((r28, (List.take (List.length r29) (List.drop 0 r29)), (List.take (List.length r30) (List.drop 0 r30)), (List.take (List.length r31) (List.drop 0 r31))), (r22, r23), ())
  else
   Option.bind (spec_l13Rd_pick (r1, r2) a1) fun (r32, (r33, r34), _) =>
    Option.bind (spec_l3Some (r33, r34) (IntKind.wrap .i64 ((1 : Int) + r32))) fun (r35, (r36, r37), _) =>
     Option.bind (spec_l3Some (r36, r37) (IntKind.wrap .i64 ((1 : Int) + r32))) fun (r38, (r39, r40), _) =>
      Option.bind (spec_l13Rd_pick (r39, r40) (IntKind.wrap .i64 ((IntKind.wrap .i64 ((2 : Int) * (IntKind.wrap .i64 ((1 : Int) + r32)))) + 1))) fun (r41, (r42, r43), _) =>
       Option.bind (loopF spec_l3Draw_l8 ((r42, r43, ()), ((0 : Int), [], [], [], ()), (IntKind.wrap .i64 ((1 : Int) + r32)), ((IntKind.wrap .i64 ((1 : Int) + r32)), (List.take (List.length r35) (List.drop 0 r35)), (List.take (List.length r38) (List.drop 0 r38)), (List.take 0 (List.drop 0 [])), ()), (IntKind.wrap .i64 ((1 : Int) + r41)), 0, ())) fun ((r44, r45, _), (r46, r47, r48, r49, _), (r50, r51, r52, r53, _), _) =>
        some ((r50, (List.take (List.length r51) (List.drop 0 r51)), (List.take (List.length r52) (List.drop 0 r52)), (List.take (List.length r53) (List.drop 0 r53))), (r44, r45), ())
def A114 : FnM := ⟨[.bx kR, .v i6], true, [.pair i6 (.pair sI (.pair sI sS))], none, fun x => spec_l3Draw x.1 x.2.1⟩
theorem A114_ok : FnMOk prog 114 A114 := fm (L := L114_1) (by kernel_rfl) func114 E114_ok (allCons (loop114_8 rfl) allNil)
def E113 : Env := ⟨ty0, fun _ => none, fun g => ifEq g 115 (some A115) (ifEq g 189 (some A189) (ifEq g 117 (some A117) (none))), fun _ => none, fun _ => none, fun _ => 0⟩
theorem E113_ok : FnsOk prog E113 := (oneMs A115_ok (by kernel_rfl) func115 (by kernel_rfl) (by kernel_rfl) (oneMs A189_ok (by kernel_rfl) func189 (by kernel_rfl) (by kernel_rfl) (oneMs A117_ok (by kernel_rfl) func117 (by kernel_rfl) (by kernel_rfl) (noFns _ _))))
def spec_l3Bad : (LI × Int) → TA → Option ((TA) × ((LI × Int) × Unit)) := fun (a0_0, a0_1) (a1_0, a1_1, a1_2, a1_3) =>
 Option.bind (spec_l13Rd_pick (a0_0, a0_1) 36) fun (r0, (r1, r2), _) =>
  bif (r0 == 0) then
   Option.bind (spec_l13Rd_num (r1, r2) (List.take 5 (List.drop 0 [(0 : Int), (5 : Int), (-1 : Int), (1 : Int), (9223372036854775807 : Int)]))) fun (r3, (r4, r5), _) =>
    some ((r3, a1_1, a1_2, a1_3), (r4, r5), ())
  else
   bif (r0 == 1) then
    if (((0 + 0) = (List.length ([] : List Unit))) ∧ (((0 + (List.length a1_3)) * 40) ≤ 140737488355328)) then
     Option.bind (spec_l13Rd_pick (r1, r2) 2) fun (r6, (r7, r8), _) =>
      Option.bind (spec_l13Rd_of (r7, r8) (List.take 3 (List.drop 0 [(⟨#[(97 : UInt8)]⟩ : ByteArray), (⟨#[(99 : UInt8)]⟩ : ByteArray), (⟨#[]⟩ : ByteArray)]))) fun (r9, (r10, r11), _) =>
       Option.bind (spec_l13Rd_num (r10, r11) (List.take 3 (List.drop 0 [(0 : Int), (4 : Int), (-1 : Int)]))) fun (r12, (r13, r14), _) =>
        Option.bind (spec_l13Rd_num (r13, r14) (List.take 3 (List.drop 0 [(0 : Int), (4 : Int), (-1 : Int)]))) fun (r15, (r16, r17), _) =>
         if (((0 + (0 + (List.length a1_3))) = (List.length ((List.drop 0 []) ++ a1_3))) ∧ ((((0 + (List.length a1_3)) + (List.length (List.take 1 (List.drop 0 [(r6, r9, r12, r15)])))) * 40) ≤ 140737488355328)) then
          some ((a1_0, a1_1, a1_2, (List.take ((0 + (List.length a1_3)) + (List.length (List.take 1 (List.drop 0 [(r6, r9, r12, r15)])))) (List.drop 0 ((List.drop 0 ((List.drop 0 []) ++ a1_3)) ++ (List.take 1 (List.drop 0 [(r6, r9, r12, r15)])))))), (r16, r17), ())
         else
          none
    else
     none
   else
    bif (r0 == 2) then
     if (((0 + 0) = (List.length ([] : List Unit))) ∧ (((0 + (List.length a1_1)) * 8) ≤ 140737488355328)) then
      Option.bind (spec_l13Rd_num (r1, r2) (List.take 3 (List.drop 0 [(0 : Int), (4 : Int), (-1 : Int)]))) fun (r18, (r19, r20), _) =>
       if (((0 + (0 + (List.length a1_1))) = (List.length ((List.drop 0 []) ++ a1_1))) ∧ ((((0 + (List.length a1_1)) + (List.length (List.take 1 (List.drop 0 [r18])))) * 8) ≤ 140737488355328)) then
        some ((a1_0, (List.take ((0 + (List.length a1_1)) + (List.length (List.take 1 (List.drop 0 [r18])))) (List.drop 0 ((List.drop 0 ((List.drop 0 []) ++ a1_1)) ++ (List.take 1 (List.drop 0 [r18]))))), a1_2, a1_3), (r19, r20), ())
       else
        none
     else
      none
    else
     some ((a1_0, a1_1, a1_2, a1_3), (r1, r2), ())
def A113 : FnM := ⟨[.bx kR, .v kA], false, [.pair i6 (.pair sI (.pair sI sS))], none, fun x => spec_l3Bad x.1 x.2.1⟩
theorem A113_ok : FnMOk prog 113 A113 := fm (L := L0) (by kernel_rfl) func113 E113_ok allNil
def E43 : Env := ⟨ty0, fun _ => none, fun g => ifEq g 114 (some A114) (ifEq g 113 (some A113) (none)), fun _ => none, fun _ => none, fun _ => 0⟩
theorem E43_ok : FnsOk prog E43 := (oneMs A114_ok (by kernel_rfl) func114 (by kernel_rfl) (by kernel_rfl) (oneMs A113_ok (by kernel_rfl) func113 (by kernel_rfl) (by kernel_rfl) (noFns _ _)))
def spec_l3Any : (LI × Int) → Option ((TA) × ((LI × Int) × Unit)) := fun (a0_0, a0_1) =>
 Option.bind (spec_l3Draw (a0_0, a0_1) 3) fun ((r0, r1, r2, r3), (r4, r5), _) =>
  Option.bind (spec_l3Bad (r4, r5) (r0, (List.take (List.length r1) (List.drop 0 r1)), (List.take (List.length r2) (List.drop 0 r2)), (List.take (List.length r3) (List.drop 0 r3)))) fun ((r6, r7, r8, r9), (r10, r11), _) =>
   some ((r6, r7, r8, r9), (r10, r11), ())
def A43 : FnM := ⟨[.bx kR], false, [.pair i6 (.pair sI (.pair sI sS))], none, fun x => spec_l3Any x.1⟩
theorem A43_ok : FnMOk prog 43 A43 := fm (L := L0) (by kernel_rfl) func43 E43_ok allNil
def E116 : Env := ⟨ty0, fun _ => none, fun g => ifEq g 115 (some A115) (ifEq g 117 (some A117) (none)), fun _ => none, fun _ => none, fun _ => 0⟩
theorem E116_ok : FnsOk prog E116 := (oneMs A115_ok (by kernel_rfl) func115 (by kernel_rfl) (by kernel_rfl) (oneMs A117_ok (by kernel_rfl) func117 (by kernel_rfl) (by kernel_rfl) (noFns _ _)))
def sh116_3 : List Fm := .box 200000 [.val (.sl (.int .u8)), .val i6] :: D 4 (.cell (.val .str) :: d :: d :: d :: .cell (.val i6) :: .cell (.val i6) :: D 8 [])
def xs116_3 : List (Ex × List Fm) := [(.exit 0, [.box 200000 [.val (.sl (.int .u8)), .val i6], d, d, d, d, .cell (.val .str), d, d, d, d, d, d, d, d, d, d, d, d, d])]
def spec_l4Draw_l3 : ((LI × Int × Unit) × ByteArray × Int × Int × Unit) → Option (((LI × Int × Unit) × ByteArray × Int × Int × Unit) ⊕ (((LI × Int × Unit) × ByteArray × Unit))) := fun ((v0_0, v0_1, _), v5, v9, v10, _) =>
 bif (decide (v10 < v9)) then
  Option.bind (spec_l13Rd_of (v0_0, v0_1) (List.take 2 (List.drop 0 [(⟨#[(97 : UInt8)]⟩ : ByteArray), (⟨#[(98 : UInt8)]⟩ : ByteArray)]))) fun (r0, (r1, r2), _) =>
   if (((ByteArray.size v5) + (ByteArray.size r0)) ≤ 9223372036854775807) then
    some (Sum.inl ((r1, r2, ()), (v5 ++ r0), v9, (IntKind.wrap .i64 (v10 + 1)), ()))
   else
    none
 else
  some (Sum.inr ((v0_0, v0_1, ()), v5, ()))
theorem loop116_3 {L} (h : L 3 = some ⟨19, sh116_3, xs116_3, spec_l4Draw_l3⟩) : LoopOk prog L (loopOf f116 3) := lo (L' := L0) (by kernel_rfl) E116_ok allNil h
def L116_1 : Nat → Option LoopD := fun n => ifEq n 3 (some ⟨19, sh116_3, xs116_3, spec_l4Draw_l3⟩) (L0 n)
def spec_l4Draw : (LI × Int) → Int → Option ((ByteArray) × ((LI × Int) × Unit)) := fun (a0_0, a0_1) a1 =>
 Option.bind (spec_l13Rd_pick (a0_0, a0_1) (IntKind.wrap .i64 (a1 + 1))) fun (r0, (r1, r2), _) =>
  Option.bind (loopF spec_l4Draw_l3 ((r1, r2, ()), (⟨#[]⟩ : ByteArray), r0, 0, ())) fun ((r3, r4, _), r5, _) =>
   some (r5, (r3, r4), ())
def A116 : FnM := ⟨[.bx kR, .v i6], true, [.str], none, fun x => spec_l4Draw x.1 x.2.1⟩
theorem A116_ok : FnMOk prog 116 A116 := fm (L := L116_1) (by kernel_rfl) func116 E116_ok (allCons (loop116_3 rfl) allNil)
def E44 : Env := ⟨ty0, fun _ => none, fun g => ifEq g 115 (some A115) (ifEq g 116 (some A116) (ifEq g 117 (some A117) (none))), fun _ => none, fun _ => none, fun _ => 0⟩
theorem E44_ok : FnsOk prog E44 := (oneMs A115_ok (by kernel_rfl) func115 (by kernel_rfl) (by kernel_rfl) (oneMs A116_ok (by kernel_rfl) func116 (by kernel_rfl) (by kernel_rfl) (oneMs A117_ok (by kernel_rfl) func117 (by kernel_rfl) (by kernel_rfl) (noFns _ _))))
def spec_l4Word : (LI × Int) → Option ((ByteArray) × ((LI × Int) × Unit)) := fun (a0_0, a0_1) =>
 Option.bind (spec_l13Rd_pick (a0_0, a0_1) 24) fun (r0, (r1, r2), _) =>
  bif (r0 == 0) then
   Option.bind (spec_l4Draw (r1, r2) 4) fun (r3, (r4, r5), _) =>
    Option.bind (spec_l13Rd_of (r4, r5) (List.take 3 (List.drop 0 [(⟨#[(99 : UInt8)]⟩ : ByteArray), (⟨#[(32 : UInt8)]⟩ : ByteArray), (⟨#[(65 : UInt8)]⟩ : ByteArray)]))) fun (r6, (r7, r8), _) =>
     if (((ByteArray.size r3) + (ByteArray.size r6)) ≤ 9223372036854775807) then
      some ((r3 ++ r6), (r7, r8), ())
     else
      none
  else
   Option.bind (spec_l4Draw (r1, r2) 9) fun (r9, (r10, r11), _) =>
    some (r9, (r10, r11), ())
def A44 : FnM := ⟨[.bx kR], true, [.str], none, fun x => spec_l4Word x.1⟩
theorem A44_ok : FnMOk prog 44 A44 := fm (L := L0) (by kernel_rfl) func44 E44_ok allNil
def E18 : Env := ⟨ty0, fun _ => none, fun g => ifEq g 43 (some A43) (ifEq g 44 (some A44) (none)), fun _ => none, fun _ => none, fun _ => 0⟩
theorem E18_ok : FnsOk prog E18 := (oneMs A43_ok (by kernel_rfl) func43 (by kernel_rfl) (by kernel_rfl) (oneMs A44_ok (by kernel_rfl) func44 (by kernel_rfl) (by kernel_rfl) (noFns _ _)))
def spec_l4Some : (LI × Int) → Option ((TA × ByteArray) × ((LI × Int) × Unit)) := fun (a0_0, a0_1) =>
 Option.bind (spec_l3Any (a0_0, a0_1)) fun ((r0, r1, r2, r3), (r4, r5), _) =>
  Option.bind (spec_l4Word (r4, r5)) fun (r6, (r7, r8), _) =>
   some (((r0, r1, r2, r3), r6), (r7, r8), ())
def A18 : FnM := ⟨[.bx kR], false, [.pair i6 (.pair sI (.pair sI sS)), .str], none, fun x => spec_l4Some x.1⟩
theorem A18_ok : FnMOk prog 18 A18 := fm (L := L0) (by kernel_rfl) func18 E18_ok allNil
def E4 : Env := ⟨ty0, fun _ => none, fun g => ifEq g 18 (some A18) (none), fun g => ifEq g 19 (some A19) (none), fun _ => none, fun _ => 0⟩
theorem E4_ok : FnsOk prog E4 := (oneBs A19_ok func19 (by kernel_rfl) (by kernel_rfl) (oneMs A18_ok (by kernel_rfl) func18 (by kernel_rfl) (by kernel_rfl) (noFns _ _)))
def spec_DrawRunOf : LI → Option (TA × ByteArray) := fun a0 =>
 Option.bind (spec_l13Open a0) fun (r0, r1) =>
  Option.bind (spec_l4Some (r0, r1)) fun (((r2, r3, r4, r5), r6), (r7, r8), _) =>
   some ((r2, r3, r4, r5), r6)
def A4 : FnA := ⟨[.v (.sl (.int .u8))], false, [.pair i6 (.pair sI (.pair sI sS)), .str], fun x => spec_DrawRunOf x.1⟩
theorem A4_ok : FnOk prog 4 A4 := fo (L := L0) (by kernel_rfl) func4 E4_ok allNil
def sh45_2 : List Fm := .cell (.val sI) :: .cell (.val i6) :: D 5 (.cell (.val sI) :: .cell (.val i6) :: .cell (.val i6) :: D 25 [])
def xs45_2 : List (Ex × List Fm) := [(.ret, (D 4 (.cell (.val .bool) :: D 30 []))), (.exit 0, (D 35 []))]
def impl_statesOk_l2 : (LI × Int × LI × Int × Int × Unit) → Option ((LI × Int × LI × Int × Int × Unit) ⊕ ((Bool × Unit) ⊕ (Unit))) := fun (v0, v1, v7, v8, v9, _) =>
 bif (decide (v9 < v8)) then
  if (((0 : Int) ≤ v9) ∧ (v9 < (((List.length v7) : Nat) : Int))) then
   bif (decide ((List.getD v7 (Int.toNat v9) 0) < 0)) then
    some (Sum.inr (Sum.inl (false, ())))
   else
    bif (decide ((List.getD v7 (Int.toNat v9) 0) ≥ v1)) then
     some (Sum.inr (Sum.inl (false, ())))
    else
     bif (decide (v9 > 0)) then
      if (((0 : Int) ≤ (IntKind.wrap .i64 (v9 - 1))) ∧ ((IntKind.wrap .i64 (v9 - 1)) < (((List.length v0) : Nat) : Int))) then
       bif (decide ((List.getD v0 (Int.toNat (IntKind.wrap .i64 (v9 - 1))) 0) ≥ (List.getD v7 (Int.toNat v9) 0))) then
        some (Sum.inr (Sum.inl (false, ())))
       else
        some (Sum.inl (v0, v1, v7, v8, (IntKind.wrap .i64 (v9 + 1)), ()))
      else
       none
     else
      some (Sum.inl (v0, v1, v7, v8, (IntKind.wrap .i64 (v9 + 1)), ()))
  else
   none
 else
  some (Sum.inr (Sum.inr ()))
theorem loop45_2 {L} (h : L 2 = some ⟨35, sh45_2, xs45_2, impl_statesOk_l2⟩) : LoopOk prog L (loopOf f45 2) := lo (L' := L0) (by kernel_rfl) E0_ok allNil h
def L45_1 : Nat → Option LoopD := fun n => ifEq n 2 (some ⟨35, sh45_2, xs45_2, impl_statesOk_l2⟩) (L0 n)
def impl_statesOk : LI → Int → Option (Bool) := fun a0 a1 =>
 Option.bind (loopF impl_statesOk_l2 (a0, a1, a0, (((List.length a0) : Nat) : Int), 0, ())) fun r0 =>
  (match r0 with
  | .inl (d1, _) =>
    some d1
  | .inr _ =>
    some true)
def A45 : FnA := ⟨[.v sI, .v i6], true, [.bool], fun x => impl_statesOk x.1 x.2.1⟩
theorem A45_ok : FnOk prog 45 A45 := fo (L := L45_1) (by kernel_rfl) func45 E0_ok (allCons (loop45_2 rfl) allNil)
def E20 : Env := ev fun g => ifEq g 45 (some A45) (ifEq g 46 (some A46) (none))
theorem E20_ok : FnsOk prog E20 := (oF A45_ok func45 (oF A46_ok func46 (noFns _ _)))
def sh20_4 : List Fm := d :: .box 100100 [.val i6, .val sI, .val sI, .val sS] :: D 34 (.cell (.val sS) :: .cell (.val i6) :: .cell (.val i6) :: D 62 [])
def xs20_4 : List (Ex × List Fm) := [(.ret, (d :: d :: .cell (.val .bool) :: D 98 [])), (.exit 0, (D 101 []))]
def impl_AutomatonValid_l4 : ((Int × LI × LI × LS × Unit) × LS × Int × Int × Unit) → Option (((Int × LI × LI × LS × Unit) × LS × Int × Int × Unit) ⊕ ((Bool × Unit) ⊕ (Unit))) := fun ((v1_0, v1_1, v1_2, v1_3, _), v36, v37, v38, _) =>
 bif (decide (v38 < v37)) then
  if (((0 : Int) ≤ v38) ∧ (v38 < (((List.length v36) : Nat) : Int))) then
   bif (decide ((List.getD v36 (Int.toNat v38) ((0 : Int), ⟨Array.empty⟩, 0, 0)).1 < 0)) then
    some (Sum.inr (Sum.inl (false, ())))
   else
    bif (decide ((List.getD v36 (Int.toNat v38) ((0 : Int), ⟨Array.empty⟩, 0, 0)).1 ≥ v1_0)) then
     some (Sum.inr (Sum.inl (false, ())))
    else
     bif (decide ((List.getD v36 (Int.toNat v38) ((0 : Int), ⟨Array.empty⟩, 0, 0)).2.2.1 < 0)) then
      some (Sum.inr (Sum.inl (false, ())))
     else
      bif (decide ((List.getD v36 (Int.toNat v38) ((0 : Int), ⟨Array.empty⟩, 0, 0)).2.2.1 ≥ v1_0)) then
       some (Sum.inr (Sum.inl (false, ())))
      else
       bif (!((ByteArray.toList (List.getD v36 (Int.toNat v38) ((0 : Int), ⟨Array.empty⟩, 0, 0)).2.1) == (ByteArray.toList (⟨#[(97 : UInt8)]⟩ : ByteArray)))) then
        bif (!((ByteArray.toList (List.getD v36 (Int.toNat v38) ((0 : Int), ⟨Array.empty⟩, 0, 0)).2.1) == (ByteArray.toList (⟨#[(98 : UInt8)]⟩ : ByteArray)))) then
         some (Sum.inr (Sum.inl (false, ())))
        else
         bif (decide ((List.getD v36 (Int.toNat v38) ((0 : Int), ⟨Array.empty⟩, 0, 0)).2.2.2 < 0)) then
          some (Sum.inr (Sum.inl (false, ())))
         else
          bif (decide ((List.getD v36 (Int.toNat v38) ((0 : Int), ⟨Array.empty⟩, 0, 0)).2.2.2 > 3)) then
           some (Sum.inr (Sum.inl (false, ())))
          else
           bif (decide (v38 > 0)) then
            if (((0 : Int) ≤ (IntKind.wrap .i64 (v38 - 1))) ∧ ((IntKind.wrap .i64 (v38 - 1)) < (((List.length v1_3) : Nat) : Int))) then
             Option.bind (impl_stepOrder (List.getD v1_3 (Int.toNat (IntKind.wrap .i64 (v38 - 1))) ((0 : Int), ⟨Array.empty⟩, 0, 0)) ((List.getD v36 (Int.toNat v38) ((0 : Int), ⟨Array.empty⟩, 0, 0)).1, (List.getD v36 (Int.toNat v38) ((0 : Int), ⟨Array.empty⟩, 0, 0)).2.1, (List.getD v36 (Int.toNat v38) ((0 : Int), ⟨Array.empty⟩, 0, 0)).2.2.1, (List.getD v36 (Int.toNat v38) ((0 : Int), ⟨Array.empty⟩, 0, 0)).2.2.2)) fun r0 =>
              bif (decide (r0 ≥ 0)) then
               some (Sum.inr (Sum.inl (false, ())))
              else
               some (Sum.inl ((v1_0, v1_1, v1_2, v1_3, ()), v36, v37, (IntKind.wrap .i64 (v38 + 1)), ()))
            else
             none
           else
            some (Sum.inl ((v1_0, v1_1, v1_2, v1_3, ()), v36, v37, (IntKind.wrap .i64 (v38 + 1)), ()))
       else
        bif (decide ((List.getD v36 (Int.toNat v38) ((0 : Int), ⟨Array.empty⟩, 0, 0)).2.2.2 < 0)) then
         some (Sum.inr (Sum.inl (false, ())))
        else
         bif (decide ((List.getD v36 (Int.toNat v38) ((0 : Int), ⟨Array.empty⟩, 0, 0)).2.2.2 > 3)) then
          some (Sum.inr (Sum.inl (false, ())))
         else
          bif (decide (v38 > 0)) then
           if (((0 : Int) ≤ (IntKind.wrap .i64 (v38 - 1))) ∧ ((IntKind.wrap .i64 (v38 - 1)) < (((List.length v1_3) : Nat) : Int))) then
            Option.bind (impl_stepOrder (List.getD v1_3 (Int.toNat (IntKind.wrap .i64 (v38 - 1))) ((0 : Int), ⟨Array.empty⟩, 0, 0)) ((List.getD v36 (Int.toNat v38) ((0 : Int), ⟨Array.empty⟩, 0, 0)).1, (List.getD v36 (Int.toNat v38) ((0 : Int), ⟨Array.empty⟩, 0, 0)).2.1, (List.getD v36 (Int.toNat v38) ((0 : Int), ⟨Array.empty⟩, 0, 0)).2.2.1, (List.getD v36 (Int.toNat v38) ((0 : Int), ⟨Array.empty⟩, 0, 0)).2.2.2)) fun r1 =>
             bif (decide (r1 ≥ 0)) then
              some (Sum.inr (Sum.inl (false, ())))
             else
              some (Sum.inl ((v1_0, v1_1, v1_2, v1_3, ()), v36, v37, (IntKind.wrap .i64 (v38 + 1)), ()))
           else
            none
          else
           some (Sum.inl ((v1_0, v1_1, v1_2, v1_3, ()), v36, v37, (IntKind.wrap .i64 (v38 + 1)), ()))
  else
   none
 else
  some (Sum.inr (Sum.inr ()))
theorem loop20_4 {L} (h : L 4 = some ⟨101, sh20_4, xs20_4, impl_AutomatonValid_l4⟩) : LoopOk prog L (loopOf f20 4) := lo (L' := L0) (by kernel_rfl) E20_ok allNil h
def L20_1 : Nat → Option LoopD := fun n => ifEq n 4 (some ⟨101, sh20_4, xs20_4, impl_AutomatonValid_l4⟩) (L0 n)
def impl_AutomatonValid : TA → Option (Bool) := fun (a0_0, a0_1, a0_2, a0_3) =>
 bif (decide (a0_0 < 1)) then
  some false
 else
  bif (decide (a0_0 > 4)) then
   some false
  else
   bif (decide ((((List.length a0_3) : Nat) : Int) > 24)) then
    some false
   else
    Option.bind (impl_statesOk a0_1 a0_0) fun r0 =>
     bif (!r0) then
      some false
     else
      Option.bind (impl_statesOk a0_2 a0_0) fun r1 =>
       bif (!r1) then
        some false
       else
        Option.bind (loopF impl_AutomatonValid_l4 ((a0_0, a0_1, a0_2, a0_3, ()), a0_3, (((List.length a0_3) : Nat) : Int), 0, ())) fun r2 =>
         (match r2 with
         | .inl (d3, _) =>
           some d3
         | .inr _ =>
           some true)
def A20 : FnA := ⟨[.v kA], true, [.bool], fun x => impl_AutomatonValid x.1⟩
theorem A20_ok : FnOk prog 20 A20 := fo (L := L20_1) (by kernel_rfl) func20 E20_ok (allCons (loop20_4 rfl) allNil)
def sh21_2 : List Fm := .cell (.val .str) :: D 4 (.cell (.val i6) :: .cell (.val i6) :: D 16 [])
def xs21_2 : List (Ex × List Fm) := [(.ret, (d :: d :: .cell (.val .bool) :: D 20 [])), (.exit 0, (.cell (.val .str) :: D 22 []))]
def impl_WordValid_l2 : (ByteArray × Int × Int × Unit) → Option ((ByteArray × Int × Int × Unit) ⊕ ((Bool × Unit) ⊕ (ByteArray × Unit))) := fun (v0, v5, v6, _) =>
 bif (decide (v6 < v5)) then
  if (((0 : Int) ≤ v6) ∧ (v6 < (((ByteArray.size v0) : Nat) : Int))) then
   bif ((((UInt8.toNat (Array.getD (ByteArray.data v0) (Int.toNat v6) (0 : UInt8))) : Nat) : Int) != 97) then
    if (((0 : Int) ≤ v6) ∧ (v6 < (((ByteArray.size v0) : Nat) : Int))) then
     bif ((((UInt8.toNat (Array.getD (ByteArray.data v0) (Int.toNat v6) (0 : UInt8))) : Nat) : Int) != 98) then
      some (Sum.inr (Sum.inl (false, ())))
     else
      some (Sum.inl (v0, v5, (IntKind.wrap .i64 (v6 + 1)), ()))
    else
     none
   else
    some (Sum.inl (v0, v5, (IntKind.wrap .i64 (v6 + 1)), ()))
  else
   none
 else
  some (Sum.inr (Sum.inr (v0, ())))
theorem loop21_2 {L} (h : L 2 = some ⟨23, sh21_2, xs21_2, impl_WordValid_l2⟩) : LoopOk prog L (loopOf f21 2) := lo (L' := L0) (by kernel_rfl) E0_ok allNil h
def L21_1 : Nat → Option LoopD := fun n => ifEq n 2 (some ⟨23, sh21_2, xs21_2, impl_WordValid_l2⟩) (L0 n)
def impl_WordValid : ByteArray → Option (Bool) := fun a0 =>
 Option.bind (loopF impl_WordValid_l2 (a0, (((ByteArray.size a0) : Nat) : Int), 0, ())) fun r0 =>
  (match r0 with
  | .inl (d1, _) =>
    some d1
  | .inr (d2, _) =>
    some (decide ((((ByteArray.size d2) : Nat) : Int) ≤ 1000)))
def A21 : FnA := ⟨[.v .str], true, [.bool], fun x => impl_WordValid x.1⟩
theorem A21_ok : FnOk prog 21 A21 := fo (L := L21_1) (by kernel_rfl) func21 E0_ok (allCons (loop21_2 rfl) allNil)
def bits_Mul64 : Int → Int → Option (Int × Int) := fun a0 a1 =>
 if ((32 : Int) < 0) then
  none
 else
  if ((32 : Int) < 0) then
   none
  else
   if ((32 : Int) < 0) then
    none
   else
    if ((32 : Int) < 0) then
     none
    else
     if ((32 : Int) < 0) then
      none
     else
      some ((IntKind.wrap .u64 ((IntKind.wrap .u64 ((IntKind.wrap .u64 ((Int.fdiv a0 ((2 : Int) ^ (Min.min (Int.toNat 32) (IntKind.bits .u64)))) * (Int.fdiv a1 ((2 : Int) ^ (Min.min (Int.toNat 32) (IntKind.bits .u64)))))) + (Int.fdiv (IntKind.wrap .u64 ((IntKind.wrap .u64 ((Int.fdiv a0 ((2 : Int) ^ (Min.min (Int.toNat 32) (IntKind.bits .u64)))) * ((((BitVec.toNat ((BitVec.ofInt (IntKind.bits .u64) a1) &&& (BitVec.ofInt (IntKind.bits .u64) 4294967295))) % (Int.natAbs ((2 : Int) ^ (IntKind.bits .u64)))) : Nat) : Int))) + (Int.fdiv (IntKind.wrap .u64 (((((BitVec.toNat ((BitVec.ofInt (IntKind.bits .u64) a0) &&& (BitVec.ofInt (IntKind.bits .u64) 4294967295))) % (Int.natAbs ((2 : Int) ^ (IntKind.bits .u64)))) : Nat) : Int) * ((((BitVec.toNat ((BitVec.ofInt (IntKind.bits .u64) a1) &&& (BitVec.ofInt (IntKind.bits .u64) 4294967295))) % (Int.natAbs ((2 : Int) ^ (IntKind.bits .u64)))) : Nat) : Int))) ((2 : Int) ^ (Min.min (Int.toNat 32) (IntKind.bits .u64)))))) ((2 : Int) ^ (Min.min (Int.toNat 32) (IntKind.bits .u64)))))) + (Int.fdiv (IntKind.wrap .u64 (((((BitVec.toNat ((BitVec.ofInt (IntKind.bits .u64) (IntKind.wrap .u64 ((IntKind.wrap .u64 ((Int.fdiv a0 ((2 : Int) ^ (Min.min (Int.toNat 32) (IntKind.bits .u64)))) * ((((BitVec.toNat ((BitVec.ofInt (IntKind.bits .u64) a1) &&& (BitVec.ofInt (IntKind.bits .u64) 4294967295))) % (Int.natAbs ((2 : Int) ^ (IntKind.bits .u64)))) : Nat) : Int))) + (Int.fdiv (IntKind.wrap .u64 (((((BitVec.toNat ((BitVec.ofInt (IntKind.bits .u64) a0) &&& (BitVec.ofInt (IntKind.bits .u64) 4294967295))) % (Int.natAbs ((2 : Int) ^ (IntKind.bits .u64)))) : Nat) : Int) * ((((BitVec.toNat ((BitVec.ofInt (IntKind.bits .u64) a1) &&& (BitVec.ofInt (IntKind.bits .u64) 4294967295))) % (Int.natAbs ((2 : Int) ^ (IntKind.bits .u64)))) : Nat) : Int))) ((2 : Int) ^ (Min.min (Int.toNat 32) (IntKind.bits .u64))))))) &&& (BitVec.ofInt (IntKind.bits .u64) 4294967295))) % (Int.natAbs ((2 : Int) ^ (IntKind.bits .u64)))) : Nat) : Int) + (IntKind.wrap .u64 (((((BitVec.toNat ((BitVec.ofInt (IntKind.bits .u64) a0) &&& (BitVec.ofInt (IntKind.bits .u64) 4294967295))) % (Int.natAbs ((2 : Int) ^ (IntKind.bits .u64)))) : Nat) : Int) * (Int.fdiv a1 ((2 : Int) ^ (Min.min (Int.toNat 32) (IntKind.bits .u64)))))))) ((2 : Int) ^ (Min.min (Int.toNat 32) (IntKind.bits .u64)))))), (IntKind.wrap .u64 (a0 * a1)))
def A196 : FnA := ⟨[.v (.int .u64), .v (.int .u64)], true, [.int .u64, .int .u64], fun x => bits_Mul64 x.1 x.2.1⟩
theorem A196_ok : FnOk prog 196 A196 := fo (L := L0) (by kernel_rfl) func196 E0_ok allNil
def E121 : Env := ev fun g => ifEq g 196 (some A196) (none)
theorem E121_ok : FnsOk prog E121 := (oF A196_ok func196 (noFns _ _))
def bits_Mul : Int → Int → Option (Int × Int) := fun a0 a1 =>
 Option.bind (bits_Mul64 a0 a1) fun (r0, r1) =>
  some (r0, r1)
def A121 : FnA := ⟨[.v (.int .u64), .v (.int .u64)], true, [.int .u64, .int .u64], fun x => bits_Mul x.1 x.2.1⟩
theorem A121_ok : FnOk prog 121 A121 := fo (L := L0) (by kernel_rfl) func121 E121_ok allNil
def E47 : Env := ev fun g => ifEq g 121 (some A121) (none)
theorem E47_ok : FnsOk prog E47 := (oF A121_ok func121 (noFns _ _))
def sh47_8 : List Fm := D 7 (.cell (.own i6 100700 false) :: .cell (.val i6) :: D 39 [])
def xs47_8 : List (Ex × List Fm) := [(.exit 0, (D 7 (.cell (.own i6 100700 false) :: D 40 [])))]
def slices_Repeat_l8 : (LI × Int × Unit) → Option ((LI × Int × Unit) ⊕ ((LI × Unit))) := fun (v7, v8, _) =>
 bif (decide (v8 < (((List.length v7) : Nat) : Int))) then
  if (((0 : Int) ≤ v8) ∧ (v8 ≤ (((List.length v7) : Nat) : Int))) then
   if (((0 : Int) ≤ v8) ∧ (v8 ≤ (((List.length v7) : Nat) : Int))) then
    some (Sum.inl ((List.take (List.length v7) (List.drop 0 ((List.take (0 + (Int.toNat v8)) v7) ++ ((List.take ((List.length v7) - (Int.toNat v8)) (List.take ((Int.toNat v8) - 0) (List.drop (0 + 0) v7))) ++ (List.drop ((0 + (Int.toNat v8)) + (List.length (List.take ((List.length v7) - (Int.toNat v8)) (List.take ((Int.toNat v8) - 0) (List.drop (0 + 0) v7))))) v7))))), (IntKind.wrap .i64 (v8 + (((List.length (List.take ((List.length v7) - (Int.toNat v8)) (List.take ((Int.toNat v8) - 0) (List.drop (0 + 0) v7)))) : Nat) : Int))), ()))
   else
    none
  else
   none
 else
  some (Sum.inr ((List.take (List.length v7) (List.drop 0 v7)), ()))
theorem loop47_8 {L} (h : L 8 = some ⟨48, sh47_8, xs47_8, slices_Repeat_l8⟩) : LoopOk prog L (loopOf f47 8) := lo (L' := L0) (by kernel_rfl) E47_ok allNil h
def L47_1 : Nat → Option LoopD := fun n => ifEq n 8 (some ⟨48, sh47_8, xs47_8, slices_Repeat_l8⟩) (L0 n)
def slices_Repeat : LI → Int → Option (LI) := fun a0 a1 =>
 bif (decide (a1 < 0)) then
  none
 else
  Option.bind (bits_Mul (IntKind.wrap .u64 (((List.length a0) : Nat) : Int)) (IntKind.wrap .u64 a1)) fun (r0, r1) =>
   bif (decide (r0 > 0)) then
    none
   else
    bif (decide (r1 > 9223372036854775807)) then
     none
    else
     if (((0 : Int) ≤ (IntKind.wrap .i64 r1)) ∧ (((IntKind.wrap .i64 r1) = (IntKind.wrap .i64 r1)) ∧ (((IntKind.wrap .i64 r1) * ((8 : Nat) : Int)) ≤ 140737488355328))) then
      Option.bind (loopF slices_Repeat_l8 ((List.take (Int.toNat (IntKind.wrap .i64 r1)) (List.drop 0 ((List.take 0 (List.replicate (Int.toNat (IntKind.wrap .i64 r1)) 0)) ++ ((List.take (Int.toNat (IntKind.wrap .i64 r1)) a0) ++ (List.drop (0 + (List.length (List.take (Int.toNat (IntKind.wrap .i64 r1)) a0))) (List.replicate (Int.toNat (IntKind.wrap .i64 r1)) 0)))))), (((List.length (List.take (Int.toNat (IntKind.wrap .i64 r1)) a0)) : Nat) : Int), ())) fun (r2, _) =>
       some (List.take (List.length r2) (List.drop 0 r2))
     else
      none
def A47 : FnA := ⟨[.v sI, .v i6], true, [.sl i6], fun x => slices_Repeat x.1 x.2.1⟩
theorem A47_ok : FnOk prog 47 A47 := fo (L := L47_1) (by kernel_rfl) func47 E47_ok (allCons (loop47_8 rfl) allNil)
def E22 : Env := ev fun g => ifEq g 47 (some A47) (none)
theorem E22_ok : FnsOk prog E22 := (oF A47_ok func47 (noFns _ _))
def sh22_3 : List Fm := d :: .cell (.val .str) :: .box 100200 [.val i6, .val sI, .val sI, .val sS] :: d :: d :: .cell (.own i6 100500 false) :: D 12 (.cell (.val sI) :: .cell (.val i6) :: .cell (.val i6) :: D 60 [])
def xs22_3 : List (Ex × List Fm) := [(.exit 0, [d, .cell (.val .str), .box 100200 [.val i6, .val sI, .val sI, .val sS], d, d, .cell (.own i6 100500 false), d, d, d, d, d, d, d, d, d, d, d, d, d, d, d, d, d, d, d, d, d, d, d, d, d, d, d, d, d, d, d, d, d, d, d, d, d, d, d, d, d, d, d, d, d, d, d, d, d, d, d, d, d, d, d, d, d, d, d, d, d, d, d, d, d, d, d, d, d, d, d, d, d, d, d])]
def impl_toEnd_l3 : (ByteArray × (Int × LI × LI × LS × Unit) × LI × LI × Int × Int × Unit) → Option ((ByteArray × (Int × LI × LI × LS × Unit) × LI × LI × Int × Int × Unit) ⊕ ((ByteArray × (Int × LI × LI × LS × Unit) × LI × Unit))) := fun (v1, (v2_0, v2_1, v2_2, v2_3, _), v5, v18, v19, v20, _) =>
 bif (decide (v20 < v19)) then
  if (((0 : Int) ≤ v20) ∧ (v20 < (((List.length v18) : Nat) : Int))) then
   if (((0 : Int) ≤ (List.getD v18 (Int.toNat v20) 0)) ∧ ((List.getD v18 (Int.toNat v20) 0) < (((List.length v5) : Nat) : Int))) then
    some (Sum.inl (v1, (v2_0, v2_1, v2_2, v2_3, ()), (List.take (List.length v5) (List.drop 0 (List.set v5 (0 + (Int.toNat (List.getD v18 (Int.toNat v20) 0))) 0))), v18, v19, (IntKind.wrap .i64 (v20 + 1)), ()))
   else
    none
  else
   none
 else
  some (Sum.inr (v1, (v2_0, v2_1, v2_2, v2_3, ()), (List.take (List.length v5) (List.drop 0 v5)), ()))
theorem loop22_3 {L} (h : L 3 = some ⟨81, sh22_3, xs22_3, impl_toEnd_l3⟩) : LoopOk prog L (loopOf f22 3) := lo (L' := L0) (by kernel_rfl) E22_ok allNil h
def L22_1 : Nat → Option LoopD := fun n => ifEq n 3 (some ⟨81, sh22_3, xs22_3, impl_toEnd_l3⟩) (L0 n)
def sh22_13 : List Fm := d :: .cell (.val .str) :: .box 100200 [.val i6, .val sI, .val sI, .val sS] :: d :: d :: .cell (.val sI) :: d :: d :: .cell (.own sI 100800 false) :: .cell (.val i6) :: .cell (.own i6 101000 false) :: D 31 (.cell (.val sS) :: .cell (.val i6) :: .cell (.val i6) :: D 36 [])
def xs22_13 : List (Ex × List Fm) := [(.exit 4, [d, .cell (.val .str), .box 100200 [.val i6, .val sI, .val sI, .val sS], d, d, d, d, d, .cell (.own sI 100800 false), .cell (.val i6), .cell (.own i6 101000 false), d, d, d, d, d, d, d, d, d, d, d, d, d, d, d, d, d, d, d, d, d, d, d, d, d, d, d, d, d, d, d, d, d, d, d, d, d, d, d, d, d, d, d, d, d, d, d, d, d, d, d, d, d, d, d, d, d, d, d, d, d, d, d, d, d, d, d, d, d, d])]
def impl_toEnd_l13 : (ByteArray × (Int × LI × LI × LS × Unit) × LI × (List LI) × Int × LI × LS × Int × Int × Unit) → Option ((ByteArray × (Int × LI × LI × LS × Unit) × LI × (List LI) × Int × LI × LS × Int × Int × Unit) ⊕ ((ByteArray × (Int × LI × LI × LS × Unit) × (List LI) × Int × LI × Unit))) := fun (v1, (v2_0, v2_1, v2_2, v2_3, _), v5, v8, v9, v10, v42, v43, v44, _) =>
 bif (decide (v44 < v43)) then
  if (((0 : Int) ≤ v44) ∧ (v44 < (((List.length v42) : Nat) : Int))) then
   if (((0 : Int) ≤ v9) ∧ ((v9 ≤ (IntKind.wrap .i64 (v9 + 1))) ∧ ((IntKind.wrap .i64 (v9 + 1)) ≤ (((ByteArray.size v1) : Nat) : Int)))) then
    bif ((ByteArray.toList (List.getD v42 (Int.toNat v44) ((0 : Int), ⟨Array.empty⟩, 0, 0)).2.1) == (ByteArray.toList (ByteArray.extract v1 (Int.toNat v9) (Int.toNat (IntKind.wrap .i64 (v9 + 1)))))) then
     if (((0 : Int) ≤ (List.getD v42 (Int.toNat v44) ((0 : Int), ⟨Array.empty⟩, 0, 0)).1) ∧ ((List.getD v42 (Int.toNat v44) ((0 : Int), ⟨Array.empty⟩, 0, 0)).1 < (((List.length v10) : Nat) : Int))) then
      if (((0 : Int) ≤ (List.getD v42 (Int.toNat v44) ((0 : Int), ⟨Array.empty⟩, 0, 0)).2.2.1) ∧ ((List.getD v42 (Int.toNat v44) ((0 : Int), ⟨Array.empty⟩, 0, 0)).2.2.1 < (((List.length v5) : Nat) : Int))) then
       if (((0 : Int) ≤ (List.getD v42 (Int.toNat v44) ((0 : Int), ⟨Array.empty⟩, 0, 0)).1) ∧ ((List.getD v42 (Int.toNat v44) ((0 : Int), ⟨Array.empty⟩, 0, 0)).1 < (((List.length v10) : Nat) : Int))) then
        some (Sum.inl (v1, (v2_0, v2_1, v2_2, v2_3, ()), v5, (List.take (List.length v8) (List.drop 0 v8)), v9, (List.take (List.length v10) (List.drop 0 (List.set v10 (0 + (Int.toNat (List.getD v42 (Int.toNat v44) ((0 : Int), ⟨Array.empty⟩, 0, 0)).1)) (if ((IntKind.wrap .i64 ((List.getD v42 (Int.toNat v44) ((0 : Int), ⟨Array.empty⟩, 0, 0)).2.2.2 + (List.getD v5 (Int.toNat (List.getD v42 (Int.toNat v44) ((0 : Int), ⟨Array.empty⟩, 0, 0)).2.2.1) 0))) < (List.getD v10 (0 + (Int.toNat (List.getD v42 (Int.toNat v44) ((0 : Int), ⟨Array.empty⟩, 0, 0)).1)) 0)) then (IntKind.wrap .i64 ((List.getD v42 (Int.toNat v44) ((0 : Int), ⟨Array.empty⟩, 0, 0)).2.2.2 + (List.getD v5 (Int.toNat (List.getD v42 (Int.toNat v44) ((0 : Int), ⟨Array.empty⟩, 0, 0)).2.2.1) 0))) else (List.getD v10 (0 + (Int.toNat (List.getD v42 (Int.toNat v44) ((0 : Int), ⟨Array.empty⟩, 0, 0)).1)) 0))))), v42, v43, (IntKind.wrap .i64 (v44 + 1)), ()))
       else
        none
      else
       none
     else
      none
    else
     some (Sum.inl (v1, (v2_0, v2_1, v2_2, v2_3, ()), v5, (List.take (List.length v8) (List.drop 0 v8)), v9, (List.take (List.length v10) (List.drop 0 v10)), v42, v43, (IntKind.wrap .i64 (v44 + 1)), ()))
   else
    none
  else
   none
 else
  some (Sum.inr (v1, (v2_0, v2_1, v2_2, v2_3, ()), (List.take (List.length v8) (List.drop 0 v8)), v9, (List.take (List.length v10) (List.drop 0 v10)), ()))
theorem loop22_13 {L} (h : L 13 = some ⟨81, sh22_13, xs22_13, impl_toEnd_l13⟩) : LoopOk prog L (loopOf f22 13) := lo (L' := L22_1) (by kernel_rfl) E22_ok allNil h
def L22_2 : Nat → Option LoopD := fun n => ifEq n 13 (some ⟨81, sh22_13, xs22_13, impl_toEnd_l13⟩) (L22_1 n)
def sh22_9 : List Fm := d :: .cell (.val .str) :: .box 100200 [.val i6, .val sI, .val sI, .val sS] :: d :: d :: .cell (.val sI) :: d :: d :: .cell (.own sI 100800 false) :: .cell (.val i6) :: D 71 []
def xs22_9 : List (Ex × List Fm) := [(.exit 2, (D 8 (.cell (.own sI 100800 false) :: D 72 [])))]
def impl_toEnd_l9 : (ByteArray × (Int × LI × LI × LS × Unit) × LI × (List LI) × Int × Unit) → Option ((ByteArray × (Int × LI × LI × LS × Unit) × LI × (List LI) × Int × Unit) ⊕ (((List LI) × Unit))) := fun (v1, (v2_0, v2_1, v2_2, v2_3, _), v5, v8, v9, _) =>
 bif (decide (v9 ≥ 0)) then
  Option.bind (slices_Repeat (List.take 1 (List.drop 0 [(1000000 : Int)])) v2_0) fun r0 =>
   Option.bind (loopF impl_toEnd_l13 (v1, (v2_0, v2_1, v2_2, v2_3, ()), v5, (List.take (List.length v8) (List.drop 0 v8)), v9, (List.take (List.length r0) (List.drop 0 r0)), v2_3, (((List.length v2_3) : Nat) : Int), 0, ())) fun (r1, (r2, r3, r4, r5, _), r6, r7, r8, _) =>
    if (((0 + (List.length r6)) = (List.length r6)) ∧ ((((List.length r6) + (List.length (List.take 1 (List.drop 0 [(List.take (List.length r8) (List.drop 0 r8))])))) * 24) ≤ 140737488355328)) then
     some (Sum.inl (r1, (r2, r3, r4, r5, ()), (List.take (List.length r8) (List.drop 0 r8)), (List.take ((List.length r6) + (List.length (List.take 1 (List.drop 0 [(List.take (List.length r8) (List.drop 0 r8))])))) (List.drop 0 ((List.drop 0 r6) ++ (List.take 1 (List.drop 0 [(List.take (List.length r8) (List.drop 0 r8))]))))), (IntKind.wrap .i64 (r7 - 1)), ()))
    else
     none
 else
  some (Sum.inr ((List.take (List.length v8) (List.drop 0 v8)), ()))
theorem loop22_9 {L} (h : L 9 = some ⟨81, sh22_9, xs22_9, impl_toEnd_l9⟩) : LoopOk prog L (loopOf f22 9) := lo (L' := L22_2) (by kernel_rfl) E22_ok (allCons (loop22_13 rfl) allNil) h
def L22_3 : Nat → Option LoopD := fun n => ifEq n 9 (some ⟨81, sh22_9, xs22_9, impl_toEnd_l9⟩) (L22_2 n)
def impl_toEnd : TA → ByteArray → Option ((List LI)) := fun (a0_0, a0_1, a0_2, a0_3) a1 =>
 Option.bind (slices_Repeat (List.take 1 (List.drop 0 [(1000000 : Int)])) a0_0) fun r0 =>
  Option.bind (loopF impl_toEnd_l3 (a1, (a0_0, a0_1, a0_2, a0_3, ()), (List.take (List.length r0) (List.drop 0 r0)), a0_2, (((List.length a0_2) : Nat) : Int), 0, ())) fun (r1, (r2, r3, r4, r5, _), r6, _) =>
   Option.bind (loopF impl_toEnd_l9 (r1, (r2, r3, r4, r5, ()), (List.take (List.length r6) (List.drop 0 r6)), (List.take 1 (List.drop 0 [(List.take (List.length r6) (List.drop 0 r6))])), (IntKind.wrap .i64 ((((ByteArray.size r1) : Nat) : Int) - 1)), ())) fun (r7, _) =>
    some (List.take (List.length r7) (List.drop 0 r7))
def A22 : FnA := ⟨[.v kA, .v .str], true, [.sl sI], fun x => impl_toEnd x.1 x.2.1⟩
theorem A22_ok : FnOk prog 22 A22 := fo (L := L22_3) (by kernel_rfl) func22 E22_ok (allCons (loop22_3 rfl) (allCons (loop22_9 rfl) allNil))
def E5 : Env := ev fun g => ifEq g 20 (some A20) (ifEq g 21 (some A21) (ifEq g 22 (some A22) (none)))
theorem E5_ok : FnsOk prog E5 := (oF A20_ok func20 (oF A21_ok func21 (oF A22_ok func22 (noFns _ _))))
def sh5_6 : List Fm := d :: .cell (.val .str) :: d :: d :: d :: .cell (.own sI 100500 false) :: .cell (.val i6) :: D 14 (.cell (.val sI) :: .cell (.val i6) :: .cell (.val i6) :: D 15 [])
def xs5_6 : List (Ex × List Fm) := [(.exit 0, (D 6 (.cell (.val i6) :: D 32 [])))]
def impl_CostOf_l6 : (ByteArray × (List LI) × Int × LI × Int × Int × Unit) → Option ((ByteArray × (List LI) × Int × LI × Int × Int × Unit) ⊕ ((Int × Unit))) := fun (v1, v5, v6, v21, v22, v23, _) =>
 bif (decide (v23 < v22)) then
  if (((0 : Int) ≤ v23) ∧ (v23 < (((List.length v21) : Nat) : Int))) then
   if (((0 : Int) ≤ (((ByteArray.size v1) : Nat) : Int)) ∧ ((((ByteArray.size v1) : Nat) : Int) < (((List.length v5) : Nat) : Int))) then
    if (((0 : Int) ≤ (List.getD v21 (Int.toNat v23) 0)) ∧ ((List.getD v21 (Int.toNat v23) 0) < (((List.length (List.getD v5 (0 + (Int.toNat (((ByteArray.size v1) : Nat) : Int))) [])) : Nat) : Int))) then
     some (Sum.inl (v1, (List.take (List.length v5) (List.drop 0 v5)), (if ((List.getD (List.getD v5 (0 + (Int.toNat (((ByteArray.size v1) : Nat) : Int))) []) (Int.toNat (List.getD v21 (Int.toNat v23) 0)) 0) < v6) then (List.getD (List.getD v5 (0 + (Int.toNat (((ByteArray.size v1) : Nat) : Int))) []) (Int.toNat (List.getD v21 (Int.toNat v23) 0)) 0) else v6), v21, v22, (IntKind.wrap .i64 (v23 + 1)), ()))
    else
     none
   else
    none
  else
   none
 else
  some (Sum.inr (v6, ()))
theorem loop5_6 {L} (h : L 6 = some ⟨39, sh5_6, xs5_6, impl_CostOf_l6⟩) : LoopOk prog L (loopOf f5 6) := lo (L' := L0) (by kernel_rfl) E5_ok allNil h
def L5_1 : Nat → Option LoopD := fun n => ifEq n 6 (some ⟨39, sh5_6, xs5_6, impl_CostOf_l6⟩) (L0 n)
def impl_CostOf : TA → ByteArray → Option (Int) := fun (a0_0, a0_1, a0_2, a0_3) a1 =>
 Option.bind (impl_AutomatonValid (a0_0, a0_1, a0_2, a0_3)) fun r0 =>
  bif (!r0) then
   some (-1)
  else
   Option.bind (impl_WordValid a1) fun r1 =>
    bif (!r1) then
     some (-1)
    else
     Option.bind (impl_toEnd (a0_0, a0_1, a0_2, a0_3) a1) fun r2 =>
      Option.bind (loopF impl_CostOf_l6 (a1, (List.take (List.length r2) (List.drop 0 r2)), 1000000, a0_1, (((List.length a0_1) : Nat) : Int), 0, ())) fun (r3, _) =>
       some r3
def A5 : FnA := ⟨[.v kA, .v .str], true, [.int .i64], fun x => impl_CostOf x.1 x.2.1⟩
theorem A5_ok : FnOk prog 5 A5 := fo (L := L5_1) (by kernel_rfl) func5 E5_ok (allCons (loop5_6 rfl) allNil)
def sh49_2 : List Fm := .cell (.val .str) :: D 4 (.cell (.val i6) :: .cell (.val i6) :: D 16 [])
def xs49_2 : List (Ex × List Fm) := [(.ret, (d :: d :: .cell (.val .bool) :: D 20 [])), (.exit 0, (.cell (.val .str) :: D 22 []))]
def spec_WordValid_l2 : (ByteArray × Int × Int × Unit) → Option ((ByteArray × Int × Int × Unit) ⊕ ((Bool × Unit) ⊕ (ByteArray × Unit))) := fun (v0, v5, v6, _) =>
 bif (decide (v6 < v5)) then
  if (((0 : Int) ≤ v6) ∧ (v6 < (((ByteArray.size v0) : Nat) : Int))) then
   bif ((((UInt8.toNat (Array.getD (ByteArray.data v0) (Int.toNat v6) (0 : UInt8))) : Nat) : Int) != 97) then
    if (((0 : Int) ≤ v6) ∧ (v6 < (((ByteArray.size v0) : Nat) : Int))) then
     bif ((((UInt8.toNat (Array.getD (ByteArray.data v0) (Int.toNat v6) (0 : UInt8))) : Nat) : Int) != 98) then
      some (Sum.inr (Sum.inl (false, ())))
     else
      some (Sum.inl (v0, v5, (IntKind.wrap .i64 (v6 + 1)), ()))
    else
     none
   else
    some (Sum.inl (v0, v5, (IntKind.wrap .i64 (v6 + 1)), ()))
  else
   none
 else
  some (Sum.inr (Sum.inr (v0, ())))
theorem loop49_2 {L} (h : L 2 = some ⟨23, sh49_2, xs49_2, spec_WordValid_l2⟩) : LoopOk prog L (loopOf f49 2) := lo (L' := L0) (by kernel_rfl) E0_ok allNil h
def L49_1 : Nat → Option LoopD := fun n => ifEq n 2 (some ⟨23, sh49_2, xs49_2, spec_WordValid_l2⟩) (L0 n)
def spec_WordValid : ByteArray → Option (Bool) := fun a0 =>
 Option.bind (loopF spec_WordValid_l2 (a0, (((ByteArray.size a0) : Nat) : Int), 0, ())) fun r0 =>
  (match r0 with
  | .inl (d1, _) =>
    some d1
  | .inr (d2, _) =>
    some (decide ((((ByteArray.size d2) : Nat) : Int) ≤ 1000)))
def A49 : FnA := ⟨[.v .str], true, [.bool], fun x => spec_WordValid x.1⟩
theorem A49_ok : FnOk prog 49 A49 := fo (L := L49_1) (by kernel_rfl) func49 E0_ok (allCons (loop49_2 rfl) allNil)
def E23 : Env := ev fun g => ifEq g 48 (some A48) (ifEq g 49 (some A49) (none))
theorem E23_ok : FnsOk prog E23 := (oF A48_ok func48 (oF A49_ok func49 (noFns _ _)))
def spec_l4Asked : TA → ByteArray → Option (Bool) := fun (a0_0, a0_1, a0_2, a0_3) a1 =>
 Option.bind (spec_AutomatonValid (a0_0, a0_1, a0_2, a0_3)) fun r0 =>
  bif r0 then
   Option.bind (spec_WordValid a1) fun r1 =>
    some r1
  else
   some false
def A23 : FnA := ⟨[.v kA, .v .str], true, [.bool], fun x => spec_l4Asked x.1 x.2.1⟩
theorem A23_ok : FnOk prog 23 A23 := fo (L := L0) (by kernel_rfl) func23 E23_ok allNil
def sh126_3 : List Fm := .cell (.val i6) :: d :: .box 100200 [.val i6, .own i6 100202 false] :: .box 100300 [.val i6, .own i6 100302 false] :: D 5 (.cell (.val i6) :: .cell (.val i6) :: D 21 [])
def xs126_3 : List (Ex × List Fm) := [(.exit 0, [d, d, .box 100200 [.val i6, .own i6 100202 false], .box 100300 [.val i6, .own i6 100302 false], d, d, d, d, d, d, d, d, d, d, d, d, d, d, d, d, d, d, d, d, d, d, d, d, d, d, d, d])]
def spec_l2Unit_l3 : (Int × (Int × LI × Unit) × (Int × LI × Unit) × Int × Int × Unit) → Option ((Int × (Int × LI × Unit) × (Int × LI × Unit) × Int × Int × Unit) ⊕ (((Int × LI × Unit) × (Int × LI × Unit) × Unit))) := fun (v0, (v2_0, v2_1, _), (v3_0, v3_1, _), v9, v10, _) =>
 bif (decide (v10 < v9)) then
  if (v0 = 0) then
   none
  else
   if (v0 = 0) then
    none
   else
    bif ((IntKind.wrap .i64 (Int.tdiv v10 v0)) == (Int.tmod v10 v0)) then
     if (((0 + (List.length v3_1)) = (List.length v3_1)) ∧ ((((List.length v3_1) + (List.length (List.take 1 (List.drop 0 [(0 : Int)])))) * 8) ≤ 140737488355328)) then
      some (Sum.inl (v0, (v2_0, (List.take (List.length v2_1) (List.drop 0 v2_1)), ()), (v3_0, (List.take ((List.length v3_1) + (List.length (List.take 1 (List.drop 0 [(0 : Int)])))) (List.drop 0 ((List.drop 0 v3_1) ++ (List.take 1 (List.drop 0 [(0 : Int)]))))), ()), v9, (IntKind.wrap .i64 (v10 + 1)), ()))
     else
      none
    else
     if (((0 + (List.length v3_1)) = (List.length v3_1)) ∧ ((((List.length v3_1) + (List.length (List.take 1 (List.drop 0 [(1000000 : Int)])))) * 8) ≤ 140737488355328)) then
      some (Sum.inl (v0, (v2_0, (List.take (List.length v2_1) (List.drop 0 v2_1)), ()), (v3_0, (List.take ((List.length v3_1) + (List.length (List.take 1 (List.drop 0 [(1000000 : Int)])))) (List.drop 0 ((List.drop 0 v3_1) ++ (List.take 1 (List.drop 0 [(1000000 : Int)]))))), ()), v9, (IntKind.wrap .i64 (v10 + 1)), ()))
     else
      none
 else
  some (Sum.inr ((v2_0, (List.take (List.length v2_1) (List.drop 0 v2_1)), ()), (v3_0, (List.take (List.length v3_1) (List.drop 0 v3_1)), ()), ()))
theorem loop126_3 {L} (h : L 3 = some ⟨32, sh126_3, xs126_3, spec_l2Unit_l3⟩) : LoopOk prog L (loopOf f126 3) := lo (L' := L0) (by kernel_rfl) E0_ok allNil h
def L126_1 : Nat → Option LoopD := fun n => ifEq n 3 (some ⟨32, sh126_3, xs126_3, spec_l2Unit_l3⟩) (L0 n)
def spec_l2Unit : Int → Option (TM) := fun a0 =>
 Option.bind (loopF spec_l2Unit_l3 (a0, ((0 : Int), [], ()), (a0, [], ()), (IntKind.wrap .i64 (a0 * a0)), 0, ())) fun ((r0, r1, _), (r2, r3, _), _) =>
  some (r2, (List.take (List.length r3) (List.drop 0 r3)))
def A126 : FnA := ⟨[.v i6], true, [.pair i6 sI], fun x => spec_l2Unit x.1⟩
theorem A126_ok : FnOk prog 126 A126 := fo (L := L126_1) (by kernel_rfl) func126 E0_ok (allCons (loop126_3 rfl) allNil)
def sh127_3 : List Fm := d :: .cell (.val .str) :: .box 100200 [.val i6, .val sI, .val sI, .val sS] :: d :: .box 100400 [.val i6, .own i6 100402 false] :: .box 100500 [.val i6, .own i6 100502 false] :: D 9 (.cell (.val i6) :: .cell (.val i6) :: D 33 [])
def xs127_3 : List (Ex × List Fm) := [(.exit 0, [d, .cell (.val .str), .box 100200 [.val i6, .val sI, .val sI, .val sS], d, .box 100400 [.val i6, .own i6 100402 false], .box 100500 [.val i6, .own i6 100502 false], d, d, d, d, d, d, d, d, d, d, d, d, d, d, d, d, d, d, d, d, d, d, d, d, d, d, d, d, d, d, d, d, d, d, d, d, d, d, d, d, d, d, d, d])]
def spec_l3Matrix_l3 : (ByteArray × (Int × LI × LI × LS × Unit) × (Int × LI × Unit) × (Int × LI × Unit) × Int × Int × Unit) → Option ((ByteArray × (Int × LI × LI × LS × Unit) × (Int × LI × Unit) × (Int × LI × Unit) × Int × Int × Unit) ⊕ ((ByteArray × (Int × LI × LI × LS × Unit) × (Int × LI × Unit) × (Int × LI × Unit) × Unit))) := fun (v1, (v2_0, v2_1, v2_2, v2_3, _), (v4_0, v4_1, _), (v5_0, v5_1, _), v15, v16, _) =>
 bif (decide (v16 < v15)) then
  if (((0 + (List.length v5_1)) = (List.length v5_1)) ∧ ((((List.length v5_1) + (List.length (List.take 1 (List.drop 0 [(1000000 : Int)])))) * 8) ≤ 140737488355328)) then
   some (Sum.inl (v1, (v2_0, v2_1, v2_2, v2_3, ()), (v4_0, (List.take (List.length v4_1) (List.drop 0 v4_1)), ()), (v5_0, (List.take ((List.length v5_1) + (List.length (List.take 1 (List.drop 0 [(1000000 : Int)])))) (List.drop 0 ((List.drop 0 v5_1) ++ (List.take 1 (List.drop 0 [(1000000 : Int)]))))), ()), v15, (IntKind.wrap .i64 (v16 + 1)), ()))
  else
   none
 else
  some (Sum.inr (v1, (v2_0, v2_1, v2_2, v2_3, ()), (v4_0, (List.take (List.length v4_1) (List.drop 0 v4_1)), ()), (v5_0, (List.take (List.length v5_1) (List.drop 0 v5_1)), ()), ()))
theorem loop127_3 {L} (h : L 3 = some ⟨50, sh127_3, xs127_3, spec_l3Matrix_l3⟩) : LoopOk prog L (loopOf f127 3) := lo (L' := L0) (by kernel_rfl) E0_ok allNil h
def L127_1 : Nat → Option LoopD := fun n => ifEq n 3 (some ⟨50, sh127_3, xs127_3, spec_l3Matrix_l3⟩) (L0 n)
def sh127_7 : List Fm := d :: .cell (.val .str) :: .box 100200 [.val i6, .val sI, .val sI, .val sS] :: d :: .box 100400 [.val i6, .own i6 100402 false] :: .box 100500 [.val i6, .own i6 100502 false] :: D 19 (.cell (.val sS) :: .cell (.val i6) :: .cell (.val i6) :: D 22 [])
def xs127_7 : List (Ex × List Fm) := [(.exit 2, [d, d, d, d, .box 100400 [.val i6, .own i6 100402 false], .box 100500 [.val i6, .own i6 100502 false], d, d, d, d, d, d, d, d, d, d, d, d, d, d, d, d, d, d, d, d, d, d, d, d, d, d, d, d, d, d, d, d, d, d, d, d, d, d, d, d, d, d, d, d])]
def spec_l3Matrix_l7 : (ByteArray × (Int × LI × LI × LS × Unit) × (Int × LI × Unit) × (Int × LI × Unit) × LS × Int × Int × Unit) → Option ((ByteArray × (Int × LI × LI × LS × Unit) × (Int × LI × Unit) × (Int × LI × Unit) × LS × Int × Int × Unit) ⊕ (((Int × LI × Unit) × (Int × LI × Unit) × Unit))) := fun (v1, (v2_0, v2_1, v2_2, v2_3, _), (v4_0, v4_1, _), (v5_0, v5_1, _), v25, v26, v27, _) =>
 bif (decide (v27 < v26)) then
  if (((0 : Int) ≤ v27) ∧ (v27 < (((List.length v25) : Nat) : Int))) then
   bif ((ByteArray.toList (List.getD v25 (Int.toNat v27) ((0 : Int), ⟨Array.empty⟩, 0, 0)).2.1) == (ByteArray.toList v1)) then
    if (((0 : Int) ≤ (IntKind.wrap .i64 ((IntKind.wrap .i64 ((List.getD v25 (Int.toNat v27) ((0 : Int), ⟨Array.empty⟩, 0, 0)).1 * v2_0)) + (List.getD v25 (Int.toNat v27) ((0 : Int), ⟨Array.empty⟩, 0, 0)).2.2.1))) ∧ ((IntKind.wrap .i64 ((IntKind.wrap .i64 ((List.getD v25 (Int.toNat v27) ((0 : Int), ⟨Array.empty⟩, 0, 0)).1 * v2_0)) + (List.getD v25 (Int.toNat v27) ((0 : Int), ⟨Array.empty⟩, 0, 0)).2.2.1)) < (((List.length v5_1) : Nat) : Int))) then
     some (Sum.inl (v1, (v2_0, v2_1, v2_2, v2_3, ()), (v4_0, (List.take (List.length v4_1) (List.drop 0 v4_1)), ()), (v5_0, (List.take (List.length v5_1) (List.drop 0 (List.set v5_1 (0 + (Int.toNat (IntKind.wrap .i64 ((IntKind.wrap .i64 ((List.getD v25 (Int.toNat v27) ((0 : Int), ⟨Array.empty⟩, 0, 0)).1 * v2_0)) + (List.getD v25 (Int.toNat v27) ((0 : Int), ⟨Array.empty⟩, 0, 0)).2.2.1)))) (List.getD v25 (Int.toNat v27) ((0 : Int), ⟨Array.empty⟩, 0, 0)).2.2.2))), ()), v25, v26, (IntKind.wrap .i64 (v27 + 1)), ()))
    else
     none
   else
    some (Sum.inl (v1, (v2_0, v2_1, v2_2, v2_3, ()), (v4_0, (List.take (List.length v4_1) (List.drop 0 v4_1)), ()), (v5_0, (List.take (List.length v5_1) (List.drop 0 v5_1)), ()), v25, v26, (IntKind.wrap .i64 (v27 + 1)), ()))
  else
   none
 else
  some (Sum.inr ((v4_0, (List.take (List.length v4_1) (List.drop 0 v4_1)), ()), (v5_0, (List.take (List.length v5_1) (List.drop 0 v5_1)), ()), ()))
theorem loop127_7 {L} (h : L 7 = some ⟨50, sh127_7, xs127_7, spec_l3Matrix_l7⟩) : LoopOk prog L (loopOf f127 7) := lo (L' := L127_1) (by kernel_rfl) E0_ok allNil h
def L127_2 : Nat → Option LoopD := fun n => ifEq n 7 (some ⟨50, sh127_7, xs127_7, spec_l3Matrix_l7⟩) (L127_1 n)
def spec_l3Matrix : TA → ByteArray → Option (TM) := fun (a0_0, a0_1, a0_2, a0_3) a1 =>
 Option.bind (loopF spec_l3Matrix_l3 (a1, (a0_0, a0_1, a0_2, a0_3, ()), ((0 : Int), [], ()), (a0_0, [], ()), (IntKind.wrap .i64 (a0_0 * a0_0)), 0, ())) fun (r0, (r1, r2, r3, r4, _), (r5, r6, _), (r7, r8, _), _) =>
  Option.bind (loopF spec_l3Matrix_l7 (r0, (r1, r2, r3, r4, ()), (r5, (List.take (List.length r6) (List.drop 0 r6)), ()), (r7, (List.take (List.length r8) (List.drop 0 r8)), ()), r4, (((List.length r4) : Nat) : Int), 0, ())) fun ((r9, r10, _), (r11, r12, _), _) =>
   some (r11, (List.take (List.length r12) (List.drop 0 r12)))
def A127 : FnA := ⟨[.v kA, .v .str], true, [.pair i6 sI], fun x => spec_l3Matrix x.1 x.2.1⟩
theorem A127_ok : FnOk prog 127 A127 := fo (L := L127_2) (by kernel_rfl) func127 E0_ok (allCons (loop127_3 rfl) (allCons (loop127_7 rfl) allNil))
def spec_l1Add : Int → Int → Option (Int) := fun a0 a1 =>
 some (if ((1000000 : Int) < (IntKind.wrap .i64 (a0 + a1))) then 1000000 else (IntKind.wrap .i64 (a0 + a1)))
def A197 : FnA := ⟨[.v i6, .v i6], true, [.int .i64], fun x => spec_l1Add x.1 x.2.1⟩
theorem A197_ok : FnOk prog 197 A197 := fo (L := L0) (by kernel_rfl) func197 E0_ok allNil
def E128 : Env := ev fun g => ifEq g 197 (some A197) (none)
theorem E128_ok : FnsOk prog E128 := (oF A197_ok func197 (noFns _ _))
def sh128_8 : List Fm := d :: d :: .box 100200 [.val i6, .val sI] :: .box 100300 [.val i6, .val sI] :: .box 100400 [.val i6, .own i6 100402 false] :: .box 100500 [.val i6, .own i6 100502 false] :: d :: .cell (.val i6) :: .cell (.val i6) :: .cell (.val i6) :: D 8 (.cell (.val i6) :: .cell (.val i6) :: D 11 (.cell (.val i6) :: .cell (.val i6) :: D 34 []))
def xs128_8 : List (Ex × List Fm) := [(.exit 2, [d, d, .box 100200 [.val i6, .val sI], .box 100300 [.val i6, .val sI], .box 100400 [.val i6, .own i6 100402 false], .box 100500 [.val i6, .own i6 100502 false], d, d, d, .cell (.val i6), d, d, d, d, d, d, d, d, .cell (.val i6), .cell (.val i6), d, d, d, d, d, d, d, d, d, d, d, d, d, d, d, d, d, d, d, d, d, d, d, d, d, d, d, d, d, d, d, d, d, d, d, d, d, d, d, d, d, d, d, d, d, d, d])]
def spec_l2Mul_l8 : ((Int × LI × Unit) × (Int × LI × Unit) × (Int × LI × Unit) × (Int × LI × Unit) × Int × Int × Int × Int × Int × Int × Int × Unit) → Option (((Int × LI × Unit) × (Int × LI × Unit) × (Int × LI × Unit) × (Int × LI × Unit) × Int × Int × Int × Int × Int × Int × Int × Unit) ⊕ (((Int × LI × Unit) × (Int × LI × Unit) × (Int × LI × Unit) × (Int × LI × Unit) × Int × Int × Int × Unit))) := fun ((v2_0, v2_1, _), (v3_0, v3_1, _), (v4_0, v4_1, _), (v5_0, v5_1, _), v7, v8, v9, v18, v19, v31, v32, _) =>
 bif (decide (v32 < v31)) then
  if (((0 : Int) ≤ (IntKind.wrap .i64 ((IntKind.wrap .i64 (v7 * v2_0)) + v32))) ∧ ((IntKind.wrap .i64 ((IntKind.wrap .i64 (v7 * v2_0)) + v32)) < (((List.length v2_1) : Nat) : Int))) then
   if (((0 : Int) ≤ (IntKind.wrap .i64 ((IntKind.wrap .i64 (v32 * v2_0)) + v8))) ∧ ((IntKind.wrap .i64 ((IntKind.wrap .i64 (v32 * v2_0)) + v8)) < (((List.length v3_1) : Nat) : Int))) then
    Option.bind (spec_l1Add (List.getD v2_1 (Int.toNat (IntKind.wrap .i64 ((IntKind.wrap .i64 (v7 * v2_0)) + v32))) 0) (List.getD v3_1 (Int.toNat (IntKind.wrap .i64 ((IntKind.wrap .i64 (v32 * v2_0)) + v8))) 0)) fun r0 =>
     some (Sum.inl ((v2_0, v2_1, ()), (v3_0, v3_1, ()), (v4_0, (List.take (List.length v4_1) (List.drop 0 v4_1)), ()), (v5_0, (List.take (List.length v5_1) (List.drop 0 v5_1)), ()), v7, v8, (if (r0 < v9) then r0 else v9), v18, v19, v31, (IntKind.wrap .i64 (v32 + 1)), ()))
   else
    none
  else
   none
 else
  some (Sum.inr ((v2_0, v2_1, ()), (v3_0, v3_1, ()), (v4_0, (List.take (List.length v4_1) (List.drop 0 v4_1)), ()), (v5_0, (List.take (List.length v5_1) (List.drop 0 v5_1)), ()), v9, v18, v19, ()))
theorem loop128_8 {L} (h : L 8 = some ⟨67, sh128_8, xs128_8, spec_l2Mul_l8⟩) : LoopOk prog L (loopOf f128 8) := lo (L' := L0) (by kernel_rfl) E128_ok allNil h
def L128_1 : Nat → Option LoopD := fun n => ifEq n 8 (some ⟨67, sh128_8, xs128_8, spec_l2Mul_l8⟩) (L0 n)
def sh128_3 : List Fm := d :: d :: .box 100200 [.val i6, .val sI] :: .box 100300 [.val i6, .val sI] :: .box 100400 [.val i6, .own i6 100402 false] :: .box 100500 [.val i6, .own i6 100502 false] :: D 12 (.cell (.val i6) :: .cell (.val i6) :: D 47 [])
def xs128_3 : List (Ex × List Fm) := [(.exit 0, [d, d, d, d, .box 100400 [.val i6, .own i6 100402 false], .box 100500 [.val i6, .own i6 100502 false], d, d, d, d, d, d, d, d, d, d, d, d, d, d, d, d, d, d, d, d, d, d, d, d, d, d, d, d, d, d, d, d, d, d, d, d, d, d, d, d, d, d, d, d, d, d, d, d, d, d, d, d, d, d, d, d, d, d, d, d, d])]
def spec_l2Mul_l3 : ((Int × LI × Unit) × (Int × LI × Unit) × (Int × LI × Unit) × (Int × LI × Unit) × Int × Int × Unit) → Option (((Int × LI × Unit) × (Int × LI × Unit) × (Int × LI × Unit) × (Int × LI × Unit) × Int × Int × Unit) ⊕ (((Int × LI × Unit) × (Int × LI × Unit) × Unit))) := fun ((v2_0, v2_1, _), (v3_0, v3_1, _), (v4_0, v4_1, _), (v5_0, v5_1, _), v18, v19, _) =>
 bif (decide (v19 < v18)) then
  if (v2_0 = 0) then
   none
  else
   if (v2_0 = 0) then
    none
   else
    Option.bind (loopF spec_l2Mul_l8 ((v2_0, v2_1, ()), (v3_0, v3_1, ()), (v4_0, (List.take (List.length v4_1) (List.drop 0 v4_1)), ()), (v5_0, (List.take (List.length v5_1) (List.drop 0 v5_1)), ()), (IntKind.wrap .i64 (Int.tdiv v19 v2_0)), (Int.tmod v19 v2_0), 1000000, v18, v19, v2_0, 0, ())) fun ((r0, r1, _), (r2, r3, _), (r4, r5, _), (r6, r7, _), r8, r9, r10, _) =>
     if (((0 + (List.length r7)) = (List.length r7)) ∧ ((((List.length r7) + (List.length (List.take 1 (List.drop 0 [r8])))) * 8) ≤ 140737488355328)) then
      some (Sum.inl ((r0, r1, ()), (r2, r3, ()), (r4, (List.take (List.length r5) (List.drop 0 r5)), ()), (r6, (List.take ((List.length r7) + (List.length (List.take 1 (List.drop 0 [r8])))) (List.drop 0 ((List.drop 0 r7) ++ (List.take 1 (List.drop 0 [r8]))))), ()), r9, (IntKind.wrap .i64 (r10 + 1)), ()))
     else
      none
 else
  some (Sum.inr ((v4_0, (List.take (List.length v4_1) (List.drop 0 v4_1)), ()), (v5_0, (List.take (List.length v5_1) (List.drop 0 v5_1)), ()), ()))
theorem loop128_3 {L} (h : L 3 = some ⟨67, sh128_3, xs128_3, spec_l2Mul_l3⟩) : LoopOk prog L (loopOf f128 3) := lo (L' := L128_1) (by kernel_rfl) E128_ok (allCons (loop128_8 rfl) allNil) h
def L128_2 : Nat → Option LoopD := fun n => ifEq n 3 (some ⟨67, sh128_3, xs128_3, spec_l2Mul_l3⟩) (L128_1 n)
def spec_l2Mul : TM → TM → Option (TM) := fun (a0_0, a0_1) (a1_0, a1_1) =>
 Option.bind (loopF spec_l2Mul_l3 ((a0_0, a0_1, ()), (a1_0, a1_1, ()), ((0 : Int), [], ()), (a0_0, [], ()), (IntKind.wrap .i64 (a0_0 * a0_0)), 0, ())) fun ((r0, r1, _), (r2, r3, _), _) =>
  some (r2, (List.take (List.length r3) (List.drop 0 r3)))
def A128 : FnA := ⟨[.v kM, .v kM], true, [.pair i6 sI], fun x => spec_l2Mul x.1 x.2.1⟩
theorem A128_ok : FnOk prog 128 A128 := fo (L := L128_2) (by kernel_rfl) func128 E128_ok (allCons (loop128_3 rfl) allNil)
def E51 : Env := ev fun g => ifEq g 126 (some A126) (ifEq g 127 (some A127) (ifEq g 128 (some A128) (none)))
theorem E51_ok : FnsOk prog E51 := (oF A126_ok func126 (oF A127_ok func127 (oF A128_ok func128 (noFns _ _))))
def sh51_4 : List Fm := d :: .cell (.val .str) :: d :: d :: .box 100400 [.val i6, .own i6 100402 false] :: .box 100500 [.val i6, .own i6 100502 false] :: .box 100600 [.val i6, .own i6 100602 false] :: .box 100700 [.val i6, .own i6 100702 false] :: D 9 (.cell (.val i6) :: .cell (.val i6) :: D 14 [])
def xs51_4 : List (Ex × List Fm) := [(.exit 0, [d, d, d, d, .box 100400 [.val i6, .own i6 100402 false], .box 100500 [.val i6, .own i6 100502 false], d, d, d, d, d, d, d, d, d, d, d, d, d, d, d, d, d, d, d, d, d, d, d, d, d, d, d])]
def spec_l4Matrix_l4 : (ByteArray × (Int × LI × Unit) × (Int × LI × Unit) × (Int × LI × Unit) × (Int × LI × Unit) × Int × Int × Unit) → Option ((ByteArray × (Int × LI × Unit) × (Int × LI × Unit) × (Int × LI × Unit) × (Int × LI × Unit) × Int × Int × Unit) ⊕ (((Int × LI × Unit) × (Int × LI × Unit) × Unit))) := fun (v1, (v4_0, v4_1, _), (v5_0, v5_1, _), (v6_0, v6_1, _), (v7_0, v7_1, _), v17, v18, _) =>
 bif (decide (v18 < v17)) then
  if (((0 : Int) ≤ v18) ∧ (v18 < (((ByteArray.size v1) : Nat) : Int))) then
   bif ((((UInt8.toNat (Array.getD (ByteArray.data v1) (Int.toNat v18) (0 : UInt8))) : Nat) : Int) == 97) then
    Option.bind (spec_l2Mul (v5_0, (List.take (List.length v5_1) (List.drop 0 v5_1))) (v6_0, (List.take (List.length v6_1) (List.drop 0 v6_1)))) fun (r0, r1) =>
     some (Sum.inl (v1, (v4_0, (List.take (List.length v4_1) (List.drop 0 v4_1)), ()), (r0, (List.take (List.length r1) (List.drop 0 r1)), ()), (v6_0, (List.take (List.length v6_1) (List.drop 0 v6_1)), ()), (v7_0, (List.take (List.length v7_1) (List.drop 0 v7_1)), ()), v17, (IntKind.wrap .i64 (v18 + 1)), ()))
   else
    Option.bind (spec_l2Mul (v5_0, (List.take (List.length v5_1) (List.drop 0 v5_1))) (v7_0, (List.take (List.length v7_1) (List.drop 0 v7_1)))) fun (r2, r3) =>
     some (Sum.inl (v1, (v4_0, (List.take (List.length v4_1) (List.drop 0 v4_1)), ()), (r2, (List.take (List.length r3) (List.drop 0 r3)), ()), (v6_0, (List.take (List.length v6_1) (List.drop 0 v6_1)), ()), (v7_0, (List.take (List.length v7_1) (List.drop 0 v7_1)), ()), v17, (IntKind.wrap .i64 (v18 + 1)), ()))
  else
   none
 else
  some (Sum.inr ((v4_0, (List.take (List.length v4_1) (List.drop 0 v4_1)), ()), (v5_0, (List.take (List.length v5_1) (List.drop 0 v5_1)), ()), ()))
theorem loop51_4 {L} (h : L 4 = some ⟨33, sh51_4, xs51_4, spec_l4Matrix_l4⟩) : LoopOk prog L (loopOf f51 4) := lo (L' := L0) (by kernel_rfl) E51_ok allNil h
def L51_1 : Nat → Option LoopD := fun n => ifEq n 4 (some ⟨33, sh51_4, xs51_4, spec_l4Matrix_l4⟩) (L0 n)
def spec_l4Matrix : TA → ByteArray → Option (TM) := fun (a0_0, a0_1, a0_2, a0_3) a1 =>
 Option.bind (spec_l2Unit a0_0) fun (r0, r1) =>
  Option.bind (spec_l3Matrix (a0_0, a0_1, a0_2, a0_3) (⟨#[(97 : UInt8)]⟩ : ByteArray)) fun (r2, r3) =>
   Option.bind (spec_l3Matrix (a0_0, a0_1, a0_2, a0_3) (⟨#[(98 : UInt8)]⟩ : ByteArray)) fun (r4, r5) =>
    Option.bind (loopF spec_l4Matrix_l4 (a1, ((0 : Int), [], ()), (r0, (List.take (List.length r1) (List.drop 0 r1)), ()), (r2, (List.take (List.length r3) (List.drop 0 r3)), ()), (r4, (List.take (List.length r5) (List.drop 0 r5)), ()), (((ByteArray.size a1) : Nat) : Int), 0, ())) fun ((r6, r7, _), (r8, r9, _), _) =>
     some (r8, (List.take (List.length r9) (List.drop 0 r9)))
def A51 : FnA := ⟨[.v kA, .v .str], true, [.pair i6 sI], fun x => spec_l4Matrix x.1 x.2.1⟩
theorem A51_ok : FnOk prog 51 A51 := fo (L := L51_1) (by kernel_rfl) func51 E51_ok (allCons (loop51_4 rfl) allNil)
def sh50_6 : List Fm := d :: d :: .box 100200 [.val i6, .val sI, .val sI, .val sS] :: .box 100300 [.val i6, .val sI] :: d :: .cell (.val i6) :: d :: .cell (.val i6) :: d :: d :: d :: .cell (.val sI) :: .cell (.val i6) :: .cell (.val i6) :: D 4 (.cell (.val sI) :: .cell (.val i6) :: .cell (.val i6) :: D 18 [])
def xs50_6 : List (Ex × List Fm) := [(.exit 2, [d, d, .box 100200 [.val i6, .val sI, .val sI, .val sS], .box 100300 [.val i6, .val sI], d, .cell (.val i6), d, d, d, d, d, .cell (.val sI), .cell (.val i6), .cell (.val i6), d, d, d, d, d, d, d, d, d, d, d, d, d, d, d, d, d, d, d, d, d, d, d, d, d])]
def spec_l4Least_l6 : ((Int × LI × LI × LS × Unit) × (Int × LI × Unit) × Int × Int × LI × Int × Int × LI × Int × Int × Unit) → Option (((Int × LI × LI × LS × Unit) × (Int × LI × Unit) × Int × Int × LI × Int × Int × LI × Int × Int × Unit) ⊕ (((Int × LI × LI × LS × Unit) × (Int × LI × Unit) × Int × LI × Int × Int × Unit))) := fun ((v2_0, v2_1, v2_2, v2_3, _), (v3_0, v3_1, _), v5, v7, v11, v12, v13, v18, v19, v20, _) =>
 bif (decide (v20 < v19)) then
  if (((0 : Int) ≤ v20) ∧ (v20 < (((List.length v18) : Nat) : Int))) then
   if (((0 : Int) ≤ (IntKind.wrap .i64 ((IntKind.wrap .i64 (v7 * v2_0)) + (List.getD v18 (Int.toNat v20) 0)))) ∧ ((IntKind.wrap .i64 ((IntKind.wrap .i64 (v7 * v2_0)) + (List.getD v18 (Int.toNat v20) 0))) < (((List.length v3_1) : Nat) : Int))) then
    some (Sum.inl ((v2_0, v2_1, v2_2, v2_3, ()), (v3_0, v3_1, ()), (if ((List.getD v3_1 (Int.toNat (IntKind.wrap .i64 ((IntKind.wrap .i64 (v7 * v2_0)) + (List.getD v18 (Int.toNat v20) 0)))) 0) < v5) then (List.getD v3_1 (Int.toNat (IntKind.wrap .i64 ((IntKind.wrap .i64 (v7 * v2_0)) + (List.getD v18 (Int.toNat v20) 0)))) 0) else v5), v7, v11, v12, v13, v18, v19, (IntKind.wrap .i64 (v20 + 1)), ()))
   else
    none
  else
   none
 else
  some (Sum.inr ((v2_0, v2_1, v2_2, v2_3, ()), (v3_0, v3_1, ()), v5, v11, v12, v13, ()))
theorem loop50_6 {L} (h : L 6 = some ⟨39, sh50_6, xs50_6, spec_l4Least_l6⟩) : LoopOk prog L (loopOf f50 6) := lo (L' := L0) (by kernel_rfl) E0_ok allNil h
def L50_1 : Nat → Option LoopD := fun n => ifEq n 6 (some ⟨39, sh50_6, xs50_6, spec_l4Least_l6⟩) (L0 n)
def sh50_3 : List Fm := d :: d :: .box 100200 [.val i6, .val sI, .val sI, .val sS] :: .box 100300 [.val i6, .val sI] :: d :: .cell (.val i6) :: D 5 (.cell (.val sI) :: .cell (.val i6) :: .cell (.val i6) :: D 25 [])
def xs50_3 : List (Ex × List Fm) := [(.exit 0, (D 5 (.cell (.val i6) :: D 33 [])))]
def spec_l4Least_l3 : ((Int × LI × LI × LS × Unit) × (Int × LI × Unit) × Int × LI × Int × Int × Unit) → Option (((Int × LI × LI × LS × Unit) × (Int × LI × Unit) × Int × LI × Int × Int × Unit) ⊕ ((Int × Unit))) := fun ((v2_0, v2_1, v2_2, v2_3, _), (v3_0, v3_1, _), v5, v11, v12, v13, _) =>
 bif (decide (v13 < v12)) then
  if (((0 : Int) ≤ v13) ∧ (v13 < (((List.length v11) : Nat) : Int))) then
   Option.bind (loopF spec_l4Least_l6 ((v2_0, v2_1, v2_2, v2_3, ()), (v3_0, v3_1, ()), v5, (List.getD v11 (Int.toNat v13) 0), v11, v12, v13, v2_2, (((List.length v2_2) : Nat) : Int), 0, ())) fun ((r0, r1, r2, r3, _), (r4, r5, _), r6, r7, r8, r9, _) =>
    some (Sum.inl ((r0, r1, r2, r3, ()), (r4, r5, ()), r6, r7, r8, (IntKind.wrap .i64 (r9 + 1)), ()))
  else
   none
 else
  some (Sum.inr (v5, ()))
theorem loop50_3 {L} (h : L 3 = some ⟨39, sh50_3, xs50_3, spec_l4Least_l3⟩) : LoopOk prog L (loopOf f50 3) := lo (L' := L50_1) (by kernel_rfl) E0_ok (allCons (loop50_6 rfl) allNil) h
def L50_2 : Nat → Option LoopD := fun n => ifEq n 3 (some ⟨39, sh50_3, xs50_3, spec_l4Least_l3⟩) (L50_1 n)
def spec_l4Least : TA → TM → Option (Int) := fun (a0_0, a0_1, a0_2, a0_3) (a1_0, a1_1) =>
 Option.bind (loopF spec_l4Least_l3 ((a0_0, a0_1, a0_2, a0_3, ()), (a1_0, a1_1, ()), 1000000, a0_1, (((List.length a0_1) : Nat) : Int), 0, ())) fun (r0, _) =>
  some r0
def A50 : FnA := ⟨[.v kA, .v kM], true, [.int .i64], fun x => spec_l4Least x.1 x.2.1⟩
theorem A50_ok : FnOk prog 50 A50 := fo (L := L50_2) (by kernel_rfl) func50 E0_ok (allCons (loop50_3 rfl) allNil)
def E24 : Env := ev fun g => ifEq g 51 (some A51) (ifEq g 50 (some A50) (none))
theorem E24_ok : FnsOk prog E24 := (oF A51_ok func51 (oF A50_ok func50 (noFns _ _)))
def spec_l4Cost : TA → ByteArray → Option (Int) := fun (a0_0, a0_1, a0_2, a0_3) a1 =>
 Option.bind (spec_l4Matrix (a0_0, a0_1, a0_2, a0_3) a1) fun (r0, r1) =>
  Option.bind (spec_l4Least (a0_0, a0_1, a0_2, a0_3) (r0, (List.take (List.length r1) (List.drop 0 r1)))) fun r2 =>
   some r2
def A24 : FnA := ⟨[.v kA, .v .str], true, [.int .i64], fun x => spec_l4Cost x.1 x.2.1⟩
theorem A24_ok : FnOk prog 24 A24 := fo (L := L0) (by kernel_rfl) func24 E24_ok allNil
def E6 : Env := ev fun g => ifEq g 23 (some A23) (ifEq g 24 (some A24) (none))
theorem E6_ok : FnsOk prog E6 := (oF A23_ok func23 (oF A24_ok func24 (noFns _ _)))
def spec_CostOf : TA → ByteArray → Option (Int) := fun (a0_0, a0_1, a0_2, a0_3) a1 =>
 Option.bind (spec_l4Asked (a0_0, a0_1, a0_2, a0_3) a1) fun r0 =>
  bif (!r0) then
   some (-1)
  else
   Option.bind (spec_l4Cost (a0_0, a0_1, a0_2, a0_3) a1) fun r1 =>
    some r1
def A6 : FnA := ⟨[.v kA, .v .str], true, [.int .i64], fun x => spec_CostOf x.1 x.2.1⟩
theorem A6_ok : FnOk prog 6 A6 := fo (L := L0) (by kernel_rfl) func6 E6_ok allNil
def E7 : Env := ev fun g => ifEq g 5 (some A5) (ifEq g 22 (some A22) (none))
theorem E7_ok : FnsOk prog E7 := (oF A5_ok func5 (oF A22_ok func22 (noFns _ _)))
def sh7_7 : List Fm := d :: .cell (.val .str) :: .box 100200 [.val i6, .val sI, .val sI, .val sS] :: d :: d :: d :: .cell (.val i6) :: .cell (.own sI 100700 false) :: .cell (.own i6 100800 false) :: D 19 (.cell (.val sI) :: .cell (.val i6) :: .cell (.val i6) :: D 78 [])
def xs7_7 : List (Ex × List Fm) := [(.exit 0, [d, .cell (.val .str), .box 100200 [.val i6, .val sI, .val sI, .val sS], d, d, d, .cell (.val i6), .cell (.own sI 100700 false), .cell (.own i6 100800 false), d, d, d, d, d, d, d, d, d, d, d, d, d, d, d, d, d, d, d, d, d, d, d, d, d, d, d, d, d, d, d, d, d, d, d, d, d, d, d, d, d, d, d, d, d, d, d, d, d, d, d, d, d, d, d, d, d, d, d, d, d, d, d, d, d, d, d, d, d, d, d, d, d, d, d, d, d, d, d, d, d, d, d, d, d, d, d, d, d, d, d, d, d, d, d, d, d, d, d, d])]
def impl_RunOf_l7 : (ByteArray × (Int × LI × LI × LS × Unit) × Int × (List LI) × LI × LI × Int × Int × Unit) → Option ((ByteArray × (Int × LI × LI × LS × Unit) × Int × (List LI) × LI × LI × Int × Int × Unit) ⊕ ((ByteArray × (Int × LI × LI × LS × Unit) × Int × (List LI) × LI × Unit))) := fun (v1, (v2_0, v2_1, v2_2, v2_3, _), v6, v7, v8, v28, v29, v30, _) =>
 bif (decide (v30 < v29)) then
  if (((0 : Int) ≤ v30) ∧ (v30 < (((List.length v28) : Nat) : Int))) then
   if (((0 : Int) ≤ (((ByteArray.size v1) : Nat) : Int)) ∧ ((((ByteArray.size v1) : Nat) : Int) < (((List.length v7) : Nat) : Int))) then
    if (((0 : Int) ≤ (List.getD v28 (Int.toNat v30) 0)) ∧ ((List.getD v28 (Int.toNat v30) 0) < (((List.length (List.getD v7 (0 + (Int.toNat (((ByteArray.size v1) : Nat) : Int))) [])) : Nat) : Int))) then
     bif ((List.getD (List.getD v7 (0 + (Int.toNat (((ByteArray.size v1) : Nat) : Int))) []) (Int.toNat (List.getD v28 (Int.toNat v30) 0)) 0) == v6) then
      if (((0 + (List.length v8)) = (List.length v8)) ∧ ((((List.length v8) + (List.length (List.take 1 (List.drop 0 [(List.getD v28 (Int.toNat v30) (0 : Int))])))) * 8) ≤ 140737488355328)) then
       some (Sum.inr (v1, (v2_0, v2_1, v2_2, v2_3, ()), v6, (List.take (List.length v7) (List.drop 0 v7)), (List.take ((List.length v8) + (List.length (List.take 1 (List.drop 0 [(List.getD v28 (Int.toNat v30) (0 : Int))])))) (List.drop 0 ((List.drop 0 v8) ++ (List.take 1 (List.drop 0 [(List.getD v28 (Int.toNat v30) (0 : Int))]))))), ()))
      else
       none
     else
      some (Sum.inl (v1, (v2_0, v2_1, v2_2, v2_3, ()), v6, (List.take (List.length v7) (List.drop 0 v7)), (List.take (List.length v8) (List.drop 0 v8)), v28, v29, (IntKind.wrap .i64 (v30 + 1)), ()))
    else
     none
   else
    none
  else
   none
 else
  some (Sum.inr (v1, (v2_0, v2_1, v2_2, v2_3, ()), v6, (List.take (List.length v7) (List.drop 0 v7)), (List.take (List.length v8) (List.drop 0 v8)), ()))
theorem loop7_7 {L} (h : L 7 = some ⟨109, sh7_7, xs7_7, impl_RunOf_l7⟩) : LoopOk prog L (loopOf f7 7) := lo (L' := L0) (by kernel_rfl) E7_ok allNil h
def L7_1 : Nat → Option LoopD := fun n => ifEq n 7 (some ⟨109, sh7_7, xs7_7, impl_RunOf_l7⟩) (L0 n)
def sh7_16 : List Fm := d :: .cell (.val .str) :: .box 100200 [.val i6, .val sI, .val sI, .val sS] :: d :: d :: d :: .cell (.val i6) :: .cell (.own sI 100700 false) :: .cell (.own i6 100800 false) :: d :: d :: .cell (.val i6) :: D 38 (.cell (.val i6) :: .cell (.val i6) :: d :: d :: d :: .cell (.val sS) :: .cell (.val i6) :: .cell (.val i6) :: D 51 [])
def xs7_16 : List (Ex × List Fm) := [(.exit 4, [d, .cell (.val .str), .box 100200 [.val i6, .val sI, .val sI, .val sS], d, d, d, .cell (.val i6), .cell (.own sI 100700 false), .cell (.own i6 100800 false), d, d, d, d, d, d, d, d, d, d, d, d, d, d, d, d, d, d, d, d, d, d, d, d, d, d, d, d, d, d, d, d, d, d, d, d, d, d, d, d, d, .cell (.val i6), .cell (.val i6), d, d, d, d, d, d, d, d, d, d, d, d, d, d, d, d, d, d, d, d, d, d, d, d, d, d, d, d, d, d, d, d, d, d, d, d, d, d, d, d, d, d, d, d, d, d, d, d, d, d, d, d, d, d, d, d, d])]
def impl_RunOf_l16 : (ByteArray × (Int × LI × LI × LS × Unit) × Int × (List LI) × LI × Int × Int × Int × LS × Int × Int × Unit) → Option ((ByteArray × (Int × LI × LI × LS × Unit) × Int × (List LI) × LI × Int × Int × Int × LS × Int × Int × Unit) ⊕ ((ByteArray × (Int × LI × LI × LS × Unit) × Int × (List LI) × LI × Int × Int × Unit))) := fun (v1, (v2_0, v2_1, v2_2, v2_3, _), v6, v7, v8, v11, v50, v51, v55, v56, v57, _) =>
 bif (decide (v57 < v56)) then
  if (((0 : Int) ≤ v57) ∧ (v57 < (((List.length v55) : Nat) : Int))) then
   if (((0 : Int) ≤ v11) ∧ (v11 < (((List.length v8) : Nat) : Int))) then
    bif ((List.getD v55 (Int.toNat v57) ((0 : Int), ⟨Array.empty⟩, 0, 0)).1 == (List.getD v8 (0 + (Int.toNat v11)) 0)) then
     if (((0 : Int) ≤ v11) ∧ ((v11 ≤ (IntKind.wrap .i64 (v11 + 1))) ∧ ((IntKind.wrap .i64 (v11 + 1)) ≤ (((ByteArray.size v1) : Nat) : Int)))) then
      bif ((ByteArray.toList (List.getD v55 (Int.toNat v57) ((0 : Int), ⟨Array.empty⟩, 0, 0)).2.1) == (ByteArray.toList (ByteArray.extract v1 (Int.toNat v11) (Int.toNat (IntKind.wrap .i64 (v11 + 1)))))) then
       if (((0 : Int) ≤ (IntKind.wrap .i64 ((IntKind.wrap .i64 ((((ByteArray.size v1) : Nat) : Int) - v11)) - 1))) ∧ ((IntKind.wrap .i64 ((IntKind.wrap .i64 ((((ByteArray.size v1) : Nat) : Int) - v11)) - 1)) < (((List.length v7) : Nat) : Int))) then
        if (((0 : Int) ≤ (List.getD v55 (Int.toNat v57) ((0 : Int), ⟨Array.empty⟩, 0, 0)).2.2.1) ∧ ((List.getD v55 (Int.toNat v57) ((0 : Int), ⟨Array.empty⟩, 0, 0)).2.2.1 < (((List.length (List.getD v7 (0 + (Int.toNat (IntKind.wrap .i64 ((IntKind.wrap .i64 ((((ByteArray.size v1) : Nat) : Int) - v11)) - 1)))) [])) : Nat) : Int))) then
         bif ((IntKind.wrap .i64 ((List.getD v55 (Int.toNat v57) ((0 : Int), ⟨Array.empty⟩, 0, 0)).2.2.2 + (List.getD (List.getD v7 (0 + (Int.toNat (IntKind.wrap .i64 ((IntKind.wrap .i64 ((((ByteArray.size v1) : Nat) : Int) - v11)) - 1)))) []) (Int.toNat (List.getD v55 (Int.toNat v57) ((0 : Int), ⟨Array.empty⟩, 0, 0)).2.2.1) 0))) == v6) then
          if (((0 + (List.length v8)) = (List.length v8)) ∧ ((((List.length v8) + (List.length (List.take 1 (List.drop 0 [(List.getD v55 (Int.toNat v57) ((0 : Int), (⟨Array.empty⟩ : ByteArray), (0 : Int), (0 : Int))).2.2.1])))) * 8) ≤ 140737488355328)) then
           some (Sum.inr (v1, (v2_0, v2_1, v2_2, v2_3, ()), (IntKind.wrap .i64 (v6 - (List.getD v55 (Int.toNat v57) ((0 : Int), ⟨Array.empty⟩, 0, 0)).2.2.2)), (List.take (List.length v7) (List.drop 0 v7)), (List.take ((List.length v8) + (List.length (List.take 1 (List.drop 0 [(List.getD v55 (Int.toNat v57) ((0 : Int), (⟨Array.empty⟩ : ByteArray), (0 : Int), (0 : Int))).2.2.1])))) (List.drop 0 ((List.drop 0 v8) ++ (List.take 1 (List.drop 0 [(List.getD v55 (Int.toNat v57) ((0 : Int), (⟨Array.empty⟩ : ByteArray), (0 : Int), (0 : Int))).2.2.1]))))), v50, v51, ()))
          else
           none
         else
          some (Sum.inl (v1, (v2_0, v2_1, v2_2, v2_3, ()), v6, (List.take (List.length v7) (List.drop 0 v7)), (List.take (List.length v8) (List.drop 0 v8)), v11, v50, v51, v55, v56, (IntKind.wrap .i64 (v57 + 1)), ()))
        else
         none
       else
        none
      else
       some (Sum.inl (v1, (v2_0, v2_1, v2_2, v2_3, ()), v6, (List.take (List.length v7) (List.drop 0 v7)), (List.take (List.length v8) (List.drop 0 v8)), v11, v50, v51, v55, v56, (IntKind.wrap .i64 (v57 + 1)), ()))
     else
      none
    else
     some (Sum.inl (v1, (v2_0, v2_1, v2_2, v2_3, ()), v6, (List.take (List.length v7) (List.drop 0 v7)), (List.take (List.length v8) (List.drop 0 v8)), v11, v50, v51, v55, v56, (IntKind.wrap .i64 (v57 + 1)), ()))
   else
    none
  else
   none
 else
  some (Sum.inr (v1, (v2_0, v2_1, v2_2, v2_3, ()), v6, (List.take (List.length v7) (List.drop 0 v7)), (List.take (List.length v8) (List.drop 0 v8)), v50, v51, ()))
theorem loop7_16 {L} (h : L 16 = some ⟨109, sh7_16, xs7_16, impl_RunOf_l16⟩) : LoopOk prog L (loopOf f7 16) := lo (L' := L7_1) (by kernel_rfl) E7_ok allNil h
def L7_2 : Nat → Option LoopD := fun n => ifEq n 16 (some ⟨109, sh7_16, xs7_16, impl_RunOf_l16⟩) (L7_1 n)
def sh7_13 : List Fm := d :: .cell (.val .str) :: .box 100200 [.val i6, .val sI, .val sI, .val sS] :: d :: d :: d :: .cell (.val i6) :: .cell (.own sI 100700 false) :: .cell (.own i6 100800 false) :: D 41 (.cell (.val i6) :: .cell (.val i6) :: D 57 [])
def xs7_13 : List (Ex × List Fm) := [(.exit 2, (D 8 (.cell (.own i6 100800 false) :: D 100 [])))]
def impl_RunOf_l13 : (ByteArray × (Int × LI × LI × LS × Unit) × Int × (List LI) × LI × Int × Int × Unit) → Option ((ByteArray × (Int × LI × LI × LS × Unit) × Int × (List LI) × LI × Int × Int × Unit) ⊕ ((LI × Unit))) := fun (v1, (v2_0, v2_1, v2_2, v2_3, _), v6, v7, v8, v50, v51, _) =>
 bif (decide (v51 < v50)) then
  Option.bind (loopF impl_RunOf_l16 (v1, (v2_0, v2_1, v2_2, v2_3, ()), v6, (List.take (List.length v7) (List.drop 0 v7)), (List.take (List.length v8) (List.drop 0 v8)), v51, v50, v51, v2_3, (((List.length v2_3) : Nat) : Int), 0, ())) fun (r0, (r1, r2, r3, r4, _), r5, r6, r7, r8, r9, _) =>
   some (Sum.inl (r0, (r1, r2, r3, r4, ()), r5, (List.take (List.length r6) (List.drop 0 r6)), (List.take (List.length r7) (List.drop 0 r7)), r8, (IntKind.wrap .i64 (r9 + 1)), ()))
 else
  some (Sum.inr ((List.take (List.length v8) (List.drop 0 v8)), ()))
theorem loop7_13 {L} (h : L 13 = some ⟨109, sh7_13, xs7_13, impl_RunOf_l13⟩) : LoopOk prog L (loopOf f7 13) := lo (L' := L7_2) (by kernel_rfl) E7_ok (allCons (loop7_16 rfl) allNil) h
def L7_3 : Nat → Option LoopD := fun n => ifEq n 13 (some ⟨109, sh7_13, xs7_13, impl_RunOf_l13⟩) (L7_2 n)
def impl_RunOf : TA → ByteArray → Option (LI × Bool) := fun (a0_0, a0_1, a0_2, a0_3) a1 =>
 Option.bind (impl_CostOf (a0_0, a0_1, a0_2, a0_3) a1) fun r0 =>
  bif (decide (r0 < 0)) then
   some ([], false)
  else
   bif (decide (r0 ≥ 1000000)) then
    some ([], false)
   else
    Option.bind (impl_toEnd (a0_0, a0_1, a0_2, a0_3) a1) fun r1 =>
     Option.bind (loopF impl_RunOf_l7 (a1, (a0_0, a0_1, a0_2, a0_3, ()), r0, (List.take (List.length r1) (List.drop 0 r1)), (List.take 0 (List.drop 0 [])), a0_1, (((List.length a0_1) : Nat) : Int), 0, ())) fun (r2, (r3, r4, r5, r6, _), r7, r8, r9, _) =>
      Option.bind (loopF impl_RunOf_l13 (r2, (r3, r4, r5, r6, ()), r7, (List.take (List.length r8) (List.drop 0 r8)), (List.take (List.length r9) (List.drop 0 r9)), (((ByteArray.size r2) : Nat) : Int), 0, ())) fun (r10, _) =>
       some ((List.take (List.length r10) (List.drop 0 r10)), true)
def A7 : FnA := ⟨[.v kA, .v .str], true, [.sl i6, .bool], fun x => impl_RunOf x.1 x.2.1⟩
theorem A7_ok : FnOk prog 7 A7 := fo (L := L7_3) (by kernel_rfl) func7 E7_ok (allCons (loop7_7 rfl) (allCons (loop7_13 rfl) allNil))
end
end Go.Proofs.YtbndfclpclifbaaGreatDoor
