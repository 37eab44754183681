/- What Go functions that the laws reach compute, and that they do: written by a program of this session. -/
import Derived.Test.YtogigagfgkfkhaaGreatG0
import Derived.Test.YtogigagfgkfkhaaGreatSort
import Derived.KernelRfl
set_option linter.unusedVariables false
namespace Go.Proofs.YtogigagfgkfkhaaGreat
open Go Go.Proofs.YtogigagfgkfkhaaGreat.Am Go.Proofs.Tryz
set_option maxRecDepth 100000
noncomputable section
def y0i : LI → Option ((LI × Int)) := fun a0 =>
 bif (decide ((((List.length a0) : Nat) : Int) > 2000)) then
  if (((0 : Int) ≤ 2000) ∧ ((2000 : Int) ≤ (((List.length a0) : Nat) : Int))) then
   some ((List.take ((Int.toNat 2000) - 0) (List.drop 0 a0)), 0)
  else
   none
 else
  some (a0, 0)
def A13 : FnB := ⟨[.v (.sl (.int .u8))], .pair (.sl (.int .u8)) i6, fun x => y0i x.1⟩
theorem zg7 : fnBF E0 L0 [.v (.sl (.int .u8))] kR f13.ntmps f13.results.toList (yc4 f13) = fun x => y0i x.1 := by kernel_rfl
theorem A13_ok : FnBOk prog 13 A13 := by
 have h := zx5 (P := prog) (E := E0) (yb8 yg0) yh7 (L := L0) (ps := [.v (.sl (.int .u8))]) (k := .pair (.sl (.int .u8)) i6) func13 (c := yc4 f13) (by kernel_rfl) (ye8 (L := L0) (yb8 yg0) yh7 mixed (c := yc4 f13) (bs := []) (by kernel_rfl) ya0 (by kernel_rfl))
 rw [zg7] at h
 exact h
def yb3 : (LI × Int) → Int → Option ((Int) × ((LI × Int) × Unit)) := fun (a0_0, a0_1) a1 =>
 bif (decide (a1 < 1)) then
  some ((0 : Int), (a0_0, (IntKind.wrap .i64 (a0_1 + 1))), ())
 else
  bif ((((List.length a0_0) : Nat) : Int) == 0) then
   some ((0 : Int), (a0_0, (IntKind.wrap .i64 (a0_1 + 1))), ())
  else
   bif (decide ((IntKind.wrap .i64 ((IntKind.wrap .i64 (a0_1 + 1)) - 1)) < (((List.length a0_0) : Nat) : Int))) then
    if (((0 : Int) ≤ (IntKind.wrap .i64 ((IntKind.wrap .i64 (a0_1 + 1)) - 1))) ∧ ((IntKind.wrap .i64 ((IntKind.wrap .i64 (a0_1 + 1)) - 1)) < (((List.length a0_0) : Nat) : Int))) then
     if (a1 = 0) then
      none
     else
      some ((Int.tmod (IntKind.wrap .i64 (List.getD a0_0 (Int.toNat (IntKind.wrap .i64 ((IntKind.wrap .i64 (a0_1 + 1)) - 1))) 0)) a1), (a0_0, (IntKind.wrap .i64 (a0_1 + 1))), ())
    else
     none
   else
    if ((((List.length a0_0) : Nat) : Int) = 0) then
     none
    else
     if (((0 : Int) ≤ (Int.tmod (IntKind.wrap .i64 ((IntKind.wrap .i64 (a0_1 + 1)) - 1)) (((List.length a0_0) : Nat) : Int))) ∧ ((Int.tmod (IntKind.wrap .i64 ((IntKind.wrap .i64 (a0_1 + 1)) - 1)) (((List.length a0_0) : Nat) : Int)) < (((List.length a0_0) : Nat) : Int))) then
      if ((((List.length a0_0) : Nat) : Int) = 0) then
       none
      else
       if (((0 : Int) ≤ (Int.tmod (IntKind.wrap .i64 ((IntKind.wrap .i64 ((IntKind.wrap .i64 ((IntKind.wrap .i64 (a0_1 + 1)) - 1)) * 7)) + 3)) (((List.length a0_0) : Nat) : Int))) ∧ ((Int.tmod (IntKind.wrap .i64 ((IntKind.wrap .i64 ((IntKind.wrap .i64 ((IntKind.wrap .i64 (a0_1 + 1)) - 1)) * 7)) + 3)) (((List.length a0_0) : Nat) : Int)) < (((List.length a0_0) : Nat) : Int))) then
        if ((((List.length a0_0) : Nat) : Int) = 0) then
         none
        else
         if ((64 : Int) = 0) then
          none
         else
          if (a1 = 0) then
           none
          else
           some ((Int.tmod (Decidable.rec (fun y0 => ((((BitVec.toNat ((BitVec.ofInt (IntKind.bits .i64) (IntKind.wrap .i64 ((IntKind.wrap .i64 ((IntKind.wrap .i64 ((IntKind.wrap .i64 ((IntKind.wrap .i64 (List.getD a0_0 (Int.toNat (Int.tmod (IntKind.wrap .i64 ((IntKind.wrap .i64 (a0_1 + 1)) - 1)) (((List.length a0_0) : Nat) : Int))) 0)) * 131)) + (IntKind.wrap .i64 ((IntKind.wrap .i64 (List.getD a0_0 (Int.toNat (Int.tmod (IntKind.wrap .i64 ((IntKind.wrap .i64 ((IntKind.wrap .i64 ((IntKind.wrap .i64 (a0_1 + 1)) - 1)) * 7)) + 3)) (((List.length a0_0) : Nat) : Int))) 0)) * 1117)))) + (IntKind.wrap .i64 ((IntKind.wrap .i64 ((IntKind.wrap .i64 (a0_1 + 1)) - 1)) * 29)))) + (IntKind.wrap .i64 ((IntKind.wrap .i64 (Int.tdiv (IntKind.wrap .i64 ((IntKind.wrap .i64 (a0_1 + 1)) - 1)) (((List.length a0_0) : Nat) : Int))) * 53))))) ^^^ (BitVec.ofInt (IntKind.bits .i64) (IntKind.wrap .i64 (Int.tdiv (IntKind.wrap .i64 ((IntKind.wrap .i64 ((IntKind.wrap .i64 ((IntKind.wrap .i64 ((IntKind.wrap .i64 (List.getD a0_0 (Int.toNat (Int.tmod (IntKind.wrap .i64 ((IntKind.wrap .i64 (a0_1 + 1)) - 1)) (((List.length a0_0) : Nat) : Int))) 0)) * 131)) + (IntKind.wrap .i64 ((IntKind.wrap .i64 (List.getD a0_0 (Int.toNat (Int.tmod (IntKind.wrap .i64 ((IntKind.wrap .i64 ((IntKind.wrap .i64 ((IntKind.wrap .i64 (a0_1 + 1)) - 1)) * 7)) + 3)) (((List.length a0_0) : Nat) : Int))) 0)) * 1117)))) + (IntKind.wrap .i64 ((IntKind.wrap .i64 ((IntKind.wrap .i64 (a0_1 + 1)) - 1)) * 29)))) + (IntKind.wrap .i64 ((IntKind.wrap .i64 (Int.tdiv (IntKind.wrap .i64 ((IntKind.wrap .i64 (a0_1 + 1)) - 1)) (((List.length a0_0) : Nat) : Int))) * 53)))) 64))))) : Nat) : Int) % ((2 : Int) ^ (IntKind.bits .i64)))) (fun y1 => (((((BitVec.toNat ((BitVec.ofInt (IntKind.bits .i64) (IntKind.wrap .i64 ((IntKind.wrap .i64 ((IntKind.wrap .i64 ((IntKind.wrap .i64 ((IntKind.wrap .i64 (List.getD a0_0 (Int.toNat (Int.tmod (IntKind.wrap .i64 ((IntKind.wrap .i64 (a0_1 + 1)) - 1)) (((List.length a0_0) : Nat) : Int))) 0)) * 131)) + (IntKind.wrap .i64 ((IntKind.wrap .i64 (List.getD a0_0 (Int.toNat (Int.tmod (IntKind.wrap .i64 ((IntKind.wrap .i64 ((IntKind.wrap .i64 ((IntKind.wrap .i64 (a0_1 + 1)) - 1)) * 7)) + 3)) (((List.length a0_0) : Nat) : Int))) 0)) * 1117)))) + (IntKind.wrap .i64 ((IntKind.wrap .i64 ((IntKind.wrap .i64 (a0_1 + 1)) - 1)) * 29)))) + (IntKind.wrap .i64 ((IntKind.wrap .i64 (Int.tdiv (IntKind.wrap .i64 ((IntKind.wrap .i64 (a0_1 + 1)) - 1)) (((List.length a0_0) : Nat) : Int))) * 53))))) ^^^ (BitVec.ofInt (IntKind.bits .i64) (IntKind.wrap .i64 (Int.tdiv (IntKind.wrap .i64 ((IntKind.wrap .i64 ((IntKind.wrap .i64 ((IntKind.wrap .i64 ((IntKind.wrap .i64 (List.getD a0_0 (Int.toNat (Int.tmod (IntKind.wrap .i64 ((IntKind.wrap .i64 (a0_1 + 1)) - 1)) (((List.length a0_0) : Nat) : Int))) 0)) * 131)) + (IntKind.wrap .i64 ((IntKind.wrap .i64 (List.getD a0_0 (Int.toNat (Int.tmod (IntKind.wrap .i64 ((IntKind.wrap .i64 ((IntKind.wrap .i64 ((IntKind.wrap .i64 (a0_1 + 1)) - 1)) * 7)) + 3)) (((List.length a0_0) : Nat) : Int))) 0)) * 1117)))) + (IntKind.wrap .i64 ((IntKind.wrap .i64 ((IntKind.wrap .i64 (a0_1 + 1)) - 1)) * 29)))) + (IntKind.wrap .i64 ((IntKind.wrap .i64 (Int.tdiv (IntKind.wrap .i64 ((IntKind.wrap .i64 (a0_1 + 1)) - 1)) (((List.length a0_0) : Nat) : Int))) * 53)))) 64))))) : Nat) : Int) % ((2 : Int) ^ (IntKind.bits .i64))) - ((2 : Int) ^ (IntKind.bits .i64)))) (instDecidableEqBool ((IntKind.signed .i64) && (decide (((((BitVec.toNat ((BitVec.ofInt (IntKind.bits .i64) (IntKind.wrap .i64 ((IntKind.wrap .i64 ((IntKind.wrap .i64 ((IntKind.wrap .i64 ((IntKind.wrap .i64 (List.getD a0_0 (Int.toNat (Int.tmod (IntKind.wrap .i64 ((IntKind.wrap .i64 (a0_1 + 1)) - 1)) (((List.length a0_0) : Nat) : Int))) 0)) * 131)) + (IntKind.wrap .i64 ((IntKind.wrap .i64 (List.getD a0_0 (Int.toNat (Int.tmod (IntKind.wrap .i64 ((IntKind.wrap .i64 ((IntKind.wrap .i64 ((IntKind.wrap .i64 (a0_1 + 1)) - 1)) * 7)) + 3)) (((List.length a0_0) : Nat) : Int))) 0)) * 1117)))) + (IntKind.wrap .i64 ((IntKind.wrap .i64 ((IntKind.wrap .i64 (a0_1 + 1)) - 1)) * 29)))) + (IntKind.wrap .i64 ((IntKind.wrap .i64 (Int.tdiv (IntKind.wrap .i64 ((IntKind.wrap .i64 (a0_1 + 1)) - 1)) (((List.length a0_0) : Nat) : Int))) * 53))))) ^^^ (BitVec.ofInt (IntKind.bits .i64) (IntKind.wrap .i64 (Int.tdiv (IntKind.wrap .i64 ((IntKind.wrap .i64 ((IntKind.wrap .i64 ((IntKind.wrap .i64 ((IntKind.wrap .i64 (List.getD a0_0 (Int.toNat (Int.tmod (IntKind.wrap .i64 ((IntKind.wrap .i64 (a0_1 + 1)) - 1)) (((List.length a0_0) : Nat) : Int))) 0)) * 131)) + (IntKind.wrap .i64 ((IntKind.wrap .i64 (List.getD a0_0 (Int.toNat (Int.tmod (IntKind.wrap .i64 ((IntKind.wrap .i64 ((IntKind.wrap .i64 ((IntKind.wrap .i64 (a0_1 + 1)) - 1)) * 7)) + 3)) (((List.length a0_0) : Nat) : Int))) 0)) * 1117)))) + (IntKind.wrap .i64 ((IntKind.wrap .i64 ((IntKind.wrap .i64 (a0_1 + 1)) - 1)) * 29)))) + (IntKind.wrap .i64 ((IntKind.wrap .i64 (Int.tdiv (IntKind.wrap .i64 ((IntKind.wrap .i64 (a0_1 + 1)) - 1)) (((List.length a0_0) : Nat) : Int))) * 53)))) 64))))) : Nat) : Int) % ((2 : Int) ^ (IntKind.bits .i64))) ≥ ((2 : Int) ^ ((IntKind.bits .i64) - 1))))) true)) a1), (a0_0, (IntKind.wrap .i64 (a0_1 + 1))), ())
       else
        none
     else
      none
def A32 : FnM := ⟨[.bx kR, .v i6], true, [.int .i64], none, fun x => yb3 x.1 x.2.1⟩
theorem zo2 : y69 prog 32 A32 := fm (L := L0) (by kernel_rfl) func32 yh7 ya0
def z8l : List Fm := .cell (.val .str) :: .cell (.val (.int .u8)) :: d :: d :: d :: .cell (.own .str 100500 false) :: .cell (.val i6) :: .cell (.val i6) :: D 28 []
def z8m : List (Ex × List Fm) := [(.exit 0, (D 5 (.cell (.own .str 100500 false) :: D 30 [])))]
def yl8 : (ByteArray × Int × (List ByteArray) × Int × Int × Unit) → Option ((ByteArray × Int × (List ByteArray) × Int × Int × Unit) ⊕ (((List ByteArray) × Unit))) := fun (v0, v1, v5, v6, v7, _) =>
 bif (decide (v7 ≤ (((ByteArray.size v0) : Nat) : Int))) then
  bif (v7 == (((ByteArray.size v0) : Nat) : Int)) then
   if (((0 : Int) ≤ v6) ∧ ((v6 ≤ v7) ∧ (v7 ≤ (((ByteArray.size v0) : Nat) : Int)))) then
    if (((0 + (List.length v5)) = (List.length v5)) ∧ ((((List.length v5) + (List.length (List.take 1 (List.drop 0 [(ByteArray.extract v0 (Int.toNat v6) (Int.toNat v7))])))) * 16) ≤ 140737488355328)) then
     some (Sum.inl (v0, v1, (List.take ((List.length v5) + (List.length (List.take 1 (List.drop 0 [(ByteArray.extract v0 (Int.toNat v6) (Int.toNat v7))])))) (List.drop 0 ((List.drop 0 v5) ++ (List.take 1 (List.drop 0 [(ByteArray.extract v0 (Int.toNat v6) (Int.toNat v7))]))))), (IntKind.wrap .i64 (v7 + 1)), (IntKind.wrap .i64 (v7 + 1)), ()))
    else
     none
   else
    none
  else
   if (((0 : Int) ≤ v7) ∧ (v7 < (((ByteArray.size v0) : Nat) : Int))) then
    bif ((((UInt8.toNat (Array.getD (ByteArray.data v0) (Int.toNat v7) (0 : UInt8))) : Nat) : Int) == v1) then
     if (((0 : Int) ≤ v6) ∧ ((v6 ≤ v7) ∧ (v7 ≤ (((ByteArray.size v0) : Nat) : Int)))) then
      if (((0 + (List.length v5)) = (List.length v5)) ∧ ((((List.length v5) + (List.length (List.take 1 (List.drop 0 [(ByteArray.extract v0 (Int.toNat v6) (Int.toNat v7))])))) * 16) ≤ 140737488355328)) then
       some (Sum.inl (v0, v1, (List.take ((List.length v5) + (List.length (List.take 1 (List.drop 0 [(ByteArray.extract v0 (Int.toNat v6) (Int.toNat v7))])))) (List.drop 0 ((List.drop 0 v5) ++ (List.take 1 (List.drop 0 [(ByteArray.extract v0 (Int.toNat v6) (Int.toNat v7))]))))), (IntKind.wrap .i64 (v7 + 1)), (IntKind.wrap .i64 (v7 + 1)), ()))
      else
       none
     else
      none
    else
     some (Sum.inl (v0, v1, (List.take (List.length v5) (List.drop 0 v5)), v6, (IntKind.wrap .i64 (v7 + 1)), ()))
   else
    none
 else
  some (Sum.inr ((List.take (List.length v5) (List.drop 0 v5)), ()))
theorem z8n {L} (h : L 4 = some ⟨36, z8l, z8m, yl8⟩) : yc0 prog L (ya8 f131 4) := lo (L' := L0) (by kernel_rfl) yh7 ya0 h
def L131_1 : Nat → Option LoopD := fun n => ifEq n 4 (some ⟨36, z8l, z8m, yl8⟩) (L0 n)
def ys2 : ByteArray → Int → Option ((List ByteArray)) := fun a0 a1 =>
 Option.bind (ya2 yl8 (a0, a1, (List.take 0 (List.drop 0 [])), 0, 0, ())) fun (r0, _) =>
  some (List.take (List.length r0) (List.drop 0 r0))
def A131 : FnA := ⟨[.v .str, .v (.int .u8)], true, [.sl .str], fun x => ys2 x.1 x.2.1⟩
theorem z8o : FnOk prog 131 A131 := fo (L := L131_1) (by kernel_rfl) func131 yh7 (ya9 (z8n rfl) ya0)
def z8p : List Fm := .cell (.val .str) :: d :: d :: d :: .cell (.val .bool) :: .cell (.val i6) :: .cell (.val i6) :: D 60 []
def z8q : List (Ex × List Fm) := [(.ret, (d :: d :: .cell (.val i6) :: .cell (.val .bool) :: D 63 [])), (.exit 0, (D 4 (.cell (.val .bool) :: .cell (.val i6) :: D 61 [])))]
def yd2 : (ByteArray × Bool × Int × Int × Unit) → Option ((ByteArray × Bool × Int × Int × Unit) ⊕ ((Int × Bool × Unit) ⊕ (Bool × Int × Unit))) := fun (v0, v4, v5, v6, _) =>
 bif (decide (v6 < (((ByteArray.size v0) : Nat) : Int))) then
  if (((0 : Int) ≤ v6) ∧ (v6 < (((ByteArray.size v0) : Nat) : Int))) then
   bif (decide ((((UInt8.toNat (Array.getD (ByteArray.data v0) (Int.toNat v6) (0 : UInt8))) : Nat) : Int) < 48)) then
    some (Sum.inr (Sum.inl ((0 : Int), false, ())))
   else
    if (((0 : Int) ≤ v6) ∧ (v6 < (((ByteArray.size v0) : Nat) : Int))) then
     bif (decide ((((UInt8.toNat (Array.getD (ByteArray.data v0) (Int.toNat v6) (0 : UInt8))) : Nat) : Int) > 57)) then
      some (Sum.inr (Sum.inl ((0 : Int), false, ())))
     else
      if (((0 : Int) ≤ v6) ∧ (v6 < (((ByteArray.size v0) : Nat) : Int))) then
       some (Sum.inl (v0, v4, (IntKind.wrap .i64 ((IntKind.wrap .i64 (v5 * 10)) + (IntKind.wrap .i64 (IntKind.wrap .u8 ((((UInt8.toNat (Array.getD (ByteArray.data v0) (Int.toNat v6) (0 : UInt8))) : Nat) : Int) - 48))))), (IntKind.wrap .i64 (v6 + 1)), ()))
      else
       none
    else
     none
  else
   none
 else
  some (Sum.inr (Sum.inr (v4, v5, ())))
theorem z8r {L} (h : L 8 = some ⟨67, z8p, z8q, yd2⟩) : yc0 prog L (ya8 f132 8) := lo (L' := L0) (by kernel_rfl) yh7 ya0 h
def L132_1 : Nat → Option LoopD := fun n => ifEq n 8 (some ⟨67, z8p, z8q, yd2⟩) (L0 n)
def ys3 : ByteArray → Option (Int × Bool) := fun a0 =>
 bif (decide ((((ByteArray.size a0) : Nat) : Int) > 0)) then
  if (((0 : Int) ≤ 0) ∧ ((0 : Int) < (((ByteArray.size a0) : Nat) : Int))) then
   bif ((((UInt8.toNat (Array.getD (ByteArray.data a0) (Int.toNat 0) (0 : UInt8))) : Nat) : Int) == 45) then
    if (((0 : Int) ≤ 1) ∧ ((1 : Int) ≤ (((ByteArray.size a0) : Nat) : Int))) then
     bif ((((ByteArray.size (ByteArray.extract a0 (Int.toNat 1) (ByteArray.size a0))) : Nat) : Int) == 0) then
      some ((0 : Int), false)
     else
      bif (decide ((((ByteArray.size (ByteArray.extract a0 (Int.toNat 1) (ByteArray.size a0))) : Nat) : Int) > 17)) then
       some ((0 : Int), false)
      else
       if (((0 : Int) ≤ 0) ∧ ((0 : Int) < (((ByteArray.size (ByteArray.extract a0 (Int.toNat 1) (ByteArray.size a0))) : Nat) : Int))) then
        bif ((((UInt8.toNat (Array.getD (ByteArray.data (ByteArray.extract a0 (Int.toNat 1) (ByteArray.size a0))) (Int.toNat 0) (0 : UInt8))) : Nat) : Int) == 48) then
         bif (decide ((((ByteArray.size (ByteArray.extract a0 (Int.toNat 1) (ByteArray.size a0))) : Nat) : Int) > 1)) then
          some ((0 : Int), false)
         else
          bif ((((UInt8.toNat (Array.getD (ByteArray.data a0) (Int.toNat 0) (0 : UInt8))) : Nat) : Int) == 45) then
           some ((0 : Int), false)
          else
           Option.bind (ya2 yd2 ((ByteArray.extract a0 (Int.toNat 1) (ByteArray.size a0)), ((((UInt8.toNat (Array.getD (ByteArray.data a0) (Int.toNat 0) (0 : UInt8))) : Nat) : Int) == 45), 0, 0, ())) fun r0 =>
            (match r0 with
            | .inl (d1, d2, _) =>
              some (d1, d2)
            | .inr (d3, d4, _) =>
              bif d3 then
               some ((IntKind.wrap .i64 ((0 : Int) - d4)), true)
              else
               some (d4, true))
        else
         Option.bind (ya2 yd2 ((ByteArray.extract a0 (Int.toNat 1) (ByteArray.size a0)), ((((UInt8.toNat (Array.getD (ByteArray.data a0) (Int.toNat 0) (0 : UInt8))) : Nat) : Int) == 45), 0, 0, ())) fun r5 =>
          (match r5 with
          | .inl (d6, d7, _) =>
            some (d6, d7)
          | .inr (d8, d9, _) =>
            bif d8 then
             some ((IntKind.wrap .i64 ((0 : Int) - d9)), true)
            else
             some (d9, true))
       else
        none
    else
     none
   else
    bif ((((ByteArray.size a0) : Nat) : Int) == 0) then
     some ((0 : Int), false)
    else
     bif (decide ((((ByteArray.size a0) : Nat) : Int) > 17)) then
      some ((0 : Int), false)
     else
      if (((0 : Int) ≤ 0) ∧ ((0 : Int) < (((ByteArray.size a0) : Nat) : Int))) then
       bif ((((UInt8.toNat (Array.getD (ByteArray.data a0) (Int.toNat 0) (0 : UInt8))) : Nat) : Int) == 48) then
        bif (decide ((((ByteArray.size a0) : Nat) : Int) > 1)) then
         some ((0 : Int), false)
        else
         bif ((((UInt8.toNat (Array.getD (ByteArray.data a0) (Int.toNat 0) (0 : UInt8))) : Nat) : Int) == 45) then
          some ((0 : Int), false)
         else
          Option.bind (ya2 yd2 (a0, ((((UInt8.toNat (Array.getD (ByteArray.data a0) (Int.toNat 0) (0 : UInt8))) : Nat) : Int) == 45), 0, 0, ())) fun r10 =>
           (match r10 with
           | .inl (d11, d12, _) =>
             some (d11, d12)
           | .inr (d13, d14, _) =>
             bif d13 then
              some ((IntKind.wrap .i64 ((0 : Int) - d14)), true)
             else
              some (d14, true))
       else
        Option.bind (ya2 yd2 (a0, ((((UInt8.toNat (Array.getD (ByteArray.data a0) (Int.toNat 0) (0 : UInt8))) : Nat) : Int) == 45), 0, 0, ())) fun r15 =>
         (match r15 with
         | .inl (d16, d17, _) =>
           some (d16, d17)
         | .inr (d18, d19, _) =>
           bif d18 then
            some ((IntKind.wrap .i64 ((0 : Int) - d19)), true)
           else
            some (d19, true))
      else
       none
  else
   none
 else
  bif ((((ByteArray.size a0) : Nat) : Int) == 0) then
   some ((0 : Int), false)
  else
   bif (decide ((((ByteArray.size a0) : Nat) : Int) > 17)) then
    some ((0 : Int), false)
   else
    if (((0 : Int) ≤ 0) ∧ ((0 : Int) < (((ByteArray.size a0) : Nat) : Int))) then
     bif ((((UInt8.toNat (Array.getD (ByteArray.data a0) (Int.toNat 0) (0 : UInt8))) : Nat) : Int) == 48) then
      bif (decide ((((ByteArray.size a0) : Nat) : Int) > 1)) then
       some ((0 : Int), false)
      else
       Option.bind (ya2 yd2 (a0, false, 0, 0, ())) fun r20 =>
        (match r20 with
        | .inl (d21, d22, _) =>
          some (d21, d22)
        | .inr (d23, d24, _) =>
          bif d23 then
           some ((IntKind.wrap .i64 ((0 : Int) - d24)), true)
          else
           some (d24, true))
     else
      Option.bind (ya2 yd2 (a0, false, 0, 0, ())) fun r25 =>
       (match r25 with
       | .inl (d26, d27, _) =>
         some (d26, d27)
       | .inr (d28, d29, _) =>
         bif d28 then
          some ((IntKind.wrap .i64 ((0 : Int) - d29)), true)
         else
          some (d29, true))
    else
     none
def A132 : FnA := ⟨[.v .str], true, [.int .i64, .bool], fun x => ys3 x.1⟩
theorem z8s : FnOk prog 132 A132 := fo (L := L132_1) (by kernel_rfl) func132 yh7 (ya9 (z8r rfl) ya0)
def E133 : Env := ev fun g => ifEq g 131 (some A131) (ifEq g 132 (some A132) (none))
theorem z8t : FnsOk prog E133 := (oF z8o func131 (oF z8s func132 (ye2 _ _)))
def z8u : List Fm := D 4 (.cell (.own i6 100400 false) :: D 9 (.cell (.own .str 101400 false) :: .cell (.val i6) :: .cell (.val i6) :: D 17 []))
def z8v : List (Ex × List Fm) := [(.ret, (d :: d :: .cell (.own i6 100200 false) :: .cell (.val .bool) :: D 30 [])), (.exit 0, (D 4 (.cell (.own i6 100400 false) :: D 29 [])))]
def yo6 : (LI × (List ByteArray) × Int × Int × Unit) → Option ((LI × (List ByteArray) × Int × Int × Unit) ⊕ ((LI × Bool × Unit) ⊕ (LI × Unit))) := fun (v4, v14, v15, v16, _) =>
 bif (decide (v16 < v15)) then
  if (((0 : Int) ≤ v16) ∧ (v16 < (((List.length v14) : Nat) : Int))) then
   Option.bind (ys3 (List.getD v14 (0 + (Int.toNat v16)) ⟨Array.empty⟩)) fun (r0, r1) =>
    bif (!r1) then
     some (Sum.inr (Sum.inl ((List.take 0 (List.drop 0 [])), false, ())))
    else
     if (((0 + (List.length v4)) = (List.length v4)) ∧ ((((List.length v4) + (List.length (List.take 1 (List.drop 0 [r0])))) * 8) ≤ 140737488355328)) then
      some (Sum.inl ((List.take ((List.length v4) + (List.length (List.take 1 (List.drop 0 [r0])))) (List.drop 0 ((List.drop 0 v4) ++ (List.take 1 (List.drop 0 [r0]))))), (List.take (List.length v14) (List.drop 0 v14)), v15, (IntKind.wrap .i64 (v16 + 1)), ()))
     else
      none
  else
   none
 else
  some (Sum.inr (Sum.inr ((List.take (List.length v4) (List.drop 0 v4)), ())))
theorem z8w {L} (h : L 5 = some ⟨34, z8u, z8v, yo6⟩) : yc0 prog L (ya8 f133 5) := lo (L' := L0) (by kernel_rfl) z8t ya0 h
def L133_1 : Nat → Option LoopD := fun n => ifEq n 5 (some ⟨34, z8u, z8v, yo6⟩) (L0 n)
def y1x : ByteArray → Option (LI × Bool) := fun a0 =>
 bif ((ByteArray.toList a0) == (ByteArray.toList (⟨#[]⟩ : ByteArray))) then
  some ((List.take 0 (List.drop 0 [])), true)
 else
  Option.bind (ys2 a0 32) fun r0 =>
   Option.bind (ya2 yo6 ((List.take 0 (List.drop 0 [])), (List.take (List.length r0) (List.drop 0 r0)), (((List.length r0) : Nat) : Int), 0, ())) fun r1 =>
    (match r1 with
    | .inl (d2, d3, _) =>
      some ((List.take (List.length d2) (List.drop 0 d2)), d3)
    | .inr (d4, _) =>
      some ((List.take (List.length d4) (List.drop 0 d4)), true))
def A133 : FnA := ⟨[.v .str], true, [.sl i6, .bool], fun x => y1x x.1⟩
theorem A133_ok : FnOk prog 133 A133 := fo (L := L133_1) (by kernel_rfl) func133 z8t (ya9 (z8w rfl) ya0)
def yu7 : Int → Int → Int → Option (Bool) := fun a0 a1 a2 =>
 bif (decide (a0 ≥ a1)) then
  some (decide (a0 ≤ a2))
 else
  some false
def A68 : FnA := ⟨[.v i6, .v i6, .v i6], true, [.bool], fun x => yu7 x.1 x.2.1 x.2.2.1⟩
theorem z3v : FnOk prog 68 A68 := fo (L := L0) (by kernel_rfl) func68 yh7 ya0
def E96 : Env := ev fun g => ifEq g 68 (some A68) (none)
theorem E96_ok : FnsOk prog E96 := (oF z3v func68 (ye2 _ _))
def sh96_2 : List Fm := .cell (.val i6) :: .cell (.val sI) :: D 5 (.cell (.val sI) :: .cell (.val i6) :: .cell (.val i6) :: D 23 [])
def xs96_2 : List (Ex × List Fm) := [(.ret, (D 4 (.cell (.val .bool) :: D 28 []))), (.exit 0, (D 33 []))]
def yp2 : (Int × LI × LI × Int × Int × Unit) → Option ((Int × LI × LI × Int × Int × Unit) ⊕ ((Bool × Unit) ⊕ (Unit))) := fun (v0, v1, v7, v8, v9, _) =>
 bif (decide (v9 < v8)) then
  if (((0 : Int) ≤ v9) ∧ (v9 < (((List.length v7) : Nat) : Int))) then
   Option.bind (yu7 (List.getD v7 (Int.toNat v9) 0) 0 (IntKind.wrap .i64 (v0 - 1))) fun r0 =>
    bif (!r0) then
     some (Sum.inr (Sum.inl (false, ())))
    else
     bif (decide (v9 > 0)) then
      if (((0 : Int) ≤ (IntKind.wrap .i64 (v9 - 1))) ∧ ((IntKind.wrap .i64 (v9 - 1)) < (((List.length v1) : Nat) : Int))) then
       bif (decide ((List.getD v1 (Int.toNat (IntKind.wrap .i64 (v9 - 1))) 0) ≥ (List.getD v7 (Int.toNat v9) 0))) then
        some (Sum.inr (Sum.inl (false, ())))
       else
        some (Sum.inl (v0, v1, v7, v8, (IntKind.wrap .i64 (v9 + 1)), ()))
      else
       none
     else
      some (Sum.inl (v0, v1, v7, v8, (IntKind.wrap .i64 (v9 + 1)), ()))
  else
   none
 else
  some (Sum.inr (Sum.inr ()))
theorem kh9 {L} (h : L 2 = some ⟨33, sh96_2, xs96_2, yp2⟩) : yc0 prog L (ya8 f96 2) := lo (L' := L0) (by kernel_rfl) E96_ok ya0 h
def L96_1 : Nat → Option LoopD := fun n => ifEq n 2 (some ⟨33, sh96_2, xs96_2, yp2⟩) (L0 n)
def y0j : Int → LI → Option (Bool) := fun a0 a1 =>
 Option.bind (ya2 yp2 (a0, a1, a1, (((List.length a1) : Nat) : Int), 0, ())) fun r0 =>
  (match r0 with
  | .inl (d1, _) =>
    some d1
  | .inr _ =>
    some true)
def A96 : FnA := ⟨[.v i6, .v sI], true, [.bool], fun x => y0j x.1 x.2.1⟩
theorem A96_ok : FnOk prog 96 A96 := fo (L := L96_1) (by kernel_rfl) func96 E96_ok (ya9 (kh9 rfl) ya0)
def E97 : Env := ev fun g => ifEq g 68 (some A68) (none)
theorem E97_ok : FnsOk prog E97 := (oF z3v func68 (ye2 _ _))
def y31 : Int → TS → Option (Bool) := fun a0 (a1_0, a1_1, a1_2, a1_3) =>
 Option.bind (yu7 a1_0 0 (IntKind.wrap .i64 (a0 - 1))) fun r0 =>
  bif r0 then
   Option.bind (yu7 a1_2 0 (IntKind.wrap .i64 (a0 - 1))) fun r1 =>
    bif r1 then
     Option.bind (yu7 a1_3 0 3) fun r2 =>
      bif r2 then
       bif ((ByteArray.toList a1_1) == (ByteArray.toList (⟨#[(97 : UInt8)]⟩ : ByteArray))) then
        some true
       else
        some ((ByteArray.toList a1_1) == (ByteArray.toList (⟨#[(98 : UInt8)]⟩ : ByteArray)))
      else
       some false
    else
     some false
  else
   some false
def A97 : FnA := ⟨[.v i6, .v kS], true, [.bool], fun x => y31 x.1 x.2.1⟩
theorem A97_ok : FnOk prog 97 A97 := fo (L := L0) (by kernel_rfl) func97 E97_ok ya0
def yt2 : TS → TS → Option (Bool) := fun (a0_0, a0_1, a0_2, a0_3) (a1_0, a1_1, a1_2, a1_3) =>
 bif (a0_0 != a1_0) then
  some (decide (a0_0 < a1_0))
 else
  bif (!((ByteArray.toList a0_1) == (ByteArray.toList a1_1))) then
   some (Op.bytesLess (ByteArray.toList a0_1) (ByteArray.toList a1_1))
  else
   some (decide (a0_2 < a1_2))
def A69 : FnA := ⟨[.v kS, .v kS], true, [.bool], fun x => yt2 x.1 x.2.1⟩
theorem A69_ok : FnOk prog 69 A69 := fo (L := L0) (by kernel_rfl) func69 yh7 ya0
def E67 : Env := ev fun g => ifEq g 68 (some A68) (ifEq g 96 (some A96) (ifEq g 97 (some A97) (ifEq g 69 (some A69) (none))))
theorem E67_ok : FnsOk prog E67 := (oF z3v func68 (oF A96_ok func96 (oF A97_ok func97 (oF A69_ok func69 (ye2 _ _)))))
def sh67_4 : List Fm := d :: .box 100100 [.val i6, .val sI, .val sI, .val sS] :: D 30 (.cell (.val sS) :: .cell (.val i6) :: .cell (.val i6) :: D 25 [])
def xs67_4 : List (Ex × List Fm) := [(.ret, (d :: d :: .cell (.val .bool) :: D 57 [])), (.exit 0, (D 60 []))]
def yg4 : ((Int × LI × LI × LS × Unit) × LS × Int × Int × Unit) → Option (((Int × LI × LI × LS × Unit) × LS × Int × Int × Unit) ⊕ ((Bool × Unit) ⊕ (Unit))) := fun ((v1_0, v1_1, v1_2, v1_3, _), v32, v33, v34, _) =>
 bif (decide (v34 < v33)) then
  if (((0 : Int) ≤ v34) ∧ (v34 < (((List.length v32) : Nat) : Int))) then
   Option.bind (y31 v1_0 ((List.getD v32 (Int.toNat v34) ((0 : Int), ⟨Array.empty⟩, 0, 0)).1, (List.getD v32 (Int.toNat v34) ((0 : Int), ⟨Array.empty⟩, 0, 0)).2.1, (List.getD v32 (Int.toNat v34) ((0 : Int), ⟨Array.empty⟩, 0, 0)).2.2.1, (List.getD v32 (Int.toNat v34) ((0 : Int), ⟨Array.empty⟩, 0, 0)).2.2.2)) fun r0 =>
    bif (!r0) then
     some (Sum.inr (Sum.inl (false, ())))
    else
     bif (decide (v34 > 0)) then
      if (((0 : Int) ≤ (IntKind.wrap .i64 (v34 - 1))) ∧ ((IntKind.wrap .i64 (v34 - 1)) < (((List.length v1_3) : Nat) : Int))) then
       Option.bind (yt2 (List.getD v1_3 (Int.toNat (IntKind.wrap .i64 (v34 - 1))) ((0 : Int), ⟨Array.empty⟩, 0, 0)) ((List.getD v32 (Int.toNat v34) ((0 : Int), ⟨Array.empty⟩, 0, 0)).1, (List.getD v32 (Int.toNat v34) ((0 : Int), ⟨Array.empty⟩, 0, 0)).2.1, (List.getD v32 (Int.toNat v34) ((0 : Int), ⟨Array.empty⟩, 0, 0)).2.2.1, (List.getD v32 (Int.toNat v34) ((0 : Int), ⟨Array.empty⟩, 0, 0)).2.2.2)) fun r1 =>
        bif (!r1) then
         some (Sum.inr (Sum.inl (false, ())))
        else
         some (Sum.inl ((v1_0, v1_1, v1_2, v1_3, ()), v32, v33, (IntKind.wrap .i64 (v34 + 1)), ()))
      else
       none
     else
      some (Sum.inl ((v1_0, v1_1, v1_2, v1_3, ()), v32, v33, (IntKind.wrap .i64 (v34 + 1)), ()))
  else
   none
 else
  some (Sum.inr (Sum.inr ()))
theorem ki0 {L} (h : L 4 = some ⟨60, sh67_4, xs67_4, yg4⟩) : yc0 prog L (ya8 f67 4) := lo (L' := L0) (by kernel_rfl) E67_ok ya0 h
def L67_1 : Nat → Option LoopD := fun n => ifEq n 4 (some ⟨60, sh67_4, xs67_4, yg4⟩) (L0 n)
def yc2 : TA → Option (Bool) := fun (a0_0, a0_1, a0_2, a0_3) =>
 Option.bind (yu7 a0_0 1 4) fun r0 =>
  bif (!r0) then
   some false
  else
   Option.bind (y0j a0_0 a0_1) fun r1 =>
    bif (!r1) then
     some false
    else
     Option.bind (y0j a0_0 a0_2) fun r2 =>
      bif (!r2) then
       some false
      else
       bif (decide ((((List.length a0_3) : Nat) : Int) > 24)) then
        some false
       else
        Option.bind (ya2 yg4 ((a0_0, a0_1, a0_2, a0_3, ()), a0_3, (((List.length a0_3) : Nat) : Int), 0, ())) fun r3 =>
         (match r3 with
         | .inl (d4, _) =>
           some d4
         | .inr _ =>
           some true)
def A67 : FnA := ⟨[.v kA], true, [.bool], fun x => yc2 x.1⟩
theorem z3w : FnOk prog 67 A67 := fo (L := L67_1) (by kernel_rfl) func67 E67_ok (ya9 (ki0 rfl) ya0)
def E95 : Env := ev fun g => ifEq g 131 (some A131) (ifEq g 132 (some A132) (ifEq g 133 (some A133) (ifEq g 67 (some A67) (none))))
theorem E95_ok : FnsOk prog E95 := (oF z8o func131 (oF z8s func132 (oF A133_ok func133 (oF z3w func67 (ye2 _ _)))))
def z8x : List Fm := d :: d :: .box 100200 [.val i6, .own i6 100202 false, .own i6 100203 false, .own kS 100204 false] :: D 8 (.box 101100 [.val i6, .own i6 101102 false, .own i6 101103 false, .own kS 101104 false] :: .cell (.val .bool) :: D 54 (.cell (.own .str 106700 false) :: .cell (.val i6) :: .cell (.val i6) :: D 61 []))
def z8y : List (Ex × List Fm) := [(.ret, [d, d, .box 100200 [.val i6, .own i6 100202 false, .own i6 100203 false, .own kS 100204 false], .cell (.val .bool), d, d, d, d, d, d, d, d, d, d, d, d, d, d, d, d, d, d, d, d, d, d, d, d, d, d, d, d, d, d, d, d, d, d, d, d, d, d, d, d, d, d, d, d, d, d, d, d, d, d, d, d, d, d, d, d, d, d, d, d, d, d, d, d, d, d, d, d, d, d, d, d, d, d, d, d, d, d, d, d, d, d, d, d, d, d, d, d, d, d, d, d, d, d, d, d, d, d, d, d, d, d, d, d, d, d, d, d, d, d, d, d, d, d, d, d, d, d, d, d, d, d, d, d, d, d, d]), (.exit 0, [d, d, .box 100200 [.val i6, .own i6 100202 false, .own i6 100203 false, .own kS 100204 false], d, d, d, d, d, d, d, d, .box 101100 [.val i6, .own i6 101102 false, .own i6 101103 false, .own kS 101104 false], .cell (.val .bool), d, d, d, d, d, d, d, d, d, d, d, d, d, d, d, d, d, d, d, d, d, d, d, d, d, d, d, d, d, d, d, d, d, d, d, d, d, d, d, d, d, d, d, d, d, d, d, d, d, d, d, d, d, d, d, d, d, d, d, d, d, d, d, d, d, d, d, d, d, d, d, d, d, d, d, d, d, d, d, d, d, d, d, d, d, d, d, d, d, d, d, d, d, d, d, d, d, d, d, d, d, d, d, d, d, d, d, d, d, d, d, d, d, d, d, d, d, d])]
def yb4 : ((Int × LI × LI × LS × Unit) × (Int × LI × LI × LS × Unit) × Bool × (List ByteArray) × Int × Int × Unit) → Option (((Int × LI × LI × LS × Unit) × (Int × LI × LI × LS × Unit) × Bool × (List ByteArray) × Int × Int × Unit) ⊕ (((Int × LI × LI × LS × Unit) × Bool × Unit) ⊕ ((Int × LI × LI × LS × Unit) × (Int × LI × LI × LS × Unit) × Bool × Unit))) := fun ((v2_0, v2_1, v2_2, v2_3, _), (v11_0, v11_1, v11_2, v11_3, _), v12, v67, v68, v69, _) =>
 bif (decide (v69 < v68)) then
  if (((0 : Int) ≤ v69) ∧ (v69 < (((List.length v67) : Nat) : Int))) then
   bif ((((ByteArray.size (List.getD v67 (0 + (Int.toNat v69)) ⟨Array.empty⟩)) : Nat) : Int) != 5) then
    some (Sum.inr (Sum.inl (((0 : Int), [], [], [], ()), false, ())))
   else
    if (((0 : Int) ≤ 3) ∧ ((3 : Int) < (((ByteArray.size (List.getD v67 (0 + (Int.toNat v69)) ⟨Array.empty⟩)) : Nat) : Int))) then
     bif ((((UInt8.toNat (Array.getD (ByteArray.data (List.getD v67 (0 + (Int.toNat v69)) ⟨Array.empty⟩)) (Int.toNat 3) (0 : UInt8))) : Nat) : Int) != 58) then
      some (Sum.inr (Sum.inl (((0 : Int), [], [], [], ()), false, ())))
     else
      if (((0 : Int) ≤ 1) ∧ ((1 : Int) ≤ (((ByteArray.size (List.getD v67 (0 + (Int.toNat v69)) ⟨Array.empty⟩)) : Nat) : Int))) then
       Option.bind (ys3 (ByteArray.extract (List.getD v67 (0 + (Int.toNat v69)) ⟨Array.empty⟩) 0 (Int.toNat 1))) fun (r0, r1) =>
        if (((0 : Int) ≤ 2) ∧ (((2 : Int) ≤ 3) ∧ ((3 : Int) ≤ (((ByteArray.size (List.getD v67 (0 + (Int.toNat v69)) ⟨Array.empty⟩)) : Nat) : Int)))) then
         Option.bind (ys3 (ByteArray.extract (List.getD v67 (0 + (Int.toNat v69)) ⟨Array.empty⟩) (Int.toNat 2) (Int.toNat 3))) fun (r2, r3) =>
          if (((0 : Int) ≤ 4) ∧ ((4 : Int) ≤ (((ByteArray.size (List.getD v67 (0 + (Int.toNat v69)) ⟨Array.empty⟩)) : Nat) : Int))) then
           Option.bind (ys3 (ByteArray.extract (List.getD v67 (0 + (Int.toNat v69)) ⟨Array.empty⟩) (Int.toNat 4) (ByteArray.size (List.getD v67 (0 + (Int.toNat v69)) ⟨Array.empty⟩)))) fun (r4, r5) =>
            bif v12 then
             bif r1 then
              bif r3 then
               if (((0 : Int) ≤ 1) ∧ (((1 : Int) ≤ 2) ∧ ((2 : Int) ≤ (((ByteArray.size (List.getD v67 (0 + (Int.toNat v69)) ⟨Array.empty⟩)) : Nat) : Int)))) then
                if (((0 + (List.length v11_3)) = (List.length v11_3)) ∧ ((((List.length v11_3) + (List.length (List.take 1 (List.drop 0 [(r0, (ByteArray.extract (List.getD v67 (0 + (Int.toNat v69)) (⟨Array.empty⟩ : ByteArray)) (Int.toNat (1 : Int)) (Int.toNat (2 : Int))), r2, r4)])))) * 40) ≤ 140737488355328)) then
                 some (Sum.inl ((v2_0, (List.take (List.length v2_1) (List.drop 0 v2_1)), (List.take (List.length v2_2) (List.drop 0 v2_2)), (List.take (List.length v2_3) (List.drop 0 v2_3)), ()), (v11_0, (List.take (List.length v11_1) (List.drop 0 v11_1)), (List.take (List.length v11_2) (List.drop 0 v11_2)), (List.take ((List.length v11_3) + (List.length (List.take 1 (List.drop 0 [(r0, (ByteArray.extract (List.getD v67 (0 + (Int.toNat v69)) (⟨Array.empty⟩ : ByteArray)) (Int.toNat (1 : Int)) (Int.toNat (2 : Int))), r2, r4)])))) (List.drop 0 ((List.drop 0 v11_3) ++ (List.take 1 (List.drop 0 [(r0, (ByteArray.extract (List.getD v67 (0 + (Int.toNat v69)) (⟨Array.empty⟩ : ByteArray)) (Int.toNat (1 : Int)) (Int.toNat (2 : Int))), r2, r4)]))))), ()), r5, (List.take (List.length v67) (List.drop 0 v67)), v68, (IntKind.wrap .i64 (v69 + 1)), ()))
                else
                 none
               else
                none
              else
               if (((0 : Int) ≤ 1) ∧ (((1 : Int) ≤ 2) ∧ ((2 : Int) ≤ (((ByteArray.size (List.getD v67 (0 + (Int.toNat v69)) ⟨Array.empty⟩)) : Nat) : Int)))) then
                if (((0 + (List.length v11_3)) = (List.length v11_3)) ∧ ((((List.length v11_3) + (List.length (List.take 1 (List.drop 0 [(r0, (ByteArray.extract (List.getD v67 (0 + (Int.toNat v69)) (⟨Array.empty⟩ : ByteArray)) (Int.toNat (1 : Int)) (Int.toNat (2 : Int))), r2, r4)])))) * 40) ≤ 140737488355328)) then
                 some (Sum.inl ((v2_0, (List.take (List.length v2_1) (List.drop 0 v2_1)), (List.take (List.length v2_2) (List.drop 0 v2_2)), (List.take (List.length v2_3) (List.drop 0 v2_3)), ()), (v11_0, (List.take (List.length v11_1) (List.drop 0 v11_1)), (List.take (List.length v11_2) (List.drop 0 v11_2)), (List.take ((List.length v11_3) + (List.length (List.take 1 (List.drop 0 [(r0, (ByteArray.extract (List.getD v67 (0 + (Int.toNat v69)) (⟨Array.empty⟩ : ByteArray)) (Int.toNat (1 : Int)) (Int.toNat (2 : Int))), r2, r4)])))) (List.drop 0 ((List.drop 0 v11_3) ++ (List.take 1 (List.drop 0 [(r0, (ByteArray.extract (List.getD v67 (0 + (Int.toNat v69)) (⟨Array.empty⟩ : ByteArray)) (Int.toNat (1 : Int)) (Int.toNat (2 : Int))), r2, r4)]))))), ()), false, (List.take (List.length v67) (List.drop 0 v67)), v68, (IntKind.wrap .i64 (v69 + 1)), ()))
                else
                 none
               else
                none
             else
              if (((0 : Int) ≤ 1) ∧ (((1 : Int) ≤ 2) ∧ ((2 : Int) ≤ (((ByteArray.size (List.getD v67 (0 + (Int.toNat v69)) ⟨Array.empty⟩)) : Nat) : Int)))) then
               if (((0 + (List.length v11_3)) = (List.length v11_3)) ∧ ((((List.length v11_3) + (List.length (List.take 1 (List.drop 0 [(r0, (ByteArray.extract (List.getD v67 (0 + (Int.toNat v69)) (⟨Array.empty⟩ : ByteArray)) (Int.toNat (1 : Int)) (Int.toNat (2 : Int))), r2, r4)])))) * 40) ≤ 140737488355328)) then
                some (Sum.inl ((v2_0, (List.take (List.length v2_1) (List.drop 0 v2_1)), (List.take (List.length v2_2) (List.drop 0 v2_2)), (List.take (List.length v2_3) (List.drop 0 v2_3)), ()), (v11_0, (List.take (List.length v11_1) (List.drop 0 v11_1)), (List.take (List.length v11_2) (List.drop 0 v11_2)), (List.take ((List.length v11_3) + (List.length (List.take 1 (List.drop 0 [(r0, (ByteArray.extract (List.getD v67 (0 + (Int.toNat v69)) (⟨Array.empty⟩ : ByteArray)) (Int.toNat (1 : Int)) (Int.toNat (2 : Int))), r2, r4)])))) (List.drop 0 ((List.drop 0 v11_3) ++ (List.take 1 (List.drop 0 [(r0, (ByteArray.extract (List.getD v67 (0 + (Int.toNat v69)) (⟨Array.empty⟩ : ByteArray)) (Int.toNat (1 : Int)) (Int.toNat (2 : Int))), r2, r4)]))))), ()), false, (List.take (List.length v67) (List.drop 0 v67)), v68, (IntKind.wrap .i64 (v69 + 1)), ()))
               else
                none
              else
               none
            else
             if (((0 : Int) ≤ 1) ∧ (((1 : Int) ≤ 2) ∧ ((2 : Int) ≤ (((ByteArray.size (List.getD v67 (0 + (Int.toNat v69)) ⟨Array.empty⟩)) : Nat) : Int)))) then
              if (((0 + (List.length v11_3)) = (List.length v11_3)) ∧ ((((List.length v11_3) + (List.length (List.take 1 (List.drop 0 [(r0, (ByteArray.extract (List.getD v67 (0 + (Int.toNat v69)) (⟨Array.empty⟩ : ByteArray)) (Int.toNat (1 : Int)) (Int.toNat (2 : Int))), r2, r4)])))) * 40) ≤ 140737488355328)) then
               some (Sum.inl ((v2_0, (List.take (List.length v2_1) (List.drop 0 v2_1)), (List.take (List.length v2_2) (List.drop 0 v2_2)), (List.take (List.length v2_3) (List.drop 0 v2_3)), ()), (v11_0, (List.take (List.length v11_1) (List.drop 0 v11_1)), (List.take (List.length v11_2) (List.drop 0 v11_2)), (List.take ((List.length v11_3) + (List.length (List.take 1 (List.drop 0 [(r0, (ByteArray.extract (List.getD v67 (0 + (Int.toNat v69)) (⟨Array.empty⟩ : ByteArray)) (Int.toNat (1 : Int)) (Int.toNat (2 : Int))), r2, r4)])))) (List.drop 0 ((List.drop 0 v11_3) ++ (List.take 1 (List.drop 0 [(r0, (ByteArray.extract (List.getD v67 (0 + (Int.toNat v69)) (⟨Array.empty⟩ : ByteArray)) (Int.toNat (1 : Int)) (Int.toNat (2 : Int))), r2, r4)]))))), ()), false, (List.take (List.length v67) (List.drop 0 v67)), v68, (IntKind.wrap .i64 (v69 + 1)), ()))
              else
               none
             else
              none
          else
           none
        else
         none
      else
       none
    else
     none
  else
   none
 else
  some (Sum.inr (Sum.inr ((v2_0, (List.take (List.length v2_1) (List.drop 0 v2_1)), (List.take (List.length v2_2) (List.drop 0 v2_2)), (List.take (List.length v2_3) (List.drop 0 v2_3)), ()), (v11_0, (List.take (List.length v11_1) (List.drop 0 v11_1)), (List.take (List.length v11_2) (List.drop 0 v11_2)), (List.take (List.length v11_3) (List.drop 0 v11_3)), ()), v12, ())))
theorem z8z {L} (h : L 11 = some ⟨131, z8x, z8y, yb4⟩) : yc0 prog L (ya8 f95 11) := lo (L' := L0) (by kernel_rfl) E95_ok ya0 h
def L95_1 : Nat → Option LoopD := fun n => ifEq n 11 (some ⟨131, z8x, z8y, yb4⟩) (L0 n)
def yp8 : ByteArray → Option (TA × Bool) := fun a0 =>
 Option.bind (ys2 a0 59) fun r0 =>
  bif ((((List.length r0) : Nat) : Int) != 4) then
   some (((0 : Int), [], [], []), false)
  else
   if (((0 : Int) ≤ 0) ∧ ((0 : Int) < (((List.length r0) : Nat) : Int))) then
    Option.bind (ys3 (List.getD r0 (0 + (Int.toNat 0)) ⟨Array.empty⟩)) fun (r1, r2) =>
     if (((0 : Int) ≤ 1) ∧ ((1 : Int) < (((List.length r0) : Nat) : Int))) then
      Option.bind (y1x (List.getD r0 (0 + (Int.toNat 1)) ⟨Array.empty⟩)) fun (r3, r4) =>
       if (((0 : Int) ≤ 2) ∧ ((2 : Int) < (((List.length r0) : Nat) : Int))) then
        Option.bind (y1x (List.getD r0 (0 + (Int.toNat 2)) ⟨Array.empty⟩)) fun (r5, r6) =>
         bif r2 then
          bif r4 then
           if (((0 : Int) ≤ 3) ∧ ((3 : Int) < (((List.length r0) : Nat) : Int))) then
            bif (!((ByteArray.toList (List.getD r0 (0 + (Int.toNat 3)) ⟨Array.empty⟩)) == (ByteArray.toList (⟨#[]⟩ : ByteArray)))) then
             if (((0 : Int) ≤ 3) ∧ ((3 : Int) < (((List.length r0) : Nat) : Int))) then
              Option.bind (ys2 (List.getD r0 (0 + (Int.toNat 3)) ⟨Array.empty⟩) 32) fun r7 =>
               Option.bind (ya2 yb4 (((0 : Int), [], [], [], ()), (r1, (List.take (List.length r3) (List.drop 0 r3)), (List.take (List.length r5) (List.drop 0 r5)), (List.take 0 (List.drop 0 [])), ()), r6, (List.take (List.length r7) (List.drop 0 r7)), (((List.length r7) : Nat) : Int), 0, ())) fun r8 =>
                (match r8 with
                | .inl ((d9, d10, d11, d12, _), d13, _) =>
                  some ((d9, (List.take (List.length d10) (List.drop 0 d10)), (List.take (List.length d11) (List.drop 0 d11)), (List.take (List.length d12) (List.drop 0 d12))), d13)
                | .inr ((d14, d15, d16, d17, _), (d18, d19, d20, d21, _), d22, _) =>
                  bif (!d22) then
                   some (((0 : Int), [], [], []), false)
                  else
                   Option.bind (yc2 (d18, (List.take (List.length d19) (List.drop 0 d19)), (List.take (List.length d20) (List.drop 0 d20)), (List.take (List.length d21) (List.drop 0 d21)))) fun r23 =>
                    bif (!r23) then
                     some (((0 : Int), [], [], []), false)
                    else
                     some ((d18, (List.take (List.length d19) (List.drop 0 d19)), (List.take (List.length d20) (List.drop 0 d20)), (List.take (List.length d21) (List.drop 0 d21))), true))
             else
              none
            else
             bif (!r6) then
              some (((0 : Int), [], [], []), false)
             else
              Option.bind (yc2 (r1, (List.take (List.length r3) (List.drop 0 r3)), (List.take (List.length r5) (List.drop 0 r5)), (List.take 0 (List.drop 0 [])))) fun r24 =>
               bif (!r24) then
                some (((0 : Int), [], [], []), false)
               else
                some ((r1, (List.take (List.length r3) (List.drop 0 r3)), (List.take (List.length r5) (List.drop 0 r5)), (List.take 0 (List.drop 0 []))), true)
           else
            none
          else
           if (((0 : Int) ≤ 3) ∧ ((3 : Int) < (((List.length r0) : Nat) : Int))) then
            bif (!((ByteArray.toList (List.getD r0 (0 + (Int.toNat 3)) ⟨Array.empty⟩)) == (ByteArray.toList (⟨#[]⟩ : ByteArray)))) then
             if (((0 : Int) ≤ 3) ∧ ((3 : Int) < (((List.length r0) : Nat) : Int))) then
              Option.bind (ys2 (List.getD r0 (0 + (Int.toNat 3)) ⟨Array.empty⟩) 32) fun r25 =>
               Option.bind (ya2 yb4 (((0 : Int), [], [], [], ()), (r1, (List.take (List.length r3) (List.drop 0 r3)), (List.take (List.length r5) (List.drop 0 r5)), (List.take 0 (List.drop 0 [])), ()), false, (List.take (List.length r25) (List.drop 0 r25)), (((List.length r25) : Nat) : Int), 0, ())) fun r26 =>
                (match r26 with
                | .inl ((d27, d28, d29, d30, _), d31, _) =>
                  some ((d27, (List.take (List.length d28) (List.drop 0 d28)), (List.take (List.length d29) (List.drop 0 d29)), (List.take (List.length d30) (List.drop 0 d30))), d31)
                | .inr ((d32, d33, d34, d35, _), (d36, d37, d38, d39, _), d40, _) =>
                  bif (!d40) then
                   some (((0 : Int), [], [], []), false)
                  else
                   Option.bind (yc2 (d36, (List.take (List.length d37) (List.drop 0 d37)), (List.take (List.length d38) (List.drop 0 d38)), (List.take (List.length d39) (List.drop 0 d39)))) fun r41 =>
                    bif (!r41) then
                     some (((0 : Int), [], [], []), false)
                    else
                     some ((d36, (List.take (List.length d37) (List.drop 0 d37)), (List.take (List.length d38) (List.drop 0 d38)), (List.take (List.length d39) (List.drop 0 d39))), true))
             else
              none
            else
             some (((0 : Int), [], [], []), false)
           else
            none
         else
          if (((0 : Int) ≤ 3) ∧ ((3 : Int) < (((List.length r0) : Nat) : Int))) then
           bif (!((ByteArray.toList (List.getD r0 (0 + (Int.toNat 3)) ⟨Array.empty⟩)) == (ByteArray.toList (⟨#[]⟩ : ByteArray)))) then
            if (((0 : Int) ≤ 3) ∧ ((3 : Int) < (((List.length r0) : Nat) : Int))) then
             Option.bind (ys2 (List.getD r0 (0 + (Int.toNat 3)) ⟨Array.empty⟩) 32) fun r42 =>
              Option.bind (ya2 yb4 (((0 : Int), [], [], [], ()), (r1, (List.take (List.length r3) (List.drop 0 r3)), (List.take (List.length r5) (List.drop 0 r5)), (List.take 0 (List.drop 0 [])), ()), false, (List.take (List.length r42) (List.drop 0 r42)), (((List.length r42) : Nat) : Int), 0, ())) fun r43 =>
               (match r43 with
               | .inl ((d44, d45, d46, d47, _), d48, _) =>
                 some ((d44, (List.take (List.length d45) (List.drop 0 d45)), (List.take (List.length d46) (List.drop 0 d46)), (List.take (List.length d47) (List.drop 0 d47))), d48)
               | .inr ((d49, d50, d51, d52, _), (d53, d54, d55, d56, _), d57, _) =>
                 bif (!d57) then
                  some (((0 : Int), [], [], []), false)
                 else
                  Option.bind (yc2 (d53, (List.take (List.length d54) (List.drop 0 d54)), (List.take (List.length d55) (List.drop 0 d55)), (List.take (List.length d56) (List.drop 0 d56)))) fun r58 =>
                   bif (!r58) then
                    some (((0 : Int), [], [], []), false)
                   else
                    some ((d53, (List.take (List.length d54) (List.drop 0 d54)), (List.take (List.length d55) (List.drop 0 d55)), (List.take (List.length d56) (List.drop 0 d56))), true))
            else
             none
           else
            some (((0 : Int), [], [], []), false)
          else
           none
       else
        none
     else
      none
   else
    none
def A95 : FnA := ⟨[.v .str], true, [.pair i6 (.pair sI (.pair sI sS)), .bool], fun x => yp8 x.1⟩
theorem A95_ok : FnOk prog 95 A95 := fo (L := L95_1) (by kernel_rfl) func95 E95_ok (ya9 (z8z rfl) ya0)
def E65 : Env := ev fun g => ifEq g 95 (some A95) (none)
theorem E65_ok : FnsOk prog E65 := (oF A95_ok func95 (ye2 _ _))
def y2h : Int → Option (TA) := fun a0 =>
 if (((9 : Nat) : Int) = 0) then
  none
 else
  if (((0 : Int) ≤ (Int.tmod a0 ((9 : Nat) : Int))) ∧ ((Int.tmod a0 ((9 : Nat) : Int)) < ((9 : Nat) : Int))) then
   Option.bind (yp8 (List.getD [(⟨#[(49 : UInt8), (59 : UInt8), (48 : UInt8), (59 : UInt8), (48 : UInt8), (59 : UInt8), (48 : UInt8), (97 : UInt8), (48 : UInt8), (58 : UInt8), (49 : UInt8), (32 : UInt8), (48 : UInt8), (98 : UInt8), (48 : UInt8), (58 : UInt8), (48 : UInt8)]⟩ : ByteArray), (⟨#[(50 : UInt8), (59 : UInt8), (48 : UInt8), (59 : UInt8), (49 : UInt8), (59 : UInt8), (48 : UInt8), (97 : UInt8), (48 : UInt8), (58 : UInt8), (48 : UInt8), (32 : UInt8), (48 : UInt8), (97 : UInt8), (49 : UInt8), (58 : UInt8), (49 : UInt8), (32 : UInt8), (49 : UInt8), (98 : UInt8), (49 : UInt8), (58 : UInt8), (48 : UInt8)]⟩ : ByteArray), (⟨#[(50 : UInt8), (59 : UInt8), (48 : UInt8), (32 : UInt8), (49 : UInt8), (59 : UInt8), (48 : UInt8), (32 : UInt8), (49 : UInt8), (59 : UInt8), (48 : UInt8), (97 : UInt8), (48 : UInt8), (58 : UInt8), (49 : UInt8), (32 : UInt8), (48 : UInt8), (98 : UInt8), (48 : UInt8), (58 : UInt8), (48 : UInt8), (32 : UInt8), (49 : UInt8), (97 : UInt8), (49 : UInt8), (58 : UInt8), (48 : UInt8), (32 : UInt8), (49 : UInt8), (98 : UInt8), (49 : UInt8), (58 : UInt8), (49 : UInt8)]⟩ : ByteArray), (⟨#[(51 : UInt8), (59 : UInt8), (48 : UInt8), (59 : UInt8), (48 : UInt8), (32 : UInt8), (50 : UInt8), (59 : UInt8), (48 : UInt8), (97 : UInt8), (48 : UInt8), (58 : UInt8), (48 : UInt8), (32 : UInt8), (48 : UInt8), (97 : UInt8), (49 : UInt8), (58 : UInt8), (48 : UInt8), (32 : UInt8), (48 : UInt8), (98 : UInt8), (48 : UInt8), (58 : UInt8), (49 : UInt8), (32 : UInt8), (49 : UInt8), (97 : UInt8), (49 : UInt8), (58 : UInt8), (49 : UInt8), (32 : UInt8), (49 : UInt8), (98 : UInt8), (50 : UInt8), (58 : UInt8), (48 : UInt8), (32 : UInt8), (50 : UInt8), (97 : UInt8), (50 : UInt8), (58 : UInt8), (48 : UInt8), (32 : UInt8), (50 : UInt8), (98 : UInt8), (50 : UInt8), (58 : UInt8), (48 : UInt8)]⟩ : ByteArray), (⟨#[(50 : UInt8), (59 : UInt8), (48 : UInt8), (59 : UInt8), (48 : UInt8), (59 : UInt8), (48 : UInt8), (97 : UInt8), (49 : UInt8), (58 : UInt8), (49 : UInt8), (32 : UInt8), (49 : UInt8), (98 : UInt8), (48 : UInt8), (58 : UInt8), (48 : UInt8)]⟩ : ByteArray), (⟨#[(51 : UInt8), (59 : UInt8), (48 : UInt8), (59 : UInt8), (50 : UInt8), (59 : UInt8), (48 : UInt8), (97 : UInt8), (48 : UInt8), (58 : UInt8), (48 : UInt8), (32 : UInt8), (48 : UInt8), (98 : UInt8), (48 : UInt8), (58 : UInt8), (48 : UInt8), (32 : UInt8), (48 : UInt8), (98 : UInt8), (49 : UInt8), (58 : UInt8), (48 : UInt8), (32 : UInt8), (49 : UInt8), (97 : UInt8), (49 : UInt8), (58 : UInt8), (49 : UInt8), (32 : UInt8), (49 : UInt8), (98 : UInt8), (50 : UInt8), (58 : UInt8), (48 : UInt8), (32 : UInt8), (50 : UInt8), (97 : UInt8), (50 : UInt8), (58 : UInt8), (48 : UInt8), (32 : UInt8), (50 : UInt8), (98 : UInt8), (50 : UInt8), (58 : UInt8), (48 : UInt8)]⟩ : ByteArray), (⟨#[(49 : UInt8), (59 : UInt8), (48 : UInt8), (59 : UInt8), (48 : UInt8), (59 : UInt8), (48 : UInt8), (97 : UInt8), (48 : UInt8), (58 : UInt8), (48 : UInt8)]⟩ : ByteArray), (⟨#[(50 : UInt8), (59 : UInt8), (48 : UInt8), (59 : UInt8), (48 : UInt8), (32 : UInt8), (49 : UInt8), (59 : UInt8), (48 : UInt8), (97 : UInt8), (48 : UInt8), (58 : UInt8), (48 : UInt8), (32 : UInt8), (48 : UInt8), (98 : UInt8), (49 : UInt8), (58 : UInt8), (49 : UInt8), (32 : UInt8), (49 : UInt8), (97 : UInt8), (48 : UInt8), (58 : UInt8), (48 : UInt8), (32 : UInt8), (49 : UInt8), (98 : UInt8), (49 : UInt8), (58 : UInt8), (48 : UInt8)]⟩ : ByteArray), (⟨#[(50 : UInt8), (59 : UInt8), (48 : UInt8), (59 : UInt8), (49 : UInt8), (59 : UInt8), (48 : UInt8), (97 : UInt8), (49 : UInt8), (58 : UInt8), (50 : UInt8), (32 : UInt8), (49 : UInt8), (97 : UInt8), (49 : UInt8), (58 : UInt8), (48 : UInt8), (32 : UInt8), (49 : UInt8), (98 : UInt8), (48 : UInt8), (58 : UInt8), (49 : UInt8)]⟩ : ByteArray)] (0 + (Int.toNat (Int.tmod a0 ((9 : Nat) : Int)))) ⟨Array.empty⟩)) fun ((r0, r1, r2, r3), r4) =>
    some (r0, (List.take (List.length r1) (List.drop 0 r1)), (List.take (List.length r2) (List.drop 0 r2)), (List.take (List.length r3) (List.drop 0 r3)))
  else
   none
def A65 : FnA := ⟨[.v i6], true, [.pair i6 (.pair sI (.pair sI sS))], fun x => y2h x.1⟩
theorem A65_ok : FnOk prog 65 A65 := fo (L := L0) (by kernel_rfl) func65 E65_ok ya0
def E66 : Env := ⟨ty0, fun _ => none, fun g => ifEq g 32 (some A32) (none), fun _ => none, fun _ => none⟩
theorem E66_ok : FnsOk prog E66 := (y5v zo2 (by kernel_rfl) func32 (by kernel_rfl) (by kernel_rfl) (ye2 _ _))
def sh66_3 : List Fm := .box 200000 [.val (.sl (.int .u8)), .val i6] :: D 4 (.cell (.own i6 100500 false) :: d :: d :: .cell (.val i6) :: .cell (.val i6) :: D 11 [])
def xs66_3 : List (Ex × List Fm) := [(.exit 0, [.box 200000 [.val (.sl (.int .u8)), .val i6], d, d, d, d, .cell (.own i6 100500 false), d, d, d, d, d, d, d, d, d, d, d, d, d, d, d])]
def yl9 : ((LI × Int × Unit) × LI × Int × Int × Unit) → Option (((LI × Int × Unit) × LI × Int × Int × Unit) ⊕ (((LI × Int × Unit) × LI × Unit))) := fun ((v0_0, v0_1, _), v5, v8, v9, _) =>
 bif (decide (v9 < v8)) then
  Option.bind (yb3 (v0_0, v0_1) 2) fun (r0, (r1, r2), _) =>
   bif (r0 == 0) then
    if (((0 + (List.length v5)) = (List.length v5)) ∧ ((((List.length v5) + (List.length (List.take 1 (List.drop 0 [v9])))) * 8) ≤ 140737488355328)) then
     some (Sum.inl ((r1, r2, ()), (List.take ((List.length v5) + (List.length (List.take 1 (List.drop 0 [v9])))) (List.drop 0 ((List.drop 0 v5) ++ (List.take 1 (List.drop 0 [v9]))))), v8, (IntKind.wrap .i64 (v9 + 1)), ()))
    else
     none
   else
    some (Sum.inl ((r1, r2, ()), (List.take (List.length v5) (List.drop 0 v5)), v8, (IntKind.wrap .i64 (v9 + 1)), ()))
 else
  some (Sum.inr ((v0_0, v0_1, ()), (List.take (List.length v5) (List.drop 0 v5)), ()))
theorem ki1 {L} (h : L 3 = some ⟨21, sh66_3, xs66_3, yl9⟩) : yc0 prog L (ya8 f66 3) := lo (L' := L0) (by kernel_rfl) E66_ok ya0 h
def L66_1 : Nat → Option LoopD := fun n => ifEq n 3 (some ⟨21, sh66_3, xs66_3, yl9⟩) (L0 n)
def yp9 : (LI × Int) → Int → Option ((LI) × ((LI × Int) × Unit)) := fun (a0_0, a0_1) a1 =>
 Option.bind (ya2 yl9 ((a0_0, a0_1, ()), (List.take 0 (List.drop 0 [])), a1, 0, ())) fun ((r0, r1, _), r2, _) =>
  some ((List.take (List.length r2) (List.drop 0 r2)), (r0, r1), ())
def A66 : FnM := ⟨[.bx kR, .v i6], true, [.sl i6], none, fun x => yp9 x.1 x.2.1⟩
theorem A66_ok : y69 prog 66 A66 := fm (L := L66_1) (by kernel_rfl) func66 E66_ok (ya9 (ki1 rfl) ya0)
def E64 : Env := ⟨ty0, fun _ => none, fun g => ifEq g 32 (some A32) (none), fun _ => none, fun _ => none⟩
theorem E64_ok : FnsOk prog E64 := (y5v zo2 (by kernel_rfl) func32 (by kernel_rfl) (by kernel_rfl) (ye2 _ _))
def yx5 : (LI × Int) → (List ByteArray) → Option ((ByteArray) × ((LI × Int) × Unit)) := fun (a0_0, a0_1) a1 =>
 Option.bind (yb3 (a0_0, a0_1) (((List.length a1) : Nat) : Int)) fun (r0, (r1, r2), _) =>
  if (((0 : Int) ≤ r0) ∧ (r0 < (((List.length a1) : Nat) : Int))) then
   some ((List.getD a1 (Int.toNat r0) ⟨Array.empty⟩), (r1, r2), ())
  else
   none
def A64 : FnM := ⟨[.bx kR, .v (.sl .str)], true, [.str], none, fun x => yx5 x.1 x.2.1⟩
theorem A64_ok : y69 prog 64 A64 := fm (L := L0) (by kernel_rfl) func64 E64_ok ya0
def E63 : Env := ⟨ty0, fun _ => none, fun g => ifEq g 32 (some A32) (none), fun _ => none, fun _ => none⟩
theorem E63_ok : FnsOk prog E63 := (y5v zo2 (by kernel_rfl) func32 (by kernel_rfl) (by kernel_rfl) (ye2 _ _))
def ym0 : (LI × Int) → LI → Option ((Int) × ((LI × Int) × Unit)) := fun (a0_0, a0_1) a1 =>
 Option.bind (yb3 (a0_0, a0_1) (((List.length a1) : Nat) : Int)) fun (r0, (r1, r2), _) =>
  if (((0 : Int) ≤ r0) ∧ (r0 < (((List.length a1) : Nat) : Int))) then
   some ((List.getD a1 (Int.toNat r0) 0), (r1, r2), ())
  else
   none
def A63 : FnM := ⟨[.bx kR, .v sI], true, [.int .i64], none, fun x => ym0 x.1 x.2.1⟩
theorem A63_ok : y69 prog 63 A63 := fm (L := L0) (by kernel_rfl) func63 E63_ok ya0
def E38 : Env := ev fun g => ifEq g 69 (some A69) (none)
theorem E38_ok : FnsOk prog E38 := (oF A69_ok func69 (ye2 _ _))
def sh38_2 : List Fm := .cell (.val sS) :: d :: d :: .box 100300 [.val i6, .val .str, .val i6, .val i6] :: d :: .cell (.val i6) :: D 56 []
def xs38_2 : List (Ex × List Fm) := [(.exit 0, [.cell (.val sS), d, d, .box 100300 [.val i6, .val .str, .val i6, .val i6], d, .cell (.val i6), d, d, d, d, d, d, d, d, d, d, d, d, d, d, d, d, d, d, d, d, d, d, d, d, d, d, d, d, d, d, d, d, d, d, d, d, d, d, d, d, d, d, d, d, d, d, d, d, d, d, d, d, d, d, d, d])]
def yi1 : (LS × (Int × ByteArray × Int × Int × Unit) × Int × Unit) → Option ((LS × (Int × ByteArray × Int × Int × Unit) × Int × Unit) ⊕ ((LS × (Int × ByteArray × Int × Int × Unit) × Int × Unit))) := fun (v0, (v3_0, v3_1, v3_2, v3_3, _), v5, _) =>
 bif (decide (v5 < (((List.length v0) : Nat) : Int))) then
  if (((0 : Int) ≤ v5) ∧ (v5 < (((List.length v0) : Nat) : Int))) then
   Option.bind (yt2 (List.getD v0 (Int.toNat v5) ((0 : Int), ⟨Array.empty⟩, 0, 0)) (v3_0, v3_1, v3_2, v3_3)) fun r0 =>
    bif r0 then
     some (Sum.inl (v0, (v3_0, v3_1, v3_2, v3_3, ()), (IntKind.wrap .i64 (v5 + 1)), ()))
    else
     some (Sum.inr (v0, (v3_0, v3_1, v3_2, v3_3, ()), v5, ()))
  else
   none
 else
  some (Sum.inr (v0, (v3_0, v3_1, v3_2, v3_3, ()), v5, ()))
theorem ki2 {L} (h : L 2 = some ⟨62, sh38_2, xs38_2, yi1⟩) : yc0 prog L (ya8 f38 2) := lo (L' := L0) (by kernel_rfl) E38_ok ya0 h
def L38_1 : Nat → Option LoopD := fun n => ifEq n 2 (some ⟨62, sh38_2, xs38_2, yi1⟩) (L0 n)
def yt3 : LS → TS → Option (LS) := fun a0 (a1_0, a1_1, a1_2, a1_3) =>
 Option.bind (ya2 yi1 (a0, (a1_0, a1_1, a1_2, a1_3, ()), 0, ())) fun (r0, (r1, r2, r3, r4, _), r5, _) =>
  bif (decide (r5 < (((List.length r0) : Nat) : Int))) then
   if (((0 : Int) ≤ r5) ∧ (r5 < (((List.length r0) : Nat) : Int))) then
    Option.bind (yt2 (r1, r2, r3, r4) (List.getD r0 (Int.toNat r5) ((0 : Int), ⟨Array.empty⟩, 0, 0))) fun r6 =>
     bif (!r6) then
      if (((0 + 0) = (List.length ([] : List Unit))) ∧ (((0 + (List.length r0)) * 40) ≤ 140737488355328)) then
       if (((0 : Int) ≤ r5) ∧ (r5 < (((0 + (List.length r0)) : Nat) : Int))) then
        if (((0 : Int) ≤ r5) ∧ (r5 < (((0 + (List.length r0)) : Nat) : Int))) then
         Option.bind (Option.some (List.set ((List.drop 0 []) ++ r0) (0 + (Int.toNat r5)) ((List.getD ((List.drop 0 []) ++ r0) (0 + (Int.toNat r5)) ((0 : Int), ⟨Array.empty⟩, 0, 0)).1, (List.getD ((List.drop 0 []) ++ r0) (0 + (Int.toNat r5)) ((0 : Int), ⟨Array.empty⟩, 0, 0)).2.1, (List.getD ((List.drop 0 []) ++ r0) (0 + (Int.toNat r5)) ((0 : Int), ⟨Array.empty⟩, 0, 0)).2.2.1, (if (r4 < (List.getD ((List.drop 0 []) ++ r0) (0 + (Int.toNat r5)) ((0 : Int), ⟨Array.empty⟩, 0, 0)).2.2.2) then r4 else (List.getD ((List.drop 0 []) ++ r0) (0 + (Int.toNat r5)) ((0 : Int), ⟨Array.empty⟩, 0, 0)).2.2.2)))) fun r7 =>
          some (List.take (0 + (List.length r0)) (List.drop 0 r7))
        else
         none
       else
        none
      else
       none
     else
      if (((0 : Int) ≤ r5) ∧ (r5 ≤ (((List.length r0) : Nat) : Int))) then
       if (((0 + 0) = (List.length ([] : List Unit))) ∧ (((0 + (List.length (List.take ((Int.toNat r5) - 0) (List.drop 0 r0)))) * 40) ≤ 140737488355328)) then
        if (((0 + (0 + (List.length (List.take ((Int.toNat r5) - 0) (List.drop 0 r0))))) = (List.length ((List.drop 0 []) ++ (List.take ((Int.toNat r5) - 0) (List.drop 0 r0))))) ∧ ((((0 + (List.length (List.take ((Int.toNat r5) - 0) (List.drop 0 r0)))) + (List.length (List.take 1 (List.drop 0 [(r1, r2, r3, r4)])))) * 40) ≤ 140737488355328)) then
         if (((0 : Int) ≤ r5) ∧ (r5 ≤ (((List.length r0) : Nat) : Int))) then
          if (((0 + ((0 + (List.length (List.take ((Int.toNat r5) - 0) (List.drop 0 r0)))) + (List.length (List.take 1 (List.drop 0 [(r1, r2, r3, r4)]))))) = (List.length ((List.drop 0 ((List.drop 0 []) ++ (List.take ((Int.toNat r5) - 0) (List.drop 0 r0)))) ++ (List.take 1 (List.drop 0 [(r1, r2, r3, r4)]))))) ∧ (((((0 + (List.length (List.take ((Int.toNat r5) - 0) (List.drop 0 r0)))) + (List.length (List.take 1 (List.drop 0 [(r1, r2, r3, r4)])))) + (List.length (List.take ((List.length r0) - (Int.toNat r5)) (List.drop (Int.toNat r5) r0)))) * 40) ≤ 140737488355328)) then
           some (List.take (((0 + (List.length (List.take ((Int.toNat r5) - 0) (List.drop 0 r0)))) + (List.length (List.take 1 (List.drop 0 [(r1, r2, r3, r4)])))) + (List.length (List.take ((List.length r0) - (Int.toNat r5)) (List.drop (Int.toNat r5) r0)))) (List.drop 0 ((List.drop 0 ((List.drop 0 ((List.drop 0 []) ++ (List.take ((Int.toNat r5) - 0) (List.drop 0 r0)))) ++ (List.take 1 (List.drop 0 [(r1, r2, r3, r4)])))) ++ (List.take ((List.length r0) - (Int.toNat r5)) (List.drop (Int.toNat r5) r0)))))
          else
           none
         else
          none
        else
         none
       else
        none
      else
       none
   else
    none
  else
   if (((0 : Int) ≤ r5) ∧ (r5 ≤ (((List.length r0) : Nat) : Int))) then
    if (((0 + 0) = (List.length ([] : List Unit))) ∧ (((0 + (List.length (List.take ((Int.toNat r5) - 0) (List.drop 0 r0)))) * 40) ≤ 140737488355328)) then
     if (((0 + (0 + (List.length (List.take ((Int.toNat r5) - 0) (List.drop 0 r0))))) = (List.length ((List.drop 0 []) ++ (List.take ((Int.toNat r5) - 0) (List.drop 0 r0))))) ∧ ((((0 + (List.length (List.take ((Int.toNat r5) - 0) (List.drop 0 r0)))) + (List.length (List.take 1 (List.drop 0 [(r1, r2, r3, r4)])))) * 40) ≤ 140737488355328)) then
      if (((0 : Int) ≤ r5) ∧ (r5 ≤ (((List.length r0) : Nat) : Int))) then
       if (((0 + ((0 + (List.length (List.take ((Int.toNat r5) - 0) (List.drop 0 r0)))) + (List.length (List.take 1 (List.drop 0 [(r1, r2, r3, r4)]))))) = (List.length ((List.drop 0 ((List.drop 0 []) ++ (List.take ((Int.toNat r5) - 0) (List.drop 0 r0)))) ++ (List.take 1 (List.drop 0 [(r1, r2, r3, r4)]))))) ∧ (((((0 + (List.length (List.take ((Int.toNat r5) - 0) (List.drop 0 r0)))) + (List.length (List.take 1 (List.drop 0 [(r1, r2, r3, r4)])))) + (List.length (List.take ((List.length r0) - (Int.toNat r5)) (List.drop (Int.toNat r5) r0)))) * 40) ≤ 140737488355328)) then
        some (List.take (((0 + (List.length (List.take ((Int.toNat r5) - 0) (List.drop 0 r0)))) + (List.length (List.take 1 (List.drop 0 [(r1, r2, r3, r4)])))) + (List.length (List.take ((List.length r0) - (Int.toNat r5)) (List.drop (Int.toNat r5) r0)))) (List.drop 0 ((List.drop 0 ((List.drop 0 ((List.drop 0 []) ++ (List.take ((Int.toNat r5) - 0) (List.drop 0 r0)))) ++ (List.take 1 (List.drop 0 [(r1, r2, r3, r4)])))) ++ (List.take ((List.length r0) - (Int.toNat r5)) (List.drop (Int.toNat r5) r0)))))
       else
        none
      else
       none
     else
      none
    else
     none
   else
    none
def A38 : FnA := ⟨[.v sS, .v kS], true, [.sl kS], fun x => yt3 x.1 x.2.1⟩
theorem A38_ok : FnOk prog 38 A38 := fo (L := L38_1) (by kernel_rfl) func38 E38_ok (ya9 (ki2 rfl) ya0)
def E34 : Env := ⟨ty0, fun g => ifEq g 65 (some A65) (ifEq g 38 (some A38) (none)), fun g => ifEq g 32 (some A32) (ifEq g 66 (some A66) (ifEq g 64 (some A64) (ifEq g 63 (some A63) (none)))), fun _ => none, fun _ => none⟩
theorem E34_ok : FnsOk prog E34 := (oF A65_ok func65 (oF A38_ok func38 (y5v zo2 (by kernel_rfl) func32 (by kernel_rfl) (by kernel_rfl) (y5v A66_ok (by kernel_rfl) func66 (by kernel_rfl) (by kernel_rfl) (y5v A64_ok (by kernel_rfl) func64 (by kernel_rfl) (by kernel_rfl) (y5v A63_ok (by kernel_rfl) func63 (by kernel_rfl) (by kernel_rfl) (ye2 _ _)))))))
def sh34_8 : List Fm := .box 200000 [.val (.sl (.int .u8)), .val i6] :: d :: d :: d :: .box 100400 [.val i6, .own i6 100402 false, .own i6 100403 false, .own kS 100404 false] :: d :: .cell (.val i6) :: .box 100700 [.val i6, .own i6 100702 false, .own i6 100703 false, .own kS 100704 false] :: D 30 (.cell (.val i6) :: .cell (.val i6) :: D 21 [])
def xs34_8 : List (Ex × List Fm) := [(.exit 0, [.box 200000 [.val (.sl (.int .u8)), .val i6], d, d, d, .box 100400 [.val i6, .own i6 100402 false, .own i6 100403 false, .own kS 100404 false], d, d, .box 100700 [.val i6, .own i6 100702 false, .own i6 100703 false, .own kS 100704 false], d, d, d, d, d, d, d, d, d, d, d, d, d, d, d, d, d, d, d, d, d, d, d, d, d, d, d, d, d, d, d, d, d, d, d, d, d, d, d, d, d, d, d, d, d, d, d, d, d, d, d, d, d])]
def yh8 : ((LI × Int × Unit) × (Int × LI × LI × LS × Unit) × Int × (Int × LI × LI × LS × Unit) × Int × Int × Unit) → Option (((LI × Int × Unit) × (Int × LI × LI × LS × Unit) × Int × (Int × LI × LI × LS × Unit) × Int × Int × Unit) ⊕ (((LI × Int × Unit) × (Int × LI × LI × LS × Unit) × (Int × LI × LI × LS × Unit) × Unit))) := fun ((v0_0, v0_1, _), (v4_0, v4_1, v4_2, v4_3, _), v6, (v7_0, v7_1, v7_2, v7_3, _), v38, v39, _) =>
 bif (decide (v39 < v38)) then
  Option.bind (yb3 (v0_0, v0_1) v6) fun (r0, (r1, r2), _) =>
   Option.bind (yx5 (r1, r2) (List.take 2 (List.drop 0 [(⟨#[(97 : UInt8)]⟩ : ByteArray), (⟨#[(98 : UInt8)]⟩ : ByteArray)]))) fun (r3, (r4, r5), _) =>
    Option.bind (yb3 (r4, r5) v6) fun (r6, (r7, r8), _) =>
     Option.bind (ym0 (r7, r8) (List.take 6 (List.drop 0 [(0 : Int), (1 : Int), (0 : Int), (1 : Int), (2 : Int), (0 : Int)]))) fun (r9, (r10, r11), _) =>
      Option.bind (yt3 (List.take (List.length v7_3) (List.drop 0 v7_3)) (r0, r3, r6, r9)) fun r12 =>
       some (Sum.inl ((r10, r11, ()), (v4_0, (List.take (List.length v4_1) (List.drop 0 v4_1)), (List.take (List.length v4_2) (List.drop 0 v4_2)), (List.take (List.length v4_3) (List.drop 0 v4_3)), ()), v6, (v7_0, (List.take (List.length v7_1) (List.drop 0 v7_1)), (List.take (List.length v7_2) (List.drop 0 v7_2)), (List.take (List.length r12) (List.drop 0 r12)), ()), v38, (IntKind.wrap .i64 (v39 + 1)), ()))
 else
  some (Sum.inr ((v0_0, v0_1, ()), (v4_0, (List.take (List.length v4_1) (List.drop 0 v4_1)), (List.take (List.length v4_2) (List.drop 0 v4_2)), (List.take (List.length v4_3) (List.drop 0 v4_3)), ()), (v7_0, (List.take (List.length v7_1) (List.drop 0 v7_1)), (List.take (List.length v7_2) (List.drop 0 v7_2)), (List.take (List.length v7_3) (List.drop 0 v7_3)), ()), ()))
theorem ki3 {L} (h : L 8 = some ⟨61, sh34_8, xs34_8, yh8⟩) : yc0 prog L (ya8 f34 8) := lo (L' := L0) (by kernel_rfl) E34_ok ya0 h
def L34_1 : Nat → Option LoopD := fun n => ifEq n 8 (some ⟨61, sh34_8, xs34_8, yh8⟩) (L0 n)
def y1y : (LI × Int) → Int → Option ((TA) × ((LI × Int) × Unit)) := fun (a0_0, a0_1) a1 =>
 Option.bind (yb3 (a0_0, a0_1) 3) fun (r0, (r1, r2), _) =>
  bif (r0 == 0) then
   Option.bind (yb3 (r1, r2) 9) fun (r3, (r4, r5), _) =>
    Option.bind (y2h r3) fun (r6, r7, r8, r9) =>
     bif (decide (r6 ≤ a1)) then
      some ((r6, (List.take (List.length r7) (List.drop 0 r7)), (List.take (List.length r8) (List.drop 0 r8)), (List.take (List.length r9) (List.drop 0 r9))), (r4, r5), ())
     else
      Option.bind (yb3 (r4, r5) a1) fun (r10, (r11, r12), _) =>
       Option.bind (yp9 (r11, r12) (IntKind.wrap .i64 ((1 : Int) + r10))) fun (r13, (r14, r15), _) =>
        Option.bind (yp9 (r14, r15) (IntKind.wrap .i64 ((1 : Int) + r10))) fun (r16, (r17, r18), _) =>
         Option.bind (yb3 (r17, r18) (IntKind.wrap .i64 ((IntKind.wrap .i64 ((2 : Int) * (IntKind.wrap .i64 ((1 : Int) + r10)))) + 1))) fun (r19, (r20, r21), _) =>
          Option.bind (ya2 yh8 ((r20, r21, ()), ((0 : Int), [], [], [], ()), (IntKind.wrap .i64 ((1 : Int) + r10)), ((IntKind.wrap .i64 ((1 : Int) + r10)), (List.take (List.length r13) (List.drop 0 r13)), (List.take (List.length r16) (List.drop 0 r16)), (List.take 0 (List.drop 0 [])), ()), (IntKind.wrap .i64 ((1 : Int) + r19)), 0, ())) fun ((r22, r23, _), (r24, r25, r26, r27, _), (r28, r29, r30, r31, _), _) =>
           some ((r28, (List.take (List.length r29) (List.drop 0 r29)), (List.take (List.length r30) (List.drop 0 r30)), (List.take (List.length r31) (List.drop 0 r31))), (r22, r23), ())
  else
   Option.bind (yb3 (r1, r2) a1) fun (r32, (r33, r34), _) =>
    Option.bind (yp9 (r33, r34) (IntKind.wrap .i64 ((1 : Int) + r32))) fun (r35, (r36, r37), _) =>
     Option.bind (yp9 (r36, r37) (IntKind.wrap .i64 ((1 : Int) + r32))) fun (r38, (r39, r40), _) =>
      Option.bind (yb3 (r39, r40) (IntKind.wrap .i64 ((IntKind.wrap .i64 ((2 : Int) * (IntKind.wrap .i64 ((1 : Int) + r32)))) + 1))) fun (r41, (r42, r43), _) =>
       Option.bind (ya2 yh8 ((r42, r43, ()), ((0 : Int), [], [], [], ()), (IntKind.wrap .i64 ((1 : Int) + r32)), ((IntKind.wrap .i64 ((1 : Int) + r32)), (List.take (List.length r35) (List.drop 0 r35)), (List.take (List.length r38) (List.drop 0 r38)), (List.take 0 (List.drop 0 [])), ()), (IntKind.wrap .i64 ((1 : Int) + r41)), 0, ())) fun ((r44, r45, _), (r46, r47, r48, r49, _), (r50, r51, r52, r53, _), _) =>
        some ((r50, (List.take (List.length r51) (List.drop 0 r51)), (List.take (List.length r52) (List.drop 0 r52)), (List.take (List.length r53) (List.drop 0 r53))), (r44, r45), ())
def A34 : FnM := ⟨[.bx kR, .v i6], true, [.pair i6 (.pair sI (.pair sI sS))], none, fun x => y1y x.1 x.2.1⟩
theorem A34_ok : y69 prog 34 A34 := fm (L := L34_1) (by kernel_rfl) func34 E34_ok (ya9 (ki3 rfl) ya0)
def E33 : Env := ⟨ty0, fun _ => none, fun g => ifEq g 32 (some A32) (ifEq g 63 (some A63) (ifEq g 64 (some A64) (none))), fun _ => none, fun _ => none⟩
theorem E33_ok : FnsOk prog E33 := (y5v zo2 (by kernel_rfl) func32 (by kernel_rfl) (by kernel_rfl) (y5v A63_ok (by kernel_rfl) func63 (by kernel_rfl) (by kernel_rfl) (y5v A64_ok (by kernel_rfl) func64 (by kernel_rfl) (by kernel_rfl) (ye2 _ _))))
def y3e : (LI × Int) → TA → Option ((TA) × ((LI × Int) × Unit)) := fun (a0_0, a0_1) (a1_0, a1_1, a1_2, a1_3) =>
 Option.bind (yb3 (a0_0, a0_1) 36) fun (r0, (r1, r2), _) =>
  bif (r0 == 0) then
   Option.bind (ym0 (r1, r2) (List.take 5 (List.drop 0 [(0 : Int), (5 : Int), (-1 : Int), (1 : Int), (9223372036854775807 : Int)]))) fun (r3, (r4, r5), _) =>
    some ((r3, a1_1, a1_2, a1_3), (r4, r5), ())
  else
   bif (r0 == 1) then
    if (((0 + 0) = (List.length ([] : List Unit))) ∧ (((0 + (List.length a1_3)) * 40) ≤ 140737488355328)) then
     Option.bind (yb3 (r1, r2) 2) fun (r6, (r7, r8), _) =>
      Option.bind (yx5 (r7, r8) (List.take 3 (List.drop 0 [(⟨#[(97 : UInt8)]⟩ : ByteArray), (⟨#[(99 : UInt8)]⟩ : ByteArray), (⟨#[]⟩ : ByteArray)]))) fun (r9, (r10, r11), _) =>
       Option.bind (ym0 (r10, r11) (List.take 3 (List.drop 0 [(0 : Int), (4 : Int), (-1 : Int)]))) fun (r12, (r13, r14), _) =>
        Option.bind (ym0 (r13, r14) (List.take 3 (List.drop 0 [(0 : Int), (4 : Int), (-1 : Int)]))) fun (r15, (r16, r17), _) =>
         if (((0 + (0 + (List.length a1_3))) = (List.length ((List.drop 0 []) ++ a1_3))) ∧ ((((0 + (List.length a1_3)) + (List.length (List.take 1 (List.drop 0 [(r6, r9, r12, r15)])))) * 40) ≤ 140737488355328)) then
          some ((a1_0, a1_1, a1_2, (List.take ((0 + (List.length a1_3)) + (List.length (List.take 1 (List.drop 0 [(r6, r9, r12, r15)])))) (List.drop 0 ((List.drop 0 ((List.drop 0 []) ++ a1_3)) ++ (List.take 1 (List.drop 0 [(r6, r9, r12, r15)])))))), (r16, r17), ())
         else
          none
    else
     none
   else
    bif (r0 == 2) then
     if (((0 + 0) = (List.length ([] : List Unit))) ∧ (((0 + (List.length a1_1)) * 8) ≤ 140737488355328)) then
      Option.bind (ym0 (r1, r2) (List.take 3 (List.drop 0 [(0 : Int), (4 : Int), (-1 : Int)]))) fun (r18, (r19, r20), _) =>
       if (((0 + (0 + (List.length a1_1))) = (List.length ((List.drop 0 []) ++ a1_1))) ∧ ((((0 + (List.length a1_1)) + (List.length (List.take 1 (List.drop 0 [r18])))) * 8) ≤ 140737488355328)) then
        some ((a1_0, (List.take ((0 + (List.length a1_1)) + (List.length (List.take 1 (List.drop 0 [r18])))) (List.drop 0 ((List.drop 0 ((List.drop 0 []) ++ a1_1)) ++ (List.take 1 (List.drop 0 [r18]))))), a1_2, a1_3), (r19, r20), ())
       else
        none
     else
      none
    else
     some ((a1_0, a1_1, a1_2, a1_3), (r1, r2), ())
def A33 : FnM := ⟨[.bx kR, .v kA], false, [.pair i6 (.pair sI (.pair sI sS))], none, fun x => y3e x.1 x.2.1⟩
theorem A33_ok : y69 prog 33 A33 := fm (L := L0) (by kernel_rfl) func33 E33_ok ya0
def E12 : Env := ⟨ty0, fun _ => none, fun g => ifEq g 32 (some A32) (ifEq g 34 (some A34) (ifEq g 33 (some A33) (none))), fun _ => none, fun _ => none⟩
theorem E12_ok : FnsOk prog E12 := (y5v zo2 (by kernel_rfl) func32 (by kernel_rfl) (by kernel_rfl) (y5v A34_ok (by kernel_rfl) func34 (by kernel_rfl) (by kernel_rfl) (y5v A33_ok (by kernel_rfl) func33 (by kernel_rfl) (by kernel_rfl) (ye2 _ _))))
def y32 : (LI × Int) → Option ((TA) × ((LI × Int) × Unit)) := fun (a0_0, a0_1) =>
 Option.bind (yb3 (a0_0, a0_1) 3) fun (r0, (r1, r2), _) =>
  bif (r0 == 0) then
   Option.bind (y1y (r1, r2) 3) fun ((r3, r4, r5, r6), (r7, r8), _) =>
    Option.bind (y3e (r7, r8) (r3, (List.take (List.length r4) (List.drop 0 r4)), (List.take (List.length r5) (List.drop 0 r5)), (List.take (List.length r6) (List.drop 0 r6)))) fun ((r9, r10, r11, r12), (r13, r14), _) =>
     some ((r9, r10, r11, r12), (r13, r14), ())
  else
   Option.bind (y1y (r1, r2) 2) fun ((r15, r16, r17, r18), (r19, r20), _) =>
    Option.bind (y3e (r19, r20) (r15, (List.take (List.length r16) (List.drop 0 r16)), (List.take (List.length r17) (List.drop 0 r17)), (List.take (List.length r18) (List.drop 0 r18)))) fun ((r21, r22, r23, r24), (r25, r26), _) =>
     some ((r21, r22, r23, r24), (r25, r26), ())
def A12 : FnM := ⟨[.bx kR], false, [.pair i6 (.pair sI (.pair sI sS))], none, fun x => y32 x.1⟩
theorem A12_ok : y69 prog 12 A12 := fm (L := L0) (by kernel_rfl) func12 E12_ok ya0
def E4 : Env := ⟨ty0, fun _ => none, fun g => ifEq g 12 (some A12) (none), fun g => ifEq g 13 (some A13) (none), fun _ => none⟩
theorem E4_ok : FnsOk prog E4 := (oneBs A13_ok func13 (by kernel_rfl) (by kernel_rfl) (y5v A12_ok (by kernel_rfl) func12 (by kernel_rfl) (by kernel_rfl) (ye2 _ _)))
def yk6 : LI → Option (TA) := fun a0 =>
 Option.bind (y0i a0) fun (r0, r1) =>
  Option.bind (y32 (r0, r1)) fun ((r2, r3, r4, r5), (r6, r7), _) =>
   some (r2, r3, r4, r5)
def A4 : FnA := ⟨[.v (.sl (.int .u8))], false, [.pair i6 (.pair sI (.pair sI sS))], fun x => yk6 x.1⟩
theorem A4_ok : FnOk prog 4 A4 := fo (L := L0) (by kernel_rfl) func4 E4_ok ya0
def sh42_2 : List Fm := .cell (.val sI) :: .cell (.val i6) :: D 5 (.cell (.val sI) :: .cell (.val i6) :: .cell (.val i6) :: D 25 [])
def xs42_2 : List (Ex × List Fm) := [(.ret, (D 4 (.cell (.val .bool) :: D 30 []))), (.exit 0, (D 35 []))]
def yn5 : (LI × Int × LI × Int × Int × Unit) → Option ((LI × Int × LI × Int × Int × Unit) ⊕ ((Bool × Unit) ⊕ (Unit))) := fun (v0, v1, v7, v8, v9, _) =>
 bif (decide (v9 < v8)) then
  if (((0 : Int) ≤ v9) ∧ (v9 < (((List.length v7) : Nat) : Int))) then
   bif (decide ((List.getD v7 (Int.toNat v9) 0) < 0)) then
    some (Sum.inr (Sum.inl (false, ())))
   else
    bif (decide ((List.getD v7 (Int.toNat v9) 0) ≥ v1)) then
     some (Sum.inr (Sum.inl (false, ())))
    else
     bif (decide (v9 > 0)) then
      if (((0 : Int) ≤ (IntKind.wrap .i64 (v9 - 1))) ∧ ((IntKind.wrap .i64 (v9 - 1)) < (((List.length v0) : Nat) : Int))) then
       bif (decide ((List.getD v0 (Int.toNat (IntKind.wrap .i64 (v9 - 1))) 0) ≥ (List.getD v7 (Int.toNat v9) 0))) then
        some (Sum.inr (Sum.inl (false, ())))
       else
        some (Sum.inl (v0, v1, v7, v8, (IntKind.wrap .i64 (v9 + 1)), ()))
      else
       none
     else
      some (Sum.inl (v0, v1, v7, v8, (IntKind.wrap .i64 (v9 + 1)), ()))
  else
   none
 else
  some (Sum.inr (Sum.inr ()))
theorem ki4 {L} (h : L 2 = some ⟨35, sh42_2, xs42_2, yn5⟩) : yc0 prog L (ya8 f42 2) := lo (L' := L0) (by kernel_rfl) yh7 ya0 h
def L42_1 : Nat → Option LoopD := fun n => ifEq n 2 (some ⟨35, sh42_2, xs42_2, yn5⟩) (L0 n)
def yx6 : LI → Int → Option (Bool) := fun a0 a1 =>
 Option.bind (ya2 yn5 (a0, a1, a0, (((List.length a0) : Nat) : Int), 0, ())) fun r0 =>
  (match r0 with
  | .inl (d1, _) =>
    some d1
  | .inr _ =>
    some true)
def A42 : FnA := ⟨[.v sI, .v i6], true, [.bool], fun x => yx6 x.1 x.2.1⟩
theorem A42_ok : FnOk prog 42 A42 := fo (L := L42_1) (by kernel_rfl) func42 yh7 (ya9 (ki4 rfl) ya0)
def E16 : Env := ev fun g => ifEq g 42 (some A42) (ifEq g 22 (some A22) (none))
theorem E16_ok : FnsOk prog E16 := (oF A42_ok func42 (oF z8h func22 (ye2 _ _)))
def sh16_4 : List Fm := d :: .box 100100 [.val i6, .val sI, .val sI, .val sS] :: D 34 (.cell (.val sS) :: .cell (.val i6) :: .cell (.val i6) :: D 62 [])
def xs16_4 : List (Ex × List Fm) := [(.ret, (d :: d :: .cell (.val .bool) :: D 98 [])), (.exit 0, (D 101 []))]
def yg5 : ((Int × LI × LI × LS × Unit) × LS × Int × Int × Unit) → Option (((Int × LI × LI × LS × Unit) × LS × Int × Int × Unit) ⊕ ((Bool × Unit) ⊕ (Unit))) := fun ((v1_0, v1_1, v1_2, v1_3, _), v36, v37, v38, _) =>
 bif (decide (v38 < v37)) then
  if (((0 : Int) ≤ v38) ∧ (v38 < (((List.length v36) : Nat) : Int))) then
   bif (decide ((List.getD v36 (Int.toNat v38) ((0 : Int), ⟨Array.empty⟩, 0, 0)).1 < 0)) then
    some (Sum.inr (Sum.inl (false, ())))
   else
    bif (decide ((List.getD v36 (Int.toNat v38) ((0 : Int), ⟨Array.empty⟩, 0, 0)).1 ≥ v1_0)) then
     some (Sum.inr (Sum.inl (false, ())))
    else
     bif (decide ((List.getD v36 (Int.toNat v38) ((0 : Int), ⟨Array.empty⟩, 0, 0)).2.2.1 < 0)) then
      some (Sum.inr (Sum.inl (false, ())))
     else
      bif (decide ((List.getD v36 (Int.toNat v38) ((0 : Int), ⟨Array.empty⟩, 0, 0)).2.2.1 ≥ v1_0)) then
       some (Sum.inr (Sum.inl (false, ())))
      else
       bif (!((ByteArray.toList (List.getD v36 (Int.toNat v38) ((0 : Int), ⟨Array.empty⟩, 0, 0)).2.1) == (ByteArray.toList (⟨#[(97 : UInt8)]⟩ : ByteArray)))) then
        bif (!((ByteArray.toList (List.getD v36 (Int.toNat v38) ((0 : Int), ⟨Array.empty⟩, 0, 0)).2.1) == (ByteArray.toList (⟨#[(98 : UInt8)]⟩ : ByteArray)))) then
         some (Sum.inr (Sum.inl (false, ())))
        else
         bif (decide ((List.getD v36 (Int.toNat v38) ((0 : Int), ⟨Array.empty⟩, 0, 0)).2.2.2 < 0)) then
          some (Sum.inr (Sum.inl (false, ())))
         else
          bif (decide ((List.getD v36 (Int.toNat v38) ((0 : Int), ⟨Array.empty⟩, 0, 0)).2.2.2 > 3)) then
           some (Sum.inr (Sum.inl (false, ())))
          else
           bif (decide (v38 > 0)) then
            if (((0 : Int) ≤ (IntKind.wrap .i64 (v38 - 1))) ∧ ((IntKind.wrap .i64 (v38 - 1)) < (((List.length v1_3) : Nat) : Int))) then
             Option.bind (yj3 (List.getD v1_3 (Int.toNat (IntKind.wrap .i64 (v38 - 1))) ((0 : Int), ⟨Array.empty⟩, 0, 0)) ((List.getD v36 (Int.toNat v38) ((0 : Int), ⟨Array.empty⟩, 0, 0)).1, (List.getD v36 (Int.toNat v38) ((0 : Int), ⟨Array.empty⟩, 0, 0)).2.1, (List.getD v36 (Int.toNat v38) ((0 : Int), ⟨Array.empty⟩, 0, 0)).2.2.1, (List.getD v36 (Int.toNat v38) ((0 : Int), ⟨Array.empty⟩, 0, 0)).2.2.2)) fun r0 =>
              bif (decide (r0 ≥ 0)) then
               some (Sum.inr (Sum.inl (false, ())))
              else
               some (Sum.inl ((v1_0, v1_1, v1_2, v1_3, ()), v36, v37, (IntKind.wrap .i64 (v38 + 1)), ()))
            else
             none
           else
            some (Sum.inl ((v1_0, v1_1, v1_2, v1_3, ()), v36, v37, (IntKind.wrap .i64 (v38 + 1)), ()))
       else
        bif (decide ((List.getD v36 (Int.toNat v38) ((0 : Int), ⟨Array.empty⟩, 0, 0)).2.2.2 < 0)) then
         some (Sum.inr (Sum.inl (false, ())))
        else
         bif (decide ((List.getD v36 (Int.toNat v38) ((0 : Int), ⟨Array.empty⟩, 0, 0)).2.2.2 > 3)) then
          some (Sum.inr (Sum.inl (false, ())))
         else
          bif (decide (v38 > 0)) then
           if (((0 : Int) ≤ (IntKind.wrap .i64 (v38 - 1))) ∧ ((IntKind.wrap .i64 (v38 - 1)) < (((List.length v1_3) : Nat) : Int))) then
            Option.bind (yj3 (List.getD v1_3 (Int.toNat (IntKind.wrap .i64 (v38 - 1))) ((0 : Int), ⟨Array.empty⟩, 0, 0)) ((List.getD v36 (Int.toNat v38) ((0 : Int), ⟨Array.empty⟩, 0, 0)).1, (List.getD v36 (Int.toNat v38) ((0 : Int), ⟨Array.empty⟩, 0, 0)).2.1, (List.getD v36 (Int.toNat v38) ((0 : Int), ⟨Array.empty⟩, 0, 0)).2.2.1, (List.getD v36 (Int.toNat v38) ((0 : Int), ⟨Array.empty⟩, 0, 0)).2.2.2)) fun r1 =>
             bif (decide (r1 ≥ 0)) then
              some (Sum.inr (Sum.inl (false, ())))
             else
              some (Sum.inl ((v1_0, v1_1, v1_2, v1_3, ()), v36, v37, (IntKind.wrap .i64 (v38 + 1)), ()))
           else
            none
          else
           some (Sum.inl ((v1_0, v1_1, v1_2, v1_3, ()), v36, v37, (IntKind.wrap .i64 (v38 + 1)), ()))
  else
   none
 else
  some (Sum.inr (Sum.inr ()))
theorem ki5 {L} (h : L 4 = some ⟨101, sh16_4, xs16_4, yg5⟩) : yc0 prog L (ya8 f16 4) := lo (L' := L0) (by kernel_rfl) E16_ok ya0 h
def L16_1 : Nat → Option LoopD := fun n => ifEq n 4 (some ⟨101, sh16_4, xs16_4, yg5⟩) (L0 n)
def yc5 : TA → Option (Bool) := fun (a0_0, a0_1, a0_2, a0_3) =>
 bif (decide (a0_0 < 1)) then
  some false
 else
  bif (decide (a0_0 > 4)) then
   some false
  else
   bif (decide ((((List.length a0_3) : Nat) : Int) > 24)) then
    some false
   else
    Option.bind (yx6 a0_1 a0_0) fun r0 =>
     bif (!r0) then
      some false
     else
      Option.bind (yx6 a0_2 a0_0) fun r1 =>
       bif (!r1) then
        some false
       else
        Option.bind (ya2 yg5 ((a0_0, a0_1, a0_2, a0_3, ()), a0_3, (((List.length a0_3) : Nat) : Int), 0, ())) fun r2 =>
         (match r2 with
         | .inl (d3, _) =>
           some d3
         | .inr _ =>
           some true)
def A16 : FnA := ⟨[.v kA], true, [.bool], fun x => yc5 x.1⟩
theorem y2i : FnOk prog 16 A16 := fo (L := L16_1) (by kernel_rfl) func16 E16_ok (ya9 (ki5 rfl) ya0)
def sh17_3 : List Fm := d :: .clo [.pair i6 (.pair .str (.pair i6 i6))] kS :: d :: d :: d :: .cell (.own kS 100500 false) :: d :: d :: d :: .cell (.val sS) :: .cell (.val i6) :: .cell (.val i6) :: D 11 []
def xs17_3 : List (Ex × List Fm) := [(.exit 0, (D 5 (.cell (.own kS 100500 false) :: D 17 [])))]
def ym5 : (((TS × Unit) → Option (TS)) × LS × LS × Int × Int × Unit) → Option ((((TS × Unit) → Option (TS)) × LS × LS × Int × Int × Unit) ⊕ ((LS × Unit))) := fun (v1, v5, v9, v10, v11, _) =>
 bif (decide (v11 < v10)) then
  if (((0 : Int) ≤ v11) ∧ (v11 < (((List.length v9) : Nat) : Int))) then
   Option.bind (v1 (((List.getD v9 (Int.toNat v11) ((0 : Int), ⟨Array.empty⟩, 0, 0)).1, (List.getD v9 (Int.toNat v11) ((0 : Int), ⟨Array.empty⟩, 0, 0)).2.1, (List.getD v9 (Int.toNat v11) ((0 : Int), ⟨Array.empty⟩, 0, 0)).2.2.1, (List.getD v9 (Int.toNat v11) ((0 : Int), ⟨Array.empty⟩, 0, 0)).2.2.2), ())) fun (r0, r1, r2, r3) =>
    if (((0 + (List.length v5)) = (List.length v5)) ∧ ((((List.length v5) + (List.length (List.take 1 (List.drop 0 [(r0, r1, r2, r3)])))) * 40) ≤ 140737488355328)) then
     some (Sum.inl (v1, (List.take ((List.length v5) + (List.length (List.take 1 (List.drop 0 [(r0, r1, r2, r3)])))) (List.drop 0 ((List.drop 0 v5) ++ (List.take 1 (List.drop 0 [(r0, r1, r2, r3)]))))), v9, v10, (IntKind.wrap .i64 (v11 + 1)), ()))
    else
     none
  else
   none
 else
  some (Sum.inr ((List.take (List.length v5) (List.drop 0 v5)), ()))
theorem ki6 {L} (h : L 3 = some ⟨23, sh17_3, xs17_3, ym5⟩) : yc0 prog L (ya8 f17 3) := lo (L' := L0) (by kernel_rfl) yh7 ya0 h
def L17_1 : Nat → Option LoopD := fun n => ifEq n 3 (some ⟨23, sh17_3, xs17_3, ym5⟩) (L0 n)
def y2j : LS → ((TS × Unit) → Option (TS)) → Option (LS) := fun a0 a1 =>
 Option.bind (ya2 ym5 (a1, (List.take 0 (List.drop 0 [])), a0, (((List.length a0) : Nat) : Int), 0, ())) fun (r0, _) =>
  some (List.take (List.length r0) (List.drop 0 r0))
def A17 : FnA := ⟨[.v sS, .clo [.pair i6 (.pair .str (.pair i6 i6))] kS], true, [.sl kS], fun x => y2j x.1 x.2.1⟩
theorem A17_ok : FnOk prog 17 A17 := fo (L := L17_1) (by kernel_rfl) func17 yh7 (ya9 (ki6 rfl) ya0)
def yn9 : TS → Option (TS) := fun (a0_0, a0_1, a0_2, a0_3) =>
 some (a0_0, a0_1, a0_2, 0)
def A18 : FnA := ⟨[.v kS], true, [.pair i6 (.pair .str (.pair i6 i6))], fun x => yn9 x.1⟩
theorem A18_ok : FnOk prog 18 A18 := fo (L := L0) (by kernel_rfl) func18 yh7 ya0
def sh43_2 : List Fm := .cell (.val sI) :: .cell (.val i6) :: D 5 (.cell (.val i6) :: .cell (.val i6) :: D 10 [])
def xs43_2 : List (Ex × List Fm) := [(.ret, (D 4 (.cell (.val i6) :: D 14 []))), (.exit 0, (D 19 []))]
def ym6 : (LI × Int × Int × Int × Unit) → Option ((LI × Int × Int × Int × Unit) ⊕ ((Int × Unit) ⊕ (Unit))) := fun (v0, v1, v7, v8, _) =>
 bif (decide (v8 < v7)) then
  if (((0 : Int) ≤ v8) ∧ (v8 < (((List.length v0) : Nat) : Int))) then
   bif (v1 == (List.getD v0 (Int.toNat v8) 0)) then
    some (Sum.inr (Sum.inl (v8, ())))
   else
    some (Sum.inl (v0, v1, v7, (IntKind.wrap .i64 (v8 + 1)), ()))
  else
   none
 else
  some (Sum.inr (Sum.inr ()))
theorem ki7 {L} (h : L 2 = some ⟨19, sh43_2, xs43_2, ym6⟩) : yc0 prog L (ya8 f43 2) := lo (L' := L0) (by kernel_rfl) yh7 ya0 h
def L43_1 : Nat → Option LoopD := fun n => ifEq n 2 (some ⟨19, sh43_2, xs43_2, ym6⟩) (L0 n)
def y4w : LI → Int → Option (Int) := fun a0 a1 =>
 Option.bind (ya2 ym6 (a0, a1, (((List.length a0) : Nat) : Int), 0, ())) fun r0 =>
  (match r0 with
  | .inl (d1, _) =>
    some d1
  | .inr _ =>
    some (-1))
def A43 : FnA := ⟨[.v sI, .v i6], true, [.int .i64], fun x => y4w x.1 x.2.1⟩
theorem A43_ok : FnOk prog 43 A43 := fo (L := L43_1) (by kernel_rfl) func43 yh7 (ya9 (ki7 rfl) ya0)
def E19 : Env := ev fun g => ifEq g 43 (some A43) (none)
theorem E19_ok : FnsOk prog E19 := (oF A43_ok func43 (ye2 _ _))
def ys4 : LI → Int → Option (Bool) := fun a0 a1 =>
 Option.bind (y4w a0 a1) fun r0 =>
  some (decide (r0 ≥ 0))
def A19 : FnA := ⟨[.v sI, .v i6], true, [.bool], fun x => ys4 x.1 x.2.1⟩
theorem A19_ok : FnOk prog 19 A19 := fo (L := L0) (by kernel_rfl) func19 E19_ok ya0
def sh44_2 : List Fm := .cell (.val sS) :: .clo [.pair i6 (.pair .str (.pair i6 i6))] .bool :: D 5 (.cell (.val i6) :: .cell (.val i6) :: D 10 [])
def xs44_2 : List (Ex × List Fm) := [(.ret, (D 4 (.cell (.val i6) :: D 14 []))), (.exit 0, (D 19 []))]
def yd9 : (LS × ((TS × Unit) → Option (Bool)) × Int × Int × Unit) → Option ((LS × ((TS × Unit) → Option (Bool)) × Int × Int × Unit) ⊕ ((Int × Unit) ⊕ (Unit))) := fun (v0, v1, v7, v8, _) =>
 bif (decide (v8 < v7)) then
  if (((0 : Int) ≤ v8) ∧ (v8 < (((List.length v0) : Nat) : Int))) then
   Option.bind (v1 ((List.getD v0 (Int.toNat v8) ((0 : Int), ⟨Array.empty⟩, 0, 0)), ())) fun r0 =>
    bif r0 then
     some (Sum.inr (Sum.inl (v8, ())))
    else
     some (Sum.inl (v0, v1, v7, (IntKind.wrap .i64 (v8 + 1)), ()))
  else
   none
 else
  some (Sum.inr (Sum.inr ()))
theorem ki8 {L} (h : L 2 = some ⟨19, sh44_2, xs44_2, yd9⟩) : yc0 prog L (ya8 f44 2) := lo (L' := L0) (by kernel_rfl) yh7 ya0 h
def L44_1 : Nat → Option LoopD := fun n => ifEq n 2 (some ⟨19, sh44_2, xs44_2, yd9⟩) (L0 n)
def ys5 : LS → ((TS × Unit) → Option (Bool)) → Option (Int) := fun a0 a1 =>
 Option.bind (ya2 yd9 (a0, a1, (((List.length a0) : Nat) : Int), 0, ())) fun r0 =>
  (match r0 with
  | .inl (d1, _) =>
    some d1
  | .inr _ =>
    some (-1))
def A44 : FnA := ⟨[.v sS, .clo [.pair i6 (.pair .str (.pair i6 i6))] .bool], true, [.int .i64], fun x => ys5 x.1 x.2.1⟩
theorem A44_ok : FnOk prog 44 A44 := fo (L := L44_1) (by kernel_rfl) func44 yh7 (ya9 (ki8 rfl) ya0)
def E20 : Env := ev fun g => ifEq g 44 (some A44) (none)
theorem E20_ok : FnsOk prog E20 := (oF A44_ok func44 (ye2 _ _))
def yk7 : LS → ((TS × Unit) → Option (Bool)) → Option (Bool) := fun a0 a1 =>
 Option.bind (ys5 a0 a1) fun r0 =>
  some (decide (r0 ≥ 0))
def A20 : FnA := ⟨[.v sS, .clo [.pair i6 (.pair .str (.pair i6 i6))] .bool], true, [.bool], fun x => yk7 x.1 x.2.1⟩
theorem A20_ok : FnOk prog 20 A20 := fo (L := L0) (by kernel_rfl) func20 E20_ok ya0
def E21 : Env := ev fun g => ifEq g 22 (some A22) (none)
theorem E21_ok : FnsOk prog E21 := (oF z8h func22 (ye2 _ _))
def yo0 : TS → TS → Option (Bool) := fun (a0_0, a0_1, a0_2, a0_3) (a1_0, a1_1, a1_2, a1_3) =>
 Option.bind (yj3 (a0_0, a0_1, a0_2, a0_3) (a1_0, a1_1, a1_2, a1_3)) fun r0 =>
  some (r0 == 0)
def A21 : FnA := ⟨[.v kS, .cap kS], true, [.bool], fun x => yo0 x.1 x.2.1⟩
theorem A21_ok : FnOk prog 21 A21 := fo (L := L0) (by kernel_rfl) func21 E21_ok ya0
def y0k : LI → Option (LI) := fun a0 =>
 zm0 (some [])
  (if (((0 + 0) = (List.length ([] : List Unit))) ∧ (((0 + (List.length a0)) * 8) ≤ 140737488355328)) then
   some (List.take (0 + (List.length a0)) (List.drop 0 ((List.drop 0 []) ++ a0)))
  else
   none)
  (bif (List.isEmpty a0) then
   none
  else
   if (((0 + 0) = (List.length ([] : List Unit))) ∧ (((0 + (List.length a0)) * 8) ≤ 140737488355328)) then
    some (List.take (0 + (List.length a0)) (List.drop 0 ((List.drop 0 []) ++ a0)))
   else
    none)
def A48 : FnA := ⟨[.v sI], true, [.sl i6], fun x => y0k x.1⟩
theorem A48_ok : FnOk prog 48 A48 := fo (L := L0) (by kernel_rfl) func48 yh7 ya0
def yt4 : LS → Option (LS) := fun a0 =>
 zm0 (some [])
  (if (((0 + 0) = (List.length ([] : List Unit))) ∧ (((0 + (List.length a0)) * 40) ≤ 140737488355328)) then
   some (List.take (0 + (List.length a0)) (List.drop 0 ((List.drop 0 []) ++ a0)))
  else
   none)
  (bif (List.isEmpty a0) then
   none
  else
   if (((0 + 0) = (List.length ([] : List Unit))) ∧ (((0 + (List.length a0)) * 40) ≤ 140737488355328)) then
    some (List.take (0 + (List.length a0)) (List.drop 0 ((List.drop 0 []) ++ a0)))
   else
    none)
def A49 : FnA := ⟨[.v sS], true, [.sl kS], fun x => yt4 x.1⟩
theorem A49_ok : FnOk prog 49 A49 := fo (L := L0) (by kernel_rfl) func49 yh7 ya0
def E23 : Env := ⟨ty0, fun g => ifEq g 48 (some A48) (ifEq g 49 (some A49) (ifEq g 16 (some A16) (none))), fun g => ifEq g 50 (some A50) (ifEq g 51 (some A51) (none)), fun _ => none, fun _ => none⟩
theorem E23_ok : FnsOk prog E23 := (oF A48_ok func48 (oF A49_ok func49 (oF y2i func16 (y5v A50_ok (by kernel_rfl) func50 (by kernel_rfl) (by kernel_rfl) (y5v A51_ok (by kernel_rfl) func51 (by kernel_rfl) (by kernel_rfl) (ye2 _ _))))))
def y7s : Int → LI → LI → LS → Option (TA × Bool) := fun a0 a1 a2 a3 =>
 Option.bind (y0k a1) fun r0 =>
  Option.bind (y0k a2) fun r1 =>
   Option.bind (yt4 a3) fun r2 =>
    if ((List.length r0) = (List.length r0)) then
     Option.bind (y1w r0) fun (_, r3, _) =>
      if ((List.length r1) = (List.length r1)) then
       Option.bind (y1w r1) fun (_, r4, _) =>
        if ((List.length r2) = (List.length r2)) then
         Option.bind (yx4 r2) fun (_, r5, _) =>
          Option.bind (yc5 (a0, (List.take (List.length r0) (List.drop 0 r3)), (List.take (List.length r1) (List.drop 0 r4)), (List.take (List.length r2) (List.drop 0 r5)))) fun r6 =>
           bif (!r6) then
            some (((0 : Int), [], [], []), false)
           else
            some ((a0, (List.take (List.length r0) (List.drop 0 r3)), (List.take (List.length r1) (List.drop 0 r4)), (List.take (List.length r2) (List.drop 0 r5))), true)
        else
         none
      else
       none
    else
     none
def A23 : FnA := ⟨[.v i6, .v sI, .v sI, .v sS], true, [.pair i6 (.pair sI (.pair sI sS)), .bool], fun x => y7s x.1 x.2.1 x.2.2.1 x.2.2.2.1⟩
theorem A23_ok : FnOk prog 23 A23 := fo (L := L0) (by kernel_rfl) func23 E23_ok ya0
def E7 : Env := ev fun g => ifEq g 16 (some A16) (ifEq g 17 (some A17) (ifEq g 18 (some A18) (ifEq g 19 (some A19) (ifEq g 20 (some A20) (ifEq g 21 (some A21) (ifEq g 23 (some A23) (none)))))))
theorem E7_ok : FnsOk prog E7 := (oF y2i func16 (oF A17_ok func17 (oF A18_ok func18 (oF A19_ok func19 (oF A20_ok func20 (oF A21_ok func21 (oF A23_ok func23 (ye2 _ _))))))))
def sh7_8 : List Fm := d :: .box 100100 [.val i6, .val sI, .val sI, .val sS] :: .box 100200 [.val i6, .own i6 100202 false, .own i6 100203 false, .own kS 100204 false] :: d :: .cell (.own kS 100400 false) :: d :: .box 100600 [.val i6, .val .str, .val i6, .val i6] :: D 11 (.cell (.val sS) :: .cell (.val i6) :: .cell (.val i6) :: D 4 (.cell (.val sI) :: .cell (.val i6) :: .cell (.val i6) :: D 36 []))
def xs7_8 : List (Ex × List Fm) := [(.exit 2, [d, .box 100100 [.val i6, .val sI, .val sI, .val sS], .box 100200 [.val i6, .own i6 100202 false, .own i6 100203 false, .own kS 100204 false], d, .cell (.own kS 100400 false), d, d, d, d, d, d, d, d, d, d, d, d, d, .cell (.val sS), .cell (.val i6), .cell (.val i6), d, d, d, d, d, d, d, d, d, d, d, d, d, d, d, d, d, d, d, d, d, d, d, d, d, d, d, d, d, d, d, d, d, d, d, d, d, d, d, d, d, d, d])]
def yc8 : ((Int × LI × LI × LS × Unit) × (Int × LI × LI × LS × Unit) × LS × (Int × ByteArray × Int × Int × Unit) × LS × Int × Int × LI × Int × Int × Unit) → Option (((Int × LI × LI × LS × Unit) × (Int × LI × LI × LS × Unit) × LS × (Int × ByteArray × Int × Int × Unit) × LS × Int × Int × LI × Int × Int × Unit) ⊕ (((Int × LI × LI × LS × Unit) × (Int × LI × LI × LS × Unit) × LS × LS × Int × Int × Unit))) := fun ((v1_0, v1_1, v1_2, v1_3, _), (v2_0, v2_1, v2_2, v2_3, _), v4, (v6_0, v6_1, v6_2, v6_3, _), v18, v19, v20, v25, v26, v27, _) =>
 bif (decide (v27 < v26)) then
  if (((0 : Int) ≤ v27) ∧ (v27 < (((List.length v25) : Nat) : Int))) then
   Option.bind (ys4 v1_1 v6_0) fun r0 =>
    bif r0 then
     Option.bind (yk7 (List.take (List.length v4) (List.drop 0 v4)) (fun y1 => (yo0 y1.1 ((List.getD v25 (Int.toNat v27) 0), v6_1, v6_2, 1)))) fun r2 =>
      bif (!r2) then
       if (((0 + (List.length v4)) = (List.length v4)) ∧ ((((List.length v4) + (List.length (List.take 1 (List.drop 0 [((List.getD v25 (Int.toNat v27) (0 : Int)), v6_1, v6_2, (1 : Int))])))) * 40) ≤ 140737488355328)) then
        some (Sum.inl ((v1_0, v1_1, v1_2, v1_3, ()), (v2_0, (List.take (List.length v2_1) (List.drop 0 v2_1)), (List.take (List.length v2_2) (List.drop 0 v2_2)), (List.take (List.length v2_3) (List.drop 0 v2_3)), ()), (List.take ((List.length v4) + (List.length (List.take 1 (List.drop 0 [((List.getD v25 (Int.toNat v27) (0 : Int)), v6_1, v6_2, (1 : Int))])))) (List.drop 0 ((List.drop 0 v4) ++ (List.take 1 (List.drop 0 [((List.getD v25 (Int.toNat v27) (0 : Int)), v6_1, v6_2, (1 : Int))]))))), (v6_0, v6_1, v6_2, v6_3, ()), v18, v19, v20, v25, v26, (IntKind.wrap .i64 (v27 + 1)), ()))
       else
        none
      else
       some (Sum.inl ((v1_0, v1_1, v1_2, v1_3, ()), (v2_0, (List.take (List.length v2_1) (List.drop 0 v2_1)), (List.take (List.length v2_2) (List.drop 0 v2_2)), (List.take (List.length v2_3) (List.drop 0 v2_3)), ()), (List.take (List.length v4) (List.drop 0 v4)), (v6_0, v6_1, v6_2, v6_3, ()), v18, v19, v20, v25, v26, (IntKind.wrap .i64 (v27 + 1)), ()))
    else
     some (Sum.inl ((v1_0, v1_1, v1_2, v1_3, ()), (v2_0, (List.take (List.length v2_1) (List.drop 0 v2_1)), (List.take (List.length v2_2) (List.drop 0 v2_2)), (List.take (List.length v2_3) (List.drop 0 v2_3)), ()), (List.take (List.length v4) (List.drop 0 v4)), (v6_0, v6_1, v6_2, v6_3, ()), v18, v19, v20, v25, v26, (IntKind.wrap .i64 (v27 + 1)), ()))
  else
   none
 else
  some (Sum.inr ((v1_0, v1_1, v1_2, v1_3, ()), (v2_0, (List.take (List.length v2_1) (List.drop 0 v2_1)), (List.take (List.length v2_2) (List.drop 0 v2_2)), (List.take (List.length v2_3) (List.drop 0 v2_3)), ()), (List.take (List.length v4) (List.drop 0 v4)), v18, v19, v20, ()))
theorem loop7_8 {L} (h : L 8 = some ⟨64, sh7_8, xs7_8, yc8⟩) : yc0 prog L (ya8 f7 8) := lo (L' := L0) (by kernel_rfl) E7_ok ya0 h
def L7_1 : Nat → Option LoopD := fun n => ifEq n 8 (some ⟨64, sh7_8, xs7_8, yc8⟩) (L0 n)
def sh7_5 : List Fm := d :: .box 100100 [.val i6, .val sI, .val sI, .val sS] :: .box 100200 [.val i6, .own i6 100202 false, .own i6 100203 false, .own kS 100204 false] :: d :: .cell (.own kS 100400 false) :: D 13 (.cell (.val sS) :: .cell (.val i6) :: .cell (.val i6) :: D 43 [])
def xs7_5 : List (Ex × List Fm) := [(.exit 0, [d, .box 100100 [.val i6, .val sI, .val sI, .val sS], .box 100200 [.val i6, .own i6 100202 false, .own i6 100203 false, .own kS 100204 false], d, .cell (.own kS 100400 false), d, d, d, d, d, d, d, d, d, d, d, d, d, d, d, d, d, d, d, d, d, d, d, d, d, d, d, d, d, d, d, d, d, d, d, d, d, d, d, d, d, d, d, d, d, d, d, d, d, d, d, d, d, d, d, d, d, d, d])]
def yd5 : ((Int × LI × LI × LS × Unit) × (Int × LI × LI × LS × Unit) × LS × LS × Int × Int × Unit) → Option (((Int × LI × LI × LS × Unit) × (Int × LI × LI × LS × Unit) × LS × LS × Int × Int × Unit) ⊕ (((Int × LI × LI × LS × Unit) × (Int × LI × LI × LS × Unit) × LS × Unit))) := fun ((v1_0, v1_1, v1_2, v1_3, _), (v2_0, v2_1, v2_2, v2_3, _), v4, v18, v19, v20, _) =>
 bif (decide (v20 < v19)) then
  if (((0 : Int) ≤ v20) ∧ (v20 < (((List.length v18) : Nat) : Int))) then
   Option.bind (ya2 yc8 ((v1_0, v1_1, v1_2, v1_3, ()), (v2_0, (List.take (List.length v2_1) (List.drop 0 v2_1)), (List.take (List.length v2_2) (List.drop 0 v2_2)), (List.take (List.length v2_3) (List.drop 0 v2_3)), ()), (List.take (List.length v4) (List.drop 0 v4)), ((List.getD v18 (Int.toNat v20) ((0 : Int), ⟨Array.empty⟩, 0, 0)).1, (List.getD v18 (Int.toNat v20) ((0 : Int), ⟨Array.empty⟩, 0, 0)).2.1, (List.getD v18 (Int.toNat v20) ((0 : Int), ⟨Array.empty⟩, 0, 0)).2.2.1, (List.getD v18 (Int.toNat v20) ((0 : Int), ⟨Array.empty⟩, 0, 0)).2.2.2, ()), v18, v19, v20, v1_2, (((List.length v1_2) : Nat) : Int), 0, ())) fun ((r0, r1, r2, r3, _), (r4, r5, r6, r7, _), r8, r9, r10, r11, _) =>
    some (Sum.inl ((r0, r1, r2, r3, ()), (r4, (List.take (List.length r5) (List.drop 0 r5)), (List.take (List.length r6) (List.drop 0 r6)), (List.take (List.length r7) (List.drop 0 r7)), ()), (List.take (List.length r8) (List.drop 0 r8)), r9, r10, (IntKind.wrap .i64 (r11 + 1)), ()))
  else
   none
 else
  some (Sum.inr ((v1_0, v1_1, v1_2, v1_3, ()), (v2_0, (List.take (List.length v2_1) (List.drop 0 v2_1)), (List.take (List.length v2_2) (List.drop 0 v2_2)), (List.take (List.length v2_3) (List.drop 0 v2_3)), ()), (List.take (List.length v4) (List.drop 0 v4)), ()))
theorem loop7_5 {L} (h : L 5 = some ⟨64, sh7_5, xs7_5, yd5⟩) : yc0 prog L (ya8 f7 5) := lo (L' := L7_1) (by kernel_rfl) E7_ok (ya9 (loop7_8 rfl) ya0) h
def L7_2 : Nat → Option LoopD := fun n => ifEq n 5 (some ⟨64, sh7_5, xs7_5, yd5⟩) (L7_1 n)
def yc6 : TA → Option (TA × Bool) := fun (a0_0, a0_1, a0_2, a0_3) =>
 Option.bind (yc5 (a0_0, a0_1, a0_2, a0_3)) fun r0 =>
  bif (!r0) then
   some (((0 : Int), [], [], []), false)
  else
   Option.bind (y2j a0_3 (fun y1 => (yn9 y1.1))) fun r2 =>
    Option.bind (ya2 yd5 ((a0_0, a0_1, a0_2, a0_3, ()), ((0 : Int), [], [], [], ()), (List.take (List.length r2) (List.drop 0 r2)), a0_3, (((List.length a0_3) : Nat) : Int), 0, ())) fun ((r3, r4, r5, r6, _), (r7, r8, r9, r10, _), r11, _) =>
     Option.bind (y7s r3 r4 r5 (List.take (List.length r11) (List.drop 0 r11))) fun ((r12, r13, r14, r15), r16) =>
      some ((r12, (List.take (List.length r13) (List.drop 0 r13)), (List.take (List.length r14) (List.drop 0 r14)), (List.take (List.length r15) (List.drop 0 r15))), r16)
def A7 : FnA := ⟨[.v kA], true, [.pair i6 (.pair sI (.pair sI sS)), .bool], fun x => yc6 x.1⟩
theorem A7_ok : FnOk prog 7 A7 := fo (L := L7_2) (by kernel_rfl) func7 E7_ok (ya9 (loop7_5 rfl) ya0)
def yk0 : ByteArray → ByteArray → Option (Bool) := fun a0 a1 =>
 bif (decide ((((ByteArray.size a0) : Nat) : Int) ≥ (((ByteArray.size a1) : Nat) : Int))) then
  if (((0 : Int) ≤ (((ByteArray.size a1) : Nat) : Int)) ∧ ((((ByteArray.size a1) : Nat) : Int) ≤ (((ByteArray.size a0) : Nat) : Int))) then
   some ((ByteArray.toList (ByteArray.extract a0 0 (Int.toNat (((ByteArray.size a1) : Nat) : Int)))) == (ByteArray.toList a1))
  else
   none
 else
  some false
def A126 : FnA := ⟨[.v .str, .v .str], true, [.bool], fun x => yk0 x.1 x.2.1⟩
theorem A126_ok : FnOk prog 126 A126 := fo (L := L0) (by kernel_rfl) func126 yh7 ya0
def E88 : Env := ev fun g => ifEq g 126 (some A126) (none)
theorem E88_ok : FnsOk prog E88 := (oF A126_ok func126 (ye2 _ _))
def yp3 : ByteArray → ByteArray → Option (Bool) := fun a0 a1 =>
 Option.bind (yk0 a0 a1) fun r0 =>
  some r0
def A88 : FnA := ⟨[.v .str, .v .str], true, [.bool], fun x => yp3 x.1 x.2.1⟩
theorem A88_ok : FnOk prog 88 A88 := fo (L := L0) (by kernel_rfl) func88 E88_ok ya0
def R59 (impl_readParts_rec : ByteArray → Option ((List (ByteArray × PT)) × ByteArray)) : FnA := ⟨[.v .str], true, [.sl (.pair .str .pt), .str], fun x => impl_readParts_rec x.1⟩
def E59 (impl_readParts_rec : ByteArray → Option ((List (ByteArray × PT)) × ByteArray)) : Env := ev fun g => ifEq g 59 (some (R59 impl_readParts_rec)) (ifEq g 88 (some A88) (none))
theorem z3x (impl_readParts_rec : ByteArray → Option ((List (ByteArray × PT)) × ByteArray)) (hrec : FnOk prog 59 (R59 impl_readParts_rec)) : FnsOk prog (E59 impl_readParts_rec) := (oF hrec func59 (oF A88_ok func88 (ye2 _ _)))
def L59_0 (impl_readParts_rec : ByteArray → Option ((List (ByteArray × PT)) × ByteArray)) : Nat → Option LoopD := fun _ => none
def z80 : List Fm := .cell (.val .str) :: d :: d :: d :: .cell (.own (.pair .str .pt) 100400 false) :: D 44 []
def z81 : List (Ex × List Fm) := [(.ret, (d :: d :: .cell (.own (.pair .str .pt) 100200 false) :: .cell (.val .str) :: D 45 [])), (.exit 0, (.cell (.val .str) :: d :: d :: d :: .cell (.own (.pair .str .pt) 100400 false) :: D 44 []))]
def ya6 (impl_readParts_rec : ByteArray → Option ((List (ByteArray × PT)) × ByteArray)) : (ByteArray × (List (ByteArray × PT)) × Unit) → Option ((ByteArray × (List (ByteArray × PT)) × Unit) ⊕ (((List (ByteArray × PT)) × ByteArray × Unit) ⊕ (ByteArray × (List (ByteArray × PT)) × Unit))) := fun (v0, v4, _) =>
 bif (!((ByteArray.toList v0) == (ByteArray.toList (⟨#[]⟩ : ByteArray)))) then
  if (((0 : Int) ≤ 0) ∧ ((0 : Int) < (((ByteArray.size v0) : Nat) : Int))) then
   bif ((((UInt8.toNat (Array.getD (ByteArray.data v0) (Int.toNat 0) (0 : UInt8))) : Nat) : Int) == 97) then
    bif ((((UInt8.toNat (Array.getD (ByteArray.data v0) (Int.toNat 0) (0 : UInt8))) : Nat) : Int) == 97) then
     if (((0 : Int) ≤ 1) ∧ ((1 : Int) ≤ (((ByteArray.size v0) : Nat) : Int))) then
      if (((0 + (List.length v4)) = (List.length v4)) ∧ ((((List.length v4) + (List.length (List.take 1 (List.drop 0 [((ByteArray.extract v0 0 (Int.toNat (1 : Int))), (PT.mk []))])))) * 40) ≤ 140737488355328)) then
       if (((0 : Int) ≤ 1) ∧ ((1 : Int) ≤ (((ByteArray.size v0) : Nat) : Int))) then
        some (Sum.inl ((ByteArray.extract v0 (Int.toNat 1) (ByteArray.size v0)), (List.take ((List.length v4) + (List.length (List.take 1 (List.drop 0 [((ByteArray.extract v0 0 (Int.toNat (1 : Int))), (PT.mk []))])))) (List.drop 0 ((List.drop 0 v4) ++ (List.take 1 (List.drop 0 [((ByteArray.extract v0 0 (Int.toNat (1 : Int))), (PT.mk []))]))))), ()))
       else
        none
      else
       none
     else
      none
    else
     bif ((((UInt8.toNat (Array.getD (ByteArray.data v0) (Int.toNat 0) (0 : UInt8))) : Nat) : Int) == 40) then
      if (((0 : Int) ≤ 1) ∧ ((1 : Int) ≤ (((ByteArray.size v0) : Nat) : Int))) then
       Option.bind (impl_readParts_rec (ByteArray.extract v0 (Int.toNat 1) (ByteArray.size v0))) fun (r0, r1) =>
        bif (decide ((((List.length r0) : Nat) : Int) > 0)) then
         Option.bind (yp3 r1 (⟨#[(41 : UInt8), (35 : UInt8)]⟩ : ByteArray)) fun r2 =>
          bif r2 then
           if (((0 + (List.length v4)) = (List.length v4)) ∧ ((((List.length v4) + (List.length (List.take 1 (List.drop 0 [((⟨Array.empty⟩ : ByteArray), (PT.mk (List.take (List.length r0) (List.drop 0 r0))))])))) * 40) ≤ 140737488355328)) then
            if (((0 : Int) ≤ 2) ∧ ((2 : Int) ≤ (((ByteArray.size r1) : Nat) : Int))) then
             some (Sum.inl ((ByteArray.extract r1 (Int.toNat 2) (ByteArray.size r1)), (List.take ((List.length v4) + (List.length (List.take 1 (List.drop 0 [((⟨Array.empty⟩ : ByteArray), (PT.mk (List.take (List.length r0) (List.drop 0 r0))))])))) (List.drop 0 ((List.drop 0 v4) ++ (List.take 1 (List.drop 0 [((⟨Array.empty⟩ : ByteArray), (PT.mk (List.take (List.length r0) (List.drop 0 r0))))]))))), ()))
            else
             none
           else
            none
          else
           some (Sum.inr (Sum.inl ((List.take (List.length v4) (List.drop 0 v4)), v0, ())))
        else
         some (Sum.inr (Sum.inl ((List.take (List.length v4) (List.drop 0 v4)), v0, ())))
      else
       none
     else
      some (Sum.inr (Sum.inl ((List.take (List.length v4) (List.drop 0 v4)), v0, ())))
   else
    bif ((((UInt8.toNat (Array.getD (ByteArray.data v0) (Int.toNat 0) (0 : UInt8))) : Nat) : Int) == 98) then
     if (((0 : Int) ≤ 1) ∧ ((1 : Int) ≤ (((ByteArray.size v0) : Nat) : Int))) then
      if (((0 + (List.length v4)) = (List.length v4)) ∧ ((((List.length v4) + (List.length (List.take 1 (List.drop 0 [((ByteArray.extract v0 0 (Int.toNat (1 : Int))), (PT.mk []))])))) * 40) ≤ 140737488355328)) then
       if (((0 : Int) ≤ 1) ∧ ((1 : Int) ≤ (((ByteArray.size v0) : Nat) : Int))) then
        some (Sum.inl ((ByteArray.extract v0 (Int.toNat 1) (ByteArray.size v0)), (List.take ((List.length v4) + (List.length (List.take 1 (List.drop 0 [((ByteArray.extract v0 0 (Int.toNat (1 : Int))), (PT.mk []))])))) (List.drop 0 ((List.drop 0 v4) ++ (List.take 1 (List.drop 0 [((ByteArray.extract v0 0 (Int.toNat (1 : Int))), (PT.mk []))]))))), ()))
       else
        none
      else
       none
     else
      none
    else
     bif ((((UInt8.toNat (Array.getD (ByteArray.data v0) (Int.toNat 0) (0 : UInt8))) : Nat) : Int) == 40) then
      if (((0 : Int) ≤ 1) ∧ ((1 : Int) ≤ (((ByteArray.size v0) : Nat) : Int))) then
       Option.bind (impl_readParts_rec (ByteArray.extract v0 (Int.toNat 1) (ByteArray.size v0))) fun (r3, r4) =>
        bif (decide ((((List.length r3) : Nat) : Int) > 0)) then
         Option.bind (yp3 r4 (⟨#[(41 : UInt8), (35 : UInt8)]⟩ : ByteArray)) fun r5 =>
          bif r5 then
           if (((0 + (List.length v4)) = (List.length v4)) ∧ ((((List.length v4) + (List.length (List.take 1 (List.drop 0 [((⟨Array.empty⟩ : ByteArray), (PT.mk (List.take (List.length r3) (List.drop 0 r3))))])))) * 40) ≤ 140737488355328)) then
            if (((0 : Int) ≤ 2) ∧ ((2 : Int) ≤ (((ByteArray.size r4) : Nat) : Int))) then
             some (Sum.inl ((ByteArray.extract r4 (Int.toNat 2) (ByteArray.size r4)), (List.take ((List.length v4) + (List.length (List.take 1 (List.drop 0 [((⟨Array.empty⟩ : ByteArray), (PT.mk (List.take (List.length r3) (List.drop 0 r3))))])))) (List.drop 0 ((List.drop 0 v4) ++ (List.take 1 (List.drop 0 [((⟨Array.empty⟩ : ByteArray), (PT.mk (List.take (List.length r3) (List.drop 0 r3))))]))))), ()))
            else
             none
           else
            none
          else
           some (Sum.inr (Sum.inl ((List.take (List.length v4) (List.drop 0 v4)), v0, ())))
        else
         some (Sum.inr (Sum.inl ((List.take (List.length v4) (List.drop 0 v4)), v0, ())))
      else
       none
     else
      some (Sum.inr (Sum.inl ((List.take (List.length v4) (List.drop 0 v4)), v0, ())))
  else
   none
 else
  some (Sum.inr (Sum.inr (v0, (List.take (List.length v4) (List.drop 0 v4)), ())))
theorem y5w (impl_readParts_rec : ByteArray → Option ((List (ByteArray × PT)) × ByteArray)) : y5j 49 (E59 impl_readParts_rec) (L59_0 impl_readParts_rec) (ya8 f59 2) z80 z81 = (ya6 impl_readParts_rec) := by kernel_rfl
theorem ki9 (impl_readParts_rec : ByteArray → Option ((List (ByteArray × PT)) × ByteArray)) (hrec : FnOk prog 59 (R59 impl_readParts_rec)) {L : Nat → Option LoopD} (h : L 2 = some ⟨49, z80, z81, (ya6 impl_readParts_rec)⟩) : yc0 prog L (ya8 f59 2) :=
 zx7 (yb8 yg0) (z3x impl_readParts_rec hrec) (ye8 (L := (L59_0 impl_readParts_rec)) (yb8 yg0) (z3x impl_readParts_rec hrec) mixed (c := ya8 f59 2) (bs := []) (by kernel_rfl) ya0 (by kernel_rfl)) (by kernel_rfl) (by kernel_rfl) (y5w impl_readParts_rec) (by rw [show yz0 (ya8 f59 2) = 2 from by kernel_rfl]; exact h)
def L59_1 (impl_readParts_rec : ByteArray → Option ((List (ByteArray × PT)) × ByteArray)) : Nat → Option LoopD := fun n => ifEq n 2 (some ⟨49, z80, z81, (ya6 impl_readParts_rec)⟩) ((L59_0 impl_readParts_rec) n)
def yh0 (impl_readParts_rec : ByteArray → Option ((List (ByteArray × PT)) × ByteArray)) : ByteArray → Option ((List (ByteArray × PT)) × ByteArray) := fun a0 =>
 Option.bind (ya2 (ya6 impl_readParts_rec) (a0, (List.take 0 (List.drop 0 [])), ())) fun r0 =>
  (match r0 with
  | .inl (d1, d2, _) =>
    some ((List.take (List.length d1) (List.drop 0 d1)), d2)
  | .inr (d3, d4, _) =>
    some ((List.take (List.length d4) (List.drop 0 d4)), d3))
theorem y4f (impl_readParts_rec : ByteArray → Option ((List (ByteArray × PT)) × ByteArray)) : fnF (E59 impl_readParts_rec) (L59_1 impl_readParts_rec) [.v .str] true [.sl (.pair .str .pt), .str] f59.ntmps f59.results.toList (yc4 f59) = fun x => (yh0 impl_readParts_rec) x.1 := by kernel_rfl
theorem y4g (impl_readParts_rec : ByteArray → Option ((List (ByteArray × PT)) × ByteArray)) (hrec : FnOk prog 59 (R59 impl_readParts_rec)) : FnOk prog 59 ⟨[.v .str], true, [.sl (.pair .str .pt), .str], fun x => (yh0 impl_readParts_rec) x.1⟩ := by
 have h := yr9 (P := prog) (E := (E59 impl_readParts_rec)) (yb8 yg0) (z3x impl_readParts_rec hrec) (L := (L59_1 impl_readParts_rec)) (ps := [.v .str]) (own := true) (outs := [.sl (.pair .str .pt), .str]) func59 (c := yc4 f59) (by kernel_rfl) (ye8 (L := (L59_1 impl_readParts_rec)) (yb8 yg0) (z3x impl_readParts_rec hrec) mixed (c := yc4 f59) (bs := [ya8 f59 2]) (by kernel_rfl) (ya9 (ki9 impl_readParts_rec hrec rfl) ya0) (by kernel_rfl))
 rw [(y4f impl_readParts_rec)] at h
 exact h
/-- so many calls within each other -/
def ye3 : Nat → ByteArray → Option ((List (ByteArray × PT)) × ByteArray)
 | 0 => fun _ => none
 | n + 1 => yh0 (ye3 n)
theorem yy7 : ∀ n, FnOk prog 59 (R59 (ye3 n))
 | 0 => fun xs r h => by cases h
 | n + 1 => y4g (ye3 n) (yy7 n)
def yu8 : ByteArray → Option ((List (ByteArray × PT)) × ByteArray) := ye3 200
def A59 : FnA := R59 yu8
theorem A59_ok : FnOk prog 59 A59 := yy7 200
def E28 : Env := ev fun g => ifEq g 59 (some A59) (none)
theorem E28_ok : FnsOk prog E28 := (oF A59_ok func59 (ye2 _ _))
def yz9 : ByteArray → Option ((List (ByteArray × PT)) × Bool) := fun a0 =>
 bif (decide ((((ByteArray.size a0) : Nat) : Int) > 120)) then
  some ([], false)
 else
  Option.bind (yu8 a0) fun (r0, r1) =>
   bif (decide ((((List.length r0) : Nat) : Int) > 0)) then
    some ((List.take (List.length r0) (List.drop 0 r0)), ((ByteArray.toList r1) == (ByteArray.toList (⟨#[]⟩ : ByteArray))))
   else
    some ((List.take (List.length r0) (List.drop 0 r0)), false)
def A28 : FnA := ⟨[.v .str], true, [.sl (.pair .str .pt), .bool], fun x => yz9 x.1⟩
theorem A28_ok : FnOk prog 28 A28 := fo (L := L0) (by kernel_rfl) func28 E28_ok ya0
def sh79_6 : List Fm := .cell (.val i6) :: .clo [.int .i64, .int .i64] i6 :: d :: d :: .box 100400 [.val i6, .own i6 100402 false] :: .box 100500 [.val i6, .own i6 100502 false] :: .cell (.val i6) :: d :: d :: d :: .cell (.val i6) :: .cell (.val i6) :: d :: d :: .cell (.val i6) :: .cell (.val i6) :: D 14 []
def xs79_6 : List (Ex × List Fm) := [(.exit 2, [.cell (.val i6), .clo [.int .i64, .int .i64] i6, d, d, .box 100400 [.val i6, .own i6 100402 false], .box 100500 [.val i6, .own i6 100502 false], d, d, d, d, .cell (.val i6), .cell (.val i6), d, d, d, d, d, d, d, d, d, d, d, d, d, d, d, d, d, d])]
def yo7 : (Int × ((Int × Int × Unit) → Option (Int)) × (Int × LI × Unit) × (Int × LI × Unit) × Int × Int × Int × Int × Int × Unit) → Option ((Int × ((Int × Int × Unit) → Option (Int)) × (Int × LI × Unit) × (Int × LI × Unit) × Int × Int × Int × Int × Int × Unit) ⊕ ((Int × ((Int × Int × Unit) → Option (Int)) × (Int × LI × Unit) × (Int × LI × Unit) × Int × Int × Unit))) := fun (v0, v1, (v4_0, v4_1, _), (v5_0, v5_1, _), v6, v10, v11, v14, v15, _) =>
 bif (decide (v15 < v14)) then
  Option.bind (v1 (v6, v15, ())) fun r0 =>
   if (((0 + (List.length v5_1)) = (List.length v5_1)) ∧ ((((List.length v5_1) + (List.length (List.take 1 (List.drop 0 [r0])))) * 8) ≤ 140737488355328)) then
    some (Sum.inl (v0, v1, (v4_0, (List.take (List.length v4_1) (List.drop 0 v4_1)), ()), (v5_0, (List.take ((List.length v5_1) + (List.length (List.take 1 (List.drop 0 [r0])))) (List.drop 0 ((List.drop 0 v5_1) ++ (List.take 1 (List.drop 0 [r0]))))), ()), v6, v10, v11, v14, (IntKind.wrap .i64 (v15 + 1)), ()))
   else
    none
 else
  some (Sum.inr (v0, v1, (v4_0, (List.take (List.length v4_1) (List.drop 0 v4_1)), ()), (v5_0, (List.take (List.length v5_1) (List.drop 0 v5_1)), ()), v10, v11, ()))
theorem kj0 {L} (h : L 6 = some ⟨30, sh79_6, xs79_6, yo7⟩) : yc0 prog L (ya8 f79 6) := lo (L' := L0) (by kernel_rfl) yh7 ya0 h
def L79_1 : Nat → Option LoopD := fun n => ifEq n 6 (some ⟨30, sh79_6, xs79_6, yo7⟩) (L0 n)
def sh79_3 : List Fm := .cell (.val i6) :: .clo [.int .i64, .int .i64] i6 :: d :: d :: .box 100400 [.val i6, .own i6 100402 false] :: .box 100500 [.val i6, .own i6 100502 false] :: D 4 (.cell (.val i6) :: .cell (.val i6) :: D 18 [])
def xs79_3 : List (Ex × List Fm) := [(.exit 0, [d, d, d, d, .box 100400 [.val i6, .own i6 100402 false], .box 100500 [.val i6, .own i6 100502 false], d, d, d, d, d, d, d, d, d, d, d, d, d, d, d, d, d, d, d, d, d, d, d, d])]
def yo8 : (Int × ((Int × Int × Unit) → Option (Int)) × (Int × LI × Unit) × (Int × LI × Unit) × Int × Int × Unit) → Option ((Int × ((Int × Int × Unit) → Option (Int)) × (Int × LI × Unit) × (Int × LI × Unit) × Int × Int × Unit) ⊕ (((Int × LI × Unit) × (Int × LI × Unit) × Unit))) := fun (v0, v1, (v4_0, v4_1, _), (v5_0, v5_1, _), v10, v11, _) =>
 bif (decide (v11 < v10)) then
  Option.bind (ya2 yo7 (v0, v1, (v4_0, (List.take (List.length v4_1) (List.drop 0 v4_1)), ()), (v5_0, (List.take (List.length v5_1) (List.drop 0 v5_1)), ()), v11, v10, v11, v0, 0, ())) fun (r0, r1, (r2, r3, _), (r4, r5, _), r6, r7, _) =>
   some (Sum.inl (r0, r1, (r2, (List.take (List.length r3) (List.drop 0 r3)), ()), (r4, (List.take (List.length r5) (List.drop 0 r5)), ()), r6, (IntKind.wrap .i64 (r7 + 1)), ()))
 else
  some (Sum.inr ((v4_0, (List.take (List.length v4_1) (List.drop 0 v4_1)), ()), (v5_0, (List.take (List.length v5_1) (List.drop 0 v5_1)), ()), ()))
theorem kj1 {L} (h : L 3 = some ⟨30, sh79_3, xs79_3, yo8⟩) : yc0 prog L (ya8 f79 3) := lo (L' := L79_1) (by kernel_rfl) yh7 (ya9 (kj0 rfl) ya0) h
def L79_2 : Nat → Option LoopD := fun n => ifEq n 3 (some ⟨30, sh79_3, xs79_3, yo8⟩) (L79_1 n)
def yq0 : Int → ((Int × Int × Unit) → Option (Int)) → Option (TM) := fun a0 a1 =>
 Option.bind (ya2 yo8 (a0, a1, ((0 : Int), [], ()), (a0, [], ()), a0, 0, ())) fun ((r0, r1, _), (r2, r3, _), _) =>
  some (r2, (List.take (List.length r3) (List.drop 0 r3)))
def A79 : FnA := ⟨[.v i6, .clo [.int .i64, .int .i64] i6], true, [.pair i6 sI], fun x => yq0 x.1 x.2.1⟩
theorem z3y : FnOk prog 79 A79 := fo (L := L79_2) (by kernel_rfl) func79 yh7 (ya9 (kj1 rfl) ya0)
def yt5 : Int → Int → Option (Int) := fun a0 a1 =>
 some 1000000
def A157 : FnA := ⟨[.v i6, .v i6], true, [.int .i64], fun x => yt5 x.1 x.2.1⟩
theorem A157_ok : FnOk prog 157 A157 := fo (L := L0) (by kernel_rfl) func157 yh7 ya0
def E149 : Env := ev fun g => ifEq g 16 (some A16) (ifEq g 79 (some A79) (ifEq g 157 (some A157) (none)))
theorem z82 : FnsOk prog E149 := (oF y2i func16 (oF z3y func79 (oF A157_ok func157 (ye2 _ _))))
def z83 : List Fm := d :: .cell (.val .str) :: d :: d :: .box 100400 [.val i6, .own i6 100402 false] :: d :: .box 100600 [.val i6, .own i6 100602 false] :: D 18 (.cell (.val sS) :: .cell (.val i6) :: .cell (.val i6) :: D 22 [])
def z84 : List (Ex × List Fm) := [(.exit 0, [d, d, d, d, .box 100400 [.val i6, .own i6 100402 false], d, .box 100600 [.val i6, .own i6 100602 false], d, d, d, d, d, d, d, d, d, d, d, d, d, d, d, d, d, d, d, d, d, d, d, d, d, d, d, d, d, d, d, d, d, d, d, d, d, d, d, d, d, d, d])]
def yf4 : (ByteArray × (Int × LI × Unit) × (Int × LI × Unit) × LS × Int × Int × Unit) → Option ((ByteArray × (Int × LI × Unit) × (Int × LI × Unit) × LS × Int × Int × Unit) ⊕ (((Int × LI × Unit) × (Int × LI × Unit) × Unit))) := fun (v1, (v4_0, v4_1, _), (v6_0, v6_1, _), v25, v26, v27, _) =>
 bif (decide (v27 < v26)) then
  if (((0 : Int) ≤ v27) ∧ (v27 < (((List.length v25) : Nat) : Int))) then
   bif ((ByteArray.toList (List.getD v25 (Int.toNat v27) ((0 : Int), ⟨Array.empty⟩, 0, 0)).2.1) == (ByteArray.toList v1)) then
    if (((0 : Int) ≤ (IntKind.wrap .i64 ((IntKind.wrap .i64 ((List.getD v25 (Int.toNat v27) ((0 : Int), ⟨Array.empty⟩, 0, 0)).1 * v6_0)) + (List.getD v25 (Int.toNat v27) ((0 : Int), ⟨Array.empty⟩, 0, 0)).2.2.1))) ∧ ((IntKind.wrap .i64 ((IntKind.wrap .i64 ((List.getD v25 (Int.toNat v27) ((0 : Int), ⟨Array.empty⟩, 0, 0)).1 * v6_0)) + (List.getD v25 (Int.toNat v27) ((0 : Int), ⟨Array.empty⟩, 0, 0)).2.2.1)) < (((List.length v6_1) : Nat) : Int))) then
     some (Sum.inl (v1, (v4_0, (List.take (List.length v4_1) (List.drop 0 v4_1)), ()), (v6_0, (List.take (List.length v6_1) (List.drop 0 (List.set v6_1 (0 + (Int.toNat (IntKind.wrap .i64 ((IntKind.wrap .i64 ((List.getD v25 (Int.toNat v27) ((0 : Int), ⟨Array.empty⟩, 0, 0)).1 * v6_0)) + (List.getD v25 (Int.toNat v27) ((0 : Int), ⟨Array.empty⟩, 0, 0)).2.2.1)))) (List.getD v25 (Int.toNat v27) ((0 : Int), ⟨Array.empty⟩, 0, 0)).2.2.2))), ()), v25, v26, (IntKind.wrap .i64 (v27 + 1)), ()))
    else
     none
   else
    some (Sum.inl (v1, (v4_0, (List.take (List.length v4_1) (List.drop 0 v4_1)), ()), (v6_0, (List.take (List.length v6_1) (List.drop 0 v6_1)), ()), v25, v26, (IntKind.wrap .i64 (v27 + 1)), ()))
  else
   none
 else
  some (Sum.inr ((v4_0, (List.take (List.length v4_1) (List.drop 0 v4_1)), ()), (v6_0, (List.take (List.length v6_1) (List.drop 0 v6_1)), ()), ()))
theorem z85 {L} (h : L 5 = some ⟨50, z83, z84, yf4⟩) : yc0 prog L (ya8 f149 5) := lo (L' := L0) (by kernel_rfl) z82 ya0 h
def L149_1 : Nat → Option LoopD := fun n => ifEq n 5 (some ⟨50, z83, z84, yf4⟩) (L0 n)
def yx7 : TA → ByteArray → Option (TM × Bool) := fun (a0_0, a0_1, a0_2, a0_3) a1 =>
 Option.bind (yc5 (a0_0, a0_1, a0_2, a0_3)) fun r0 =>
  bif (!r0) then
   some (((0 : Int), []), false)
  else
   bif (!((ByteArray.toList a1) == (ByteArray.toList (⟨#[(97 : UInt8)]⟩ : ByteArray)))) then
    bif (!((ByteArray.toList a1) == (ByteArray.toList (⟨#[(98 : UInt8)]⟩ : ByteArray)))) then
     some (((0 : Int), []), false)
    else
     Option.bind (yq0 a0_0 (fun y1 => (yt5 y1.1 y1.2.1))) fun (r2, r3) =>
      Option.bind (ya2 yf4 (a1, ((0 : Int), [], ()), (r2, (List.take (List.length r3) (List.drop 0 r3)), ()), a0_3, (((List.length a0_3) : Nat) : Int), 0, ())) fun ((r4, r5, _), (r6, r7, _), _) =>
       some ((r6, (List.take (List.length r7) (List.drop 0 r7))), true)
   else
    Option.bind (yq0 a0_0 (fun y8 => (yt5 y8.1 y8.2.1))) fun (r9, r10) =>
     Option.bind (ya2 yf4 (a1, ((0 : Int), [], ()), (r9, (List.take (List.length r10) (List.drop 0 r10)), ()), a0_3, (((List.length a0_3) : Nat) : Int), 0, ())) fun ((r11, r12, _), (r13, r14, _), _) =>
      some ((r13, (List.take (List.length r14) (List.drop 0 r14))), true)
def A149 : FnA := ⟨[.v kA, .v .str], true, [.pair i6 sI, .bool], fun x => yx7 x.1 x.2.1⟩
theorem A149_ok : FnOk prog 149 A149 := fo (L := L149_1) (by kernel_rfl) func149 z82 (ya9 (z85 rfl) ya0)
def z86 : List Fm := .cell (.val sI) :: .clo [.int .i64] .bool :: D 5 (.cell (.val i6) :: .cell (.val i6) :: D 10 [])
def z87 : List (Ex × List Fm) := [(.ret, (D 4 (.cell (.val i6) :: D 14 []))), (.exit 0, (D 19 []))]
def yh1 : (LI × ((Int × Unit) → Option (Bool)) × Int × Int × Unit) → Option ((LI × ((Int × Unit) → Option (Bool)) × Int × Int × Unit) ⊕ ((Int × Unit) ⊕ (Unit))) := fun (v0, v1, v7, v8, _) =>
 bif (decide (v8 < v7)) then
  if (((0 : Int) ≤ v8) ∧ (v8 < (((List.length v0) : Nat) : Int))) then
   Option.bind (v1 ((List.getD v0 (Int.toNat v8) 0), ())) fun r0 =>
    bif r0 then
     some (Sum.inr (Sum.inl (v8, ())))
    else
     some (Sum.inl (v0, v1, v7, (IntKind.wrap .i64 (v8 + 1)), ()))
  else
   none
 else
  some (Sum.inr (Sum.inr ()))
theorem z88 {L} (h : L 2 = some ⟨19, z86, z87, yh1⟩) : yc0 prog L (ya8 f125 2) := lo (L' := L0) (by kernel_rfl) yh7 ya0 h
def L125_1 : Nat → Option LoopD := fun n => ifEq n 2 (some ⟨19, z86, z87, yh1⟩) (L0 n)
def y0u : LI → ((Int × Unit) → Option (Bool)) → Option (Int) := fun a0 a1 =>
 Option.bind (ya2 yh1 (a0, a1, (((List.length a0) : Nat) : Int), 0, ())) fun r0 =>
  (match r0 with
  | .inl (d1, _) =>
    some d1
  | .inr _ =>
    some (-1))
def A125 : FnA := ⟨[.v sI, .clo [.int .i64] .bool], true, [.int .i64], fun x => y0u x.1 x.2.1⟩
theorem A125_ok : FnOk prog 125 A125 := fo (L := L125_1) (by kernel_rfl) func125 yh7 (ya9 (z88 rfl) ya0)
def E86 : Env := ev fun g => ifEq g 125 (some A125) (none)
theorem E86_ok : FnsOk prog E86 := (oF A125_ok func125 (ye2 _ _))
def ym7 : LI → ((Int × Unit) → Option (Bool)) → Option (Bool) := fun a0 a1 =>
 Option.bind (y0u a0 a1) fun r0 =>
  some (decide (r0 ≥ 0))
def A86 : FnA := ⟨[.v sI, .clo [.int .i64] .bool], true, [.bool], fun x => ym7 x.1 x.2.1⟩
theorem A86_ok : FnOk prog 86 A86 := fo (L := L0) (by kernel_rfl) func86 E86_ok ya0
def y2x : Int → Option (Bool) := fun a0 =>
 bif (decide (a0 ≥ 0)) then
  some (decide (a0 ≤ 1000000))
 else
  some false
def A124 : FnA := ⟨[.v i6], true, [.bool], fun x => y2x x.1⟩
theorem A124_ok : FnOk prog 124 A124 := fo (L := L0) (by kernel_rfl) func124 yh7 ya0
def E123 : Env := ev fun g => ifEq g 124 (some A124) (none)
theorem E123_ok : FnsOk prog E123 := (oF A124_ok func124 (ye2 _ _))
def yx8 : Int → Option (Bool) := fun a0 =>
 Option.bind (y2x a0) fun r0 =>
  some (!r0)
def A123 : FnA := ⟨[.v i6], true, [.bool], fun x => yx8 x.1⟩
theorem A123_ok : FnOk prog 123 A123 := fo (L := L0) (by kernel_rfl) func123 E123_ok ya0
def E85 : Env := ev fun g => ifEq g 86 (some A86) (ifEq g 123 (some A123) (none))
theorem E85_ok : FnsOk prog E85 := (oF A86_ok func86 (oF A123_ok func123 (ye2 _ _)))
def yq6 : TM → Option (Bool) := fun (a0_0, a0_1) =>
 bif (decide (a0_0 < 1)) then
  some false
 else
  bif (decide (a0_0 > 4)) then
   some false
  else
   bif ((((List.length a0_1) : Nat) : Int) != (IntKind.wrap .i64 (a0_0 * a0_0))) then
    some false
   else
    Option.bind (ym7 a0_1 (fun y0 => (yx8 y0.1))) fun r1 =>
     some (!r1)
def A85 : FnA := ⟨[.v kM], true, [.bool], fun x => yq6 x.1⟩
theorem A85_ok : FnOk prog 85 A85 := fo (L := L0) (by kernel_rfl) func85 E85_ok ya0
def yf0 : TM → Int → Int → Option (Int) := fun (a0_0, a0_1) a1 a2 =>
 if (((0 : Int) ≤ (IntKind.wrap .i64 ((IntKind.wrap .i64 (a1 * a0_0)) + a2))) ∧ ((IntKind.wrap .i64 ((IntKind.wrap .i64 (a1 * a0_0)) + a2)) < (((List.length a0_1) : Nat) : Int))) then
  some (List.getD a0_1 (Int.toNat (IntKind.wrap .i64 ((IntKind.wrap .i64 (a1 * a0_0)) + a2))) 0)
 else
  none
def A58 : FnA := ⟨[.v kM, .v i6, .v i6], true, [.int .i64], fun x => yf0 x.1 x.2.1 x.2.2.1⟩
theorem z3z : FnOk prog 58 A58 := fo (L := L0) (by kernel_rfl) func58 yh7 ya0
def E158 : Env := ev fun g => ifEq g 58 (some A58) (none)
theorem E158_ok : FnsOk prog E158 := (oF z3z func58 (ye2 _ _))
def y1z : Int → Int → TM → Option (Int) := fun a0 a1 (a2_0, a2_1) =>
 Option.bind (yf0 (a2_0, a2_1) a0 a1) fun r0 =>
  bif (r0 == 0) then
   some 0
  else
   bif (r0 == 1000000) then
    some 3
   else
    some 1
def A158 : FnA := ⟨[.v i6, .v i6, .cap kM], true, [.int .i64], fun x => y1z x.1 x.2.1 x.2.2.1⟩
theorem A158_ok : FnOk prog 158 A158 := fo (L := L0) (by kernel_rfl) func158 E158_ok ya0
def E150 : Env := ev fun g => ifEq g 85 (some A85) (ifEq g 79 (some A79) (ifEq g 158 (some A158) (none)))
theorem E150_ok : FnsOk prog E150 := (oF A85_ok func85 (oF z3y func79 (oF A158_ok func158 (ye2 _ _))))
def y08 : TM → Option (TM × Bool) := fun (a0_0, a0_1) =>
 Option.bind (yq6 (a0_0, a0_1)) fun r0 =>
  bif (!r0) then
   some (((0 : Int), []), false)
  else
   Option.bind (yq0 a0_0 (fun y1 => (y1z y1.1 y1.2.1 (a0_0, a0_1)))) fun (r2, r3) =>
    some ((r2, (List.take (List.length r3) (List.drop 0 r3))), true)
def A150 : FnA := ⟨[.v kM], true, [.pair i6 sI, .bool], fun x => y08 x.1⟩
theorem A150_ok : FnOk prog 150 A150 := fo (L := L0) (by kernel_rfl) func150 E150_ok ya0
def yx9 : Int → Option (Bool) := fun a0 =>
 some (decide (a0 > 3))
def A87 : FnA := ⟨[.v i6], true, [.bool], fun x => yx9 x.1⟩
theorem A87_ok : FnOk prog 87 A87 := fo (L := L0) (by kernel_rfl) func87 yh7 ya0
def E57 : Env := ev fun g => ifEq g 85 (some A85) (ifEq g 86 (some A86) (ifEq g 87 (some A87) (none)))
theorem E57_ok : FnsOk prog E57 := (oF A85_ok func85 (oF A86_ok func86 (oF A87_ok func87 (ye2 _ _))))
def yn6 : TM → Option (Bool) := fun (a0_0, a0_1) =>
 Option.bind (yq6 (a0_0, a0_1)) fun r0 =>
  bif r0 then
   Option.bind (ym7 a0_1 (fun y1 => (yx9 y1.1))) fun r2 =>
    some (!r2)
  else
   some false
def A57 : FnA := ⟨[.v kM], true, [.bool], fun x => yn6 x.1⟩
theorem A57_ok : FnOk prog 57 A57 := fo (L := L0) (by kernel_rfl) func57 E57_ok ya0
def E84 : Env := ev fun g => ifEq g 58 (some A58) (none)
theorem E84_ok : FnsOk prog E84 := (oF z3z func58 (ye2 _ _))
def sh84_3 : List Fm := .cell (.val i6) :: .cell (.val i6) :: .fp kM :: .fp kM :: d :: d :: d :: .cell (.val i6) :: d :: d :: .cell (.val i6) :: .cell (.val i6) :: D 15 []
def xs84_3 : List (Ex × List Fm) := [(.exit 0, (D 7 (.cell (.val i6) :: D 19 [])))]
def yh2 : (Int × Int × TM × TM × Int × Int × Int × Unit) → Option ((Int × Int × TM × TM × Int × Int × Int × Unit) ⊕ ((Int × Unit))) := fun (v0, v1, (v2_0, v2_1), (v3_0, v3_1), v7, v10, v11, _) =>
 bif (decide (v11 < v10)) then
  Option.bind (yf0 (v2_0, v2_1) v0 v11) fun r0 =>
   Option.bind (yf0 (v3_0, v3_1) v11 v1) fun r1 =>
    some (Sum.inl (v0, v1, (v2_0, v2_1), (v3_0, v3_1), (if ((if (r1 > r0) then r1 else r0) < v7) then (if (r1 > r0) then r1 else r0) else v7), v10, (IntKind.wrap .i64 (v11 + 1)), ()))
 else
  some (Sum.inr (v7, ()))
theorem kj2 {L} (h : L 3 = some ⟨27, sh84_3, xs84_3, yh2⟩) : yc0 prog L (ya8 f84 3) := lo (L' := L0) (by kernel_rfl) E84_ok ya0 h
def L84_1 : Nat → Option LoopD := fun n => ifEq n 3 (some ⟨27, sh84_3, xs84_3, yh2⟩) (L0 n)
def y0v : Int → Int → TM → TM → Option (Int) := fun a0 a1 (a2_0, a2_1) (a3_0, a3_1) =>
 Option.bind (ya2 yh2 (a0, a1, (a2_0, a2_1), (a3_0, a3_1), 3, a2_0, 0, ())) fun (r0, _) =>
  some r0
def A84 : FnA := ⟨[.v i6, .v i6, .cap kM, .cap kM], true, [.int .i64], fun x => y0v x.1 x.2.1 x.2.2.1 x.2.2.2.1⟩
theorem A84_ok : FnOk prog 84 A84 := fo (L := L84_1) (by kernel_rfl) func84 E84_ok (ya9 (kj2 rfl) ya0)
def E56 : Env := ev fun g => ifEq g 57 (some A57) (ifEq g 79 (some A79) (ifEq g 84 (some A84) (none)))
theorem E56_ok : FnsOk prog E56 := (oF A57_ok func57 (oF z3y func79 (oF A84_ok func84 (ye2 _ _))))
def yj4 : TM → TM → Option (TM × Bool) := fun (a0_0, a0_1) (a1_0, a1_1) =>
 Option.bind (yn6 (a0_0, a0_1)) fun r0 =>
  bif (!r0) then
   some (((0 : Int), []), false)
  else
   Option.bind (yn6 (a1_0, a1_1)) fun r1 =>
    bif (!r1) then
     some (((0 : Int), []), false)
    else
     bif (a0_0 != a1_0) then
      some (((0 : Int), []), false)
     else
      Option.bind (yq0 a0_0 (fun y2 => (y0v y2.1 y2.2.1 (a0_0, a0_1) (a1_0, a1_1)))) fun (r3, r4) =>
       some ((r3, (List.take (List.length r4) (List.drop 0 r4))), true)
def A56 : FnA := ⟨[.v kM, .v kM], true, [.pair i6 sI, .bool], fun x => yj4 x.1 x.2.1⟩
theorem y7t : FnOk prog 56 A56 := fo (L := L0) (by kernel_rfl) func56 E56_ok ya0
def z89 : List Fm := .cell (.val sI) :: .cell (.val sI) :: D 10 (.cell (.val i6) :: .cell (.val i6) :: D 12 [])
def z9a : List (Ex × List Fm) := [(.ret, (D 4 (.cell (.val .bool) :: D 21 []))), (.exit 0, (D 26 []))]
def ym8 : (LI × LI × Int × Int × Unit) → Option ((LI × LI × Int × Int × Unit) ⊕ ((Bool × Unit) ⊕ (Unit))) := fun (v0, v1, v12, v13, _) =>
 bif (decide (v13 < v12)) then
  if (((0 : Int) ≤ v13) ∧ (v13 < (((List.length v0) : Nat) : Int))) then
   if (((0 : Int) ≤ v13) ∧ (v13 < (((List.length v1) : Nat) : Int))) then
    bif ((List.getD v0 (Int.toNat v13) 0) != (List.getD v1 (Int.toNat v13) 0)) then
     some (Sum.inr (Sum.inl (false, ())))
    else
     some (Sum.inl (v0, v1, v12, (IntKind.wrap .i64 (v13 + 1)), ()))
   else
    none
  else
   none
 else
  some (Sum.inr (Sum.inr ()))
theorem z9b {L} (h : L 4 = some ⟨26, z89, z9a, ym8⟩) : yc0 prog L (ya8 f122 4) := lo (L' := L0) (by kernel_rfl) yh7 ya0 h
def L122_1 : Nat → Option LoopD := fun n => ifEq n 4 (some ⟨26, z89, z9a, ym8⟩) (L0 n)
def y2k : LI → LI → Option (Bool) := fun a0 a1 =>
 bif ((((List.length a0) : Nat) : Int) != (((List.length a1) : Nat) : Int)) then
  some false
 else
  Option.bind (ya2 ym8 (a0, a1, (((List.length a0) : Nat) : Int), 0, ())) fun r0 =>
   (match r0 with
   | .inl (d1, _) =>
     some d1
   | .inr _ =>
     some true)
def A122 : FnA := ⟨[.v sI, .v sI], true, [.bool], fun x => y2k x.1 x.2.1⟩
theorem A122_ok : FnOk prog 122 A122 := fo (L := L122_1) (by kernel_rfl) func122 yh7 (ya9 (z9b rfl) ya0)
def E83 : Env := ev fun g => ifEq g 122 (some A122) (none)
theorem E83_ok : FnsOk prog E83 := (oF A122_ok func122 (ye2 _ _))
def ys6 : TM → TM → Option (Bool) := fun (a0_0, a0_1) (a1_0, a1_1) =>
 bif (a0_0 == a1_0) then
  Option.bind (y2k a0_1 a1_1) fun r0 =>
   some r0
 else
  some false
def A83 : FnA := ⟨[.v kM, .v kM], true, [.bool], fun x => ys6 x.1 x.2.1⟩
theorem A83_ok : FnOk prog 83 A83 := fo (L := L0) (by kernel_rfl) func83 E83_ok ya0
def E78 : Env := ev fun g => ifEq g 56 (some A56) (ifEq g 83 (some A83) (none))
theorem E78_ok : FnsOk prog E78 := (oF y7t func56 (oF A83_ok func83 (ye2 _ _)))
def yt6 : TM → Option (Bool) := fun (a0_0, a0_1) =>
 Option.bind (yj4 (a0_0, a0_1) (a0_0, a0_1)) fun ((r0, r1), r2) =>
  bif r2 then
   Option.bind (ys6 (r0, (List.take (List.length r1) (List.drop 0 r1))) (a0_0, a0_1)) fun r3 =>
    some r3
  else
   some false
def A78 : FnA := ⟨[.v kM], true, [.bool], fun x => yt6 x.1⟩
theorem A78_ok : FnOk prog 78 A78 := fo (L := L0) (by kernel_rfl) func78 E78_ok ya0
def E80 : Env := ev fun g => ifEq g 58 (some A58) (none)
theorem E80_ok : FnsOk prog E80 := (oF z3z func58 (ye2 _ _))
def sh80_3 : List Fm := .cell (.val i6) :: .cell (.val i6) :: .fp kM :: d :: d :: d :: .cell (.val i6) :: d :: d :: d :: .cell (.val i6) :: .cell (.val i6) :: D 22 []
def xs80_3 : List (Ex × List Fm) := [(.exit 0, (D 6 (.cell (.val i6) :: D 27 [])))]
def yh3 : (Int × Int × TM × Int × Int × Int × Unit) → Option ((Int × Int × TM × Int × Int × Int × Unit) ⊕ ((Int × Unit))) := fun (v0, v1, (v2_0, v2_1), v6, v10, v11, _) =>
 bif (decide (v11 < v10)) then
  Option.bind (yf0 (v2_0, v2_1) v11 v11) fun r0 =>
   bif (r0 == 1) then
    Option.bind (yf0 (v2_0, v2_1) v0 v11) fun r1 =>
     Option.bind (yf0 (v2_0, v2_1) v11 v1) fun r2 =>
      some (Sum.inl (v0, v1, (v2_0, v2_1), (if ((if (r2 > (if ((2 : Int) > r1) then 2 else r1)) then r2 else (if ((2 : Int) > r1) then 2 else r1)) < v6) then (if (r2 > (if ((2 : Int) > r1) then 2 else r1)) then r2 else (if ((2 : Int) > r1) then 2 else r1)) else v6), v10, (IntKind.wrap .i64 (v11 + 1)), ()))
   else
    Option.bind (yf0 (v2_0, v2_1) v0 v11) fun r3 =>
     Option.bind (yf0 (v2_0, v2_1) v11 v1) fun r4 =>
      some (Sum.inl (v0, v1, (v2_0, v2_1), (if ((if (r4 > (if (r0 > r3) then r0 else r3)) then r4 else (if (r0 > r3) then r0 else r3)) < v6) then (if (r4 > (if (r0 > r3) then r0 else r3)) then r4 else (if (r0 > r3) then r0 else r3)) else v6), v10, (IntKind.wrap .i64 (v11 + 1)), ()))
 else
  some (Sum.inr (v6, ()))
theorem kj3 {L} (h : L 3 = some ⟨34, sh80_3, xs80_3, yh3⟩) : yc0 prog L (ya8 f80 3) := lo (L' := L0) (by kernel_rfl) E80_ok ya0 h
def L80_1 : Nat → Option LoopD := fun n => ifEq n 3 (some ⟨34, sh80_3, xs80_3, yh3⟩) (L0 n)
def y0w : Int → Int → TM → Option (Int) := fun a0 a1 (a2_0, a2_1) =>
 Option.bind (ya2 yh3 (a0, a1, (a2_0, a2_1), 3, a2_0, 0, ())) fun (r0, _) =>
  some r0
def A80 : FnA := ⟨[.v i6, .v i6, .cap kM], true, [.int .i64], fun x => y0w x.1 x.2.1 x.2.2.1⟩
theorem A80_ok : FnOk prog 80 A80 := fo (L := L80_1) (by kernel_rfl) func80 E80_ok (ya9 (kj3 rfl) ya0)
def E54 : Env := ev fun g => ifEq g 78 (some A78) (ifEq g 79 (some A79) (ifEq g 80 (some A80) (none)))
theorem E54_ok : FnsOk prog E54 := (oF A78_ok func78 (oF z3y func79 (oF A80_ok func80 (ye2 _ _))))
def yu9 : TM → Option (TM × Bool) := fun (a0_0, a0_1) =>
 Option.bind (yt6 (a0_0, a0_1)) fun r0 =>
  bif (!r0) then
   some (((0 : Int), []), false)
  else
   Option.bind (yq0 a0_0 (fun y1 => (y0w y1.1 y1.2.1 (a0_0, a0_1)))) fun (r2, r3) =>
    some ((r2, (List.take (List.length r3) (List.drop 0 r3))), true)
def A54 : FnA := ⟨[.v kM], true, [.pair i6 sI, .bool], fun x => yu9 x.1⟩
theorem y9r : FnOk prog 54 A54 := fo (L := L0) (by kernel_rfl) func54 E54_ok ya0
end
end Go.Proofs.YtogigagfgkfkhaaGreat
