/- A repeated number; words. -/
import Derived.Test.YtogigagfgkfkhaaP3
set_option linter.unusedVariables false
set_option linter.unusedSimpArgs false
namespace Go.Proofs.Ytogigagfgkfkhaa
open Go Go.Proofs.Ytogigagfgkfkhaa.Am
theorem wu64 {n : Int} (h1 : 0 ≤ n) (h2 : n ≤ 18446744073709551615) : IntKind.wrap .u64 n = n := by
 show (if (false && decide (n % 18446744073709551616 ≥ 9223372036854775808)) = true then n % 18446744073709551616 - 18446744073709551616 else n % 18446744073709551616) = n
 rw [Bool.false_and]
 simp only [Bool.false_eq_true, if_false]
 omega
theorem mask_is {n : Int} (h1 : 0 ≤ n) (h2 : n ≤ 1048577) : ((BitVec.toNat ((BitVec.ofInt (IntKind.bits .u64) n) &&& (BitVec.ofInt (IntKind.bits .u64) (4294967295 : Int)))) : Nat) = n.toNat := by
 show ((BitVec.ofInt 64 n) &&& (BitVec.ofInt 64 (4294967295 : Int))).toNat = n.toNat
 rw [BitVec.toNat_and]
 have e1 : (BitVec.ofInt 64 (4294967295 : Int)).toNat = 2 ^ 32 - 1 := by decide
 have e2 : (BitVec.ofInt 64 n).toNat = n.toNat := by
  rw [BitVec.toNat_ofInt]
  omega
 rw [e1, e2, Nat.and_two_pow_sub_one_eq_mod]
 omega
theorem fdiv_small {n : Int} (h1 : 0 ≤ n) (h2 : n ≤ 1048577) : Int.fdiv n ((2 : Int) ^ (Min.min (Int.toNat (32 : Int)) (IntKind.bits .u64))) = 0 := by
 show Int.fdiv n 4294967296 = 0
 rw [Int.fdiv_eq_ediv_of_nonneg _ (by omega)]
 omega
theorem Mul64_is {n : Int} (h1 : 0 ≤ n) (h2 : n ≤ 1048577) : bits_Mul64 1 n = some (0, n) := by
 have m2 := mask_is h1 h2
 have m1 := mask_is (n := 1) (by omega) (by omega)
 have nb : (Int.natAbs ((2 : Int) ^ (IntKind.bits .u64))) = 18446744073709551616 := by decide
 simp only [bits_Mul64, show ¬ ((32 : Int) < 0) by omega, if_false, m1, m2, fdiv_small (n := 1) (by omega) (by omega), fdiv_small h1 h2, nb]
 have a1 : (((n.toNat % 18446744073709551616 : Nat)) : Int) = n := by omega
 have a2 : ((((1 : Int).toNat % 18446744073709551616 : Nat)) : Int) = 1 := by decide
 rw [a1, a2]
 simp only [Int.mul_zero, Int.zero_mul, Int.one_mul, Int.mul_one, Int.add_zero, Int.zero_add]
 have z : IntKind.wrap .u64 0 = 0 := by decide
 simp only [wu64 h1 (show n ≤ 18446744073709551615 by omega), z, fdiv_small h1 h2, Int.add_zero, Int.zero_add, fdiv_small (n := 0) (by omega) (by omega)]
 try rfl
theorem repeat_loop (x : Int) (n : Nat) (hn : n ≤ 1048576) : ∀ (k c : Nat), 1 ≤ c → c ≤ n → n - c ≤ k → loopF slices_Repeat_l8 (List.replicate c x ++ List.replicate (n - c) 0, (c : Int), ()) = some (List.replicate n x, ()) := by
 intro k
 induction k with
 | zero =>
  intro c h1 h2 h3
  obtain rfl : c = n := by omega
  rw [loopF_eq]
  simp [slices_Repeat_l8]
 | succ k ih =>
  intro c h1 h2 h3
  by_cases hc : c = n
  ·subst hc
   rw [loopF_eq]
   simp [slices_Repeat_l8]
  ·have hlen : (List.replicate c x ++ List.replicate (n - c) (0 : Int)).length = n := by simp; omega
   have hT : List.take (n - c) (List.take c (List.replicate c x ++ List.replicate (n - c) (0 : Int))) = List.replicate (min (n - c) c) x := by
    rw [List.take_append_of_le_length (by simp), List.take_replicate, List.take_replicate]
    congr 1
    omega
   have hstep : slices_Repeat_l8 (List.replicate c x ++ List.replicate (n - c) 0, (c : Int), ()) = some (.inl (List.replicate (c + min (n - c) c) x ++ List.replicate (n - (c + min (n - c) c)) 0, ((c + min (n - c) c : Nat) : Int), ())) := by
    simp only [slices_Repeat_l8, hlen, decide_eq_true (show (c : Int) < (n : Int) by omega), cond_true, if_pos (show (0 : Int) ≤ (c : Int) ∧ (c : Int) ≤ (n : Int) by omega), Int.toNat_natCast, Nat.zero_add, Nat.sub_zero, List.drop_zero, hT, List.length_replicate]
    rw [w64 (by omega) (by omega)]
    have e : List.take n (List.take c (List.replicate c x ++ List.replicate (n - c) (0 : Int)) ++ (List.replicate (min (n - c) c) x ++ List.drop (c + min (n - c) c) (List.replicate c x ++ List.replicate (n - c) (0 : Int)))) = List.replicate (c + min (n - c) c) x ++ List.replicate (n - (c + min (n - c) c)) 0 := by
     have hc1 : List.take c (List.replicate c x ++ List.replicate (n - c) (0 : Int)) = List.replicate c x := by
      rw [List.take_append_of_le_length (by simp), List.take_replicate, Nat.min_self]
     have hd : List.drop (c + min (n - c) c) (List.replicate c x ++ List.replicate (n - c) (0 : Int)) = List.replicate (n - (c + min (n - c) c)) 0 := by
      rw [List.drop_append, List.drop_replicate, List.drop_replicate]
      simp only [List.length_replicate]
      rw [show c - (c + min (n - c) c) = 0 by omega, List.replicate_zero, List.nil_append]
      congr 1
      omega
     rw [hc1, hd, ← List.append_assoc, List.replicate_append_replicate, List.take_of_length_le (by simp; omega)]
    rw [e]
    congr 5
   rw [loopF_eq, hstep]
   exact ih _ (by omega) (by omega) (by omega)
theorem Repeat_is (x : Int) {n : Int} (h1 : 1 ≤ n) (h2 : n ≤ 1048576) : slices_Repeat [x] n = some (List.replicate n.toNat x) := by
 have e1 : IntKind.wrap .u64 ((([x] : List Int).length : Nat) : Int) = 1 := by rw [wu64 (by simp) (by simp)]; rfl
 simp only [slices_Repeat, decide_eq_false (show ¬ n < 0 by omega), cond_false, e1, wu64 (show 0 ≤ n by omega) (show n ≤ 18446744073709551615 by omega), bits_Mul, Mul64_is (show 0 ≤ n by omega) (by omega), Option.bind_some, decide_eq_false (show ¬ n > 9223372036854775807 by omega), decide_eq_false (show ¬ (0 : Int) > 0 by omega), w64 (show -9223372036854775808 ≤ n by omega) (by omega)]
 rw [if_pos ⟨by omega, trivial, by omega⟩]
 have e2 : List.take n.toNat [x] = [x] := List.take_of_length_le (by simp; omega)
 have e3 : List.take n.toNat (List.drop 0 (List.take 0 (List.replicate n.toNat (0 : Int)) ++ (List.take n.toNat [x] ++ List.drop (0 + (List.take n.toNat [x]).length) (List.replicate n.toNat 0)))) = List.replicate 1 x ++ List.replicate (n.toNat - 1) 0 := by
  rw [e2]
  simp only [List.take_zero, List.drop_zero, List.nil_append, List.length_singleton, Nat.zero_add, List.drop_replicate]
  rw [List.take_of_length_le (by simp; omega)]
  rfl
 rw [e3, e2]
 have := repeat_loop x n.toNat (by omega) (n.toNat - 1) 1 (by omega) (by omega) (by omega)
 rw [show ((([x] : List Int).length : Nat) : Int) = ((1 : Nat) : Int) from rfl, this]
 simp
end Go.Proofs.Ytogigagfgkfkhaa
