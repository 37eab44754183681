/- A repeated number; words. -/
import Derived.Test.YtbmlleocidldpaaGreatP3
set_option linter.unusedVariables false
set_option linter.unusedSimpArgs false
namespace Go.Proofs.YtbmlleocidldpaaGreat
open Go Go.Proofs.YtbmlleocidldpaaGreat.Am
theorem wu64 {n : Int} (h1 : 0 ≤ n) (h2 : n ≤ 18446744073709551615) : IntKind.wrap .u64 n = n := by
  show (if (false && decide (n % 18446744073709551616 ≥ 9223372036854775808)) = true then n % 18446744073709551616 - 18446744073709551616 else n % 18446744073709551616) = n
  rw [Bool.false_and]
  simp only [Bool.false_eq_true, if_false]
  omega
theorem mask_is {n : Int} (h1 : 0 ≤ n) (h2 : n ≤ 1048577) : ((BitVec.toNat ((BitVec.ofInt (IntKind.bits .u64) n) &&& (BitVec.ofInt (IntKind.bits .u64) (4294967295 : Int)))) : Nat) = n.toNat := by
  show ((BitVec.ofInt 64 n) &&& (BitVec.ofInt 64 (4294967295 : Int))).toNat = n.toNat
  rw [BitVec.toNat_and]
  have e1 : (BitVec.ofInt 64 (4294967295 : Int)).toNat = 2 ^ 32 - 1 := by decide
  have e2 : (BitVec.ofInt 64 n).toNat = n.toNat := by
    rw [BitVec.toNat_ofInt]
    omega
  rw [e1, e2, Nat.and_two_pow_sub_one_eq_mod]
  omega
theorem fdiv_small {n : Int} (h1 : 0 ≤ n) (h2 : n ≤ 1048577) : Int.fdiv n ((2 : Int) ^ (Min.min (Int.toNat (32 : Int)) (IntKind.bits .u64))) = 0 := by
  show Int.fdiv n 4294967296 = 0
  rw [Int.fdiv_eq_ediv_of_nonneg _ (by omega)]
  omega
end Go.Proofs.YtbmlleocidldpaaGreat
