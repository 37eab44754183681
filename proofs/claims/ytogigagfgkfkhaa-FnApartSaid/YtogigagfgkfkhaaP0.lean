/- Plain laws of loops, of numbers and of least values. -/
import Derived.Test.YtogigagfgkfkhaaG2
set_option linter.unusedVariables false
set_option linter.unusedSimpArgs false
namespace Go.Proofs.Ytogigagfgkfkhaa
open Go Go.Proofs.Ytogigagfgkfkhaa.Am
theorem w64 {n : Int} (h1 : -9223372036854775808 ≤ n) (h2 : n ≤ 9223372036854775807) : IntKind.wrap .i64 n = n := by
 show (if (true && decide (n % 18446744073709551616 ≥ 9223372036854775808)) = true then n % 18446744073709551616 - 18446744073709551616 else n % 18446744073709551616) = n
 rw [Bool.true_and]
 by_cases h : n % 18446744073709551616 ≥ 9223372036854775808
 ·rw [if_pos (decide_eq_true h)]; omega
 ·rw [if_neg (by rw [decide_eq_true_eq]; exact h)]; omega
theorem w64_succ {i n : Nat} (h : i < n) (hn : n ≤ 9223372036854775807) : IntKind.wrap .i64 ((i : Int) + 1) = ((i + 1 : Nat) : Int) := by
 rw [w64 (by omega) (by omega)]; rfl
theorem w64_pred {i n : Nat} (h : i < n) (h0 : 0 < i) (hn : n ≤ 9223372036854775807) : IntKind.wrap .i64 ((i : Int) - 1) = ((i - 1 : Nat) : Int) := by
 rw [w64 (by omega) (by omega)]; omega
section loops
variable {σ ρ α β : Type} {f : σ → Option (σ ⊕ ρ)}
/-- a loop that looks at each index till one fails -/
theorem loop_all (st : Nat → σ) (n : Nat) (p : Nat → Bool) (no yes : ρ) (hs : ∀ i, i < n → f (st i) = some (if p i = true then .inl (st (i + 1)) else .inr no)) (he : f (st n) = some (.inr yes)) :
  loopF f (st 0) = some (if (List.range n).all p then yes else no) := by
 have key : ∀ k i, i + k = n → loopF f (st i) = some (if (List.range' i k).all p then yes else no) := by
  intro k
  induction k with
  | zero =>
   intro i hi
   rw [loopF_eq]
   obtain rfl : i = n := by omega
   rw [he]
   simp
  | succ k ih =>
   intro i hi
   rw [loopF_eq, hs i (by omega)]
   simp only [Option.bind_some, List.range'_succ, List.all_cons]
   cases hp : p i with
   | true => simp only [if_true, Bool.true_and]; exact ih (i + 1) (by omega)
   | false => simp
 have := key n 0 (by omega)
 rw [List.range_eq_range']
 exact this
/-- a loop with an invariant over its indices -/
theorem loop_inv (n : Nat) (st : Nat → α → σ) (g : Nat → α → α) (last : α → ρ) (I : Nat → α → Prop) (hI : ∀ i a, i < n → I i a → I (i + 1) (g i a))
  (hs : ∀ i a, i < n → I i a → f (st i a) = some (.inl (st (i + 1) (g i a)))) (he : ∀ a, I n a → f (st n a) = some (.inr (last a))) :
  ∀ a, I 0 a → ∃ r, loopF f (st 0 a) = some (last r) ∧ I n r := by
 have key : ∀ k i a, i + k = n → I i a → ∃ r, loopF f (st i a) = some (last r) ∧ I n r := by
  intro k
  induction k with
  | zero =>
   intro i a hi ha
   obtain rfl : i = n := by omega
   exact ⟨a, by rw [loopF_eq, he a ha]; rfl, ha⟩
  | succ k ih =>
   intro i a hi ha
   rw [loopF_eq, hs i a (by omega) ha]
   exact ih (i + 1) _ (by omega) (hI i a (by omega) ha)
 intro a ha
 exact key n 0 a (by omega) ha
/-- the same with rounds that are told by a relation -/
theorem loop_rel (n : Nat) (st : Nat → α → σ) (last : α → ρ) (I : Nat → α → Prop) (hs : ∀ i a, i < n → I i a → ∃ a', f (st i a) = some (.inl (st (i + 1) a')) ∧ I (i + 1) a') (he : ∀ a, I n a → f (st n a) = some (.inr (last a))) :
  ∀ a, I 0 a → ∃ r, loopF f (st 0 a) = some (last r) ∧ I n r := by
 have key : ∀ k i a, i + k = n → I i a → ∃ r, loopF f (st i a) = some (last r) ∧ I n r := by
  intro k
  induction k with
  | zero =>
   intro i a hi ha
   obtain rfl : i = n := by omega
   exact ⟨a, by rw [loopF_eq, he a ha]; rfl, ha⟩
  | succ k ih =>
   intro i a hi ha
   obtain ⟨a', h1, h2⟩ := hs i a (by omega) ha
   rw [loopF_eq, h1]
   exact ih (i + 1) _ (by omega) h2
 intro a ha
 exact key n 0 a (by omega) ha
end loops
theorem toList_bytes (a : ByteArray) : a.toList = a.data.toList := ByteArray.toList_eq a
theorem compare_less : ∀ (l m : List UInt8), Lib.compareBytes l m = if Op.bytesLess l m then -1 else if l == m then 0 else 1
 | [], [] => rfl
 | [], _ :: _ => rfl
 | _ :: _, [] => rfl
 | a :: l, b :: m => by
  have ih := compare_less l m
  simp only [Lib.compareBytes, Op.bytesLess, ih]
  by_cases h1 : a < b
  ·simp [h1]
  ·by_cases h2 : b < a
   ·have : a ≠ b := by rintro rfl; exact h1 h2
    simp [h1, h2, this]
   ·have : a = b := by
     have := UInt8.le_antisymm (UInt8.not_lt.1 h2) (UInt8.not_lt.1 h1)
     exact this
    subst this
    simp [h1]
theorem eq_of_le_iff {x y : Int} (h : ∀ z : Int, z ≤ x ↔ z ≤ y) : x = y := by
 have h1 := (h x).1 (Int.le_refl _)
 have h2 := (h y).2 (Int.le_refl _)
 omega
end Go.Proofs.Ytogigagfgkfkhaa
