/- Valid automata: both sides tell the same. -/
import Derived.Test.YtfdhmmnffahhgaaGreatP0
set_option linter.unusedVariables false
set_option linter.unusedSimpArgs false
namespace Go.Proofs.YtfdhmmnffahhgaaGreat
open Go Go.Proofs.YtfdhmmnffahhgaaGreat.Am
abbrev Stp := Int × ByteArray × Int × Int
abbrev Aut := Int × List Int × List Int × List Stp
abbrev stp0 : Stp := ((0 : Int), (⟨Array.empty⟩ : ByteArray), (0 : Int), (0 : Int))
abbrev la : ByteArray := ⟨#[(97 : UInt8)]⟩
abbrev lb : ByteArray := ⟨#[(98 : UInt8)]⟩
/-- a round's tests -/
theorem lt_t {i n : Nat} (h : i < n) : decide ((i : Int) < (n : Int)) = true := decide_eq_true (by omega)
theorem in_t {i n : Nat} (h : i < n) : (0 : Int) ≤ (i : Int) ∧ (i : Int) < (n : Int) := ⟨by omega, by omega⟩
theorem lt_f (n : Nat) : decide ((n : Int) < (n : Int)) = false := decide_eq_false (by omega)
theorem gt_t {i : Nat} (h : 0 < i) : decide ((i : Int) > (0 : Int)) = true := decide_eq_true (by omega)
def zi6 (n : Int) (l : List Int) (i : Nat) : Bool := decide (0 ≤ l.getD i 0 ∧ l.getD i 0 ≤ n - 1) && (decide (i = 0) || !decide (l.getD (i - 1) 0 ≥ l.getD i 0))
def y2j (n : Int) (l : List Int) : Bool := (List.range l.length).all (zi6 n l)
theorem y5z (n a b : Int) : yy0 n a b = some (decide (a ≤ n ∧ n ≤ b)) := by
 unfold yy0
 by_cases h : a ≤ n <;> simp [h]
theorem y50 {n : Int} {l : List Int} (h1 : 1 ≤ n) (h4 : n ≤ 4) (hl : l.length ≤ 9223372036854775807) : yw7 n l = some (y2j n l) := by
 unfold yw7
 have := y9y (f := yn4) (fun i => (n, l, l, (l.length : Int), (i : Int), ())) l.length (zi6 n l) (.inl (false, ())) (.inr ()) (fun i hi => by
  simp only [yn4, y5z, w64 (show -9223372036854775808 ≤ n - 1 by omega) (by omega), ya7 hi hl, zi6, Int.toNat_natCast, Option.bind_some, lt_t hi, cond_true, if_pos (in_t hi)]
  rcases Nat.eq_zero_or_pos i with rfl | h0
  ·rcases Bool.eq_false_or_eq_true (decide (0 ≤ l.getD 0 0 ∧ l.getD 0 0 ≤ n - 1)) with b | b <;> simp only [b] <;> rfl
  ·simp only [zm7 hi h0 hl, gt_t h0, cond_true, if_pos (in_t (show i - 1 < l.length by omega)), Int.toNat_natCast, decide_eq_false (show ¬ i = 0 by omega), Bool.false_or]
   rcases Bool.eq_false_or_eq_true (decide (0 ≤ l.getD i 0 ∧ l.getD i 0 ≤ n - 1)) with b | b <;> rcases Bool.eq_false_or_eq_true (decide (l.getD (i - 1) 0 ≥ l.getD i 0)) with c | c <;> simp only [b, c] <;> rfl) (by simp only [yn4, lt_f]; rfl)
 rw [show ((l, l, (l.length : Int), (0 : Int), ()) : List Int × List Int × Int × Int × Unit) = (l, l, (l.length : Int), ((0 : Nat) : Int), ()) from rfl, this]
 unfold y2j
 cases (List.range l.length).all (zi6 n l) <;> rfl
theorem y4p {n : Int} {l : List Int} (h1 : 1 ≤ n) (h4 : n ≤ 4) (hl : l.length ≤ 9223372036854775807) : yt7 l n = some (y2j n l) := by
 unfold yt7
 have := y9y (f := yl6) (fun i => (l, n, l, (l.length : Int), (i : Int), ())) l.length (zi6 n l) (.inl (false, ())) (.inr ()) (fun i hi => by
  have hb : decide (0 ≤ l.getD i 0 ∧ l.getD i 0 ≤ n - 1) = (!decide (l.getD i 0 < 0) && !decide (l.getD i 0 ≥ n)) := by
   rw [Bool.eq_iff_iff]
   simp only [decide_eq_true_eq, Bool.and_eq_true, Bool.not_eq_true', decide_eq_false_iff_not]
   omega
  simp only [yl6, ya7 hi hl, zi6, Int.toNat_natCast, Option.bind_some, lt_t hi, cond_true, if_pos (in_t hi), hb]
  rcases Nat.eq_zero_or_pos i with rfl | h0
  ·rcases Bool.eq_false_or_eq_true (decide (l.getD 0 0 < 0)) with b | b <;> rcases Bool.eq_false_or_eq_true (decide (l.getD 0 0 ≥ n)) with c | c <;> simp only [b, c] <;> rfl
  ·simp only [zm7 hi h0 hl, gt_t h0, cond_true, if_pos (in_t (show i - 1 < l.length by omega)), Int.toNat_natCast, decide_eq_false (show ¬ i = 0 by omega), Bool.false_or]
   rcases Bool.eq_false_or_eq_true (decide (l.getD i 0 < 0)) with b | b <;> rcases Bool.eq_false_or_eq_true (decide (l.getD i 0 ≥ n)) with c | c <;> rcases Bool.eq_false_or_eq_true (decide (l.getD (i - 1) 0 ≥ l.getD i 0)) with d | d <;> simp only [b, c, d] <;> rfl) (by simp only [yl6, lt_f]; rfl)
 rw [show ((l, n, l, (l.length : Int), (0 : Int), ()) : List Int × Int × List Int × Int × Int × Unit) = (l, n, l, (l.length : Int), ((0 : Nat) : Int), ()) from rfl, this]
 unfold y2j
 cases (List.range l.length).all (zi6 n l) <;> rfl
end Go.Proofs.YtfdhmmnffahhgaaGreat
