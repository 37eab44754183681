/- Valid automata: both sides tell the same. -/
import Derived.Test.YtogigagfgkfkhaaP0
set_option linter.unusedVariables false
set_option linter.unusedSimpArgs false
namespace Go.Proofs.Ytogigagfgkfkhaa
open Go Go.Proofs.Ytogigagfgkfkhaa.Am
abbrev Stp := Int × ByteArray × Int × Int
abbrev Aut := Int × List Int × List Int × List Stp
abbrev stp0 : Stp := ((0 : Int), (⟨Array.empty⟩ : ByteArray), (0 : Int), (0 : Int))
abbrev la : ByteArray := ⟨#[(97 : UInt8)]⟩
abbrev lb : ByteArray := ⟨#[(98 : UInt8)]⟩
/-- a round's tests -/
theorem lt_t {i n : Nat} (h : i < n) : decide ((i : Int) < (n : Int)) = true := decide_eq_true (by omega)
theorem in_t {i n : Nat} (h : i < n) : (0 : Int) ≤ (i : Int) ∧ (i : Int) < (n : Int) := ⟨by omega, by omega⟩
theorem lt_f (n : Nat) : decide ((n : Int) < (n : Int)) = false := decide_eq_false (by omega)
theorem gt_t {i : Nat} (h : 0 < i) : decide ((i : Int) > (0 : Int)) = true := decide_eq_true (by omega)
def marksP (n : Int) (l : List Int) (i : Nat) : Bool := decide (0 ≤ l.getD i 0 ∧ l.getD i 0 ≤ n - 1) && (decide (i = 0) || !decide (l.getD (i - 1) 0 ≥ l.getD i 0))
def marksOk (n : Int) (l : List Int) : Bool := (List.range l.length).all (marksP n l)
theorem spec_l1In_is (n a b : Int) : spec_l1In n a b = some (decide (a ≤ n ∧ n ≤ b)) := by
 unfold spec_l1In
 by_cases h : a ≤ n <;> simp [h]
theorem spec_l3Marks_is {n : Int} {l : List Int} (h1 : 1 ≤ n) (h4 : n ≤ 4) (hl : l.length ≤ 9223372036854775807) : spec_l3Marks n l = some (marksOk n l) := by
 unfold spec_l3Marks
 have := loop_all (f := spec_l3Marks_l2) (fun i => (n, l, l, (l.length : Int), (i : Int), ())) l.length (marksP n l) (.inl (false, ())) (.inr ()) (fun i hi => by
  simp only [spec_l3Marks_l2, spec_l1In_is, w64 (show -9223372036854775808 ≤ n - 1 by omega) (by omega), w64_succ hi hl, marksP, Int.toNat_natCast, Option.bind_some, lt_t hi, cond_true, if_pos (in_t hi)]
  rcases Nat.eq_zero_or_pos i with rfl | h0
  ·rcases Bool.eq_false_or_eq_true (decide (0 ≤ l.getD 0 0 ∧ l.getD 0 0 ≤ n - 1)) with b | b <;> simp only [b] <;> rfl
  ·simp only [w64_pred hi h0 hl, gt_t h0, cond_true, if_pos (in_t (show i - 1 < l.length by omega)), Int.toNat_natCast, decide_eq_false (show ¬ i = 0 by omega), Bool.false_or]
   rcases Bool.eq_false_or_eq_true (decide (0 ≤ l.getD i 0 ∧ l.getD i 0 ≤ n - 1)) with b | b <;> rcases Bool.eq_false_or_eq_true (decide (l.getD (i - 1) 0 ≥ l.getD i 0)) with c | c <;> simp only [b, c] <;> rfl) (by simp only [spec_l3Marks_l2, lt_f]; rfl)
 rw [show ((l, l, (l.length : Int), (0 : Int), ()) : List Int × List Int × Int × Int × Unit) = (l, l, (l.length : Int), ((0 : Nat) : Int), ()) from rfl, this]
 unfold marksOk
 cases (List.range l.length).all (marksP n l) <;> rfl
theorem impl_statesOk_is {n : Int} {l : List Int} (h1 : 1 ≤ n) (h4 : n ≤ 4) (hl : l.length ≤ 9223372036854775807) : impl_statesOk l n = some (marksOk n l) := by
 unfold impl_statesOk
 have := loop_all (f := impl_statesOk_l2) (fun i => (l, n, l, (l.length : Int), (i : Int), ())) l.length (marksP n l) (.inl (false, ())) (.inr ()) (fun i hi => by
  have hb : decide (0 ≤ l.getD i 0 ∧ l.getD i 0 ≤ n - 1) = (!decide (l.getD i 0 < 0) && !decide (l.getD i 0 ≥ n)) := by
   rw [Bool.eq_iff_iff]
   simp only [decide_eq_true_eq, Bool.and_eq_true, Bool.not_eq_true', decide_eq_false_iff_not]
   omega
  simp only [impl_statesOk_l2, w64_succ hi hl, marksP, Int.toNat_natCast, Option.bind_some, lt_t hi, cond_true, if_pos (in_t hi), hb]
  rcases Nat.eq_zero_or_pos i with rfl | h0
  ·rcases Bool.eq_false_or_eq_true (decide (l.getD 0 0 < 0)) with b | b <;> rcases Bool.eq_false_or_eq_true (decide (l.getD 0 0 ≥ n)) with c | c <;> simp only [b, c] <;> rfl
  ·simp only [w64_pred hi h0 hl, gt_t h0, cond_true, if_pos (in_t (show i - 1 < l.length by omega)), Int.toNat_natCast, decide_eq_false (show ¬ i = 0 by omega), Bool.false_or]
   rcases Bool.eq_false_or_eq_true (decide (l.getD i 0 < 0)) with b | b <;> rcases Bool.eq_false_or_eq_true (decide (l.getD i 0 ≥ n)) with c | c <;> rcases Bool.eq_false_or_eq_true (decide (l.getD (i - 1) 0 ≥ l.getD i 0)) with d | d <;> simp only [b, c, d] <;> rfl) (by simp only [impl_statesOk_l2, lt_f]; rfl)
 rw [show ((l, n, l, (l.length : Int), (0 : Int), ()) : List Int × Int × List Int × Int × Int × Unit) = (l, n, l, (l.length : Int), ((0 : Nat) : Int), ()) from rfl, this]
 unfold marksOk
 cases (List.range l.length).all (marksP n l) <;> rfl
end Go.Proofs.Ytogigagfgkfkhaa
