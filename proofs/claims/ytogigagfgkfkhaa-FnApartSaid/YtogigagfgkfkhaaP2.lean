/- Valid automata, on: steps and their order. -/
import Derived.Test.YtogigagfgkfkhaaP1
set_option linter.unusedVariables false
set_option linter.unusedSimpArgs false
namespace Go.Proofs.Ytogigagfgkfkhaa
open Go Go.Proofs.Ytogigagfgkfkhaa.Am
def stepOk (n : Int) (s : Stp) : Bool := decide (0 ≤ s.1 ∧ s.1 ≤ n - 1) && (decide (0 ≤ s.2.2.1 ∧ s.2.2.1 ≤ n - 1) && (decide (0 ≤ s.2.2.2 ∧ s.2.2.2 ≤ 3) && (s.2.1.toList == la.toList || s.2.1.toList == lb.toList)))
def befB (s t : Stp) : Bool := bif s.1 != t.1 then decide (s.1 < t.1) else bif !(s.2.1.toList == t.2.1.toList) then Op.bytesLess s.2.1.toList t.2.1.toList else decide (s.2.2.1 < t.2.2.1)
theorem spec_l3Step_is {n : Int} (h1 : 1 ≤ n) (h4 : n ≤ 4) (s : Stp) : spec_l3Step n s = some (stepOk n s) := by
 obtain ⟨a, l, b, c⟩ := s
 simp only [spec_l3Step, spec_l1In_is, w64 (show -9223372036854775808 ≤ n - 1 by omega) (by omega), Option.bind_some, stepOk]
 rcases Bool.eq_false_or_eq_true (decide (0 ≤ a ∧ a ≤ n - 1)) with h | h <;> simp only [h, cond_true, cond_false, Bool.true_and, Bool.false_and]
 rcases Bool.eq_false_or_eq_true (decide (0 ≤ b ∧ b ≤ n - 1)) with h | h <;> simp only [h, cond_true, cond_false, Bool.true_and, Bool.false_and]
 rcases Bool.eq_false_or_eq_true (decide (0 ≤ c ∧ c ≤ 3)) with h | h <;> simp only [h, cond_true, cond_false, Bool.true_and, Bool.false_and]
 rcases Bool.eq_false_or_eq_true (l.toList == la.toList) with h | h <;> simp only [h, cond_true, cond_false, Bool.true_or, Bool.false_or]
theorem spec_l3Before_is (s t : Stp) : spec_l3Before s t = some (befB s t) := by
 obtain ⟨a, l, b, c⟩ := s
 obtain ⟨a', l', b', c'⟩ := t
 simp only [spec_l3Before, befB]
 rcases Bool.eq_false_or_eq_true (a != a') with h | h <;> simp only [h, cond_true, cond_false]
 rcases Bool.eq_false_or_eq_true (l.toList == l'.toList) with h | h <;> simp only [h, cond_true, cond_false, Bool.not_true, Bool.not_false]
theorem cmp_Compare_is (a b : Int) : cmp_Compare a b = some (if a < b then -1 else if a > b then 1 else 0) := by
 simp only [cmp_Compare, cmp_isNaN, Option.bind_some, bne_self_eq_false, cond_false]
 by_cases h : a < b
 ·simp only [decide_eq_true h, cond_true, if_pos h]
 ·by_cases k : a > b
  ·simp only [decide_eq_true k, decide_eq_false h, cond_true, cond_false, if_pos k, if_neg h]
  ·simp only [decide_eq_false k, decide_eq_false h, cond_false, if_neg k, if_neg h]
theorem cmp_Or_is (a b c : Int) : cmp_Or [a, b, c] = some (if a ≠ 0 then a else if b ≠ 0 then b else c) := by
 have step : ∀ i : Nat, i < 3 → cmp_Or_l3 (0, [a, b, c], 3, (i : Int), ()) = some (if [a, b, c].getD i 0 ≠ 0 then .inr (.inl ([a, b, c].getD i 0, ())) else .inl (0, [a, b, c], 3, ((i + 1 : Nat) : Int), ())) := by
  intro i hi
  have hd : decide ((i : Int) < (3 : Int)) = true := decide_eq_true (by omega)
  have hc : (0 : Int) ≤ (i : Int) ∧ (i : Int) < (([a, b, c].length : Nat) : Int) := ⟨by omega, by simp only [List.length_cons, List.length_nil]; omega⟩
  simp only [cmp_Or_l3, hd, cond_true, if_pos hc, Int.toNat_natCast, w64_succ hi (by omega)]
  by_cases h : [a, b, c].getD i 0 = 0
  ·simp only [h, bne_self_eq_false, cond_false]
   simp
  ·have : ([a, b, c].getD i 0 != 0) = true := by simpa using h
   simp only [this, cond_true]
   rw [if_pos h]
 have last : cmp_Or_l3 (0, [a, b, c], 3, ((3 : Nat) : Int), ()) = some (.inr (.inr (0, ()))) := by
  simp only [cmp_Or_l3]
  rfl
 simp only [cmp_Or]
 have e0 : ((([a, b, c].length : Nat) : Int)) = 3 := rfl
 rw [e0, show ((0 : Int), [a, b, c], (3 : Int), (0 : Int), ()) = ((0 : Int), [a, b, c], (3 : Int), ((0 : Nat) : Int), ()) from rfl]
 rw [loopF_eq, step 0 (by omega)]
 by_cases ha : a = 0
 ·subst ha
  simp only [List.getD_cons_zero, ne_eq, not_true_eq_false, if_false, Option.bind_some]
  rw [loopF_eq, step 1 (by omega)]
  by_cases hb : b = 0
  ·subst hb
   simp only [List.getD_cons_zero, List.getD_cons_succ, ne_eq, not_true_eq_false, if_false, Option.bind_some]
   rw [loopF_eq, step 2 (by omega)]
   by_cases hc : c = 0
   ·subst hc
    simp only [List.getD_cons_zero, List.getD_cons_succ, ne_eq, not_true_eq_false, if_false, Option.bind_some]
    rw [loopF_eq, last]
    rfl
   ·simp only [List.getD_cons_zero, List.getD_cons_succ, ne_eq, hc, not_false_eq_true, if_true, Option.bind_some]
  ·simp only [List.getD_cons_zero, List.getD_cons_succ, ne_eq, hb, not_false_eq_true, if_true, Option.bind_some]
 ·simp only [List.getD_cons_zero, ne_eq, ha, not_false_eq_true, if_true, Option.bind_some]
theorem impl_stepOrder_is (s t : Stp) : ∃ r, impl_stepOrder s t = some r ∧ decide (r ≥ 0) = !befB s t := by
 obtain ⟨a, l, b, c⟩ := s
 obtain ⟨a', l', b', c'⟩ := t
 simp only [impl_stepOrder, cmp_Compare_is, strings_Compare, Option.bind_some, List.drop_zero]
 rw [show ∀ x y z : Int, List.take 3 [x, y, z] = [x, y, z] from fun _ _ _ => rfl, cmp_Or_is]
 refine ⟨_, rfl, ?_⟩
 rw [compare_less, ← toList_bytes, ← toList_bytes]
 simp only [befB]
 by_cases h1 : a < a'
 ·have : (a != a') = true := by simp; omega
  simp [h1, this]
 ·by_cases h2 : a > a'
  ·have : (a != a') = true := by simp; omega
   simp [h1, h2, this]
  ·obtain rfl : a = a' := by omega
   simp only [h1, bne_self_eq_false, cond_false, if_false, gt_iff_lt, ne_eq, not_true_eq_false]
   cases hl : Op.bytesLess l.toList l'.toList with
   | true =>
    have hne : (l.toList == l'.toList) = false := by
     cases he : l.toList == l'.toList with
     | false => rfl
     | true =>
      exfalso
      rw [eq_of_beq he] at hl
      have irr : ∀ m : List UInt8, Op.bytesLess m m = false := by
       intro m
       induction m with
       | nil => rfl
       | cons x m ih => simp [Op.bytesLess, ih]
      rw [irr] at hl
      cases hl
    simp [hl, hne]
   | false =>
    cases he : l.toList == l'.toList with
    | false => simp [hl, he]
    | true =>
     simp only [he, Bool.false_eq_true, if_false, if_true, not_true_eq_false, Bool.not_true, cond_false]
     by_cases h3 : b < b'
     ·simp [h3]
     ·by_cases h4 : b' < b
      ·simp [h3, h4]
      ·simp [h3, h4]
def stepsP (n : Int) (l : List Stp) (i : Nat) : Bool := stepOk n (l.getD i stp0) && (decide (i = 0) || befB (l.getD (i - 1) stp0) (l.getD i stp0))
def stepsOk (n : Int) (l : List Stp) : Bool := (List.range l.length).all (stepsP n l)
def autOk (a : Aut) : Bool := decide (1 ≤ a.1 ∧ a.1 ≤ 4) && (marksOk a.1 a.2.1 && (marksOk a.1 a.2.2.1 && (decide (a.2.2.2.length ≤ 24) && stepsOk a.1 a.2.2.2)))
theorem spec_AutomatonValid_is (a : Aut) (hs : a.2.1.length ≤ 9223372036854775807) (hf : a.2.2.1.length ≤ 9223372036854775807) : spec_AutomatonValid a = some (autOk a) := by
 obtain ⟨n, S, F, l⟩ := a
 simp only [spec_AutomatonValid, spec_l1In_is, Option.bind_some, autOk]
 by_cases hn : 1 ≤ n ∧ n ≤ 4
 ·obtain ⟨h1, h4⟩ := hn
  simp only [decide_eq_true (show 1 ≤ n ∧ n ≤ 4 from ⟨h1, h4⟩), Bool.not_true, cond_false, Bool.true_and]
  rw [spec_l3Marks_is h1 h4 hs, spec_l3Marks_is h1 h4 hf]
  simp only [Option.bind_some]
  rcases Bool.eq_false_or_eq_true (marksOk n S) with h | h <;> simp only [h, Bool.not_true, Bool.not_false, cond_true, cond_false, Bool.true_and, Bool.false_and]
  rcases Bool.eq_false_or_eq_true (marksOk n F) with h | h <;> simp only [h, Bool.not_true, Bool.not_false, cond_true, cond_false, Bool.true_and, Bool.false_and]
  by_cases hl : l.length ≤ 24
  ·have hd : decide (((l.length : Nat) : Int) > (24 : Int)) = false := decide_eq_false (by omega)
   simp only [hd, cond_false, decide_eq_true hl, Bool.true_and]
   have := loop_all (f := spec_AutomatonValid_l4) (fun i => ((n, S, F, l, ()), l, (l.length : Int), (i : Int), ())) l.length (stepsP n l) (.inl (false, ())) (.inr ()) (fun i hi => by
    simp only [spec_AutomatonValid_l4, w64_succ hi (show l.length ≤ 9223372036854775807 by omega), Int.toNat_natCast, lt_t hi, cond_true, if_pos (in_t hi), stepsP]
    rw [show ∀ s : Stp, (s.1, s.2.1, s.2.2.1, s.2.2.2) = s from fun _ => rfl, spec_l3Step_is h1 h4]
    simp only [Option.bind_some]
    rcases Nat.eq_zero_or_pos i with rfl | h0
    ·rcases Bool.eq_false_or_eq_true (stepOk n (l.getD 0 stp0)) with b | b <;> simp only [b] <;> rfl
    ·simp only [w64_pred hi h0 (show l.length ≤ 9223372036854775807 by omega), gt_t h0, cond_true, if_pos (in_t (show i - 1 < l.length by omega)), Int.toNat_natCast, decide_eq_false (show ¬ i = 0 by omega), Bool.false_or, spec_l3Before_is, Option.bind_some]
     rcases Bool.eq_false_or_eq_true (stepOk n (l.getD i stp0)) with b | b <;> rcases Bool.eq_false_or_eq_true (befB (l.getD (i - 1) stp0) (l.getD i stp0)) with c | c <;> simp only [b, c] <;> rfl) (by simp only [spec_AutomatonValid_l4, lt_f]; rfl)
   rw [show ((0 : Int)) = ((0 : Nat) : Int) from rfl, this]
   unfold stepsOk
   cases (List.range l.length).all (stepsP n l) <;> rfl
  ·have hd : decide (((l.length : Nat) : Int) > (24 : Int)) = true := decide_eq_true (by omega)
   simp only [hd, cond_true, decide_eq_false hl, Bool.false_and]
 ·simp only [decide_eq_false hn, Bool.not_false, cond_true, Bool.false_and]
theorem impl_AutomatonValid_is (a : Aut) (hs : a.2.1.length ≤ 9223372036854775807) (hf : a.2.2.1.length ≤ 9223372036854775807) : impl_AutomatonValid a = some (autOk a) := by
 obtain ⟨n, S, F, l⟩ := a
 simp only [impl_AutomatonValid, autOk]
 by_cases h1 : n < 1
 ·simp only [decide_eq_true h1, cond_true, decide_eq_false (show ¬ (1 ≤ n ∧ n ≤ 4) by omega), Bool.false_and]
 ·by_cases h4 : n > 4
  ·simp only [decide_eq_false h1, cond_false, decide_eq_true h4, cond_true, decide_eq_false (show ¬ (1 ≤ n ∧ n ≤ 4) by omega), Bool.false_and]
  ·simp only [decide_eq_false h1, cond_false, decide_eq_false h4, decide_eq_true (show (1 ≤ n ∧ n ≤ 4) by omega), Bool.true_and]
   have h1 : 1 ≤ n := by omega
   have h4 : n ≤ 4 := by omega
   rw [impl_statesOk_is h1 h4 hs, impl_statesOk_is h1 h4 hf]
   simp only [Option.bind_some]
   by_cases hl : l.length ≤ 24
   ·have hd : decide (((l.length : Nat) : Int) > (24 : Int)) = false := decide_eq_false (by omega)
    simp only [hd, cond_false, decide_eq_true hl, Bool.true_and]
    rcases Bool.eq_false_or_eq_true (marksOk n S) with h | h <;> simp only [h, Bool.not_true, Bool.not_false, cond_true, cond_false, Bool.true_and, Bool.false_and]
    rcases Bool.eq_false_or_eq_true (marksOk n F) with h | h <;> simp only [h, Bool.not_true, Bool.not_false, cond_true, cond_false, Bool.true_and, Bool.false_and]
    have := loop_all (f := impl_AutomatonValid_l4) (fun i => ((n, S, F, l, ()), l, (l.length : Int), (i : Int), ())) l.length (stepsP n l) (.inl (false, ())) (.inr ()) (fun i hi => by
     simp only [impl_AutomatonValid_l4, w64_succ hi (show l.length ≤ 9223372036854775807 by omega), Int.toNat_natCast, lt_t hi, cond_true, if_pos (in_t hi), stepsP]
     rw [show ∀ s : Stp, (s.1, s.2.1, s.2.2.1, s.2.2.2) = s from fun _ => rfl]
     have hb : ∀ s : Stp, stepOk n s = (!decide (s.1 < 0) && (!decide (s.1 ≥ n) && (!decide (s.2.2.1 < 0) && (!decide (s.2.2.1 ≥ n) && ((s.2.1.toList == la.toList || s.2.1.toList == lb.toList) && (!decide (s.2.2.2 < 0) && !decide (s.2.2.2 > 3))))))) := by
      intro s
      unfold stepOk
      generalize (s.2.1.toList == la.toList || s.2.1.toList == lb.toList) = L
      rw [Bool.eq_iff_iff]
      simp only [decide_eq_true_eq, Bool.and_eq_true, Bool.not_eq_true', decide_eq_false_iff_not]
      constructor
      ·rintro ⟨h1, h2, h3, h4⟩; refine ⟨?_, ?_, ?_, ?_, h4, ?_, ?_⟩ <;> omega
      ·rintro ⟨h1, h2, h3, h4, h5, h6, h7⟩; refine ⟨?_, ?_, ?_, h5⟩ <;> omega
     simp only [hb]
     obtain ⟨r, hr, hr2⟩ := impl_stepOrder_is (l.getD (i - 1) stp0) (l.getD i stp0)
     have hg : ∀ i : Nat, (i = 0 ∨ 0 < i) := fun i => by omega
     rcases Nat.eq_zero_or_pos i with rfl | h0
     ·rcases Bool.eq_false_or_eq_true (decide ((l.getD 0 stp0).1 < 0)) with b1 | b1 <;> simp only [b1] <;> try rfl
      rcases Bool.eq_false_or_eq_true (decide ((l.getD 0 stp0).1 ≥ n)) with b2 | b2 <;> simp only [b2] <;> try rfl
      rcases Bool.eq_false_or_eq_true (decide ((l.getD 0 stp0).2.2.1 < 0)) with b3 | b3 <;> simp only [b3] <;> try rfl
      rcases Bool.eq_false_or_eq_true (decide ((l.getD 0 stp0).2.2.1 ≥ n)) with b4 | b4 <;> simp only [b4] <;> try rfl
      rcases Bool.eq_false_or_eq_true ((l.getD 0 stp0).2.1.toList == la.toList) with b5 | b5 <;> simp only [b5] <;> (rcases Bool.eq_false_or_eq_true ((l.getD 0 stp0).2.1.toList == lb.toList) with b6 | b6 <;> simp only [b6] <;> try rfl) <;>
      (rcases Bool.eq_false_or_eq_true (decide ((l.getD 0 stp0).2.2.2 < 0)) with b7 | b7 <;> simp only [b7] <;> try rfl) <;>
      (rcases Bool.eq_false_or_eq_true (decide ((l.getD 0 stp0).2.2.2 > 3)) with b8 | b8 <;> simp only [b8] <;> rfl)
     ·simp only [w64_pred hi h0 (show l.length ≤ 9223372036854775807 by omega), gt_t h0, cond_true, if_pos (in_t (show i - 1 < l.length by omega)), Int.toNat_natCast, decide_eq_false (show ¬ i = 0 by omega), Bool.false_or, hr, hr2, Option.bind_some]
      rcases Bool.eq_false_or_eq_true (decide ((l.getD i stp0).1 < 0)) with b1 | b1 <;> simp only [b1] <;> try rfl
      rcases Bool.eq_false_or_eq_true (decide ((l.getD i stp0).1 ≥ n)) with b2 | b2 <;> simp only [b2] <;> try rfl
      rcases Bool.eq_false_or_eq_true (decide ((l.getD i stp0).2.2.1 < 0)) with b3 | b3 <;> simp only [b3] <;> try rfl
      rcases Bool.eq_false_or_eq_true (decide ((l.getD i stp0).2.2.1 ≥ n)) with b4 | b4 <;> simp only [b4] <;> try rfl
      rcases Bool.eq_false_or_eq_true ((l.getD i stp0).2.1.toList == la.toList) with b5 | b5 <;> simp only [b5] <;> (rcases Bool.eq_false_or_eq_true ((l.getD i stp0).2.1.toList == lb.toList) with b6 | b6 <;> simp only [b6] <;> try rfl) <;>
      (rcases Bool.eq_false_or_eq_true (decide ((l.getD i stp0).2.2.2 < 0)) with b7 | b7 <;> simp only [b7] <;> try rfl) <;>
      (rcases Bool.eq_false_or_eq_true (decide ((l.getD i stp0).2.2.2 > 3)) with b8 | b8 <;> simp only [b8] <;> try rfl) <;>
      (rcases Bool.eq_false_or_eq_true (befB (l.getD (i - 1) stp0) (l.getD i stp0)) with c | c <;> simp only [c] <;> rfl)) (by simp only [impl_AutomatonValid_l4, lt_f]; rfl)
    rw [show ((0 : Int)) = ((0 : Nat) : Int) from rfl, this]
    unfold stepsOk
    cases (List.range l.length).all (stepsP n l) <;> rfl
   ·have hd : decide (((l.length : Nat) : Int) > (24 : Int)) = true := decide_eq_true (by omega)
    simp only [hd, cond_true, decide_eq_false hl, Bool.false_and, Bool.and_false]
end Go.Proofs.Ytogigagfgkfkhaa
