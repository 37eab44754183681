/- The first word that costs more, and the same costs. -/
import Derived.Test.YtcmcjhdccnbmoaaP10
set_option linter.unusedVariables false
set_option linter.unusedSimpArgs false
namespace Go.Proofs.Ytcmcjhdccnbmoaa
open Go Go.Proofs.Ytcmcjhdccnbmoaa.Am
theorem find_none {m : Nat} {p : Nat → Bool} : (List.range m).find? p = none ↔ ∀ i, i < m → p i = false := by
 rw [List.find?_eq_none]
 constructor
 ·intro h i hi
  have := h i (List.mem_range.2 hi)
  simpa using this
 ·intro h i hi
  rw [h i (List.mem_range.1 hi)]
  simp
section two
variable {a b : Aut} (sa : Small a) (sb : Small b) (n : Int)
include sa sb
theorem spec_FirstOver_is : spec_FirstOver a b n = some (if (autOk a && (autOk b && shortN n)) = true then (match (List.range (words n).length).find? (fun i => decide (cst a (wd n i) > cst b (wd n i))) with | some i => (wd n i, true) | none => (emp, false)) else (emp, false)) := by
 have h1 := l11Short_is sa n
 have h2 := l11Short_is sb n
 have k1 : autOk a = true → ∀ w, wordOk w = true → spec_l4Cost a w = some (cst a w) := fun ha w hw => (cst_is sa ha hw).1
 have k2 : autOk b = true → ∀ w, wordOk w = true → spec_l4Cost b w = some (cst b w) := fun ha w hw => (cst_is sb ha hw).1
 have hlen := words_len n
 obtain ⟨x, S, F, l⟩ := a
 obtain ⟨x', S', F', l'⟩ := b
 simp only [spec_FirstOver, h1, h2, Option.bind_some]
 cases ha : autOk (x, S, F, l) with
 | false => simp
 | true =>
  cases hn : shortN n with
  | false => simp
  | true =>
   cases hb : autOk (x', S', F', l') with
   | false => simp
   | true =>
    simp only [Bool.true_and, Bool.and_true, Bool.not_true, cond_false, if_true, spec_words_is hn, Option.bind_some]
    have := loop_find (f := spec_FirstOver_l4) (fun i => ((x, S, F, l, ()), (x', S', F', l', ()), words n, ((words n).length : Int), (i : Int), ())) (words n).length (fun i => decide (cst (x, S, F, l) (wd n i) > cst (x', S', F', l') (wd n i))) (fun i => .inl (wd n i, true, ())) (.inr ()) (fun i hi => by
     have hw := words_ok _ (word_mem hi)
     simp only [spec_FirstOver_l4, lt_t hi, cond_true, if_pos (in_t hi), Int.toNat_natCast, k1 ha _ hw, k2 hb _ hw, Option.bind_some, w64_succ hi (show (words n).length ≤ 9223372036854775807 by omega)]
     cases decide (cst (x, S, F, l) (wd n i) > cst (x', S', F', l') (wd n i)) <;> rfl) (by simp only [spec_FirstOver_l4, lt_f]; rfl)
    have this : loopF spec_FirstOver_l4 ((x, S, F, l, ()), (x', S', F', l', ()), words n, ((words n).length : Int), (0 : Int), ()) = _ := this
    rw [this]
    simp only [Option.bind_some]
    cases (List.range (words n).length).find? _ <;> rfl
theorem impl_FirstOver_is : impl_FirstOver a b n = some (if (autOk a && (autOk b && shortN n)) = true then (match (List.range (words n).length).find? (fun i => decide (cst a (wd n i) > cst b (wd n i))) with | some i => (wd n i, true) | none => (emp, false)) else (emp, false)) := by
 have h1 := impl_short_is n [a, b] (two_small sa sb) (by simp)
 have k1 : autOk a = true → ∀ w, wordOk w = true → impl_CostOf a w = some (cst a w) := fun ha w hw => (cst_is sa ha hw).2.1
 have k2 : autOk b = true → ∀ w, wordOk w = true → impl_CostOf b w = some (cst b w) := fun ha w hw => (cst_is sb ha hw).2.1
 have hlen := words_len n
 obtain ⟨x, S, F, l⟩ := a
 obtain ⟨x', S', F', l'⟩ := b
 simp only [impl_FirstOver, List.drop_zero]
 rw [show List.take 2 [(x, S, F, l), (x', S', F', l')] = [(x, S, F, l), (x', S', F', l')] from rfl, h1]
 simp only [Option.bind_some, List.all_cons, List.all_nil, Bool.and_true]
 cases hok : (shortN n && (autOk (x, S, F, l) && autOk (x', S', F', l'))) with
 | false =>
  have := loop_find (f := impl_FirstOver_l3) (fun i => ((x, S, F, l, ()), (x', S', F', l', ()), false, words n, ((words n).length : Int), (i : Int), ())) (words n).length (fun _ => false) (fun _ => .inl (emp, false, ())) (.inr ()) (fun i hi => by
   simp only [impl_FirstOver_l3, lt_t hi, cond_true, if_pos (in_t hi), w64_succ hi (show (words n).length ≤ 9223372036854775807 by omega)]
   rfl) (by simp only [impl_FirstOver_l3, lt_f]; rfl)
  have this : loopF impl_FirstOver_l3 ((x, S, F, l, ()), (x', S', F', l', ()), false, words n, ((words n).length : Int), (0 : Int), ()) = _ := this
  rw [this, find_no, if_neg (by
   intro h
   simp only [Bool.and_eq_true] at h
   rw [h.1, h.2.1, h.2.2] at hok
   cases hok)]
  rfl
 | true =>
  have hok' := hok
  simp only [Bool.and_eq_true] at hok'
  obtain ⟨hn, ha, hb⟩ := hok'
  rw [if_pos (by rw [ha, hb, hn]; rfl)]
  have := loop_find (f := impl_FirstOver_l3) (fun i => ((x, S, F, l, ()), (x', S', F', l', ()), true, words n, ((words n).length : Int), (i : Int), ())) (words n).length (fun i => decide (cst (x, S, F, l) (wd n i) > cst (x', S', F', l') (wd n i))) (fun i => .inl (wd n i, true, ())) (.inr ()) (fun i hi => by
   have hw := words_ok _ (word_mem hi)
   simp only [impl_FirstOver_l3, lt_t hi, cond_true, if_pos (in_t hi), Int.toNat_natCast, k1 ha _ hw, k2 hb _ hw, Option.bind_some, w64_succ hi (show (words n).length ≤ 9223372036854775807 by omega)]
   cases decide (cst (x, S, F, l) (wd n i) > cst (x', S', F', l') (wd n i)) <;> rfl) (by simp only [impl_FirstOver_l3, lt_f]; rfl)
  have this : loopF impl_FirstOver_l3 ((x, S, F, l, ()), (x', S', F', l', ()), true, words n, ((words n).length : Int), (0 : Int), ()) = _ := this
  rw [this]
  simp only [Option.bind_some]
  cases (List.range (words n).length).find? _ <;> rfl
theorem impl_SameCosts_is : impl_SameCosts a b n = some (if (autOk a && (autOk b && shortN n)) = true then (match (List.range (words n).length).find? (fun i => cst a (wd n i) != cst b (wd n i)) with | some _ => false | none => true) else false) := by
 have h1 := impl_short_is n [a, b] (two_small sa sb) (by simp)
 have k1 : autOk a = true → ∀ w, wordOk w = true → impl_CostOf a w = some (cst a w) := fun ha w hw => (cst_is sa ha hw).2.1
 have k2 : autOk b = true → ∀ w, wordOk w = true → impl_CostOf b w = some (cst b w) := fun ha w hw => (cst_is sb ha hw).2.1
 have hlen := words_len n
 obtain ⟨x, S, F, l⟩ := a
 obtain ⟨x', S', F', l'⟩ := b
 simp only [impl_SameCosts, List.drop_zero]
 rw [show List.take 2 [(x, S, F, l), (x', S', F', l')] = [(x, S, F, l), (x', S', F', l')] from rfl, h1]
 simp only [Option.bind_some, List.all_cons, List.all_nil, Bool.and_true]
 cases hok : (shortN n && (autOk (x, S, F, l) && autOk (x', S', F', l'))) with
 | false =>
  have := loop_find (f := impl_SameCosts_l3) (fun i => ((x, S, F, l, ()), (x', S', F', l', ()), false, words n, ((words n).length : Int), (i : Int), ())) (words n).length (fun _ => false) (fun _ => .inl (false, ())) (.inr (false, ())) (fun i hi => by
   simp only [impl_SameCosts_l3, lt_t hi, cond_true, if_pos (in_t hi), w64_succ hi (show (words n).length ≤ 9223372036854775807 by omega)]
   rfl) (by simp only [impl_SameCosts_l3, lt_f]; rfl)
  have this : loopF impl_SameCosts_l3 ((x, S, F, l, ()), (x', S', F', l', ()), false, words n, ((words n).length : Int), (0 : Int), ()) = _ := this
  rw [this, find_no, if_neg (by
   intro h
   simp only [Bool.and_eq_true] at h
   rw [h.1, h.2.1, h.2.2] at hok
   cases hok)]
  rfl
 | true =>
  have hok' := hok
  simp only [Bool.and_eq_true] at hok'
  obtain ⟨hn, ha, hb⟩ := hok'
  rw [if_pos (by rw [ha, hb, hn]; rfl)]
  have := loop_find (f := impl_SameCosts_l3) (fun i => ((x, S, F, l, ()), (x', S', F', l', ()), true, words n, ((words n).length : Int), (i : Int), ())) (words n).length (fun i => cst (x, S, F, l) (wd n i) != cst (x', S', F', l') (wd n i)) (fun i => .inl (false, ())) (.inr (true, ())) (fun i hi => by
   have hw := words_ok _ (word_mem hi)
   simp only [impl_SameCosts_l3, lt_t hi, cond_true, if_pos (in_t hi), Int.toNat_natCast, k1 ha _ hw, k2 hb _ hw, Option.bind_some, w64_succ hi (show (words n).length ≤ 9223372036854775807 by omega)]
   cases (cst (x, S, F, l) (wd n i) != cst (x', S', F', l') (wd n i)) <;> rfl) (by simp only [impl_SameCosts_l3, lt_f]; rfl)
  have this : loopF impl_SameCosts_l3 ((x, S, F, l, ()), (x', S', F', l', ()), true, words n, ((words n).length : Int), (0 : Int), ()) = _ := this
  rw [this]
  simp only [Option.bind_some]
  cases (List.range (words n).length).find? _ <;> rfl
theorem spec_SameCosts_is : spec_SameCosts a b n = impl_SameCosts a b n := by
 rw [impl_SameCosts_is sa sb n]
 have h1 := spec_FirstOver_is sa sb n
 have h2 := spec_FirstOver_is sb sa n
 have h3 := l11Short_is sa n
 have h4 := l11Short_is sb n
 obtain ⟨x, S, F, l⟩ := a
 obtain ⟨x', S', F', l'⟩ := b
 simp only [spec_SameCosts, h1, h2, h3, h4, Option.bind_some]
 cases ha : autOk (x, S, F, l) with
 | false => simp
 | true =>
  cases hb : autOk (x', S', F', l') with
  | false => simp
  | true =>
   cases hn : shortN n with
   | false => simp
   | true =>
    simp only [Bool.true_and, if_true, cond_true]
    generalize hp : (List.range (words n).length).find? (fun i => decide (cst (x, S, F, l) (wd n i) > cst (x', S', F', l') (wd n i))) = p
    generalize hq : (List.range (words n).length).find? (fun i => decide (cst (x', S', F', l') (wd n i) > cst (x, S, F, l) (wd n i))) = q
    generalize hr : (List.range (words n).length).find? (fun i => cst (x, S, F, l) (wd n i) != cst (x', S', F', l') (wd n i)) = r
    have key : (p = none ∧ q = none) ↔ r = none := by
     rw [← hp, ← hq, ← hr, find_none, find_none, find_none]
     constructor
     ·rintro ⟨g1, g2⟩ i hi
      have e1 := of_decide_eq_false (g1 i hi)
      have e2 := of_decide_eq_false (g2 i hi)
      have : cst (x, S, F, l) (wd n i) = cst (x', S', F', l') (wd n i) := by omega
      rw [this]
      exact bne_self_eq_false _
     ·intro g
      refine ⟨fun i hi => decide_eq_false ?_, fun i hi => decide_eq_false ?_⟩ <;>
      ·have := g i hi
       have : cst (x, S, F, l) (wd n i) = cst (x', S', F', l') (wd n i) := by simpa using this
       omega
    cases p with
    | none =>
     cases q with
     | none => rw [key.1 ⟨rfl, rfl⟩]; rfl
     | some j =>
      cases r with
      | none => have := (key.2 rfl).2; cases this
      | some k => rfl
    | some i =>
     cases r with
     | none => have := (key.2 rfl).1; cases this
     | some k => rfl
end two
end Go.Proofs.Ytcmcjhdccnbmoaa
