/- The law of the automaton of factors. -/
import Derived.Test.YtbndfclpclifbaaGreatDoorP87
import Derived.Test.YtbndfclpclifbaaGreatDoorP40
set_option linter.unusedVariables false
set_option linter.unusedSimpArgs false
namespace Go.Proofs.YtbndfclpclifbaaGreatDoor
open Go Go.Proofs.YtbndfclpclifbaaGreatDoor.Am
/-! ### the turned automaton -/
def sw (s : Stp) : Stp := (s.2.2.1, s.2.1, s.1, s.2.2.2)
theorem stepOk_of {n : Int} {s : Stp} (h : StepIs n s) : stepOk n s = true := by
 have h1 := h.f0; have h2 := h.f1; have h3 := h.t0; have h4 := h.t1; have h5 := h.c0; have h6 := h.c1
 unfold stepOk
 simp only [Bool.and_eq_true, decide_eq_true_eq, Bool.or_eq_true, beq_iff_eq]
 exact ⟨⟨h1, h2⟩, ⟨h3, h4⟩, ⟨h5, h6⟩, h.l⟩
theorem sw_is {n : Int} {s : Stp} (h : StepIs n s) : StepIs n (sw s) := ⟨h.t0, h.t1, h.f0, h.f1, h.c0, h.c1, h.l⟩
theorem srt_ok {n : Int} {m : List Stp} (hs : Srt m) (hm : ∀ s ∈ m, StepIs n s) : stepsOk n m = true := by
 unfold stepsOk
 refine List.all_eq_true.2 fun i hi => ?_
 have hi := List.mem_range.1 hi
 unfold stepsP
 rw [getD_g stp0 hi, stepOk_of (hm _ (List.getElem_mem hi)), Bool.true_and]
 by_cases h0 : i = 0
 ·rw [decide_eq_true h0, Bool.true_or]
 ·rw [decide_eq_false h0, Bool.false_or, getD_g stp0 (show i - 1 < m.length by omega), befB_lt]
  exact (List.pairwise_iff_getElem.1 hs) (i - 1) i (by omega) hi (by omega)
theorem sorted_of : ∀ {L : List Stp}, L.Pairwise (fun s t => stepC t s ≠ 0) → ∃ m, Srt m ∧ L.Perm m
 | [], _ => ⟨[], List.Pairwise.nil, List.Perm.refl _⟩
 | x :: L, h => by
  obtain ⟨h1, h2⟩ := List.pairwise_cons.1 h
  obtain ⟨m, hm, hp⟩ := sorted_of h2
  exact ⟨ins x m, ins_srt hm, (hp.cons x).trans (ins_new fun s hs => h1 s (hp.mem_iff.2 hs)).symm⟩
theorem zero_same {s t : Stp} (h1 : s.1 = t.1) (h2 : s.2.2.1 = t.2.2.1) (h3 : s.2.1.toList = t.2.1.toList) : ltS s t = false := by
 rw [← befB_lt]
 unfold befB
 have e1 : (s.1 != t.1) = false := bne_eq_false_iff_eq.2 h1
 have e2 : (s.2.1.toList == t.2.1.toList) = true := by rw [h3]; simp
 rw [e1, cond_false, e2, Bool.not_true, cond_false]
 exact decide_eq_false (by omega)
theorem reverse_full {n : Nat} {S F : List Int} {l : List Stp} (ha : AutIs ((n : Int), S, F, l) n) (hs : Small ((n : Int), S, F, l)) (hv : autOk ((n : Int), S, F, l) = true) : ∃ m, (l.map sw).Perm m ∧ impl_ReverseAutomaton ((n : Int), S, F, l) = some (((n : Int), F, S, m), true) ∧ Small ((n : Int), F, S, m) ∧ autOk ((n : Int), F, S, m) = true := by
 have hV := impl_AutomatonValid_is ((n : Int), S, F, l) (small_len hs).1 (small_len hs).2
 obtain ⟨q1, q2, q3, q4, q5⟩ := autOk_parts hv
 obtain ⟨s1, s2, s3⟩ := hs
 simp only at s1 s2 s3
 have hl := ha.steps
 have hl : ∀ s ∈ l, StepIs (n : Int) s := hl
 have hpw : (l.map sw).Pairwise (fun s t => stepC t s ≠ 0) := by
  rw [List.pairwise_map]
  have hsrt : l.Pairwise fun s t => ltS s t = true := steps_srt q4
  refine List.Pairwise.imp_of_mem (fun {s t} hs1 ht1 h h0 => ?_) hsrt
  obtain ⟨e1, e2, e3⟩ := stepC_zero (s := sw t) (t := sw s) (hl t ht1).l (hl s hs1).l h0
  have := zero_same (s := s) (t := t) (show s.1 = t.1 from e2.symm) (show s.2.2.1 = t.2.2.1 from e1.symm) e3.symm
  rw [this] at h
  cases h
 obtain ⟨m, hm, hp⟩ := sorted_of hpw
 have hlm : (l.map sw).length = l.length := List.length_map _
 have hml : m.length = l.length := by rw [← hp.length_eq, hlm]
 have hmk := made_is (x := (n : Int)) (S := F) (F := S) q2 q1 hm hp s2 s1 (by omega)
 have hok : autOk ((n : Int), F, S, m) = true := by
  unfold autOk at hv ⊢
  simp only [Bool.and_eq_true, decide_eq_true_eq] at hv ⊢
  refine ⟨hv.1, q2, q1, by omega, srt_ok hm fun s hs => ?_⟩
  obtain ⟨t, ht, rfl⟩ := List.mem_map.1 (hp.mem_iff.2 hs)
  exact sw_is (hl t ht)
 have hst := stepped_is (l := l) (by omega) (φ := fun y1 => impl_ReverseAutomaton_1 y1.1) (z := sw) (fun s => rfl)
 refine ⟨m, hp, ?_, ⟨s2, s1, by show m.length ≤ _; omega⟩, hok⟩
 simp only [impl_ReverseAutomaton, hV, hv, Option.bind_some, Bool.not_true, cond_false, hst, List.drop_zero, List.take_length, hmk, hok, if_true]
/-! ### useful states -/
/-! ### two automata that are the same -/
end Go.Proofs.YtbndfclpclifbaaGreatDoor
