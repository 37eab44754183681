/- The hardest word and the most factors; the laws' frames. -/
import Derived.Test.YtooigaliccnldaaP14
set_option linter.unusedVariables false
set_option linter.unusedSimpArgs false
namespace Go.Proofs.Ytooigaliccnldaa
open Go Go.Proofs.Ytooigaliccnldaa.Am
/-- the harder one of what is had and a word -/
noncomputable def harder (a : Aut) (p : ByteArray × Int) (w : ByteArray) : ByteArray × Int := if cv a (bytes w) < Nv ∧ cv a (bytes w) > p.2 then (w, cv a (bytes w)) else p
theorem words_size {n : Int} : ∀ w ∈ words n, w.size ≤ 7 := by
  intro w hw
  unfold words at hw
  split at hw
  · rename_i h
    unfold shortN at h
    rw [decide_eq_true_eq] at h
    have := ((gen_facts n.toNat).2.2.2 w hw).2
    omega
  · cases hw
theorem gen_head : ∀ j, ∃ W, (gen j).1 = emp :: W
  | 0 => ⟨[], rfl⟩
  | j + 1 => by
    obtain ⟨W, h⟩ := gen_head j
    exact ⟨_, by simp only [gen, h]; rfl⟩
theorem asked_word {a : Aut} (n : Int) (ha : autOk a = true) {w : ByteArray} (hw : w ∈ words n) : askedN a w = true := by
  unfold askedN
  have := words_size w hw
  rw [ha, words_ok w hw, decide_eq_true (by omega)]
  rfl
section one
variable {a : Aut} (sa : Small a) (n : Int)
include sa
theorem spec_HardestWord_is : spec_HardestWord a n = some (if (autOk a && shortN n) = true then (((words n).foldl (harder a) (emp, -1)).1, true) else (emp, false)) := by
  have h1 := spec_AutomatonValid_is a (small_len sa).1 (small_len sa).2
  have hl := @least_at a sa
  have hlen := words_len n
  obtain ⟨x, S, F, l⟩ := a
  simp only [spec_HardestWord, h1, Option.bind_some, spec_l1In_is]
  rcases Bool.eq_false_or_eq_true (autOk (x, S, F, l)) with ha | ha
  · rcases Bool.eq_false_or_eq_true (shortN n) with hn | hn
    · have hn' : decide (0 ≤ n ∧ n ≤ 7) = true := hn
      simp only [ha, hn, hn', Bool.not_true, cond_false, Bool.and_self, if_true, spec_words_is hn, Option.bind_some]
      obtain ⟨r, g1, g2⟩ := loop_inv (f := spec_HardestWord_l5) (words n).length (fun i (p : ByteArray × Int) => ((x, S, F, l, ()), p.1, p.2, words n, ((words n).length : Int), (i : Int), ())) (fun i p => harder (x, S, F, l) p ((words n).getD i be0)) (fun p => (p.1, ())) (fun i p => p = ((words n).take i).foldl (harder (x, S, F, l)) (emp, -1))
        (fun i p hi hp => by
          have e : (words n).getD i be0 = (words n)[i] := by rw [List.getD_eq_getElem?_getD, List.getElem?_eq_getElem hi]; rfl
          rw [take_snoc hi, List.foldl_append, ← hp, e]; rfl)
        (fun i p hi hp => by
          have hw := words_ok _ (word_mem hi)
          have hs := words_size _ (word_mem hi)
          obtain ⟨o, o1, o2, o3, _⟩ := hl ha hw (by omega)
          simp only [spec_HardestWord_l5, lt_t hi, cond_true, if_pos (in_t hi), Int.toNat_natCast, o1, Option.bind_some, Nat.zero_add, o3, w64_succ hi (show (words n).length ≤ 9223372036854775807 by omega), harder]
          have o2 : o.length = ((words n).getD i (⟨Array.empty⟩ : ByteArray)).size + 1 := o2
          rw [if_pos ⟨by omega, by omega⟩]
          by_cases c1 : cv (x, S, F, l) (bytes ((words n).getD i be0)) < Nv
          · by_cases c2 : cv (x, S, F, l) (bytes ((words n).getD i be0)) > p.2
            · rw [decide_eq_true (show cv (x, S, F, l) (bytes ((words n).getD i be0)) < 1000000 from c1), decide_eq_true c2, if_pos ⟨c1, c2⟩]
              rfl
            · rw [decide_eq_true (show cv (x, S, F, l) (bytes ((words n).getD i be0)) < 1000000 from c1), decide_eq_false c2, if_neg (fun h => c2 h.2)]
              rfl
          · rw [decide_eq_false (show ¬ cv (x, S, F, l) (bytes ((words n).getD i be0)) < 1000000 from c1), if_neg (fun h => c1 h.1)]
            rfl)
        (fun p hp => by simp only [spec_HardestWord_l5, lt_f, cond_false])
        (emp, -1) rfl
      have g1 : loopF spec_HardestWord_l5 ((x, S, F, l, ()), emp, (-1 : Int), words n, ((words n).length : Int), (0 : Int), ()) = _ := g1
      rw [g1, g2, List.take_length]
      rfl
    · have hn' : decide (0 ≤ n ∧ n ≤ 7) = false := hn
      simp only [ha, hn, hn', Bool.not_true, Bool.not_false, cond_true, cond_false, Bool.and_false, Bool.false_eq_true, if_false]
  · simp only [ha, Bool.not_false, cond_true, Bool.false_and, Bool.false_eq_true, if_false]
theorem impl_HardestWord_is : impl_HardestWord a n = some (if (autOk a && shortN n) = true then (((words n).foldl (harder a) (emp, 0)).1, true) else (emp, false)) := by
  have h1 := impl_AutomatonValid_is a (small_len sa).1 (small_len sa).2
  have hf := @impl_FactorsOf_is a sa
  have hq := @asked_word a n
  have hlen := words_len n
  obtain ⟨x, S, F, l⟩ := a
  rcases Bool.eq_false_or_eq_true (shortN n) with hn | hn
  · have hn' := hn
    unfold shortN at hn'
    rw [decide_eq_true_eq] at hn'
    have hwd : (gen n.toNat).1 = words n := by unfold words; rw [if_pos hn]
    simp only [impl_HardestWord, impl_ShortWords_is hn'.1 hn'.2, h1, Option.bind_some, Bool.not_true, cond_false, hwd]
    rcases Bool.eq_false_or_eq_true (autOk (x, S, F, l)) with ha | ha
    · simp only [ha, hn, Bool.not_true, cond_false, Bool.and_self, if_true]
      obtain ⟨r, g1, g2⟩ := loop_inv (f := impl_HardestWord_l6) (words n).length (fun i (p : ByteArray × Int) => ((x, S, F, l, ()), p.1, p.2, words n, ((words n).length : Int), (i : Int), ())) (fun i p => harder (x, S, F, l) p ((words n).getD i be0)) (fun p => (p.1, ())) (fun i p => p = ((words n).take i).foldl (harder (x, S, F, l)) (emp, 0))
        (fun i p hi hp => by
          have e : (words n).getD i be0 = (words n)[i] := by rw [List.getD_eq_getElem?_getD, List.getElem?_eq_getElem hi]; rfl
          rw [take_snoc hi, List.foldl_append, ← hp, e]; rfl)
        (fun i p hi hp => by
          have hw := words_ok _ (word_mem hi)
          have hs := words_size _ (word_mem hi)
          have hfo := hf (w := (words n).getD i be0) (by omega)
          rw [if_pos (hq ha (word_mem hi))] at hfo
          simp only [impl_HardestWord_l6, lt_t hi, cond_true, if_pos (in_t hi), Int.toNat_natCast, hfo, Option.bind_some, w64_succ hi (show (words n).length ≤ 9223372036854775807 by omega), harder]
          by_cases c1 : cv (x, S, F, l) (bytes ((words n).getD i be0)) < Nv
          · by_cases c2 : cv (x, S, F, l) (bytes ((words n).getD i be0)) > p.2
            · rw [decide_eq_true (show cv (x, S, F, l) (bytes ((words n).getD i be0)) < 1000000 from c1), decide_eq_true c2, if_pos ⟨c1, c2⟩]
              rfl
            · rw [decide_eq_false c2, if_neg (fun h => c2 h.2)]
              rfl
          · rw [decide_eq_false (show ¬ cv (x, S, F, l) (bytes ((words n).getD i be0)) < 1000000 from c1), if_neg (fun h => c1 h.1)]
            cases decide (cv (x, S, F, l) (bytes ((words n).getD i be0)) > p.2) <;> rfl)
        (fun p hp => by simp only [impl_HardestWord_l6, lt_f, cond_false])
        (emp, 0) rfl
      have g1 : loopF impl_HardestWord_l6 ((x, S, F, l, ()), emp, (0 : Int), words n, ((words n).length : Int), (0 : Int), ()) = _ := g1
      rw [g1, g2, List.take_length]
      rfl
    · simp only [ha, Bool.not_false, cond_true, Bool.false_and, Bool.false_eq_true, if_false]
  · have hn' := hn
    unfold shortN at hn'
    rw [decide_eq_false_iff_not] at hn'
    simp only [impl_HardestWord, impl_ShortWords_no hn', Option.bind_some, Bool.not_false, cond_true, hn, Bool.and_false, Bool.false_eq_true, if_false]
theorem harder_same (ha : autOk a = true) (hn : shortN n = true) : (words n).foldl (harder a) (emp, -1) = (words n).foldl (harder a) (emp, 0) := by
  have hwd : (gen n.toNat).1 = words n := by unfold words; rw [if_pos hn]
  obtain ⟨W, hW⟩ := gen_head n.toNat
  rw [← hwd, hW, List.foldl_cons, List.foldl_cons]
  have hw : wordOk emp = true := rfl
  obtain ⟨_, _, _, _, h⟩ := least_at sa ha hw (by decide)
  have hc : cv a (bytes emp) = 0 := h.same (CntIs.nil a)
  have e1 : harder a (emp, -1) emp = (emp, 0) := by unfold harder; rw [hc]; rfl
  have e2 : harder a (emp, 0) emp = (emp, 0) := by unfold harder; rw [hc]; rfl
  rw [e1, e2]
theorem hardest_same : ∃ r, spec_HardestWord a n = some r ∧ impl_HardestWord a n = some r ∧ r.1.size ≤ 7 ∧ r.2 = (autOk a && shortN n) := by
  have h1 := spec_HardestWord_is sa n
  have h2 := impl_HardestWord_is sa n
  rw [h1, h2]
  rcases Bool.eq_false_or_eq_true (autOk a && shortN n) with h | h
  · have h' := h
    rw [Bool.and_eq_true] at h'
    rw [if_pos h, if_pos h, harder_same sa n h'.1 h'.2]
    refine ⟨_, rfl, rfl, ?_, h.symm⟩
    have key : ∀ (W : List ByteArray) (p : ByteArray × Int), (∀ w ∈ W, w.size ≤ 7) → p.1.size ≤ 7 → (W.foldl (harder a) p).1.size ≤ 7 := by
      intro W
      induction W with
      | nil => intro p _ hp; exact hp
      | cons w W ih =>
        intro p hW hp
        rw [List.foldl_cons]
        refine ih _ (fun u hu => hW u (List.mem_cons_of_mem _ hu)) ?_
        unfold harder
        split
        · exact hW w List.mem_cons_self
        · exact hp
    exact key _ _ words_size (by decide)
  · rw [h]
    exact ⟨_, rfl, rfl, show emp.size ≤ 7 by decide, rfl⟩
theorem most_same : ∃ r, spec_MostFactors a n = some r ∧ impl_MostFactors a n = some r := by
  obtain ⟨⟨w, ok⟩, h1, h2, h3, h4⟩ := hardest_same sa n
  have h5 := spec_AutomatonValid_is a (small_len sa).1 (small_len sa).2
  have h3 : w.size ≤ 7 := h3
  have h4 : ok = (autOk a && shortN n) := h4
  have h6 := spec_FactorsOf_is sa (w := w) (by omega)
  have h7 := impl_FactorsOf_is sa (w := w) (by omega)
  obtain ⟨x, S, F, l⟩ := a
  simp only [spec_MostFactors, impl_MostFactors, h1, h2, h5, h6, h7, spec_l1In_is, Option.bind_some]
  rw [h4]
  rcases Bool.eq_false_or_eq_true (autOk (x, S, F, l)) with ha | ha
  · rcases Bool.eq_false_or_eq_true (shortN n) with hn | hn
    · have hn' : decide (0 ≤ n ∧ n ≤ 7) = true := hn
      simp only [ha, hn, hn', Bool.and_self, Bool.not_true, cond_false]
      exact ⟨_, rfl, rfl⟩
    · have hn' : decide (0 ≤ n ∧ n ≤ 7) = false := hn
      simp only [ha, hn, hn', Bool.and_false, Bool.not_false, Bool.not_true, cond_true, cond_false]
      exact ⟨_, rfl, rfl⟩
  · simp only [ha, Bool.false_and, Bool.not_false, cond_true]
    exact ⟨_, rfl, rfl⟩
end one
end Go.Proofs.Ytooigaliccnldaa
