/- The law of hardest words. -/
import Derived.Test.YtooigaliccnldaaP44
set_option linter.unusedVariables false
set_option linter.unusedSimpArgs false
namespace Go.Proofs.Ytooigaliccnldaa
open Go Go.Proofs.Ytooigaliccnldaa.Am
theorem drawHardest_is {c : List Int} (hc : ∀ x ∈ c, 0 ≤ x ∧ x ≤ 255) : ∃ a n, spec_DrawHardestWord c = some (a, n) ∧ Small a := by
  obtain ⟨⟨x, S, F, l⟩, n, h1, h2⟩ := drawMost_is hc
  exact ⟨(x, S, F, l), n, by simp only [spec_DrawHardestWord, h1, Option.bind_some], h2⟩
theorem words_head {n : Int} (hn : shortN n = true) : ∃ W, words n = emp :: W := by
  unfold words
  rw [if_pos hn]
  exact gen_head _
theorem toList_neq {u w : ByteArray} (h : u ≠ w) : (ByteArray.toList u == ByteArray.toList w) = false := by
  rw [toList_bytes, toList_bytes, beq_eq_false_iff_ne]
  exact fun e => h (bytes_eq e)
section
variable {a : Aut} (sa : Small a) (ha : autOk a = true) {n : Int} (hn : shortN n = true)
include sa ha hn
theorem best_is : ∀ k, 1 ≤ k → k ≤ (words n).length → ∃ i0, i0 < k ∧ (words n).getD i0 be0 = (((words n).take k).foldl (harder a) (emp, 0)).1 ∧ cv a (bytes (((words n).take k).foldl (harder a) (emp, 0)).1) = (((words n).take k).foldl (harder a) (emp, 0)).2 ∧
    (((words n).take k).foldl (harder a) (emp, 0)).2 < Nv ∧ (∀ j, j < k → cv a (bytes ((words n).getD j be0)) < Nv → cv a (bytes ((words n).getD j be0)) ≤ (((words n).take k).foldl (harder a) (emp, 0)).2) ∧
    ∀ j, j < i0 → cv a (bytes ((words n).getD j be0)) < Nv → cv a (bytes ((words n).getD j be0)) < (((words n).take k).foldl (harder a) (emp, 0)).2 := by
  intro k
  induction k with
  | zero => intro h; omega
  | succ k ih =>
    intro _ hk
    by_cases h0 : k = 0
    · subst h0
      obtain ⟨W, hW⟩ := words_head hn
      obtain ⟨_, _, _, _, h⟩ := least_at sa ha (w := emp) rfl (by decide)
      have hc : cv a (bytes emp) = 0 := h.same (CntIs.nil a)
      have e2 : harder a (emp, 0) emp = (emp, 0) := by unfold harder; rw [hc]; rfl
      have e3 : ((words n).take (0 + 1)).foldl (harder a) (emp, 0) = (emp, 0) := by rw [hW]; exact e2
      have e4 : (words n).getD 0 be0 = emp := by rw [hW]; rfl
      rw [e3]
      refine ⟨0, by omega, e4, hc, by simp only [Nv]; omega, fun j hj _ => ?_, fun j hj _ => absurd hj (by omega)⟩
      obtain rfl : j = 0 := by omega
      rw [e4, hc]
      exact Int.le_refl _
    · obtain ⟨i0, h1, h2, h3, h4, h5, h6⟩ := ih (by omega) (by omega)
      have e : (words n).getD k be0 = (words n)[k] := by rw [List.getD_eq_getElem?_getD, List.getElem?_eq_getElem (by omega)]; rfl
      rw [take_snoc (show k < (words n).length by omega), List.foldl_append, ← e]
      generalize ((words n).take k).foldl (harder a) (emp, 0) = p at *
      show ∃ i0, i0 < k + 1 ∧ _ = (harder a p ((words n).getD k be0)).1 ∧ cv a (bytes (harder a p ((words n).getD k be0)).1) = (harder a p ((words n).getD k be0)).2 ∧ (harder a p ((words n).getD k be0)).2 < Nv ∧ (∀ j, j < k + 1 → _ < Nv → _ ≤ (harder a p ((words n).getD k be0)).2) ∧ ∀ j, j < i0 → _ < Nv → _ < (harder a p ((words n).getD k be0)).2
      unfold harder
      by_cases hc : cv a (bytes ((words n).getD k be0)) < Nv ∧ cv a (bytes ((words n).getD k be0)) > p.2
      · rw [if_pos hc]
        refine ⟨k, by omega, rfl, rfl, hc.1, fun j hj hl => ?_, fun j hj hl => ?_⟩
        · by_cases hjk : j = k
          · rw [hjk]
            exact Int.le_refl _
          · have := h5 j (by omega) hl
            show _ ≤ cv a (bytes ((words n).getD k be0))
            omega
        · have := h5 j (by omega) hl
          show _ < cv a (bytes ((words n).getD k be0))
          omega
      · rw [if_neg hc]
        refine ⟨i0, by omega, h2, h3, h4, fun j hj hl => ?_, h6⟩
        by_cases hjk : j = k
        · subst hjk
          apply Classical.byContradiction
          intro hh
          exact hc ⟨hl, by omega⟩
        · exact h5 j (by omega) hl
end
theorem p_FnHardest (x0 : List Int) (f0 : Fits (.sl (.int .u8)) x0) : laws_FnHardest x0 = some true := by
  unfold laws_FnHardest
  by_cases hx : ((x0.length : Nat) : Int) > 1048576
  · rw [decide_eq_true hx, cond_true]
  · rw [decide_eq_false hx, cond_false]
    obtain ⟨a, n, d1, sa⟩ := drawHardest_is (bytes_of f0)
    obtain ⟨⟨w, ok⟩, h1, h2, h3, h4⟩ := hardest_same sa n
    obtain ⟨m, m1, m2⟩ := most_same sa n
    have h3 : w.size ≤ 7 := h3
    have h4 : ok = (autOk a && shortN n) := h4
    have hf := @impl_FactorsOf_is a sa
    have hI := impl_HardestWord_is sa n
    have hwl := words_len n
    cases hb : (autOk a && shortN n) with
    | false =>
      rw [hb] at h4
      subst h4
      have hm : m = -1 := by
        obtain ⟨x, S, F, l⟩ := a
        simp only [impl_MostFactors, h2, Option.bind_some, Bool.not_false, cond_true] at m2
        exact (Option.some.inj m2).symm
      subst hm
      obtain ⟨x, S, F, l⟩ := a
      rw [d1]
      simp only [Option.bind_some]
      rw [h2, h1, m2]
      simp only [Option.bind_some, BEq.rfl, Bool.not_true, cond_false, m1, bne_self_eq_false, Bool.not_false, cond_true]
    | true =>
      rw [hb] at h4
      subst h4
      obtain ⟨ha, hn⟩ := Bool.and_eq_true_iff.1 hb
      rw [if_pos hb, h2] at hI
      have hw : w = ((words n).foldl (harder a) (emp, 0)).1 := (Prod.mk.inj (Option.some.inj hI)).1
      obtain ⟨W0, hW0⟩ := words_head hn
      have hpos : 1 ≤ (words n).length := by rw [hW0]; simp
      obtain ⟨i0, b1, b2, b3, b4, b5, b6⟩ := best_is sa ha hn (words n).length hpos (Nat.le_refl _)
      rw [List.take_length, ← hw] at b2
      rw [List.take_length, ← hw] at b3
      rw [List.take_length] at b4 b5 b6
      have hwm : w ∈ words n := by rw [← b2]; exact word_mem b1
      have hfw := hf (w := w) (by omega)
      rw [if_pos (asked_word n ha hwm)] at hfw
      have hm : m = cv a (bytes w) := by
        obtain ⟨x, S, F, l⟩ := a
        simp only [impl_MostFactors, h2, Option.bind_some, Bool.not_true, cond_false, hfw] at m2
        exact (Option.some.inj m2).symm
      rw [← b3, ← hm] at b4 b5 b6
      rw [← hm] at hfw b3
      have hmw : cv a (bytes w) = m := hm.symm
      have hcf : ∀ i, i < (words n).length → impl_FactorsOf a ((words n).getD i be0) = some (cv a (bytes ((words n).getD i be0))) := by
        intro i hi
        have hs := words_size _ (word_mem hi)
        have := hf (w := (words n).getD i be0) (by omega)
        rwa [if_pos (asked_word n ha (word_mem hi))] at this
      obtain ⟨x, S, F, l⟩ := a
      obtain ⟨r, g1, g2⟩ := loop_inv (f := laws_FnHardest_l12) (words n).length (fun i (s : Bool) => ((x, S, F, l, ()), w, m, s, words n, (((words n).length : Nat) : Int), (i : Int), ())) (fun i _ => decide (i0 < i + 1)) (fun s => .inr ((x, S, F, l, ()), w, m, s, ())) (fun i s => s = decide (i0 < i))
        (fun i s hi hs => rfl)
        (fun i s hi hs => by
          have hfi := hcf i hi
          simp only [laws_FnHardest_l12, lt_t hi, cond_true, if_pos (in_t hi), Int.toNat_natCast, hfi, Option.bind_some, w64_succ hi (show (words n).length ≤ 9223372036854775807 by omega)]
          have h5 := b5 i hi
          have h6 := b6 i
          generalize hv : (words n).getD i be0 = v at *
          by_cases hN : cv (x, S, F, l) (bytes v) < Nv
          · have hN' : decide (cv (x, S, F, l) (bytes v) < 1000000) = true := decide_eq_true hN
            have h5 := h5 hN
            rw [hN', decide_eq_false (show ¬ cv (x, S, F, l) (bytes v) > m by omega)]
            by_cases hs0 : i0 < i
            · rw [hs, decide_eq_true hs0, decide_eq_true (show i0 < i + 1 by omega)]
              cases (cv (x, S, F, l) (bytes v) == m) <;> rfl
            · rw [hs, decide_eq_false hs0]
              by_cases he : i = i0
              · subst he
                have : v = w := hv.symm.trans b2
                rw [this, hmw, decide_eq_true (show i < i + 1 by omega)]
                simp only [BEq.rfl, cond_false, cond_true, Bool.not_true]
              · have h6 := h6 (by omega) hN
                have hne : v ≠ w := by
                  intro e
                  rw [e, hmw] at h6
                  omega
                rw [toList_neq hne, decide_eq_false (show ¬ i0 < i + 1 by omega), show (cv (x, S, F, l) (bytes v) == m) = false by rw [beq_eq_false_iff_ne]; omega]
                rfl
          · have hN' : decide (cv (x, S, F, l) (bytes v) < 1000000) = false := decide_eq_false hN
            have hne : v ≠ w := by
              intro e
              rw [e, hmw] at hN
              exact hN b4
            rw [hN']
            by_cases hs0 : i0 < i
            · rw [hs, decide_eq_true hs0, decide_eq_true (show i0 < i + 1 by omega)]
              rfl
            · have he : i ≠ i0 := by
                rintro rfl
                exact hne (hv.symm.trans b2)
              rw [hs, decide_eq_false hs0, toList_neq hne, decide_eq_false (show ¬ i0 < i + 1 by omega)]
              rfl)
        (fun s _ => by simp only [laws_FnHardest_l12, lt_f, cond_false])
        false (by simp)
      have g2 : r = true := by rw [g2]; exact decide_eq_true b1
      subst g2
      have g1 : loopF laws_FnHardest_l12 ((x, S, F, l, ()), w, m, false, words n, (((words n).length : Nat) : Int), (0 : Int), ()) = _ := g1
      rw [d1]
      simp only [Option.bind_some]
      rw [h2, h1, m2]
      simp only [Option.bind_some, BEq.rfl, Bool.not_true, cond_false, m1, bne_self_eq_false, short_words hn, g1, cond_true, hfw]
end Go.Proofs.Ytooigaliccnldaa
