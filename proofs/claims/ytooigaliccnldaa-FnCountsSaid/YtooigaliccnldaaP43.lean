/- The law of tables. -/
import Derived.Test.YtooigaliccnldaaP42
import Derived.Test.YtooigaliccnldaaP20
set_option linter.unusedVariables false
set_option linter.unusedSimpArgs false
namespace Go.Proofs.Ytooigaliccnldaa
open Go Go.Proofs.Ytooigaliccnldaa.Am
theorem daSame_is {l : List Int} (hl : l.length ≤ 9223372036854775807) : laws_daSame l l = some true := by
  obtain ⟨r, g1, g2⟩ := loop_inv (f := laws_daSame_l2) (α := Unit) l.length (fun i _ => (l, l, ((l.length : Nat) : Int), (i : Int), ())) (fun _ _ => ()) (fun _ => .inr (l, l, ())) (fun _ _ => True) (fun _ _ _ _ => trivial)
    (fun i _ hi _ => by simp only [laws_daSame_l2, lt_t hi, cond_true, if_pos (in_t hi), bne_self_eq_false, cond_false, w64_succ hi hl])
    (fun _ _ => by simp only [laws_daSame_l2, lt_f, cond_false]) () trivial
  have g1 : loopF laws_daSame_l2 (l, l, ((l.length : Nat) : Int), (0 : Int), ()) = some (.inr (l, l, ())) := g1
  unfold laws_daSame
  rw [if_neg (by omega), g1]
  simp only [Option.bind_some, BEq.rfl]
theorem short_words {n : Int} (h : shortN n = true) : impl_ShortWords n = some (words n, true) := by
  have h2 := h
  unfold shortN at h2
  rw [decide_eq_true_eq] at h2
  unfold words
  rw [if_pos h, impl_ShortWords_is h2.1 h2.2]
theorem drawTable_is {c : List Int} (hc : ∀ x ∈ c, 0 ≤ x ∧ x ≤ 255) : ∃ a n, spec_DrawTableOf c = some (a, n) ∧ Small a := by
  obtain ⟨⟨x, S, F, l⟩, n, h1, h2⟩ := drawCostliest_is hc
  exact ⟨(x, S, F, l), n, by simp only [spec_DrawTableOf, h1, Option.bind_some], h2⟩
theorem p_FnTable (x0 : List Int) (f0 : Fits (.sl (.int .u8)) x0) : laws_FnTable x0 = some true := by
  unfold laws_FnTable
  by_cases hx : ((x0.length : Nat) : Int) > 1048576
  · rw [decide_eq_true hx, cond_true]
  · rw [decide_eq_false hx, cond_false]
    obtain ⟨a, n, d1, sa⟩ := drawTable_is (bytes_of f0)
    have e1 := impl_TableOf_is sa n
    have e2 := spec_TableOf_is sa n
    have hlen := table_len a n
    have hwl := words_len n
    have k1 : autOk a = true → ∀ w, wordOk w = true → impl_CostOf a w = some (cst a w) := fun ha w hw => (cst_is sa ha hw).2.1
    obtain ⟨x, S, F, l⟩ := a
    rw [d1]
    simp only [Option.bind_some]
    rw [e1, e2]
    cases hb : (autOk (x, S, F, l) && shortN n) with
    | false =>
      rw [if_neg (by simp)]
      have h0 : laws_daSame ([] : List Int) [] = some true := daSame_is (by simp)
      simp only [Option.bind_some, List.drop_zero, List.take_length, h0, Bool.not_true, cond_false, BEq.rfl, Bool.not_false, cond_true]
    | true =>
      rw [if_pos rfl]
      obtain ⟨ha, hn⟩ := Bool.and_eq_true_iff.1 hb
      have hD : laws_daSame (table (x, S, F, l) n) (table (x, S, F, l) n) = some true := daSame_is (by omega)
      have hT : (table (x, S, F, l) n).length = (words n).length := by unfold table; rw [List.length_map]
      have hat : ∀ i, i < (words n).length → (table (x, S, F, l) n).getD i 0 = cst (x, S, F, l) ((words n).getD i be0) := by
        intro i hi
        unfold table
        rw [List.getD_eq_getElem?_getD, List.getElem?_map, List.getD_eq_getElem?_getD, List.getElem?_eq_getElem hi]
        rfl
      generalize table (x, S, F, l) n = T at *
      obtain ⟨r, g1, g2⟩ := loop_inv (f := laws_FnTable_l10) (α := Unit) (words n).length (fun i _ => ((x, S, F, l, ()), T, words n, words n, (((words n).length : Nat) : Int), (i : Int), ())) (fun _ _ => ()) (fun _ => .inr (T, words n, ())) (fun _ _ => True) (fun _ _ _ _ => trivial)
        (fun i _ hi _ => by
          have hw := words_ok _ (word_mem hi)
          simp only [laws_FnTable_l10, lt_t hi, cond_true, if_pos (in_t hi), Int.toNat_natCast, Nat.zero_add, k1 ha _ hw, Option.bind_some, if_pos (in_t (show i < T.length by omega)), hat i hi, bne_self_eq_false, cond_false, List.drop_zero, List.take_length, w64_succ hi (show (words n).length ≤ 9223372036854775807 by omega)])
        (fun _ _ => by simp only [laws_FnTable_l10, lt_f, cond_false, List.drop_zero, List.take_length]) () trivial
      have g1 : loopF laws_FnTable_l10 ((x, S, F, l, ()), T, words n, words n, (((words n).length : Nat) : Int), (0 : Int), ()) = some (.inr (T, words n, ())) := g1
      simp only [Option.bind_some, List.drop_zero, List.take_length, hD, Bool.not_true, cond_false, BEq.rfl, short_words hn, g1, hT]
end Go.Proofs.Ytooigaliccnldaa
