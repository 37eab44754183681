/- The law of what is apart. -/
import Derived.Test.YtogigagfgkfkhaaP93
set_option linter.unusedVariables false
set_option linter.unusedSimpArgs false
namespace Go.Proofs.Ytogigagfgkfkhaa
open Go Go.Proofs.Ytogigagfgkfkhaa.Am
theorem drawApart_is {c : List Int} (hc : ∀ x ∈ c, 0 ≤ x ∧ x ≤ 255) : ∃ a b n, spec_DrawAreApart c = some (a, b, n) ∧ Small a ∧ Small b := by
 obtain ⟨⟨b, k⟩, p0, s0⟩ := l13Open_is hc
 obtain ⟨⟨x, S, F, l⟩, ⟨y, T, G, m⟩, n, ⟨b1, k1⟩, p1, t1, t2⟩ := two_is s0 (by omega)
 refine ⟨(x, S, F, l), (y, T, G, m), n, ?_, t1, t2⟩
 unfold spec_DrawAreApart
 rw [p0]
 simp only [Option.bind_some]
 rw [p1]
 rfl
noncomputable def apB (a b : Aut) (n : Int) : Bool := if (autOk a && (autOk b && shortN n)) = true then (match (List.range (words n).length).find? (fun i => decide (cst a (wd n i) < Nv) && decide (cst b (wd n i) < Nv)) with | some _ => false | none => true) else false
theorem apB_iff {a b : Aut} {n : Int} : apB a b n = true ↔ autOk a = true ∧ autOk b = true ∧ shortN n = true ∧ ∀ w ∈ words n, ¬ (cst a w < Nv ∧ cst b w < Nv) := by
 unfold apB
 constructor
 ·intro h
  split at h
  ·rename_i hc
   simp only [Bool.and_eq_true] at hc
   refine ⟨hc.1, hc.2.1, hc.2.2, fun w hw => ?_⟩
   split at h
   ·cases h
   ·rename_i hf
    obtain ⟨i, hi, rfl⟩ := List.mem_iff_getElem.1 hw
    have := find_none.1 hf i hi
    rw [show wd n i = (words n)[i] from getD_g be0 hi] at this
    intro ⟨h1, h2⟩
    rw [decide_eq_true h1, decide_eq_true h2] at this
    cases this
  ·cases h
 ·rintro ⟨h1, h2, h3, h4⟩
  rw [if_pos (by rw [h1, h2, h3]; rfl)]
  have : (List.range (words n).length).find? (fun i => decide (cst a (wd n i) < Nv) && decide (cst b (wd n i) < Nv)) = none := find_none.2 fun i hi => by
   have := h4 (wd n i) (word_mem hi)
   by_cases g1 : cst a (wd n i) < Nv <;> by_cases g2 : cst b (wd n i) < Nv
   ·exact absurd ⟨g1, g2⟩ this
   ·rw [decide_eq_false g2, Bool.and_false]
   ·rw [decide_eq_false g1, Bool.false_and]
   ·rw [decide_eq_false g1, Bool.false_and]
  rw [this]
theorem apB_sym (a b : Aut) (n : Int) : apB b a n = apB a b n := by
 rw [Bool.eq_iff_iff, apB_iff, apB_iff]
 constructor <;> (rintro ⟨h1, h2, h3, h4⟩; exact ⟨h2, h1, h3, fun w hw h => h4 w hw ⟨h.2, h.1⟩⟩)
theorem sum_any {a b : Aut} (sa : Small a) (sb : Small b) : ∃ C ok, impl_SumAutomaton a b = some (C, ok) ∧ Small C ∧ (ok = true → autOk a = true ∧ autOk b = true ∧ autOk C = true ∧ ∀ w : ByteArray, wordOk w = true → (cst C w < Nv ↔ cst a w < Nv ∧ cst b w < Nv)) := by
 have no : Small ((0 : Int), [], [], []) := ⟨by show (0 : Nat) ≤ _; omega, by show (0 : Nat) ≤ _; omega, by show (0 : Nat) ≤ _; omega⟩
 cases va : autOk a with
 | false =>
  have hV1 := impl_AutomatonValid_is a (small_len sa).1 (small_len sa).2
  obtain ⟨x, S, F, L⟩ := a
  obtain ⟨y, T, G, K⟩ := b
  exact ⟨_, false, by simp only [impl_SumAutomaton, hV1, va, Option.bind_some, Bool.not_false, cond_true], no, fun h => by cases h⟩
 | true =>
  cases vb : autOk b with
  | false =>
   have hV1 := impl_AutomatonValid_is a (small_len sa).1 (small_len sa).2
   have hV2 := impl_AutomatonValid_is b (small_len sb).1 (small_len sb).2
   obtain ⟨x, S, F, L⟩ := a
   obtain ⟨y, T, G, K⟩ := b
   exact ⟨_, false, by simp only [impl_SumAutomaton, hV1, hV2, va, vb, Option.bind_some, Bool.not_true, Bool.not_false, cond_true, cond_false], no, fun h => by cases h⟩
  | true =>
   obtain ⟨n, ha⟩ := autOk_is va
   obtain ⟨m, hb⟩ := autOk_is vb
   obtain ⟨C, ok, e, sC, h⟩ := sum_is ha hb sa sb va vb
   refine ⟨C, ok, e, sC, fun hok => ?_⟩
   obtain ⟨vC, hc⟩ := h hok
   refine ⟨rfl, rfl, vC, fun w hw => ?_⟩
   have hl : (bytes w).length ≤ 1000 := by
    rw [bytes_len]
    exact wordOk_size hw
   exact hc (bytes w) _ _ _ hl (cst_is sa va hw).2.2 (cst_is sb vb hw).2.2 (cst_is sC vC hw).2.2
theorem p_FnApart (x0 : List Int) (f0 : Fits (.sl (.int .u8)) x0) : laws_FnApart x0 = some true := by
 unfold laws_FnApart
 by_cases hx : ((x0.length : Nat) : Int) > 1048576
 ·rw [decide_eq_true hx, cond_true]
 rw [decide_eq_false hx, cond_false]
 obtain ⟨a, b, n, d1, sa, sb⟩ := drawApart_is (bytes_of f0)
 have e1 : impl_AreApart a b n = some (apB a b n) := impl_AreApart_is sa sb n
 have e2 : spec_AreApart a b n = some (apB a b n) := spec_AreApart_is sa sb n
 have e3 : impl_AreApart b a n = some (apB a b n) := by rw [← apB_sym]; exact impl_AreApart_is sb sa n
 obtain ⟨C, ok, e4, sC, hC⟩ := sum_any sa sb
 have e5 := impl_TableOf_is sC n
 have hV1 := impl_AutomatonValid_is a (small_len sa).1 (small_len sa).2
 have hV2 := impl_AutomatonValid_is b (small_len sb).1 (small_len sb).2
 have hiff := apB_iff (a := a) (b := b) (n := n)
 obtain ⟨x, S, F, L⟩ := a
 obtain ⟨y, T, G, K⟩ := b
 obtain ⟨z, U, V, M⟩ := C
 generalize apB (x, S, F, L) (y, T, G, K) n = is at *
 rw [d1]
 simp only [Option.bind_some, e1, e2, BEq.rfl, Bool.not_true, cond_false]
 rw [e4]
 simp only [Option.bind_some, List.drop_zero, List.take_length]
 rw [e5]
 have late : ∀ {ok' : Bool}, (is = true → autOk (x, S, F, L) = true ∧ autOk (y, T, G, K) = true) → (bif (!is) then some true else Option.bind (impl_AutomatonValid (x, S, F, L)) fun r18 => bif r18 then Option.bind (impl_AutomatonValid (y, T, G, K)) fun r19 => bif r19 then Option.bind (impl_AreApart (y, T, G, K) (x, S, F, L) n) fun r20 => some r20 else some false else some false) = some true := by
  intro _ h
  cases is with
  | false => rfl
  | true =>
   obtain ⟨h1, h2⟩ := h rfl
   simp only [hV1, hV2, h1, h2, e3, Bool.not_true, cond_false, cond_true, Option.bind_some]
 have hval : is = true → autOk (x, S, F, L) = true ∧ autOk (y, T, G, K) = true := fun h => ⟨(hiff.1 h).1, (hiff.1 h).2.1⟩
 cases ok with
 | false =>
  simp only [Option.bind_some, Bool.not_false, cond_true]
  exact late (ok' := true) hval
 | true =>
  obtain ⟨va, vb, vC, hw⟩ := hC rfl
  simp only [vC, Bool.true_and, Bool.not_true, cond_false]
  cases hn : shortN n with
  | false =>
   simp only [Bool.false_eq_true, if_false, Option.bind_some, Bool.not_false, cond_true]
   exact late (ok' := true) hval
  | true =>
   simp only [if_true, Option.bind_some, Bool.not_true, cond_false, List.drop_zero, List.take_length]
   generalize htab : table (z, U, V, M) n = tab
   have hlen : tab.length ≤ 255 := by rw [← htab]; exact table_len _ n
   obtain ⟨r, g1, g2⟩ := loop_inv (f := laws_FnApart_l13) tab.length (fun k (o : Bool) => ((x, S, F, L, ()), (y, T, G, K, ()), n, is, o, tab, ((tab.length : Nat) : Int), (k : Int), ()))
    (fun k o => o && (tab.getD k 0 == 1000000)) (fun o => ((x, S, F, L, ()), (y, T, G, K, ()), n, is, o, ())) (fun k o => o = (tab.take k).all fun c => c == 1000000)
    (fun k o hk ho => by rw [ho, take_next 0 hk, List.all_append]; simp)
    (fun k o hk ho => by
     simp only [laws_FnApart_l13, lt_t hk, cond_true, if_pos (in_t hk), Int.toNat_natCast, Nat.zero_add, w64_succ hk (show tab.length ≤ 9223372036854775807 by omega), List.drop_zero, List.take_length]
     cases o <;> simp only [cond_true, cond_false, Bool.true_and, Bool.false_and])
    (fun o ho => by simp only [laws_FnApart_l13, lt_f, cond_false])
    true (by simp)
   have g1 : loopF laws_FnApart_l13 ((x, S, F, L, ()), (y, T, G, K, ()), n, is, true, tab, ((tab.length : Nat) : Int), (0 : Int), ()) = _ := g1
   rw [g1]
   rw [List.take_length] at g2
   have hr : r = is := by
    rw [g2, Bool.eq_iff_iff, hiff, List.all_eq_true, ← htab]
    constructor
    ·intro h
     refine ⟨va, vb, hn, fun w hwm => ?_⟩
     have h1 := h _ (List.mem_map.2 ⟨w, hwm, rfl⟩)
     have h1 : cst (z, U, V, M) w = 1000000 := eq_of_beq h1
     rw [← hw w (words_ok w hwm), h1]
     exact Int.lt_irrefl _
    ·rintro ⟨_, _, _, h⟩ c hc
     obtain ⟨w, hwm, rfl⟩ := List.mem_map.1 hc
     have h1 := h w hwm
     rw [← hw w (words_ok w hwm)] at h1
     have h2 := (cst_is sC vC (words_ok w hwm)).2.2.1.2
     rw [beq_iff_eq]
     have h1 : ¬ cst (z, U, V, M) w < 1000000 := h1
     have h2 : cst (z, U, V, M) w ≤ 1000000 := h2
     omega
   subst hr
   simp only [Option.bind_some, BEq.rfl, cond_true, e3]
end Go.Proofs.Ytogigagfgkfkhaa
