/- The law of counts. -/
import Derived.Test.YtooigaliccnldaaP45
set_option linter.unusedVariables false
set_option linter.unusedSimpArgs false
namespace Go.Proofs.Ytooigaliccnldaa
open Go Go.Proofs.Ytooigaliccnldaa.Am
theorem drawCounts_is {c : List Int} (hc : ∀ x ∈ c, 0 ≤ x ∧ x ≤ 255) : ∃ a n, spec_DrawCountsOf c = some (a, n) ∧ Small a := by
  obtain ⟨⟨x, S, F, l⟩, n, h1, h2⟩ := drawCostliest_is hc
  exact ⟨(x, S, F, l), n, by simp only [spec_DrawCountsOf, h1, Option.bind_some], h2⟩
def sm (l : List Int) : Int := l.foldr (· + ·) 0
theorem sm_app (l m : List Int) : sm (l ++ m) = sm l + sm m := by
  induction l with
  | nil => simp [sm]
  | cons x l ih =>
    show x + sm (l ++ m) = x + sm l + sm m
    rw [ih]
    omega
theorem sm_zero (k : Nat) : sm (List.replicate k 0) = 0 := by
  induction k with
  | zero => rfl
  | succ k ih =>
    rw [List.replicate_succ]
    show 0 + sm (List.replicate k 0) = 0
    rw [ih]
    rfl
theorem sm_set : ∀ (l : List Int) (i : Nat), i < l.length → sm (l.set i (l.getD i 0 + 1)) = sm l + 1
  | [], i, h => absurd h (by simp)
  | x :: l, 0, h => by
    show x + 1 + sm l = x + sm l + 1
    omega
  | x :: l, i + 1, h => by
    have := sm_set l i (by simpa using h)
    show x + sm (l.set i (l.getD i 0 + 1)) = x + sm l + 1
    rw [this]
    omega
structure CI (a : Aut) (p : List Int) (r : ByteArray × Int) (N : Int) (k : Nat) : Prop where
  len : (p.length : Int) = r.2 + 1
  lo : -1 ≤ r.2
  hi : r.2 < Nv
  ent : ∀ x ∈ p, 0 ≤ x ∧ x ≤ (k : Int)
  sum : sm p = N
  last : 0 < p.length → 0 < p.getD (p.length - 1) 0
  had : 0 ≤ r.2 → impl_CostOf a r.1 = some r.2
theorem CI.step {a : Aut} {p : List Int} {r : ByteArray × Int} {N : Int} {k : Nat} (h : CI a p r N k) (hk : k ≤ 1000) {w : ByteArray} {c : Int} (hc : 0 ≤ c ∧ c ≤ 1000000) (hw : impl_CostOf a w = some c) :
    CI a (cnt p c) (if c > r.2 ∧ c < Nv then (w, c) else r) (if c < Nv then N + 1 else N) (k + 1) := by
  have mono : ∀ x ∈ p, 0 ≤ x ∧ x ≤ ((k + 1 : Nat) : Int) := fun x hx => by have := h.ent x hx; omega
  unfold cnt
  by_cases h6 : c = 1000000
  · rw [if_pos h6, if_neg (by simp only [Nv]; omega), if_neg (by simp only [Nv]; omega)]
    exact ⟨h.len, h.lo, h.hi, mono, h.sum, h.last, h.had⟩
  · have hlt : c < Nv := by simp only [Nv]; omega
    rw [if_neg h6, if_pos hlt]
    have hlen := h.len
    have hu : upTo p c = p ++ List.replicate (c.toNat + 1 - p.length) 0 := rfl
    have hul : (upTo p c).length = max p.length (c.toNat + 1) := by rw [hu, List.length_append, List.length_replicate]; omega
    have hue : ∀ x ∈ upTo p c, 0 ≤ x ∧ x ≤ (k : Int) := by
      intro x hx
      rw [hu] at hx
      rcases List.mem_append.1 hx with hx | hx
      · exact h.ent x hx
      · rw [List.eq_of_mem_replicate hx]; omega
    have hus : sm (upTo p c) = N := by rw [hu, sm_app, sm_zero, h.sum]; omega
    have hci : c.toNat < (upTo p c).length := by omega
    have hold : 0 ≤ (upTo p c).getD c.toNat 0 ∧ (upTo p c).getD c.toNat 0 ≤ (k : Int) := by
      rw [getD_at0 _ hci]
      exact hue _ (List.getElem_mem hci)
    rw [w64 (by omega) (by omega)]
    have hlast0 : p.length = (upTo p c).length → c.toNat ≠ p.length - 1 → 0 < p.length → 0 < (upTo p c).getD (p.length - 1) 0 := by
      intro e1 e2 e3
      have := h.last e3
      rw [hu, List.getD_eq_getElem?_getD, List.getElem?_append_left (by omega), ← List.getD_eq_getElem?_getD]
      exact this
    refine ⟨?_, ?_, ?_, ?_, ?_, ?_, ?_⟩
    · rw [List.length_set, hul]
      split <;> omega
    · have := h.lo
      split <;> omega
    · split
      · exact hlt
      · exact h.hi
    · intro x hx
      rcases List.mem_or_eq_of_mem_set hx with hx | rfl
      · have := hue x hx
        omega
      · omega
    · rw [sm_set _ _ hci, hus]
    · intro hp
      rw [List.length_set] at hp ⊢
      by_cases e : c.toNat = (upTo p c).length - 1
      · rw [← e, List.getD_eq_getElem?_getD, List.getElem?_set_self hci]
        show 0 < (upTo p c).getD c.toNat 0 + 1
        omega
      · rw [List.getD_eq_getElem?_getD, List.getElem?_set_ne (by omega), ← List.getD_eq_getElem?_getD]
        have e2 : p.length = (upTo p c).length := by omega
        rw [← e2]
        exact hlast0 e2 (by omega) (by omega)
    · intro hp
      split
      · exact hw
      · rename_i hn
        rw [if_neg hn] at hp
        exact h.had hp
noncomputable def cw (a : Aut) (p : ByteArray × Int) (w : ByteArray) : ByteArray × Int := if cst a w > p.2 ∧ cst a w < Nv then (w, cst a w) else p
noncomputable def cn (a : Aut) (N : Int) (w : ByteArray) : Int := if cst a w < Nv then N + 1 else N
theorem ci_all {a : Aut} (sa : Small a) (ha : autOk a = true) (n : Int) : ∀ k, k ≤ (words n).length → CI a ((((words n).take k).map (cst a)).foldl cnt []) (((words n).take k).foldl (cw a) (emp, -1)) (((words n).take k).foldl (cn a) 0) k := by
  have hwl := words_len n
  intro k
  induction k with
  | zero =>
    intro _
    exact ⟨rfl, Int.le_refl _, (by show (-1 : Int) < Nv; simp only [Nv]; omega), (fun x hx => by cases hx), rfl, (fun h => absurd h (by simp)), (fun h => absurd h (by show ¬ (0 : Int) ≤ -1; omega))⟩
  | succ k ih =>
    intro hk
    have h := ih (by omega)
    have hi : k < (words n).length := by omega
    have e : (words n)[k] = (words n).getD k be0 := by rw [List.getD_eq_getElem?_getD, List.getElem?_eq_getElem hi]; rfl
    have hw := words_ok _ (word_mem hi)
    obtain ⟨_, c1, c2⟩ := cst_is sa ha hw
    rw [take_snoc hi, List.map_append, List.foldl_append, List.foldl_append, List.foldl_append, e]
    exact h.step (by omega) c2.1 c1
theorem p_FnCounts (x0 : List Int) (f0 : Fits (.sl (.int .u8)) x0) : laws_FnCounts x0 = some true := by
  unfold laws_FnCounts
  by_cases hx : ((x0.length : Nat) : Int) > 1048576
  · rw [decide_eq_true hx, cond_true]
  · rw [decide_eq_false hx, cond_false]
    obtain ⟨a, n, d1, sa⟩ := drawCounts_is (bytes_of f0)
    have h1 := spec_TableOf_is sa n
    have h2 := impl_TableOf_is sa n
    have h3 := table_rng sa n
    have h4 := table_len a n
    have hV := impl_AutomatonValid_is a (small_len sa).1 (small_len sa).2
    have hwl := words_len n
    have k1 : autOk a = true → ∀ w, wordOk w = true → impl_CostOf a w = some (cst a w) := fun ha w hw => (cst_is sa ha hw).2.1
    cases hb : (autOk a && shortN n) with
    | false =>
      have hc : impl_CountsOf a n = some ([], false) ∧ spec_CountsOf a n = some ([], false) := by
        obtain ⟨x, S, F, l⟩ := a
        obtain ⟨c1, c2⟩ := spec_counts (T := []) (by simp) (by simp) false
        have c1 : loopF spec_CountsOf_l4 ([], false, [], (((0 : Nat) : Nat) : Int), (0 : Int), ()) = some ([], false, ()) := c1
        constructor
        · simp only [impl_CountsOf, h2, hb, Option.bind_some, Bool.false_eq_true, if_false, Bool.not_false, cond_true]
        · simp only [spec_CountsOf, h1, hb, Option.bind_some, Bool.false_eq_true, if_false, List.take_zero, List.drop_zero, List.take_length, List.length_nil, c1]
      obtain ⟨x, S, F, l⟩ := a
      have h0 : laws_daSame ([] : List Int) [] = some true := daSame_is (by simp)
      rw [d1]
      simp only [Option.bind_some]
      rw [hc.1, hc.2]
      simp only [Option.bind_some, List.drop_zero, List.take_length, h0, Bool.not_true, cond_false, BEq.rfl, Bool.not_false, cond_true]
    | true =>
      obtain ⟨ha, hn⟩ := Bool.and_eq_true_iff.1 hb
      obtain ⟨c1, c2⟩ := spec_counts (h3 ha) h4 true
      have c3 := impl_counts (h3 ha) h4
      have hc : impl_CountsOf a n = some (cntAll (table a n), true) ∧ spec_CountsOf a n = some (cntAll (table a n), true) := by
        obtain ⟨x, S, F, l⟩ := a
        constructor
        · simp only [impl_CountsOf, h2, hb, if_true, Bool.not_true, cond_false, List.take_zero, List.drop_zero, List.take_length, c3, Option.bind_some]
        · simp only [spec_CountsOf, h1, hb, if_true, Bool.not_true, cond_false, List.take_zero, List.drop_zero, List.take_length, c1, Option.bind_some]
      have hci := ci_all sa ha n (words n).length (Nat.le_refl _)
      rw [List.take_length] at hci
      have hci : CI a (cntAll (table a n)) ((words n).foldl (cw a) (emp, -1)) ((words n).foldl (cn a) 0) (words n).length := hci
      have hcount : impl_CountAccepted a n = some ((words n).foldl (cn a) 0) := by
        obtain ⟨x, S, F, l⟩ := a
        obtain ⟨r, g1, g2⟩ := loop_inv (f := impl_CountAccepted_l6) (words n).length (fun i (N : Int) => ((x, S, F, l, ()), N, words n, (((words n).length : Nat) : Int), (i : Int), ())) (fun i N => cn (x, S, F, l) N ((words n).getD i be0)) (fun N => (N, ())) (fun i N => N = ((words n).take i).foldl (cn (x, S, F, l)) 0 ∧ 0 ≤ N ∧ N ≤ i)
          (fun i N hi hN => by
            have e : (words n).getD i be0 = (words n)[i] := by rw [List.getD_eq_getElem?_getD, List.getElem?_eq_getElem hi]; rfl
            refine ⟨by rw [take_snoc hi, List.foldl_append, ← hN.1, e]; rfl, ?_⟩
            unfold cn
            have := hN.2
            split <;> omega)
          (fun i N hi hN => by
            have hw := words_ok _ (word_mem hi)
            have := hN.2
            simp only [impl_CountAccepted_l6, lt_t hi, cond_true, if_pos (in_t hi), Int.toNat_natCast, k1 ha _ hw, Option.bind_some, w64_succ hi (show (words n).length ≤ 9223372036854775807 by omega), w64 (show -9223372036854775808 ≤ N + 1 by omega) (show N + 1 ≤ 9223372036854775807 by omega)]
            unfold cn
            by_cases hlt : cst (x, S, F, l) ((words n).getD i be0) < Nv
            · rw [if_pos hlt, decide_eq_true (show cst (x, S, F, l) ((words n).getD i be0) < 1000000 from hlt)]
              rfl
            · rw [if_neg hlt, decide_eq_false (show ¬ cst (x, S, F, l) ((words n).getD i be0) < 1000000 from hlt)]
              rfl)
          (fun N _ => by simp only [impl_CountAccepted_l6, lt_f, cond_false]) 0 ⟨rfl, Int.le_refl _, Int.le_refl _⟩
        have g1 : loopF impl_CountAccepted_l6 ((x, S, F, l, ()), (0 : Int), words n, (((words n).length : Nat) : Int), (0 : Int), ()) = some (r, ()) := g1
        rw [List.take_length] at g2
        simp only [impl_CountAccepted, short_words hn, Option.bind_some, Bool.not_true, cond_false, hV, ha, g1, g2.1]
      have hcost : impl_CostliestWord a n = some (((words n).foldl (cw a) (emp, -1)).1, decide (((words n).foldl (cw a) (emp, -1)).2 ≥ 0)) := by
        obtain ⟨x, S, F, l⟩ := a
        obtain ⟨r, g1, g2⟩ := loop_inv (f := impl_CostliestWord_l4) (words n).length (fun i (p : ByteArray × Int) => ((x, S, F, l, ()), p.1, p.2, words n, (((words n).length : Nat) : Int), (i : Int), ())) (fun i p => cw (x, S, F, l) p ((words n).getD i be0)) (fun p => (p.1, p.2, ())) (fun i p => p = ((words n).take i).foldl (cw (x, S, F, l)) (emp, -1))
          (fun i p hi hp => by
            have e : (words n).getD i be0 = (words n)[i] := by rw [List.getD_eq_getElem?_getD, List.getElem?_eq_getElem hi]; rfl
            rw [take_snoc hi, List.foldl_append, ← hp, e]; rfl)
          (fun i p hi hp => by
            have hw := words_ok _ (word_mem hi)
            simp only [impl_CostliestWord_l4, lt_t hi, cond_true, if_pos (in_t hi), Int.toNat_natCast, k1 ha _ hw, Option.bind_some, w64_succ hi (show (words n).length ≤ 9223372036854775807 by omega)]
            unfold cw
            by_cases h1 : cst (x, S, F, l) ((words n).getD i be0) > p.2
            · by_cases h2 : cst (x, S, F, l) ((words n).getD i be0) < Nv
              · rw [if_pos ⟨h1, h2⟩, decide_eq_true h1, decide_eq_true (show cst (x, S, F, l) ((words n).getD i be0) < 1000000 from h2)]
                rfl
              · rw [if_neg (fun h => h2 h.2), decide_eq_true h1, decide_eq_false (show ¬ cst (x, S, F, l) ((words n).getD i be0) < 1000000 from h2)]
                rfl
            · rw [if_neg (fun h => h1 h.1), decide_eq_false h1]
              rfl)
          (fun p _ => by simp only [impl_CostliestWord_l4, lt_f, cond_false]) (emp, -1) rfl
        have g1 : loopF impl_CostliestWord_l4 ((x, S, F, l, ()), (⟨#[]⟩ : ByteArray), (-1 : Int), words n, (((words n).length : Nat) : Int), (0 : Int), ()) = some (r.1, r.2, ()) := g1
        rw [List.take_length] at g2
        simp only [impl_CostliestWord, short_words hn, Option.bind_some, g1, g2]
      obtain ⟨x, S, F, l⟩ := a
      generalize (words n).foldl (cw (x, S, F, l)) (emp, -1) = r at *
      generalize (words n).foldl (cn (x, S, F, l)) 0 = N at *
      generalize cntAll (table (x, S, F, l) n) = p at *
      obtain ⟨i1, i2, i3, i4, i5, i6, i7⟩ := hci
      have hD : laws_daSame p p = some true := daSame_is (by omega)
      obtain ⟨s, g1, g2⟩ := loop_inv (f := laws_FnCounts_l10) p.length (fun i (s : Int) => ((x, S, F, l, ()), n, p, s, p, ((p.length : Nat) : Int), (i : Int), ())) (fun i s => s + p.getD i 0) (fun s => ((x, S, F, l, ()), n, p, s, ())) (fun i s => s = sm (p.take i) ∧ 0 ≤ s ∧ s ≤ i * 1000)
        (fun i s hi hs => by
          have e : p.getD i 0 = p[i] := getD_at0 0 hi
          have hr := i4 _ (List.getElem_mem hi)
          refine ⟨?_, by rw [e]; omega⟩
          rw [take_snoc hi, sm_app, ← hs.1, e]
          simp [sm])
        (fun i s hi hs => by
          have e : p.getD i 0 = p[i] := getD_at0 0 hi
          have hr := i4 _ (List.getElem_mem hi)
          rw [← e] at hr
          simp only [laws_FnCounts_l10, lt_t hi, cond_true, if_pos (in_t hi), Int.toNat_natCast, w64_succ hi (show p.length ≤ 9223372036854775807 by omega), w64 (show -9223372036854775808 ≤ s + p.getD i 0 by omega) (show s + p.getD i 0 ≤ 9223372036854775807 by omega)])
        (fun s _ => by simp only [laws_FnCounts_l10, lt_f, cond_false]) 0 ⟨rfl, Int.le_refl _, by omega⟩
      rw [List.take_length] at g2
      have hsN : s = N := g2.1.trans i5
      subst hsN
      have g1 : loopF laws_FnCounts_l10 ((x, S, F, l, ()), n, p, (0 : Int), p, ((p.length : Nat) : Int), (0 : Int), ()) = some ((x, S, F, l, ()), n, p, s, ()) := g1
      rw [d1]
      simp only [Option.bind_some]
      rw [hc.1, hc.2]
      simp only [Option.bind_some, List.drop_zero, List.take_length, hD, Bool.not_true, cond_false, BEq.rfl, g1, hcost, hcount, cond_true]
      by_cases hp : 0 ≤ r.2
      · have w1 : IntKind.wrap .i64 (((p.length : Nat) : Int) - 1) = ((p.length - 1 : Nat) : Int) := by rw [w64 (by omega) (by omega)]; omega
        have i7 := i7 hp
        have i6 := i6 (by omega)
        rw [decide_eq_true (show r.2 ≥ 0 from hp), decide_eq_true (show ((p.length : Nat) : Int) > 0 by omega), w1]
        simp only [BEq.rfl, cond_true, Bool.not_true, cond_false, i7, Option.bind_some, Int.toNat_natCast]
        rw [show (r.2 == ((p.length - 1 : Nat) : Int)) = true by rw [beq_iff_eq]; omega, cond_true, if_pos ⟨by omega, by omega⟩, decide_eq_true (show p.getD (p.length - 1) 0 > 0 from i6)]
      · rw [decide_eq_false (show ¬ r.2 ≥ 0 from hp), decide_eq_false (show ¬ ((p.length : Nat) : Int) > 0 by omega)]
        rfl
end Go.Proofs.Ytooigaliccnldaa
