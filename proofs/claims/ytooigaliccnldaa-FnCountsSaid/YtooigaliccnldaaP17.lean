/- Tables of costs and what they count; their laws' frames. -/
import Derived.Test.YtooigaliccnldaaP16
set_option linter.unusedVariables false
set_option linter.unusedSimpArgs false
namespace Go.Proofs.Ytooigaliccnldaa
open Go Go.Proofs.Ytooigaliccnldaa.Am
noncomputable def table (a : Aut) (n : Int) : List Int := (words n).map (cst a)
theorem table_len (a : Aut) (n : Int) : (table a n).length ≤ 255 := by
  unfold table
  rw [List.length_map]
  exact words_len n
/-- an append to a list -/
theorem app_one {α : Type} {p : List α} {x : α} (hp : p.length ≤ 2000000) : ((0 + p.length = p.length) ∧ ((p.length + (List.take 1 (List.drop 0 [x])).length) * 8 ≤ 140737488355328)) ∧ List.take (p.length + (List.take 1 (List.drop 0 [x])).length) (List.drop 0 (List.drop 0 p ++ List.take 1 (List.drop 0 [x]))) = p ++ [x] := by
  have e : List.take 1 (List.drop 0 [x]) = [x] := rfl
  rw [e]
  refine ⟨⟨by omega, by simp only [List.length_cons, List.length_nil]; omega⟩, ?_⟩
  simp only [List.drop_zero, List.length_cons, List.length_nil]
  exact List.take_of_length_le (by simp)
theorem tk_all {α : Type} (p : List α) : List.take p.length (List.drop 0 p) = p := by simp
section one
variable {a : Aut} (sa : Small a) (n : Int)
include sa
theorem table_rng (ha : autOk a = true) : ∀ c ∈ table a n, 0 ≤ c ∧ c ≤ 1000000 := by
  intro c hc
  unfold table at hc
  obtain ⟨w, hw, rfl⟩ := List.mem_map.1 hc
  exact (cst_is sa ha (words_ok w hw)).2.2.1
theorem spec_TableOf_is : spec_TableOf a n = some (if (autOk a && shortN n) = true then (table a n, true) else ([], false)) := by
  have h1 := l11Short_is sa n
  have k1 : autOk a = true → ∀ w, wordOk w = true → spec_l4Cost a w = some (cst a w) := fun ha w hw => (cst_is sa ha hw).1
  have hlen := words_len n
  unfold table
  obtain ⟨x, S, F, l⟩ := a
  simp only [spec_TableOf, h1, Option.bind_some]
  rcases Bool.eq_false_or_eq_true (autOk (x, S, F, l)) with ha | ha
  · rcases Bool.eq_false_or_eq_true (shortN n) with hn | hn
    · simp only [ha, hn, Bool.and_self, Bool.not_true, cond_false, if_true, spec_words_is hn, Option.bind_some]
      obtain ⟨r, g1, g2⟩ := loop_inv (f := spec_TableOf_l5) (words n).length (fun i (p : List Int) => ((x, S, F, l, ()), p, words n, ((words n).length : Int), (i : Int), ())) (fun i p => p ++ [cst (x, S, F, l) ((words n).getD i be0)]) (fun p => (p, ())) (fun i p => p = ((words n).take i).map (cst (x, S, F, l)))
        (fun i p hi hp => by
          have e : (words n).getD i be0 = (words n)[i] := by rw [List.getD_eq_getElem?_getD, List.getElem?_eq_getElem hi]; rfl
          rw [take_snoc hi, List.map_append, ← hp, e]; rfl)
        (fun i p hi hp => by
          have hw := words_ok _ (word_mem hi)
          have hl : p.length ≤ 2000000 := by rw [hp, List.length_map, List.length_take]; omega
          obtain ⟨a1, a2⟩ := app_one (x := cst (x, S, F, l) ((words n).getD i be0)) hl
          simp only [spec_TableOf_l5, lt_t hi, cond_true, if_pos (in_t hi), Int.toNat_natCast, k1 ha _ hw, Option.bind_some, w64_succ hi (show (words n).length ≤ 9223372036854775807 by omega)]
          rw [if_pos a1, a2])
        (fun p hp => by simp only [spec_TableOf_l5, lt_f, cond_false, tk_all]) [] rfl
      have g1 : loopF spec_TableOf_l5 ((x, S, F, l, ()), [], words n, ((words n).length : Int), (0 : Int), ()) = some (r, ()) := g1
      simp only [List.drop_zero, List.take_zero, g1, Option.bind_some, List.take_length]
      rw [g2, List.take_length]
    · simp only [ha, hn, Bool.and_false, Bool.not_false, cond_true]
      rfl
  · simp only [ha, Bool.false_and, Bool.not_false, cond_true]
    rfl
theorem impl_TableOf_is : impl_TableOf a n = some (if (autOk a && shortN n) = true then (table a n, true) else ([], false)) := by
  have h1 := impl_short_is n [a] (by intro z hz; obtain rfl := List.mem_singleton.1 hz; exact sa) (by simp)
  have k1 : autOk a = true → ∀ w, wordOk w = true → impl_CostOf a w = some (cst a w) := fun ha w hw => (cst_is sa ha hw).2.1
  have hlen := words_len n
  unfold table
  obtain ⟨x, S, F, l⟩ := a
  simp only [impl_TableOf, List.drop_zero]
  rw [show List.take 1 [(x, S, F, l)] = [(x, S, F, l)] from rfl, h1]
  simp only [Option.bind_some, List.all_cons, List.all_nil, Bool.and_true]
  rcases Bool.eq_false_or_eq_true (autOk (x, S, F, l)) with ha | ha
  · rcases Bool.eq_false_or_eq_true (shortN n) with hn | hn
    · simp only [ha, hn, Bool.and_self, Bool.not_true, cond_false, if_true]
      obtain ⟨r, g1, g2⟩ := loop_inv (f := impl_TableOf_l6) (words n).length (fun i (p : List Int) => ((x, S, F, l, ()), p, words n, ((words n).length : Int), (i : Int), ())) (fun i p => p ++ [cst (x, S, F, l) ((words n).getD i be0)]) (fun p => (p, ())) (fun i p => p = ((words n).take i).map (cst (x, S, F, l)))
        (fun i p hi hp => by
          have e : (words n).getD i be0 = (words n)[i] := by rw [List.getD_eq_getElem?_getD, List.getElem?_eq_getElem hi]; rfl
          rw [take_snoc hi, List.map_append, ← hp, e]; rfl)
        (fun i p hi hp => by
          have hw := words_ok _ (word_mem hi)
          have hl : p.length ≤ 2000000 := by rw [hp, List.length_map, List.length_take]; omega
          obtain ⟨a1, a2⟩ := app_one (x := cst (x, S, F, l) ((words n).getD i be0)) hl
          simp only [impl_TableOf_l6, lt_t hi, cond_true, if_pos (in_t hi), Int.toNat_natCast, k1 ha _ hw, Option.bind_some, w64_succ hi (show (words n).length ≤ 9223372036854775807 by omega)]
          rw [if_pos a1, a2])
        (fun p hp => by simp only [impl_TableOf_l6, lt_f, cond_false, tk_all]) [] rfl
      have g1 : loopF impl_TableOf_l6 ((x, S, F, l, ()), [], words n, ((words n).length : Int), (0 : Int), ()) = some (r, ()) := g1
      simp only [List.take_zero, g1, Option.bind_some, List.take_length]
      rw [g2, List.take_length]
    · simp only [ha, hn, Bool.false_and, Bool.and_false, Bool.not_false, cond_true]
      rfl
  · simp only [ha, Bool.and_false, Bool.false_and, Bool.not_false, cond_true]
    rfl
end one
/-! ### counts -/
def upTo (p : List Int) (c : Int) : List Int := p ++ List.replicate (c.toNat + 1 - p.length) 0
theorem upTo_len (p : List Int) (c : Int) : (upTo p c).length = max p.length (c.toNat + 1) := by
  unfold upTo
  rw [List.length_append, List.length_replicate]
  omega
theorem upTo_snoc {p : List Int} {c : Int} (hc : 0 ≤ c) (h : (p.length : Int) ≤ c) : upTo (p ++ [0]) c = upTo p c := by
  unfold upTo
  rw [List.length_append, List.append_assoc]
  congr 1
  show [0] ++ List.replicate (c.toNat + 1 - (p.length + 1)) 0 = _
  rw [show c.toNat + 1 - p.length = (c.toNat + 1 - (p.length + 1)) + 1 from by omega, List.replicate_succ]
  rfl
theorem upTo_done {p : List Int} {c : Int} (hc : 0 ≤ c) (h : ¬ (p.length : Int) ≤ c) : upTo p c = p := by
  unfold upTo
  rw [show c.toNat + 1 - p.length = 0 from by omega]
  simp
theorem spec_grow (ok : Bool) (c : Int) (hc : 0 ≤ c ∧ c ≤ 1000000) (T : List Int) (m i : Int) : ∀ (k : Nat) (p : List Int), c.toNat + 1 - p.length = k → p.length ≤ 1000001 →
    loopF spec_CountsOf_l7 (p, ok, c, T, m, i, ()) = some (upTo p c, ok, c, T, m, i, ())
  | 0, p, hk, hp => by
    rw [loopF_eq]
    have h : ¬ (p.length : Int) ≤ c := by omega
    simp only [spec_CountsOf_l7, decide_eq_false h, cond_false, tk_all, upTo_done hc.1 h, Option.bind_some]
  | k + 1, p, hk, hp => by
    have h : (p.length : Int) ≤ c := by omega
    obtain ⟨a1, a2⟩ := app_one (p := p) (x := (0 : Int)) (by omega)
    rw [loopF_eq]
    simp only [spec_CountsOf_l7, decide_eq_true h, cond_true]
    rw [if_pos a1, a2, tk_all]
    show loopF spec_CountsOf_l7 (p ++ [0], ok, c, T, m, i, ()) = _
    rw [spec_grow ok c hc T m i k (p ++ [0]) (by simp only [List.length_append, List.length_cons, List.length_nil]; omega) (by simp only [List.length_append, List.length_cons, List.length_nil]; omega), upTo_snoc hc.1 h]
theorem impl_grow (c : Int) (hc : 0 ≤ c ∧ c ≤ 1000000) (T : List Int) (m i : Int) : ∀ (k : Nat) (p : List Int), c.toNat + 1 - p.length = k → p.length ≤ 1000001 →
    loopF impl_CountsOf_l9 (p, c, T, m, i, ()) = some (upTo p c, c, T, m, i, ())
  | 0, p, hk, hp => by
    rw [loopF_eq]
    have h : ¬ (p.length : Int) ≤ c := by omega
    simp only [impl_CountsOf_l9, decide_eq_false h, cond_false, tk_all, upTo_done hc.1 h, Option.bind_some]
  | k + 1, p, hk, hp => by
    have h : (p.length : Int) ≤ c := by omega
    obtain ⟨a1, a2⟩ := app_one (p := p) (x := (0 : Int)) (by omega)
    rw [loopF_eq]
    simp only [impl_CountsOf_l9, decide_eq_true h, cond_true]
    rw [if_pos a1, a2, tk_all]
    show loopF impl_CountsOf_l9 (p ++ [0], c, T, m, i, ()) = _
    rw [impl_grow c hc T m i k (p ++ [0]) (by simp only [List.length_append, List.length_cons, List.length_nil]; omega) (by simp only [List.length_append, List.length_cons, List.length_nil]; omega), upTo_snoc hc.1 h]
def cnt (p : List Int) (c : Int) : List Int := if c = 1000000 then p else (upTo p c).set c.toNat (IntKind.wrap .i64 ((upTo p c).getD c.toNat 0 + 1))
theorem cnt_len {p : List Int} {c : Int} (hc : 0 ≤ c ∧ c ≤ 1000000) (hp : p.length ≤ 1000001) : (cnt p c).length ≤ 1000001 := by
  unfold cnt
  split
  · exact hp
  · rw [List.length_set, upTo_len]
    omega
def cntAll (T : List Int) : List Int := T.foldl cnt []
theorem spec_counts {T : List Int} (hT : ∀ c ∈ T, 0 ≤ c ∧ c ≤ 1000000) (hl : T.length ≤ 255) (ok : Bool) : loopF spec_CountsOf_l4 ([], ok, T, (T.length : Int), (0 : Int), ()) = some (cntAll T, ok, ()) ∧ (cntAll T).length ≤ 1000001 := by
  obtain ⟨r, g1, g2⟩ := loop_inv (f := spec_CountsOf_l4) T.length (fun i (p : List Int) => (p, ok, T, (T.length : Int), (i : Int), ())) (fun i p => cnt p (T.getD i 0)) (fun p => (p, ok, ())) (fun i p => p = (T.take i).foldl cnt [] ∧ p.length ≤ 1000001)
    (fun i p hi hp => by
      have e : T.getD i 0 = T[i] := by rw [List.getD_eq_getElem?_getD, List.getElem?_eq_getElem hi]; rfl
      refine ⟨?_, cnt_len (by rw [e]; exact hT _ (List.getElem_mem hi)) hp.2⟩
      rw [take_snoc hi, List.foldl_append, ← hp.1, e]; rfl)
    (fun i p hi hp => by
      have e : T.getD i 0 = T[i] := by rw [List.getD_eq_getElem?_getD, List.getElem?_eq_getElem hi]; rfl
      have hc := hT _ (List.getElem_mem hi)
      rw [← e] at hc
      simp only [spec_CountsOf_l4, lt_t hi, cond_true, if_pos (in_t hi), Int.toNat_natCast, Nat.zero_add, tk_all, w64_succ hi (show T.length ≤ 9223372036854775807 by omega)]
      unfold cnt
      by_cases h : T.getD i 0 = 1000000
      · simp only [h, BEq.rfl, cond_true, if_true]
      · have hb : (T.getD i 0 == (1000000 : Int)) = false := by simpa using h
        have hin : (0 : Int) ≤ T.getD i 0 ∧ T.getD i 0 < (((upTo p (T.getD i 0)).length : Nat) : Int) := by
          rw [upTo_len]; omega
        simp only [hb, cond_false, spec_grow ok _ hc T _ _ _ p rfl hp.2, Option.bind_some, if_pos hin, if_neg h]
        have e2 : ((upTo p (T.getD i 0)).set (T.getD i 0).toNat (IntKind.wrap .i64 ((upTo p (T.getD i 0)).getD (T.getD i 0).toNat 0 + 1))).length = (upTo p (T.getD i 0)).length := List.length_set ..
        rw [← e2, tk_all, w64_succ hi (by omega)])
    (fun p hp => by simp only [spec_CountsOf_l4, lt_f, cond_false, tk_all]) [] ⟨rfl, by simp⟩
  rw [List.take_length] at g2
  obtain ⟨g2, g3⟩ := g2
  subst g2
  exact ⟨g1, g3⟩
theorem impl_counts {T : List Int} (hT : ∀ c ∈ T, 0 ≤ c ∧ c ≤ 1000000) (hl : T.length ≤ 255) : loopF impl_CountsOf_l6 ([], T, (T.length : Int), (0 : Int), ()) = some (cntAll T, ()) := by
  obtain ⟨r, g1, g2⟩ := loop_inv (f := impl_CountsOf_l6) T.length (fun i (p : List Int) => (p, T, (T.length : Int), (i : Int), ())) (fun i p => cnt p (T.getD i 0)) (fun p => (p, ())) (fun i p => p = (T.take i).foldl cnt [] ∧ p.length ≤ 1000001)
    (fun i p hi hp => by
      have e : T.getD i 0 = T[i] := by rw [List.getD_eq_getElem?_getD, List.getElem?_eq_getElem hi]; rfl
      refine ⟨?_, cnt_len (by rw [e]; exact hT _ (List.getElem_mem hi)) hp.2⟩
      rw [take_snoc hi, List.foldl_append, ← hp.1, e]; rfl)
    (fun i p hi hp => by
      have e : T.getD i 0 = T[i] := by rw [List.getD_eq_getElem?_getD, List.getElem?_eq_getElem hi]; rfl
      have hc := hT _ (List.getElem_mem hi)
      rw [← e] at hc
      simp only [impl_CountsOf_l6, lt_t hi, cond_true, if_pos (in_t hi), Int.toNat_natCast, Nat.zero_add, tk_all, w64_succ hi (show T.length ≤ 9223372036854775807 by omega)]
      unfold cnt
      by_cases h : T.getD i 0 = 1000000
      · simp only [h, BEq.rfl, cond_true, if_true]
      · have hb : (T.getD i 0 == (1000000 : Int)) = false := by simpa using h
        have hin : (0 : Int) ≤ T.getD i 0 ∧ T.getD i 0 < (((upTo p (T.getD i 0)).length : Nat) : Int) := by
          rw [upTo_len]; omega
        simp only [hb, cond_false, impl_grow _ hc T _ _ _ p rfl hp.2, Option.bind_some, if_pos hin, if_neg h]
        have e2 : ((upTo p (T.getD i 0)).set (T.getD i 0).toNat (IntKind.wrap .i64 ((upTo p (T.getD i 0)).getD (T.getD i 0).toNat 0 + 1))).length = (upTo p (T.getD i 0)).length := List.length_set ..
        rw [← e2, tk_all, w64_succ hi (by omega)])
    (fun p hp => by simp only [impl_CountsOf_l6, lt_f, cond_false, tk_all]) [] ⟨rfl, by simp⟩
  rw [List.take_length] at g2
  obtain ⟨g2, g3⟩ := g2
  subst g2
  exact g1
section two
variable {a : Aut} (sa : Small a) (n : Int)
include sa
theorem counts_same : ∃ r, spec_CountsOf a n = some r ∧ impl_CountsOf a n = some r ∧ r.1.length ≤ 1000001 := by
  have h1 := spec_TableOf_is sa n
  have h2 := impl_TableOf_is sa n
  have h3 := table_rng sa n
  have h4 := table_len a n
  obtain ⟨x, S, F, l⟩ := a
  simp only [spec_CountsOf, impl_CountsOf, h1, h2, Option.bind_some]
  rcases Bool.eq_false_or_eq_true (autOk (x, S, F, l) && shortN n) with hn | hn
  · have ha : autOk (x, S, F, l) = true := by rw [Bool.and_eq_true] at hn; exact hn.1
    obtain ⟨c1, c2⟩ := spec_counts (h3 ha) h4 true
    have c3 := impl_counts (h3 ha) h4
    simp only [hn, if_true, Bool.not_true, cond_false, List.take_zero, List.drop_zero, List.take_length, c1, c3, Option.bind_some]
    exact ⟨_, rfl, rfl, c2⟩
  · obtain ⟨c1, c2⟩ := spec_counts (T := []) (by simp) (by simp) false
    have c1 : loopF spec_CountsOf_l4 ([], false, [], (((0 : Nat) : Nat) : Int), (0 : Int), ()) = some ([], false, ()) := c1
    simp only [hn, Bool.false_eq_true, if_false, Bool.not_false, cond_true, List.take_zero, List.drop_zero, List.take_length, List.length_nil, c1, Option.bind_some]
    exact ⟨_, rfl, rfl, by simp⟩
end two
end Go.Proofs.Ytooigaliccnldaa
