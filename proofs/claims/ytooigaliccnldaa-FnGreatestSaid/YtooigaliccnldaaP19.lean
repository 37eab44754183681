/- Marks of texts; free words, the greatest costs, splits; their laws' frames. -/
import Derived.Test.YtooigaliccnldaaP18
set_option linter.unusedVariables false
set_option linter.unusedSimpArgs false
namespace Go.Proofs.Ytooigaliccnldaa
open Go Go.Proofs.Ytooigaliccnldaa.Am
/-! ### lists of texts -/
/-- an append to a list of texts -/
theorem app_txt {p : List ByteArray} {x : ByteArray} (hp : p.length ≤ 2000000) : ((0 + p.length = p.length) ∧ ((p.length + (List.take 1 (List.drop 0 [x])).length) * 16 ≤ 140737488355328)) ∧ List.take (p.length + (List.take 1 (List.drop 0 [x])).length) (List.drop 0 (List.drop 0 p ++ List.take 1 (List.drop 0 [x]))) = p ++ [x] := by
  have e : List.take 1 (List.drop 0 [x]) = [x] := rfl
  rw [e]
  refine ⟨⟨by omega, by simp only [List.length_cons, List.length_nil]; omega⟩, ?_⟩
  simp only [List.drop_zero, List.length_cons, List.length_nil]
  exact List.take_of_length_le (by simp)
/-! ### free words -/
theorem free_step {a : Aut} {W : List ByteArray} {i : Nat} (hi : i < W.length) : ((W.take (i + 1)).filter fun w => cst a w == 0) = ((W.take i).filter fun w => cst a w == 0) ++ (if (cst a (W.getD i be0) == 0) = true then [W.getD i be0] else []) := by
  have e : W.getD i be0 = W[i] := by rw [List.getD_eq_getElem?_getD, List.getElem?_eq_getElem hi]; rfl
  rw [take_snoc hi, List.filter_append, e]
  congr 1
  cases h : (cst a W[i] == 0) with
  | true => simp [h]
  | false => simp [h]
section free
variable {a : Aut} (sa : Small a) (n : Int)
include sa
noncomputable def freeOf (a : Aut) (n : Int) : List ByteArray := (words n).filter fun w => cst a w == 0
end free
/-! ### the greatest costs -/
theorem great_in {x : Int} {S F : List Int} {l : List Stp} {n : Int} (hlen : (words n).length ≤ 255) (hws : ∀ w ∈ words n, w.size ≤ n.toNat) (k1 : ∀ w, wordOk w = true → spec_l4Cost (x, S, F, l) w = some (cst (x, S, F, l) w) ∧ 0 ≤ cst (x, S, F, l) w) :
    ∃ r : List Int × List Bool, loopF spec_GreatestOf_l6 ((x, S, F, l, ()), List.replicate (n.toNat + 1) (0 : Int), List.replicate (n.toNat + 1) false, words n, ((words n).length : Int), (0 : Int), ()) = some (r.1, r.2, ()) ∧
      r.1.length = n.toNat + 1 ∧ r.2.length = n.toNat + 1 ∧ (((words n)).foldl (better1 (x, S, F, l) fun x y => decide (x > y)) (List.replicate (n.toNat + 1) Nv)).length = n.toNat + 1 ∧ ∀ k, k ≤ n.toNat →
        (0 ≤ r.1.getD k 0 ∧ (r.2.getD k false = true → r.1.getD k 0 < Nv) ∧ (r.2.getD k false = false → r.1.getD k 0 = 0)) ∧
        ((words n).foldl (better1 (x, S, F, l) fun x y => decide (x > y)) (List.replicate (n.toNat + 1) Nv)).getD k 0 = if r.2.getD k false = true then r.1.getD k 0 else Nv := by
  obtain ⟨⟨O, T⟩, g1, g2⟩ := loop_rel (f := spec_GreatestOf_l6) (words n).length (fun i (p : List Int × List Bool) => ((x, S, F, l, ()), p.1, p.2, words n, ((words n).length : Int), (i : Int), ())) (fun p => (p.1, p.2, ()))
    (fun i p => p.1.length = n.toNat + 1 ∧ p.2.length = n.toNat + 1 ∧ (((words n).take i).foldl (better1 (x, S, F, l) fun x y => decide (x > y)) (List.replicate (n.toNat + 1) Nv)).length = n.toNat + 1 ∧ ∀ k, k ≤ n.toNat →
      (0 ≤ p.1.getD k 0 ∧ (p.2.getD k false = true → p.1.getD k 0 < Nv) ∧ (p.2.getD k false = false → p.1.getD k 0 = 0)) ∧
      (((words n).take i).foldl (better1 (x, S, F, l) fun x y => decide (x > y)) (List.replicate (n.toNat + 1) Nv)).getD k 0 = if p.2.getD k false = true then p.1.getD k 0 else Nv)
    (fun i p hi hp => by
      obtain ⟨q1, q2, q3, q4⟩ := hp
      have hw := words_ok _ (word_mem hi)
      have hsz := hws _ (word_mem hi)
      obtain ⟨hc, hc0⟩ := k1 _ hw
      have e : (words n).getD i be0 = (words n)[i] := by rw [List.getD_eq_getElem?_getD, List.getElem?_eq_getElem hi]; rfl
      rw [take_snoc hi, List.foldl_append, ← e]
      generalize hw0 : (words n).getD i be0 = w at *
      have hw0' : (words n).getD i (⟨Array.empty⟩ : ByteArray) = w := hw0
      generalize ((words n).take i).foldl (better1 (x, S, F, l) fun x y => decide (x > y)) (List.replicate (n.toNat + 1) Nv) = G at q3 q4 ⊢
      have hin : (0 : Int) ≤ ((w.size : Nat) : Int) ∧ ((w.size : Nat) : Int) < ((n.toNat + 1 : Nat) : Int) := by omega
      have hset1 : ∀ y : Int, List.take (n.toNat + 1) (List.drop 0 (p.1.set w.size y)) = p.1.set w.size y := fun y => by
        rw [List.drop_zero, List.take_of_length_le (by rw [List.length_set, q1]; omega)]
      have hset2 : List.take (n.toNat + 1) (List.drop 0 (p.2.set w.size true)) = p.2.set w.size true := by
        rw [List.drop_zero, List.take_of_length_le (by rw [List.length_set, q2]; omega)]
      simp only [List.foldl_cons, List.foldl_nil]
      by_cases c1 : cst (x, S, F, l) w < 1000000
      · refine ⟨(p.1.set w.size (if cst (x, S, F, l) w > p.1.getD w.size 0 then cst (x, S, F, l) w else p.1.getD w.size 0), p.2.set w.size true), ?_, by simp [q1], by simp [q2], ?_, fun k hk => ?_⟩
        · simp only [spec_GreatestOf_l6, lt_t hi, cond_true, if_pos (in_t hi), Int.toNat_natCast, hw0', hc, Option.bind_some, decide_eq_true c1, q1, q2, if_pos hin, Nat.zero_add, hset1, hset2, w64_succ hi (show (words n).length ≤ 9223372036854775807 by omega)]
        · unfold better1
          split
          · rw [List.length_set]; exact q3
          · exact q3
        · have qk := q4 k hk
          have qw := q4 w.size hsz
          have gT : (p.2.set w.size true).getD k false = if w.size = k then true else p.2.getD k false := by
            simp only [List.getD_eq_getElem?_getD, List.getElem?_set]
            by_cases e : w.size = k
            · subst e; rw [if_pos rfl, if_pos (by omega), if_pos rfl]; rfl
            · rw [if_neg e, if_neg e]
          simp only [gT]
          rw [getD_set (by omega)]
          unfold better1
          by_cases e : w.size = k
          · subst e
            simp only [if_true]
            have hcase : G.getD w.size 0 = Nv ∨ decide (cst (x, S, F, l) w > G.getD w.size 0) = true ∨ cst (x, S, F, l) w ≤ G.getD w.size 0 := by
              by_cases h : cst (x, S, F, l) w > G.getD w.size 0
              · exact .inr (.inl (decide_eq_true h))
              · exact .inr (.inr (by omega))
            rcases Bool.eq_false_or_eq_true (p.2.getD w.size false) with ht | ht
            · have hg := qw.2
              rw [if_pos ht] at hg
              have hlt := qw.1.2.1 ht
              refine ⟨⟨by split <;> omega, fun _ => by simp only [Nv] at *; split <;> omega, fun h => (by cases h)⟩, ?_⟩
              by_cases h : cst (x, S, F, l) w > p.1.getD w.size 0
              · rw [if_pos h, if_pos ⟨c1, .inr (by rw [hg]; exact decide_eq_true h)⟩, getD_set (by omega), if_pos rfl]
              · rw [if_neg h, if_neg (by
                  rintro ⟨_, h2 | h2⟩
                  · rw [hg] at h2; omega
                  · rw [hg] at h2; exact h (of_decide_eq_true h2))]
                exact hg
            · have hg := qw.2
              rw [ht] at hg
              have h0 := qw.1.2.2 ht
              rw [if_neg (by simp)] at hg
              refine ⟨⟨by split <;> omega, fun _ => by simp only [Nv] at *; split <;> omega, fun h => (by cases h)⟩, ?_⟩
              rw [if_pos ⟨c1, .inl hg⟩, getD_set (by omega), if_pos rfl, h0]
              split <;> omega
          · simp only [if_neg e]
            refine ⟨qk.1, ?_⟩
            rw [← qk.2]
            split
            · rw [getD_set (by omega), if_neg e]
            · rfl
      · refine ⟨p, ?_, q1, q2, ?_, fun k hk => ?_⟩
        · simp only [spec_GreatestOf_l6, lt_t hi, cond_true, if_pos (in_t hi), Int.toNat_natCast, hw0', hc, Option.bind_some, decide_eq_false c1, cond_false, tk_all, w64_succ hi (show (words n).length ≤ 9223372036854775807 by omega)]
        · unfold better1
          rw [if_neg (fun h => c1 h.1)]
          exact q3
        · unfold better1
          rw [if_neg (fun h => c1 h.1)]
          exact q4 k hk)
    (fun p hp => by simp only [spec_GreatestOf_l6, lt_f, cond_false, tk_all])
    (List.replicate (n.toNat + 1) 0, List.replicate (n.toNat + 1) false) ⟨by simp, by simp, by simp, fun k hk => by
      have e1 : (List.replicate (n.toNat + 1) (0 : Int)).getD k 0 = 0 := by rw [List.getD_eq_getElem?_getD, List.getElem?_replicate, if_pos (by omega)]; rfl
      have e2 : (List.replicate (n.toNat + 1) false).getD k false = false := by rw [List.getD_eq_getElem?_getD, List.getElem?_replicate, if_pos (by omega)]; rfl
      have e3 : (List.replicate (n.toNat + 1) Nv).getD k 0 = Nv := by rw [List.getD_eq_getElem?_getD, List.getElem?_replicate, if_pos (by omega)]; rfl
      simp only [List.take_zero, List.foldl_nil, e1, e2, e3]
      exact ⟨⟨by omega, fun h => (by cases h), fun _ => trivial⟩, rfl⟩⟩
  have g1 : loopF spec_GreatestOf_l6 ((x, S, F, l, ()), List.replicate (n.toNat + 1) (0 : Int), List.replicate (n.toNat + 1) false, words n, ((words n).length : Int), (0 : Int), ()) = some (O, T, ()) := g1
  refine ⟨(O, T), g1, ?_⟩
  rw [List.take_length] at g2
  exact g2
theorem great_out {n : Int} {O G : List Int} {T : List Bool} (q1 : O.length = n.toNat + 1) (q2 : T.length = n.toNat + 1) (hn : n.toNat ≤ 7) (q4 : ∀ k, k ≤ n.toNat → G.getD k 0 = if T.getD k false = true then O.getD k 0 else Nv) :
    ∃ R : List Int, loopF spec_GreatestOf_l14 (O, T, ((n.toNat + 1 : Nat) : Int), (0 : Int), ()) = some (R, ()) ∧ R.length = n.toNat + 1 ∧ ∀ k, k ≤ n.toNat → R.getD k 0 = if k < n.toNat + 1 then G.getD k 0 else O.getD k 0 := by
  obtain ⟨R, g3, g4⟩ := loop_rel (f := spec_GreatestOf_l14) (n.toNat + 1) (fun i (p : List Int) => (p, T, ((n.toNat + 1 : Nat) : Int), (i : Int), ())) (fun p => (p, ()))
    (fun i p => p.length = n.toNat + 1 ∧ ∀ k, k ≤ n.toNat → p.getD k 0 = if k < i then G.getD k 0 else O.getD k 0)
    (fun i p hi hp => by
      obtain ⟨r1, r2⟩ := hp
      have qi := q4 i (by omega)
      rcases Bool.eq_false_or_eq_true (T.getD i false) with ht | ht
      · refine ⟨p, ?_, r1, fun k hk => ?_⟩
        · simp only [spec_GreatestOf_l14, lt_t hi, cond_true, q2, if_pos (in_t hi), Int.toNat_natCast, Nat.zero_add, ht, Bool.not_true, cond_false, tk_all, w64_succ hi (show n.toNat + 1 ≤ 9223372036854775807 by omega)]
          simp only [List.drop_zero, ← q2, List.take_length]
        · rw [r2 k hk]
          by_cases e : k = i
          · subst e
            rw [if_neg (by omega), if_pos (by omega), qi, if_pos ht]
          · by_cases h : k < i
            · rw [if_pos h, if_pos (by omega)]
            · rw [if_neg h, if_neg (by omega)]
      · refine ⟨p.set i 1000000, ?_, by simp [r1], fun k hk => ?_⟩
        · have hset : List.take (n.toNat + 1) (List.drop 0 (p.set i (1000000 : Int))) = p.set i 1000000 := by
            rw [List.drop_zero, List.take_of_length_le (by rw [List.length_set, r1]; omega)]
          simp only [spec_GreatestOf_l14, lt_t hi, cond_true, q2, r1, if_pos (in_t hi), Int.toNat_natCast, Nat.zero_add, ht, Bool.not_false, hset, w64_succ hi (show n.toNat + 1 ≤ 9223372036854775807 by omega)]
          simp only [List.drop_zero, ← q2, List.take_length]
        · rw [getD_set (by omega), r2 k hk]
          by_cases e : i = k
          · subst e
            rw [if_pos rfl, if_pos (by omega), qi, ht, if_neg (by simp)]
          · rw [if_neg e]
            by_cases h : k < i
            · rw [if_pos h, if_pos (by omega)]
            · rw [if_neg h, if_neg (by omega)])
    (fun p hp => by simp only [spec_GreatestOf_l14, lt_f, cond_false, tk_all])
    O ⟨q1, fun k hk => by rw [if_neg (by omega)]⟩
  exact ⟨R, g3, g4⟩
theorem great_same {a : Aut} (sa : Small a) (n : Int) : ∃ r, spec_GreatestOf a n = some r ∧ impl_GreatestOf a n = some r ∧ r.1.length ≤ 8 := by
  have hb := byLength_is sa n (φ := fun y0 => impl_GreatestOf_1 y0.1 y0.2.1) (B := fun x y => decide (x > y)) (fun x y => rfl)
  have hi : impl_GreatestOf a n = (impl_byLength a n fun y0 => impl_GreatestOf_1 y0.1 y0.2.1).bind fun r => some (r.1, r.2) := by
    obtain ⟨x, S, F, l⟩ := a
    simp only [impl_GreatestOf, tk_all]
  have h1 := l11Short_is sa n
  have k1 : autOk a = true → ∀ w, wordOk w = true → spec_l4Cost a w = some (cst a w) ∧ 0 ≤ cst a w := fun ha w hw => ⟨(cst_is sa ha hw).1, (cst_is sa ha hw).2.2.1.1⟩
  have hlen := words_len n
  rcases Bool.eq_false_or_eq_true (autOk a && shortN n) with hh | hh
  · obtain ⟨h4, h5⟩ := hb
    have h5 := h5 hh
    rw [if_pos hh] at h4
    rw [hh] at h1
    rw [Bool.and_eq_true] at hh
    obtain ⟨ha, hn⟩ := hh
    have hn' : 0 ≤ n ∧ n ≤ 7 := by unfold shortN at hn; exact of_decide_eq_true hn
    have k1 := k1 ha
    have hws : ∀ w ∈ words n, w.size ≤ n.toNat := by
      intro w hw
      unfold words at hw
      rw [if_pos hn] at hw
      exact ((gen_facts n.toNat).2.2.2 w hw).2
    refine ⟨((words n).foldl (better1 a fun x y => decide (x > y)) (List.replicate (n.toNat + 1) Nv), true), ?_, by rw [hi, h4]; rfl, by simp only [h5]; omega⟩
    obtain ⟨x, S, F, l⟩ := a
    have en : IntKind.wrap .i64 (n + 1) = ((n.toNat + 1 : Nat) : Int) := by rw [w64 (by omega) (by omega)]; omega
    simp only [spec_GreatestOf, h1, Option.bind_some, Bool.not_true, cond_false]
    rw [en, if_pos ⟨by omega, trivial, by omega⟩, if_pos ⟨by omega, trivial, by omega⟩, spec_words_is hn, Int.toNat_natCast]
    simp only [Option.bind_some, List.drop_zero]
    rw [show List.take (n.toNat + 1) (List.replicate (n.toNat + 1) (0 : Int)) = List.replicate (n.toNat + 1) 0 from by simp, show List.take (n.toNat + 1) (List.replicate (n.toNat + 1) false) = List.replicate (n.toNat + 1) false from by simp]
    obtain ⟨⟨O, T⟩, g1, g2⟩ := great_in (x := x) (S := S) (F := F) (l := l) hlen hws k1
    have g1 : loopF spec_GreatestOf_l6 ((x, S, F, l, ()), List.replicate (n.toNat + 1) (0 : Int), List.replicate (n.toNat + 1) false, words n, ((words n).length : Int), (0 : Int), ()) = some (O, T, ()) := g1
    rw [g1]
    obtain ⟨q1, q2, q3, q4⟩ := g2
    simp only at q1 q2
    simp only [Option.bind_some, List.take_length]
    generalize (words n).foldl (better1 (x, S, F, l) fun x y => decide (x > y)) (List.replicate (n.toNat + 1) Nv) = G at q3 q4 ⊢
    obtain ⟨R, g3, g4⟩ := great_out (O := O) (T := T) (G := G) (n := n) q1 q2 (by omega) fun k hk => (q4 k hk).2
    have g3 : loopF spec_GreatestOf_l14 (O, T, ((O.length : Nat) : Int), (0 : Int), ()) = some (R, ()) := by rw [q1]; exact g3
    rw [g3]
    simp only [Option.bind_some, List.take_length]
    have : R = G := by
      refine List.ext_getElem (by rw [g4.1, q3]) fun k h6 h7 => ?_
      have := g4.2 k (by omega)
      rw [if_pos (by omega), getD_mem h6, getD_mem h7] at this
      exact this
    rw [this]
  · refine ⟨([], false), ?_, ?_, by simp⟩
    · rw [hh] at h1
      obtain ⟨x, S, F, l⟩ := a
      simp only [spec_GreatestOf, h1, Option.bind_some, Bool.not_false, cond_true]
      rfl
    · rw [hi, hb.1, if_neg (by rw [hh]; simp)]
      rfl
end Go.Proofs.Ytooigaliccnldaa
