/- Comparisons of two automata over the short words: both sides tell the same. -/
import Derived.Test.YtogigagfgkfkhaaP9
set_option linter.unusedVariables false
set_option linter.unusedSimpArgs false
namespace Go.Proofs.Ytogigagfgkfkhaa
open Go Go.Proofs.Ytogigagfgkfkhaa.Am
/-- the cost of a word -/
noncomputable def cst (a : Aut) (w : ByteArray) : Int := (impl_CostOf a w).getD (-1)
theorem cst_is {a : Aut} (hs : Small a) (ha : autOk a = true) {w : ByteArray} (hw : wordOk w = true) : spec_l4Cost a w = some (cst a w) ∧ impl_CostOf a w = some (cst a w) ∧ CostIs a (bytes w) (cst a w) := by
 obtain ⟨r, h1, h2, h3⟩ := cost_same hs ha hw
 have : cst a w = r := by unfold cst; rw [h2]; rfl
 rw [this]
 exact ⟨h1, h2, h3⟩
theorem small_len {a : Aut} (hs : Small a) : a.2.1.length ≤ 9223372036854775807 ∧ a.2.2.1.length ≤ 9223372036854775807 := ⟨by have := hs.1; omega, by have := hs.2.1; omega⟩
def shortN (n : Int) : Bool := decide (0 ≤ n ∧ n ≤ 7)
theorem l11Short_is {a : Aut} (hs : Small a) (n : Int) : spec_l11Short a n = some (autOk a && shortN n) := by
 have h := spec_AutomatonValid_is a (small_len hs).1 (small_len hs).2
 obtain ⟨x, S, F, l⟩ := a
 simp only [spec_l11Short, h, Option.bind_some, spec_l1In_is]
 cases autOk (x, S, F, l) <;> rfl
theorem short_in (W : List ByteArray) (ok : Bool) (L : List Aut) (hL : ∀ a ∈ L, Small a) (hn : L.length ≤ 100) : loopF impl_short_l3 (W, ok, L, (L.length : Int), (0 : Int), ()) = some (W, (ok && L.all autOk), ()) := by
 obtain ⟨r, g1, g2⟩ := loop_inv (f := impl_short_l3) L.length (fun i (b : Bool) => (W, b, L, (L.length : Int), (i : Int), ())) (fun i b => b && autOk (L.getD i ((0 : Int), [], [], []))) (fun b => (W, b, ())) (fun i b => b = (ok && (L.take i).all autOk))
  (fun i b hi hb => by
   have e : L.getD i ((0 : Int), [], [], []) = L[i] := by rw [List.getD_eq_getElem?_getD, List.getElem?_eq_getElem hi]; rfl
   rw [hb, e, take_snoc hi]
   simp only [List.all_append, List.all_cons, List.all_nil, Bool.and_true, Bool.and_assoc])
  (fun i b hi hb => by
   have e : L.getD i ((0 : Int), [], [], []) = L[i] := by rw [List.getD_eq_getElem?_getD, List.getElem?_eq_getElem hi]; rfl
   have hs := hL _ (List.getElem_mem hi)
   have hv := impl_AutomatonValid_is L[i] (small_len hs).1 (small_len hs).2
   simp only [impl_short_l3, lt_t hi, cond_true, if_pos (in_t hi), Int.toNat_natCast, w64_succ hi (show L.length ≤ 9223372036854775807 by omega), e]
   rw [show ((L[i].1, L[i].2.1, L[i].2.2.1, L[i].2.2.2) : Aut) = L[i] from rfl, hv]
   cases b <;> rfl)
  (fun b hb => by simp only [impl_short_l3, lt_f, cond_false])
  ok (by simp)
 have g1 : loopF impl_short_l3 (W, ok, L, (L.length : Int), (0 : Int), ()) = _ := g1
 rw [g1, g2, List.take_length]
/-- the words and whether they are asked rightly -/
noncomputable def words (n : Int) : List ByteArray := if shortN n = true then (gen n.toNat).1 else []
theorem impl_short_is (n : Int) (L : List Aut) (hL : ∀ a ∈ L, Small a) (hn : L.length ≤ 100) : impl_short n L = some (words n, (shortN n && L.all autOk)) := by
 unfold words
 simp only [impl_short]
 by_cases h : 0 ≤ n ∧ n ≤ 7
 ·rw [impl_ShortWords_is h.1 h.2]
  simp only [Option.bind_some]
  rw [short_in _ _ L hL hn]
  simp only [Option.bind_some, shortN, decide_eq_true h, if_true]
 ·rw [impl_ShortWords_no h]
  simp only [Option.bind_some]
  rw [short_in _ _ L hL hn]
  simp only [Option.bind_some, shortN, decide_eq_false h, Bool.false_and, Bool.false_eq_true, if_false]
theorem words_ok {n : Int} : ∀ w ∈ words n, wordOk w = true := by
 intro w hw
 unfold words at hw
 split at hw
 ·rename_i h
  unfold shortN at h
  rw [decide_eq_true_eq] at h
  obtain ⟨h1, h2⟩ := (gen_facts n.toNat).2.2.2 w hw
  exact AB.ok h1 (by omega)
 ·cases hw
theorem words_len (n : Int) : (words n).length ≤ 255 := by
 unfold words
 split
 ·rename_i h
  unfold shortN at h
  rw [decide_eq_true_eq] at h
  exact gen_small (by omega)
 ·exact Nat.zero_le _
theorem spec_words_is {n : Int} (h : shortN n = true) : spec_l4Words n = some (words n) := by
 unfold words
 rw [if_pos h]
 unfold shortN at h
 rw [decide_eq_true_eq] at h
 exact spec_l4Words_is h.1 h.2
theorem word_mem {W : List ByteArray} {i : Nat} (hi : i < W.length) : W.getD i be0 ∈ W := by
 rw [List.getD_eq_getElem?_getD, List.getElem?_eq_getElem hi]; exact List.getElem_mem hi
/-- a loop that looks for an index -/
theorem loop_find {σ ρ : Type} {f : σ → Option (σ ⊕ ρ)} (st : Nat → σ) (n : Nat) (p : Nat → Bool) (out : Nat → ρ) (last : ρ) (hs : ∀ i, i < n → f (st i) = some (if p i = true then .inr (out i) else .inl (st (i + 1)))) (he : f (st n) = some (.inr last)) :
  loopF f (st 0) = some (match (List.range n).find? p with | some i => out i | none => last) := by
 have key : ∀ k i, i + k = n → loopF f (st i) = some (match (List.range' i k).find? p with | some i => out i | none => last) := by
  intro k
  induction k with
  | zero =>
   intro i hi
   rw [loopF_eq]
   obtain rfl : i = n := by omega
   rw [he]
   rfl
  | succ k ih =>
   intro i hi
   rw [loopF_eq, hs i (by omega)]
   rw [List.range'_succ, List.find?_cons]
   cases hp : p i with
   | true => simp
   | false =>
    simp only [Bool.false_eq_true, if_false, Option.bind_some]
    exact ih (i + 1) (by omega)
 rw [List.range_eq_range']
 exact key n 0 (by omega)
theorem find_no (n : Nat) : (List.range n).find? (fun _ => false) = none := by
 rw [List.find?_eq_none]; intro x _ h; cases h
section two
variable {a b : Aut} (sa : Small a) (sb : Small b) (n : Int)
noncomputable abbrev wd (n : Int) (i : Nat) : ByteArray := (words n).getD i be0
include sa sb
theorem two_small : ∀ x ∈ [a, b], Small x := by
 intro x hx
 simp only [List.mem_cons, List.not_mem_nil, or_false] at hx
 rcases hx with rfl | rfl
 ·exact sa
 ·exact sb
theorem spec_AreApart_is : spec_AreApart a b n = some (if (autOk a && (autOk b && shortN n)) = true then (match (List.range (words n).length).find? (fun i => decide (cst a (wd n i) < Nv) && decide (cst b (wd n i) < Nv)) with | some _ => false | none => true) else false) := by
 have h1 := l11Short_is sa n
 have h2 := l11Short_is sb n
 have k1 : autOk a = true → ∀ w, wordOk w = true → spec_l4Cost a w = some (cst a w) := fun ha w hw => (cst_is sa ha hw).1
 have k2 : autOk b = true → ∀ w, wordOk w = true → spec_l4Cost b w = some (cst b w) := fun ha w hw => (cst_is sb ha hw).1
 have hlen := words_len n
 obtain ⟨x, S, F, l⟩ := a
 obtain ⟨x', S', F', l'⟩ := b
 simp only [spec_AreApart, h1, h2, Option.bind_some]
 cases ha : autOk (x, S, F, l) with
 | false => simp
 | true =>
  cases hn : shortN n with
  | false => simp
  | true =>
   cases hb : autOk (x', S', F', l') with
   | false => simp
   | true =>
    simp only [Bool.true_and, Bool.and_true, Bool.not_true, cond_false, if_true, spec_words_is hn, Option.bind_some]
    have := loop_find (f := spec_AreApart_l4) (fun i => ((x, S, F, l, ()), (x', S', F', l', ()), words n, ((words n).length : Int), (i : Int), ())) (words n).length (fun i => decide (cst (x, S, F, l) (wd n i) < Nv) && decide (cst (x', S', F', l') (wd n i) < Nv)) (fun _ => .inl (false, ())) (.inr ()) (fun i hi => by
     have hw := words_ok _ (word_mem hi)
     simp only [spec_AreApart_l4, lt_t hi, cond_true, if_pos (in_t hi), Int.toNat_natCast, k1 ha _ hw, k2 hb _ hw, Option.bind_some, w64_succ hi (show (words n).length ≤ 9223372036854775807 by omega)]
     have e : decide ((if cst (x', S', F', l') (wd n i) > cst (x, S, F, l) (wd n i) then cst (x', S', F', l') (wd n i) else cst (x, S, F, l) (wd n i)) < (1000000 : Int)) = (decide (cst (x, S, F, l) (wd n i) < Nv) && decide (cst (x', S', F', l') (wd n i) < Nv)) := by
      rw [Bool.eq_iff_iff, Bool.and_eq_true, decide_eq_true_eq, decide_eq_true_eq, decide_eq_true_eq]
      simp only [Nv]
      split <;> omega
     rw [e]
     cases (decide (cst (x, S, F, l) (wd n i) < Nv) && decide (cst (x', S', F', l') (wd n i) < Nv)) <;> rfl) (by simp only [spec_AreApart_l4, lt_f]; rfl)
    have this : loopF spec_AreApart_l4 ((x, S, F, l, ()), (x', S', F', l', ()), words n, ((words n).length : Int), (0 : Int), ()) = _ := this
    rw [this]
    simp only [Option.bind_some]
    cases (List.range (words n).length).find? _ <;> rfl
theorem impl_AreApart_is : impl_AreApart a b n = some (if (autOk a && (autOk b && shortN n)) = true then (match (List.range (words n).length).find? (fun i => decide (cst a (wd n i) < Nv) && decide (cst b (wd n i) < Nv)) with | some _ => false | none => true) else false) := by
 have h1 := impl_short_is n [a, b] (two_small sa sb) (by simp)
 have k1 : autOk a = true → ∀ w, wordOk w = true → impl_CostOf a w = some (cst a w) := fun ha w hw => (cst_is sa ha hw).2.1
 have k2 : autOk b = true → ∀ w, wordOk w = true → impl_CostOf b w = some (cst b w) := fun ha w hw => (cst_is sb ha hw).2.1
 have hlen := words_len n
 obtain ⟨x, S, F, l⟩ := a
 obtain ⟨x', S', F', l'⟩ := b
 simp only [impl_AreApart, List.drop_zero]
 rw [show List.take 2 [(x, S, F, l), (x', S', F', l')] = [(x, S, F, l), (x', S', F', l')] from rfl, h1]
 simp only [Option.bind_some, List.all_cons, List.all_nil, Bool.and_true]
 cases hok : (shortN n && (autOk (x, S, F, l) && autOk (x', S', F', l'))) with
 | false =>
  have := loop_find (f := impl_AreApart_l3) (fun i => ((x, S, F, l, ()), (x', S', F', l', ()), false, words n, ((words n).length : Int), (i : Int), ())) (words n).length (fun _ => false) (fun _ => .inl (false, ())) (.inr (false, ())) (fun i hi => by
   simp only [impl_AreApart_l3, lt_t hi, cond_true, if_pos (in_t hi), w64_succ hi (show (words n).length ≤ 9223372036854775807 by omega)]
   rfl) (by simp only [impl_AreApart_l3, lt_f]; rfl)
  have this : loopF impl_AreApart_l3 ((x, S, F, l, ()), (x', S', F', l', ()), false, words n, ((words n).length : Int), (0 : Int), ()) = _ := this
  rw [this, find_no, if_neg (by
   intro h
   simp only [Bool.and_eq_true] at h
   rw [h.1, h.2.1, h.2.2] at hok
   cases hok)]
  rfl
 | true =>
  have hok' := hok
  simp only [Bool.and_eq_true] at hok'
  obtain ⟨hn, ha, hb⟩ := hok'
  rw [if_pos (by rw [ha, hb, hn]; rfl)]
  have := loop_find (f := impl_AreApart_l3) (fun i => ((x, S, F, l, ()), (x', S', F', l', ()), true, words n, ((words n).length : Int), (i : Int), ())) (words n).length (fun i => decide (cst (x, S, F, l) (wd n i) < Nv) && decide (cst (x', S', F', l') (wd n i) < Nv)) (fun _ => .inl (false, ())) (.inr (true, ())) (fun i hi => by
   have hw := words_ok _ (word_mem hi)
   simp only [impl_AreApart_l3, lt_t hi, cond_true, if_pos (in_t hi), Int.toNat_natCast, k1 ha _ hw, k2 hb _ hw, Option.bind_some, w64_succ hi (show (words n).length ≤ 9223372036854775807 by omega)]
   rcases Bool.eq_false_or_eq_true (decide (cst (x, S, F, l) (wd n i) < Nv)) with c | c <;> rcases Bool.eq_false_or_eq_true (decide (cst (x', S', F', l') (wd n i) < Nv)) with d | d <;> simp only [c, d] <;> rfl) (by simp only [impl_AreApart_l3, lt_f]; rfl)
  have this : loopF impl_AreApart_l3 ((x, S, F, l, ()), (x', S', F', l', ()), true, words n, ((words n).length : Int), (0 : Int), ()) = _ := this
  rw [this]
  simp only [Option.bind_some]
  cases (List.range (words n).length).find? _ <;> rfl
end two
end Go.Proofs.Ytogigagfgkfkhaa
