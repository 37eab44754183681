/- The short words. -/
import Derived.Test.YtogigagfgkfkhaaP4
set_option linter.unusedVariables false
set_option linter.unusedSimpArgs false
namespace Go.Proofs.Ytogigagfgkfkhaa
open Go Go.Proofs.Ytogigagfgkfkhaa.Am
abbrev be0 : ByteArray := ⟨Array.empty⟩
abbrev emp : ByteArray := ⟨#[]⟩
def ext (l : List ByteArray) : List ByteArray := l.flatMap fun w => [w ++ la, w ++ lb]
theorem ext_length (l : List ByteArray) : (ext l).length = 2 * l.length := by
 induction l with
 | nil => rfl
 | cons x l ih => simp only [ext, List.flatMap_cons, List.length_append, List.length_cons] at ih ⊢; rw [ih]; simp; omega
theorem ext_take {xs : List ByteArray} {i : Nat} (hi : i < xs.length) : ext (xs.take (i + 1)) = ext (xs.take i) ++ [xs.getD i be0 ++ la, xs.getD i be0 ++ lb] := by
 rw [List.take_add_one, List.getElem?_eq_getElem hi]
 simp only [ext, List.flatMap_append, Option.toList_some, List.flatMap_singleton]
 rw [List.getD_eq_getElem?_getD, List.getElem?_eq_getElem hi]
 rfl
theorem la_size : la.size = 1 := rfl
theorem lb_size : lb.size = 1 := rfl
theorem spec_words_in (o xs : List ByteArray) (e a b : Int) (h1 : ∀ w ∈ xs, w.size ≤ 1000) (h2 : xs.length ≤ 1000) (h3 : o.length ≤ 1000) :
  loopF spec_l4Words_l7 (o, e, a, b, xs, (xs.length : Int), (0 : Int), ()) = some (o ++ ext xs, e, a, b, ()) := by
 obtain ⟨r, g1, g2⟩ := loop_inv (f := spec_l4Words_l7) xs.length (fun i (o' : List ByteArray) => (o', e, a, b, xs, (xs.length : Int), (i : Int), ())) (fun i o' => o' ++ [xs.getD i be0 ++ la, xs.getD i be0 ++ lb]) (fun o' => (o', e, a, b, ())) (fun i o' => o' = o ++ ext (xs.take i))
  (fun i o' hi ho => by subst ho; rw [ext_take hi, List.append_assoc])
  (fun i o' hi ho => by
   have hol : o'.length ≤ 10000 := by subst ho; rw [List.length_append, ext_length, List.length_take]; omega
   have hmem : xs.getD i be0 ∈ xs := by
    rw [List.getD_eq_getElem?_getD, List.getElem?_eq_getElem hi]
    exact List.getElem_mem hi
   have hsz : (xs.getD i (⟨Array.empty⟩ : ByteArray)).size ≤ 1000 := h1 _ hmem
   simp only [spec_l4Words_l7, lt_t hi, cond_true, if_pos (in_t hi), Int.toNat_natCast, List.drop_zero, Nat.zero_add, w64_succ hi (show xs.length ≤ 9223372036854775807 by omega)]
   rw [la_size, lb_size, if_pos (by omega), if_pos (by omega), if_pos ⟨trivial, by simp; omega⟩, if_pos (by simp)]
   rfl)
  (fun o' ho => by simp only [spec_l4Words_l7, lt_f, cond_false, Nat.zero_add, if_true, List.drop_zero])
  o (by simp [ext])
 rw [show ((0 : Int)) = ((0 : Nat) : Int) from rfl, g1, g2, List.take_length]
theorem impl_words_in (o xs : List ByteArray) (e a : Int) (h1 : ∀ w ∈ xs, w.size ≤ 1000) (h2 : xs.length ≤ 1000) (h3 : o.length ≤ 1000) :
  loopF impl_ShortWords_l8 (a, o, e, xs, (xs.length : Int), (0 : Int), ()) = some (a, o ++ ext xs, e, ()) := by
 obtain ⟨r, g1, g2⟩ := loop_inv (f := impl_ShortWords_l8) xs.length (fun i (o' : List ByteArray) => (a, o', e, xs, (xs.length : Int), (i : Int), ())) (fun i o' => o' ++ [xs.getD i be0 ++ la, xs.getD i be0 ++ lb]) (fun o' => (a, o', e, ())) (fun i o' => o' = o ++ ext (xs.take i))
  (fun i o' hi ho => by subst ho; rw [ext_take hi, List.append_assoc])
  (fun i o' hi ho => by
   have hol : o'.length ≤ 10000 := by subst ho; rw [List.length_append, ext_length, List.length_take]; omega
   have hmem : xs.getD i be0 ∈ xs := by
    rw [List.getD_eq_getElem?_getD, List.getElem?_eq_getElem hi]
    exact List.getElem_mem hi
   have hsz : (xs.getD i (⟨Array.empty⟩ : ByteArray)).size ≤ 1000 := h1 _ hmem
   simp only [impl_ShortWords_l8, lt_t hi, cond_true, if_pos (in_t hi), Int.toNat_natCast, List.drop_zero, Nat.zero_add, w64_succ hi (show xs.length ≤ 9223372036854775807 by omega)]
   rw [la_size, lb_size, if_pos (by omega), if_pos (by omega), if_pos ⟨trivial, by simp; omega⟩, if_pos (by simp)]
   rfl)
  (fun o' ho => by simp only [impl_ShortWords_l8, lt_f, cond_false, Nat.zero_add, if_true, List.drop_zero])
  o (by simp [ext])
 rw [show ((0 : Int)) = ((0 : Nat) : Int) from rfl, g1, g2, List.take_length]
/-- the words that are there, and where those of the last length begin -/
def gen : Nat → List ByteArray × Nat
 | 0 => ([emp], 0)
 | j + 1 => ((gen j).1 ++ ext ((gen j).1.drop (gen j).2), (gen j).1.length)
def AB (w : ByteArray) : Prop := ∀ b ∈ w.data.toList, b = 97 ∨ b = 98
theorem AB.app {w : ByteArray} (h : AB w) : AB (w ++ la) ∧ AB (w ++ lb) := by
 constructor <;> intro b hb <;> rw [ByteArray.data_append, Array.toList_append] at hb <;> rcases List.mem_append.1 hb with hb | hb
 ·exact h b hb
 ·exact .inl (by simpa using hb)
 ·exact h b hb
 ·exact .inr (by simpa using hb)
theorem gen_facts : ∀ j, (gen j).1.length + 1 = 2 ^ (j + 1) ∧ (gen j).2 + 1 = 2 ^ j ∧ (∀ w ∈ (gen j).1.drop (gen j).2, w.size = j) ∧ ∀ w ∈ (gen j).1, AB w ∧ w.size ≤ j
 | 0 => ⟨rfl, rfl, fun w hw => by simp [gen] at hw; subst hw; rfl, fun w hw => by simp [gen] at hw; subst hw; exact ⟨fun b hb => by simp at hb, Nat.le_refl _⟩⟩
 | j + 1 => by
  obtain ⟨h1, h2, h3, h4⟩ := gen_facts j
  have hm : ∀ w ∈ ext ((gen j).1.drop (gen j).2), AB w ∧ w.size = j + 1 := by
   intro w hw
   obtain ⟨u, hu, hw⟩ := List.mem_flatMap.1 hw
   have hs := h3 u hu
   have hab := (h4 u (List.mem_of_mem_drop hu)).1.app
   simp only [List.mem_cons, List.not_mem_nil, or_false] at hw
   rcases hw with rfl | rfl
   ·exact ⟨hab.1, by rw [ByteArray.size_append, hs]; rfl⟩
   ·exact ⟨hab.2, by rw [ByteArray.size_append, hs]; rfl⟩
  refine ⟨?_, h1, ?_, ?_⟩
  ·simp only [gen, List.length_append, ext_length, List.length_drop]
   rw [Nat.pow_succ, Nat.pow_succ] at *
   omega
  ·intro w hw
   simp only [gen, List.drop_left] at hw
   exact (hm w hw).2
  ·intro w hw
   simp only [gen] at hw
   rcases List.mem_append.1 hw with hw | hw
   ·exact ⟨(h4 w hw).1, by have := (h4 w hw).2; omega⟩
   ·exact ⟨(hm w hw).1, by rw [(hm w hw).2]; exact Nat.le_refl _⟩
theorem gen_small {j : Nat} (hj : j ≤ 7) : (gen j).1.length ≤ 255 := by
 have h := (gen_facts j).1
 have : 2 ^ (j + 1) ≤ 2 ^ 8 := Nat.pow_le_pow_right (by omega) (by omega)
 omega
theorem gen_le (j : Nat) : (gen j).2 ≤ (gen j).1.length := by
 obtain ⟨h1, h2, _⟩ := gen_facts j
 rw [Nat.pow_succ] at h1
 omega
theorem spec_l4Words_is {n : Int} (h0 : 0 ≤ n) (h7 : n ≤ 7) : spec_l4Words n = some (gen n.toNat).1 := by
 have hn : n = (n.toNat : Int) := by omega
 simp only [spec_l4Words]
 rw [if_pos (by rfl)]
 obtain ⟨r, g1, g2⟩ := loop_inv (f := spec_l4Words_l4) n.toNat (fun i (a : List ByteArray × Nat) => (a.1, (a.2 : Int), n, (i : Int), ())) (fun i a => (a.1 ++ ext (a.1.drop a.2), a.1.length)) (fun a => (a.1, ())) (fun i a => a = gen i)
  (fun i a hi ha => by subst ha; rfl)
  (fun i a hi ha => by
   have hl : a.1.length ≤ 255 := by subst ha; exact gen_small (by omega)
   have hle : a.2 ≤ a.1.length := by subst ha; exact gen_le i
   have hw : ∀ w ∈ a.1.drop a.2, w.size ≤ 1000 := by
    subst ha
    intro w hw
    have := (gen_facts i).2.2.1 w hw
    omega
   simp only [spec_l4Words_l4]
   rw [decide_eq_true (show (i : Int) < n by omega)]
   simp only [cond_true]
   rw [if_pos ⟨by omega, by omega, by omega⟩, if_pos (by omega)]
   simp only [List.drop_zero, Nat.zero_add, Int.toNat_natCast]
   rw [List.take_of_length_le (by rw [List.length_drop]; omega)]
   have hlen : (((a.1.length - a.2 : Nat)) : Int) = (((a.1.drop a.2).length : Nat) : Int) := by rw [List.length_drop]
   rw [hlen, spec_words_in a.1 (a.1.drop a.2) _ _ _ hw (by rw [List.length_drop]; omega) (by omega)]
   simp only [Option.bind_some, if_true]
   rw [w64_succ (show i < 7 by omega) (by omega)])
  (fun a ha => by
   simp only [spec_l4Words_l4]
   rw [decide_eq_false (show ¬ ((n.toNat : Nat) : Int) < n by omega)]
   simp only [cond_false, List.drop_zero, List.take_length])
  ([emp], 0) rfl
 rw [List.drop_zero, show (([emp], (0 : Int), n, (0 : Int), ()) : List ByteArray × Int × Int × Int × Unit) = ([emp], ((0 : Nat) : Int), n, ((0 : Nat) : Int), ()) from rfl, g1, g2]
 rfl
theorem impl_ShortWords_is {n : Int} (h0 : 0 ≤ n) (h7 : n ≤ 7) : impl_ShortWords n = some ((gen n.toNat).1, true) := by
 simp only [impl_ShortWords, decide_eq_false (show ¬ n < 0 by omega), decide_eq_false (show ¬ n > 7 by omega), cond_false]
 rw [if_pos (by rfl)]
 have key : ∀ k j, j + k = n.toNat → loopF impl_ShortWords_l5 (n, (gen j).1, ((gen j).2 : Int), ()) = some ((gen n.toNat).1, ()) := by
  intro k
  induction k with
  | zero =>
   intro j hj
   obtain rfl : j = n.toNat := by omega
   obtain ⟨f1, f2, f3, f4⟩ := gen_facts n.toNat
   have hsm := gen_small (j := n.toNat) (by omega)
   have hp : 0 < (gen n.toNat).1.length := by have : 1 ≤ 2 ^ n.toNat := Nat.one_le_two_pow; rw [Nat.pow_succ] at f1; omega
   have hlt : (gen n.toNat).2 < (gen n.toNat).1.length := by have : 1 ≤ 2 ^ n.toNat := Nat.one_le_two_pow; rw [Nat.pow_succ] at f1; omega
   have hlast : ((gen n.toNat).1.getD ((gen n.toNat).1.length - 1) be0).size = n.toNat := by
    refine f3 _ ?_
    rw [List.getD_eq_getElem?_getD, List.getElem?_eq_getElem (by omega)]
    refine List.mem_iff_getElem.2 ⟨(gen n.toNat).1.length - 1 - (gen n.toNat).2, by rw [List.length_drop]; omega, ?_⟩
    rw [List.getElem_drop]
    simp only [Option.getD_some]
    congr 1
    omega
   rw [loopF_eq]
   simp only [impl_ShortWords_l5, w64 (show -9223372036854775808 ≤ ((((gen n.toNat).1.length : Nat) : Int) - 1) by omega) (by omega)]
   rw [if_pos ⟨by omega, by omega⟩, show ((((gen n.toNat).1.length : Nat) : Int) - 1) = (((gen n.toNat).1.length - 1 : Nat) : Int) by omega, Int.toNat_natCast, Nat.zero_add, hlast, decide_eq_false (by omega)]
   simp only [cond_false, List.drop_zero, List.take_length, Option.bind_some]
  | succ k ih =>
   intro j hj
   obtain ⟨f1, f2, f3, f4⟩ := gen_facts j
   have hsm := gen_small (j := j) (by omega)
   have hp : 0 < (gen j).1.length := by have : 1 ≤ 2 ^ j := Nat.one_le_two_pow; rw [Nat.pow_succ] at f1; omega
   have hlt : (gen j).2 < (gen j).1.length := by have : 1 ≤ 2 ^ j := Nat.one_le_two_pow; rw [Nat.pow_succ] at f1; omega
   have hlast : ((gen j).1.getD ((gen j).1.length - 1) be0).size = j := by
    refine f3 _ ?_
    rw [List.getD_eq_getElem?_getD, List.getElem?_eq_getElem (by omega)]
    refine List.mem_iff_getElem.2 ⟨(gen j).1.length - 1 - (gen j).2, by rw [List.length_drop]; omega, ?_⟩
    rw [List.getElem_drop]
    simp only [Option.getD_some]
    congr 1
    omega
   rw [loopF_eq]
   simp only [impl_ShortWords_l5, w64 (show -9223372036854775808 ≤ ((((gen j).1.length : Nat) : Int) - 1) by omega) (by omega)]
   rw [if_pos ⟨by omega, by omega⟩, show ((((gen j).1.length : Nat) : Int) - 1) = (((gen j).1.length - 1 : Nat) : Int) by omega, Int.toNat_natCast, Nat.zero_add, hlast, decide_eq_true (by omega)]
   simp only [cond_true]
   rw [if_pos ⟨by omega, by omega, by omega⟩, if_pos (by omega)]
   simp only [List.drop_zero, Nat.zero_add, Int.toNat_natCast]
   rw [List.take_of_length_le (by rw [List.length_drop]; omega)]
   have hlen : ((((gen j).1.length - (gen j).2 : Nat)) : Int) = ((((gen j).1.drop (gen j).2).length : Nat) : Int) := by rw [List.length_drop]
   rw [hlen, impl_words_in (gen j).1 ((gen j).1.drop (gen j).2) _ _ (fun w hw => by have := f3 w hw; omega) (by rw [List.length_drop]; omega) (by omega)]
   simp only [Option.bind_some, if_true]
   exact ih (j + 1) (by omega)
 have := key n.toNat 0 (by omega)
 rw [List.drop_zero, show ((n, [emp], (0 : Int), ()) : Int × List ByteArray × Int × Unit) = (n, (gen 0).1, ((gen 0).2 : Int), ()) from rfl, this]
 rfl
theorem impl_ShortWords_no {n : Int} (h : ¬ (0 ≤ n ∧ n ≤ 7)) : impl_ShortWords n = some ([], false) := by
 simp only [impl_ShortWords]
 by_cases h0 : n < 0
 ·simp only [decide_eq_true h0, cond_true]
 ·simp only [decide_eq_false h0, decide_eq_true (show n > 7 by omega), cond_true, cond_false]
/-- a word of the two letters -/
def letterP (w : ByteArray) (i : Nat) : Bool := ((((w.data.getD i 0).toNat : Nat) : Int) == 97) || ((((w.data.getD i 0).toNat : Nat) : Int) == 98)
def wordOk (w : ByteArray) : Bool := (List.range w.size).all (letterP w) && decide (w.size ≤ 1000)
theorem impl_WordValid_is {w : ByteArray} (hw : w.size ≤ 9223372036854775807) : impl_WordValid w = some (wordOk w) := by
 simp only [impl_WordValid]
 have := loop_all (f := impl_WordValid_l2) (fun i => (w, (w.size : Int), (i : Int), ())) w.size (letterP w) (.inl (false, ())) (.inr (w, ())) (fun i hi => by
  simp only [impl_WordValid_l2, lt_t hi, cond_true, if_pos (in_t hi), Int.toNat_natCast, w64_succ hi hw, letterP, bne]
  rcases Bool.eq_false_or_eq_true ((((w.data.getD i 0).toNat : Nat) : Int) == 97) with a | a <;> rcases Bool.eq_false_or_eq_true ((((w.data.getD i 0).toNat : Nat) : Int) == 98) with b | b <;> simp only [a, b] <;> rfl) (by simp only [impl_WordValid_l2, lt_f]; rfl)
 rw [show ((0 : Int)) = ((0 : Nat) : Int) from rfl, this]
 unfold wordOk
 cases (List.range w.size).all (letterP w) with
 | true =>
  simp only [if_true, Option.bind_some, Bool.true_and]
  congr 1
  rw [Bool.eq_iff_iff, decide_eq_true_eq, decide_eq_true_eq]
  omega
 | false => rfl
theorem AB.ok {w : ByteArray} (h : AB w) (hs : w.size ≤ 1000) : wordOk w = true := by
 unfold wordOk
 rw [Bool.and_eq_true]
 refine ⟨List.all_eq_true.2 fun i hi => ?_, decide_eq_true hs⟩
 have hi := List.mem_range.1 hi
 have hb := h (w.data.getD i 0) (by
  have hi' : i < w.data.size := hi
  rw [Array.getD_eq_getD_getElem?, Array.getElem?_eq_getElem hi']
  exact Array.getElem_mem_toList hi')
 unfold letterP
 rcases hb with hb | hb <;> rw [hb] <;> rfl
end Go.Proofs.Ytogigagfgkfkhaa
