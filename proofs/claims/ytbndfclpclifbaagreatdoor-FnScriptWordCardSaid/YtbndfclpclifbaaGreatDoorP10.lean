import Derived.Test.YtbndfclpclifbaaGreatDoorP0
set_option linter.unusedVariables false
set_option linter.unusedSimpArgs false
/- Comparisons of two automata over the short words: both sides tell the same. -/
namespace Go.Proofs.YtbndfclpclifbaaGreatDoor
open Go Go.Proofs.YtbndfclpclifbaaGreatDoor.Am
/-- the cost of a word -/
noncomputable def cst (a : Aut) (w : ByteArray) : Int := (impl_CostOf a w).getD (-1)
theorem cst_isI {a : Aut} (hs : Small a) (ha : autOk a = true) {w : ByteArray} (hw : wordOk w = true) : impl_CostOf a w = some (cst a w) ∧ CostIs a (bytes w) (cst a w) := by
 obtain ⟨r, h2, h3⟩ := impl_CostOf_is hs ha hw
 have : cst a w = r := by unfold cst; rw [h2]; rfl
 rw [this]
 exact ⟨h2, h3⟩
theorem small_len {a : Aut} (hs : Small a) : a.2.1.length ≤ 9223372036854775807 ∧ a.2.2.1.length ≤ 9223372036854775807 := ⟨by have := hs.1; omega, by have := hs.2.1; omega⟩
def shortN (n : Int) : Bool := decide (0 ≤ n ∧ n ≤ 7)
/-- the words and whether they are asked rightly -/
noncomputable def words (n : Int) : List ByteArray := if shortN n = true then (gen n.toNat).1 else []
/-- a loop that looks for an index -/
theorem loop_find {σ ρ : Type} {f : σ → Option (σ ⊕ ρ)} (st : Nat → σ) (n : Nat) (p : Nat → Bool) (out : Nat → ρ) (last : ρ) (hs : ∀ i, i < n → f (st i) = some (if p i = true then .inr (out i) else .inl (st (i + 1)))) (he : f (st n) = some (.inr last)) :
  loopF f (st 0) = some (match (List.range n).find? p with | some i => out i | none => last) := by
 have key : ∀ k i, i + k = n → loopF f (st i) = some (match (List.range' i k).find? p with | some i => out i | none => last) := by
  intro k
  induction k with
  | zero =>
   intro i hi
   rw [loopF_eq]
   obtain rfl : i = n := by omega
   rw [he]
   rfl
  | succ k ih =>
   intro i hi
   rw [loopF_eq, hs i (by omega)]
   rw [List.range'_succ, List.find?_cons]
   cases hp : p i with
   | true => simp
   | false =>
    simp only [Bool.false_eq_true, if_false, Option.bind_some]
    exact ih (i + 1) (by omega)
 rw [List.range_eq_range']
 exact key n 0 (by omega)
section two
variable {a b : Aut} (sa : Small a) (sb : Small b) (n : Int)
noncomputable abbrev wd (n : Int) (i : Nat) : ByteArray := (words n).getD i be0
include sa sb
end two
end Go.Proofs.YtbndfclpclifbaaGreatDoor

/- The first word that costs more, and the same costs. -/
namespace Go.Proofs.YtbndfclpclifbaaGreatDoor
open Go Go.Proofs.YtbndfclpclifbaaGreatDoor.Am
end Go.Proofs.YtbndfclpclifbaaGreatDoor

/- Factors of words: how many a word is made of. -/
namespace Go.Proofs.YtbndfclpclifbaaGreatDoor
open Go Go.Proofs.YtbndfclpclifbaaGreatDoor.Am
theorem bytes_extract (w : ByteArray) (i j : Nat) : bytes (w.extract i j) = ((bytes w).drop i).take (j - i) := by
 show (w.extract i j).data.toList = _
 rw [ByteArray.data_extract, Array.toList_extract, List.extract_eq_take_drop]
theorem bytes_inj {w : ByteArray} : (⟨(bytes w).toArray⟩ : ByteArray) = w := by
 cases w; simp
theorem wordOk_AB {w : ByteArray} (h : wordOk w = true) : AB w := by
 intro b hb
 obtain ⟨i, hi, rfl⟩ := List.getElem_of_mem hb
 have hi' : i < w.size := by rw [← bytes_len]; exact hi
 have := letter_is h hi'
 rw [Array.getD_eq_getD_getElem?, Array.getElem?_eq_getElem (by exact hi')] at this
 exact this
theorem wordOk_extract {w : ByteArray} (h : wordOk w = true) (i j : Nat) : wordOk (w.extract i j) = true := by
 refine AB.ok (fun b hb => wordOk_AB h b ?_) ?_
 ·have e : (w.extract i j).data.toList = ((bytes w).drop i).take (j - i) := bytes_extract w i j
  rw [e] at hb
  exact List.mem_of_mem_drop (List.mem_of_mem_take hb)
 ·have := wordOk_size h
  rw [← bytes_len, bytes_extract, List.length_take, List.length_drop, bytes_len]
  omega
/-- the cost of a list of letters -/
noncomputable def cl (a : Aut) (ws : List UInt8) : Int := cst a ⟨ws.toArray⟩
theorem cst_cl (a : Aut) (w : ByteArray) : cst a w = cl a (bytes w) := by unfold cl; rw [bytes_inj]
noncomputable def acc (a : Aut) (ws : List UInt8) : Bool := decide (cl a ws < Nv)
def Fac (a : Aut) (fs : List (List UInt8)) : Prop := ∀ f ∈ fs, f ≠ [] ∧ acc a f = true
/-- the least number of factors -/
def CntIs (a : Aut) (ws : List UInt8) (r : Int) : Prop := (0 ≤ r ∧ r ≤ Nv) ∧ ∀ z, z ≤ r ↔ z ≤ Nv ∧ ∀ fs, Fac a fs → fs.flatten = ws → z ≤ (fs.length : Int)
theorem CntIs.same {a : Aut} {ws : List UInt8} {r r' : Int} (h : CntIs a ws r) (h' : CntIs a ws r') : r = r' := eq_of_le_iff fun z => (h.2 z).trans (h'.2 z).symm
theorem Fac.nil {a : Aut} {fs : List (List UInt8)} (h : Fac a fs) (hf : fs.flatten = []) : fs = [] := by
 cases fs with
 | nil => rfl
 | cons f fs =>
  rw [List.flatten_cons, List.append_eq_nil_iff] at hf
  exact absurd hf.1 (h f List.mem_cons_self).1
theorem CntIs.nil (a : Aut) : CntIs a [] 0 := by
 refine ⟨⟨by decide, by decide⟩, fun z => ⟨fun h => ⟨by simp only [Nv]; omega, fun fs hf he => ?_⟩, fun h => ?_⟩⟩
 ·omega
 ·exact h.2 [] (fun f hf => by cases hf) rfl
/-- a last factor -/
theorem CntIs.last {a : Aut} {ws : List UInt8} {e : Nat} (he : 0 < e) (hle : e ≤ ws.length) {o : List Int} (ho : ∀ t, t < e → CntIs a (ws.take t) (o.getD t 0)) {r : Int} (h0 : 0 ≤ r ∧ r ≤ Nv)
  (hr : ∀ z, z ≤ r ↔ z ≤ Nv ∧ ∀ t, t < e → acc a ((ws.drop t).take (e - t)) = true → z ≤ o.getD t 0 + 1) : CntIs a (ws.take e) r := by
 refine ⟨h0, fun z => ?_⟩
 rw [hr z]
 refine and_congr_right fun hz => ?_
 constructor
 ·intro h fs hf hfl
  rcases List.eq_nil_or_concat fs with rfl | ⟨gs, g, rfl⟩
  ·exfalso
   rw [List.flatten_nil] at hfl
   have := congrArg List.length hfl
   rw [List.length_nil, List.length_take] at this
   omega
  ·rw [List.concat_eq_append] at *
   have hg := hf g (List.mem_append_right _ (List.mem_singleton.2 rfl))
   have hfl' : gs.flatten ++ g = ws.take e := by rw [← hfl]; simp
   have hlen := congrArg List.length hfl'
   rw [List.length_append, List.length_take] at hlen
   have hgp : 0 < g.length := List.length_pos_iff.2 hg.1
   have ht : gs.flatten.length < e := by omega
   have e1 : gs.flatten = ws.take gs.flatten.length := by
    have := congrArg (List.take gs.flatten.length) hfl'
    rw [List.take_left, List.take_take, Nat.min_eq_left (by omega)] at this
    exact this
   have e2 : g = (ws.drop gs.flatten.length).take (e - gs.flatten.length) := by
    have := congrArg (List.drop gs.flatten.length) hfl'
    rw [List.drop_left, List.drop_take] at this
    exact this
   have h1 := h _ ht (by rw [← e2]; exact hg.2)
   have h2 := ((ho _ ht).2 (z - 1)).1 (by omega)
   have h3 := h2.2 gs (fun f hf' => hf f (List.mem_append_left _ hf')) e1
   rw [List.length_append, List.length_singleton]
   omega
 ·intro h t ht hacc
  have : z - 1 ≤ o.getD t 0 := by
   rw [(ho t ht).2]
   refine ⟨by omega, fun fs hf hfl => ?_⟩
   have := h (fs ++ [(ws.drop t).take (e - t)]) (fun f hf' => ?_) ?_
   ·rw [List.length_append, List.length_singleton] at this; omega
   ·rcases List.mem_append.1 hf' with hf' | hf'
    ·exact hf f hf'
    ·rw [List.mem_singleton] at hf'
     subst hf'
     refine ⟨fun hn => ?_, hacc⟩
     have := congrArg List.length hn
     rw [List.length_take, List.length_drop, List.length_nil] at this
     omega
   ·rw [List.flatten_append, hfl]
    simp only [List.flatten_cons, List.flatten_nil, List.append_nil]
    have := List.take_append_drop t (ws.take e)
    rw [List.take_take, Nat.min_eq_left (by omega), List.drop_take] at this
    exact this
  omega
/-- a first factor -/
theorem CntIs.first {a : Aut} {ws : List UInt8} (hne : ws ≠ []) {o : Nat → Int} (ho : ∀ t, 0 < t → t ≤ ws.length → CntIs a (ws.drop t) (o t)) {r : Int} (h0 : 0 ≤ r ∧ r ≤ Nv)
  (hr : ∀ z, z ≤ r ↔ z ≤ Nv ∧ ∀ t, 0 < t → t ≤ ws.length → acc a (ws.take t) = true → z ≤ o t + 1) : CntIs a ws r := by
 refine ⟨h0, fun z => ?_⟩
 rw [hr z]
 refine and_congr_right fun hz => ?_
 constructor
 ·intro h fs hf hfl
  cases fs with
  | nil => exact absurd hfl.symm hne
  | cons g gs =>
   have hg := hf g List.mem_cons_self
   rw [List.flatten_cons] at hfl
   have hlen := congrArg List.length hfl
   rw [List.length_append] at hlen
   have hgp : 0 < g.length := List.length_pos_iff.2 hg.1
   have e1 : g = ws.take g.length := by rw [← hfl, List.take_left]
   have e2 : gs.flatten = ws.drop g.length := by rw [← hfl, List.drop_left]
   have h1 := h g.length hgp (by omega) (by rw [← e1]; exact hg.2)
   have h2 := ((ho g.length hgp (by omega)).2 (z - 1)).1 (by omega)
   have h3 := h2.2 gs (fun f hf' => hf f (List.mem_cons_of_mem _ hf')) e2
   rw [List.length_cons]
   omega
 ·intro h t ht hle hacc
  have : z - 1 ≤ o t := by
   rw [(ho t ht hle).2]
   refine ⟨by omega, fun fs hf hfl => ?_⟩
   have := h (ws.take t :: fs) (fun f hf' => ?_) ?_
   ·rw [List.length_cons] at this; omega
   ·rcases List.mem_cons.1 hf' with rfl | hf'
    ·refine ⟨fun hn => ?_, hacc⟩
     have := congrArg List.length hn
     rw [List.length_take, List.length_nil] at this
     omega
    ·exact hf f hf'
   ·rw [List.flatten_cons, hfl, List.take_append_drop]
  omega
/-- a least one is had -/
theorem CntIs.had {a : Aut} {ws : List UInt8} {r : Int} (h : CntIs a ws r) (hr : r < Nv) : ∃ fs, Fac a fs ∧ fs.flatten = ws ∧ (fs.length : Int) = r := by
 have h1 : ¬ (r + 1 ≤ r) := by omega
 rw [h.2] at h1
 have h2 : ∃ fs, Fac a fs ∧ fs.flatten = ws ∧ ¬ (r + 1 ≤ (fs.length : Int)) := by
  apply Classical.byContradiction
  intro hn
  refine h1 ⟨by omega, fun fs hf he => ?_⟩
  apply Classical.byContradiction
  intro hlt
  exact hn ⟨fs, hf, he, hlt⟩
 obtain ⟨fs, hf, he, hlt⟩ := h2
 have := ((h.2 r).1 (Int.le_refl _)).2 fs hf he
 exact ⟨fs, hf, he, by omega⟩
section valid
variable {a : Aut} (sa : Small a) (ha : autOk a = true)
include sa ha
theorem cost_atI {w : ByteArray} (hw : wordOk w = true) (i j : Nat) : impl_CostOf a (w.extract i j) = some (cl a (((bytes w).drop i).take (j - i))) := by
 have := cst_isI sa ha (wordOk_extract hw i j)
 rw [cst_cl, bytes_extract] at this
 exact this.1
end valid
end Go.Proofs.YtbndfclpclifbaaGreatDoor

/- The number of factors: both sides tell the same; the hardest word. -/
namespace Go.Proofs.YtbndfclpclifbaaGreatDoor
open Go Go.Proofs.YtbndfclpclifbaaGreatDoor.Am
theorem spec_WordValid_is {w : ByteArray} (hw : w.size ≤ 9223372036854775807) : spec_WordValid w = some (wordOk w) := by
 simp only [spec_WordValid]
 have := loop_all (f := spec_WordValid_l2) (fun i => (w, (w.size : Int), (i : Int), ())) w.size (letterP w) (.inl (false, ())) (.inr (w, ())) (fun i hi => by
  simp only [spec_WordValid_l2, lt_t hi, cond_true, if_pos (in_t hi), Int.toNat_natCast, w64_succ hi hw, letterP, bne]
  rcases Bool.eq_false_or_eq_true ((((w.data.getD i 0).toNat : Nat) : Int) == 97) with a | a <;> rcases Bool.eq_false_or_eq_true ((((w.data.getD i 0).toNat : Nat) : Int) == 98) with b | b <;> simp only [a, b] <;> rfl) (by simp only [spec_WordValid_l2, lt_f]; rfl)
 rw [show ((0 : Int)) = ((0 : Nat) : Int) from rfl, this]
 unfold wordOk
 cases (List.range w.size).all (letterP w) with
 | true =>
  simp only [if_true, Option.bind_some, Bool.true_and]
  congr 1
  rw [Bool.eq_iff_iff, decide_eq_true_eq, decide_eq_true_eq]
  omega
 | false => rfl
section valid
variable {a : Aut} (sa : Small a) (ha : autOk a = true)
include sa ha
theorem factors_in {w : ByteArray} (hw : wordOk w = true) (h40 : w.size ≤ 40) {o : List Int} {i : Nat} (hi : i < w.size) (hol : o.length = w.size + 1) (hN : o.getD i 0 = Nv) (ho : ∀ t, i < t → t ≤ w.size → CntIs a ((bytes w).drop t) (o.getD t 0)) :
  ∃ o', loopF impl_factors_l7 (w, (a.1, a.2.1, a.2.2.1, a.2.2.2, ()), o, (i : Int), ((i + 1 : Nat) : Int), ()) = some (w, (a.1, a.2.1, a.2.2.1, a.2.2.2, ()), o', (i : Int), ()) ∧ o'.length = w.size + 1 ∧ (∀ t, t ≠ i → o'.getD t 0 = o.getD t 0) ∧ CntIs a ((bytes w).drop i) (o'.getD i 0) := by
 have hc := cost_atI sa ha hw
 obtain ⟨r, g1, g2⟩ := loop_rel (f := impl_factors_l7) (w.size - i) (fun m (u : List Int) => (w, (a.1, a.2.1, a.2.2.1, a.2.2.2, ()), u, (i : Int), ((i + 1 + m : Nat) : Int), ())) (fun u => (w, (a.1, a.2.1, a.2.2.1, a.2.2.2, ()), u, (i : Int), ()))
  (fun m u => u.length = w.size + 1 ∧ (∀ t, t ≠ i → u.getD t 0 = o.getD t 0) ∧ (0 ≤ u.getD i 0 ∧ u.getD i 0 ≤ Nv) ∧ ∀ z, z ≤ u.getD i 0 ↔ z ≤ Nv ∧ ∀ t, 0 < t → t ≤ m → acc a (((bytes w).drop i).take t) = true → z ≤ o.getD (i + t) 0 + 1)
  (fun m u hm hu => by
   obtain ⟨u1, u2, u3, u4⟩ := hu
   have ht : i + 1 + m ≤ w.size := by omega
   have hok := (ho (i + 1 + m) (by omega) ht).1
   have eo : u.getD (i + 1 + m) 0 = o.getD (i + 1 + m) 0 := u2 _ (by omega)
   have hslice : ((bytes w).drop i).take (i + 1 + m - i) = ((bytes w).drop i).take (m + 1) := by congr 1; omega
   have hci := hc i (i + 1 + m)
   rw [hslice] at hci
   by_cases hlt : o.getD (i + 1 + m) 0 < Nv
   ·cases hacc : acc a (((bytes w).drop i).take (m + 1)) with
    | true =>
     have hd : decide (cl a (((bytes w).drop i).take (m + 1)) < (1000000 : Int)) = true := hacc
     refine ⟨u.set i (if o.getD (i + 1 + m) 0 + 1 < u.getD i 0 then o.getD (i + 1 + m) 0 + 1 else u.getD i 0), ?_, by rw [List.length_set]; exact u1, fun t ht' => ?_, ?_, fun z => ?_⟩
     ·simp only [impl_factors_l7, Int.toNat_natCast, Nat.zero_add, List.drop_zero, List.take_length, eo]
      rw [decide_eq_true (show ((i + 1 + m : Nat) : Int) ≤ (w.size : Int) by omega)]
      simp only [cond_true]
      rw [if_pos ⟨by omega, by rw [u1]; omega⟩, decide_eq_true (show o.getD (i + 1 + m) 0 < 1000000 from hlt)]
      simp only [cond_true]
      rw [if_pos ⟨by omega, by omega, by omega⟩, show ((a.1, a.2.1, a.2.2.1, a.2.2.2) : Aut) = a from rfl, hci]
      simp only [Option.bind_some, hd, cond_true]
      rw [if_pos ⟨by omega, by rw [u1]; omega⟩, if_pos ⟨by omega, by rw [u1]; omega⟩, if_pos ⟨by omega, by rw [u1]; omega⟩]
      simp only [Nv] at hlt hok
      rw [w64 (show -9223372036854775808 ≤ o.getD (i + 1 + m) 0 + 1 by omega) (by omega), w64 (show -9223372036854775808 ≤ ((i + 1 + m : Nat) : Int) + 1 by omega) (by omega), List.take_of_length_le (by rw [List.length_set]; exact Nat.le_refl _)]
      rfl
     ·rw [getD_set (by omega), if_neg (Ne.symm ht')]; exact u2 t ht'
     ·rw [getD_set (by omega), if_pos rfl]
      simp only [Nv] at *
      split <;> omega
     ·rw [getD_set (by omega), if_pos rfl, min_is, u4 z]
      constructor
      ·rintro ⟨⟨h1, h2⟩, h3⟩
       refine ⟨h1, fun t h0 hle hac => ?_⟩
       by_cases e : t = m + 1
       ·subst e; rw [show i + (m + 1) = i + 1 + m by omega]; exact h3
       ·exact h2 t h0 (by omega) hac
      ·rintro ⟨h1, h2⟩
       refine ⟨⟨h1, fun t h0 hle hac => h2 t h0 (by omega) hac⟩, ?_⟩
       have := h2 (m + 1) (by omega) (by omega) hacc
       rw [show i + (m + 1) = i + 1 + m by omega] at this
       exact this
    | false =>
     have hd : decide (cl a (((bytes w).drop i).take (m + 1)) < (1000000 : Int)) = false := hacc
     refine ⟨u, ?_, u1, u2, u3, fun z => ?_⟩
     ·simp only [impl_factors_l7, Int.toNat_natCast, Nat.zero_add, List.drop_zero, List.take_length, eo]
      rw [decide_eq_true (show ((i + 1 + m : Nat) : Int) ≤ (w.size : Int) by omega)]
      simp only [cond_true]
      rw [if_pos ⟨by omega, by rw [u1]; omega⟩, decide_eq_true (show o.getD (i + 1 + m) 0 < 1000000 from hlt)]
      simp only [cond_true]
      rw [if_pos ⟨by omega, by omega, by omega⟩, show ((a.1, a.2.1, a.2.2.1, a.2.2.2) : Aut) = a from rfl, hci]
      simp only [Option.bind_some, hd, cond_false]
      rw [w64 (show -9223372036854775808 ≤ ((i + 1 + m : Nat) : Int) + 1 by omega) (by omega)]
      rfl
     ·rw [u4 z]
      refine and_congr_right fun _ => ⟨fun h t h0 hle hac => ?_, fun h t h0 hle hac => h t h0 (by omega) hac⟩
      by_cases e : t = m + 1
      ·subst e; rw [hacc] at hac; cases hac
      ·exact h t h0 (by omega) hac
   ·refine ⟨u, ?_, u1, u2, u3, fun z => ?_⟩
    ·simp only [impl_factors_l7, Int.toNat_natCast, Nat.zero_add, List.drop_zero, List.take_length, eo]
     rw [decide_eq_true (show ((i + 1 + m : Nat) : Int) ≤ (w.size : Int) by omega)]
     simp only [cond_true]
     rw [if_pos ⟨by omega, by rw [u1]; omega⟩, decide_eq_false (show ¬ o.getD (i + 1 + m) 0 < 1000000 from hlt)]
     simp only [cond_false]
     rw [w64 (show -9223372036854775808 ≤ ((i + 1 + m : Nat) : Int) + 1 by omega) (by omega)]
     rfl
    ·rw [u4 z]
     refine and_congr_right fun hz => ⟨fun h t h0 hle hac => ?_, fun h t h0 hle hac => h t h0 (by omega) hac⟩
     by_cases e : t = m + 1
     ·subst e
      rw [show i + (m + 1) = i + 1 + m by omega]
      omega
     ·exact h t h0 (by omega) hac)
  (fun u hu => by
   simp only [impl_factors_l7, List.drop_zero, List.take_length]
   rw [decide_eq_false (show ¬ ((i + 1 + (w.size - i) : Nat) : Int) ≤ (w.size : Int) by omega)]
   rfl)
  o ⟨hol, fun _ _ => rfl, by rw [hN]; exact ⟨by decide, by decide⟩, fun z => by rw [hN]; exact ⟨fun h => ⟨h, fun t h0 hle => by omega⟩, fun h => h.1⟩⟩
 refine ⟨r, g1, g2.1, g2.2.1, ?_⟩
 refine CntIs.first (o := fun t => o.getD (i + t) 0) (fun hn => ?_) (fun t h0 hle => ?_) g2.2.2.1 (fun z => ?_)
 ·have := congrArg List.length hn
  rw [List.length_drop, bytes_len, List.length_nil] at this
  omega
 ·rw [List.drop_drop]
  rw [List.length_drop, bytes_len] at hle
  exact ho (i + t) (by omega) (by omega)
 ·rw [g2.2.2.2 z, List.length_drop, bytes_len]
theorem factors_is {w : ByteArray} (hw : wordOk w = true) (h40 : w.size ≤ 40) : ∃ o, impl_factors a w = some o ∧ o.length = w.size + 1 ∧ ∀ t, t ≤ w.size → CntIs a ((bytes w).drop t) (o.getD t 0) := by
 have hin := @factors_in a sa ha w hw h40
 obtain ⟨x, S, F, l⟩ := a
 have hrep := Repeat_is (1000000 : Int) (n := ((w.size + 1 : Nat) : Int)) (by omega) (by omega)
 rw [Int.toNat_natCast] at hrep
 simp only [impl_factors, List.drop_zero, show List.take 1 [(1000000 : Int)] = [1000000] from rfl, w64 (show -9223372036854775808 ≤ (w.size : Int) + 1 by omega) (by omega)]
 rw [show ((w.size : Int) + 1) = ((w.size + 1 : Nat) : Int) by omega, hrep]
 simp only [Option.bind_some, Int.toNat_natCast, Nat.zero_add]
 rw [if_pos ⟨by omega, by rw [List.length_replicate]; omega⟩, List.take_of_length_le (by rw [List.length_set]; exact Nat.le_refl _), w64 (show -9223372036854775808 ≤ (w.size : Int) - 1 by omega) (by omega)]
 obtain ⟨r, g1, g2⟩ := loop_rel (f := impl_factors_l4) w.size (fun j (o : List Int) => (w, (x, S, F, l, ()), o, (w.size : Int) - 1 - (j : Int), ())) (fun o => (o, ()))
  (fun j o => o.length = w.size + 1 ∧ (∀ t, t < w.size - j → o.getD t 0 = Nv) ∧ ∀ t, w.size - j ≤ t → t ≤ w.size → CntIs (x, S, F, l) ((bytes w).drop t) (o.getD t 0))
  (fun j o hj ho => by
   obtain ⟨h1, h2, h3⟩ := ho
   obtain ⟨o', f1, f2, f3, f4⟩ := hin (o := o) (i := w.size - 1 - j) (by omega) h1 (h2 _ (by omega)) (fun t ht hle => h3 t (by omega) hle)
   have f1 : loopF impl_factors_l7 (w, (x, S, F, l, ()), o, ((w.size - 1 - j : Nat) : Int), ((w.size - 1 - j + 1 : Nat) : Int), ()) = some (w, (x, S, F, l, ()), o', ((w.size - 1 - j : Nat) : Int), ()) := f1
   refine ⟨o', ?_, f2, fun t ht => ?_, fun t ht hle => ?_⟩
   ·simp only [impl_factors_l4, List.drop_zero, List.take_length]
    rw [show (w.size : Int) - 1 - (j : Int) = ((w.size - 1 - j : Nat) : Int) by omega, decide_eq_true (by omega), w64_succ (show w.size - 1 - j < 41 by omega) (by omega), f1]
    simp only [cond_true, Option.bind_some, List.take_length]
    rw [w64 (show -9223372036854775808 ≤ ((w.size - 1 - j : Nat) : Int) - 1 by omega) (by omega), show (((w.size - 1 - j : Nat) : Int) - 1) = (w.size : Int) - 1 - ((j + 1 : Nat) : Int) by omega]
   ·rw [f3 t (by omega)]; exact h2 t (by omega)
   ·by_cases e : t = w.size - 1 - j
    ·subst e; exact f4
    ·rw [f3 t e]; exact h3 t (by omega) hle)
  (fun o ho => by
   simp only [impl_factors_l4, List.drop_zero, List.take_length]
   rw [decide_eq_false (by omega)]
   rfl)
  ((List.replicate (w.size + 1) 1000000).set w.size 0) ⟨by simp, fun t ht => by
    rw [getD_set (by simp), if_neg (by omega), List.getD_eq_getElem?_getD, List.getElem?_eq_getElem (by simp; omega)]
    simp, fun t ht hle => by
    obtain rfl : t = w.size := by omega
    rw [getD_set (by simp), if_pos rfl, List.drop_of_length_le (by rw [bytes_len]; omega)]
    exact CntIs.nil _⟩
 have g1 : loopF impl_factors_l4 (w, (x, S, F, l, ()), (List.replicate (w.size + 1) (1000000 : Int)).set w.size 0, (w.size : Int) - 1 - ((0 : Nat) : Int), ()) = _ := g1
 rw [show (w.size : Int) - 1 - ((0 : Nat) : Int) = (w.size : Int) - 1 by omega] at g1
 rw [g1]
 exact ⟨r, by simp only [Option.bind_some, List.take_length], g2.1, fun t hle => g2.2.2 t (by omega) hle⟩
end valid
theorem impl_FactorsOf_isI {a : Aut} (sa : Small a) (ha : autOk a = true) {w : ByteArray} (hw : wordOk w = true) (h40 : w.size ≤ 40) : ∃ r, impl_FactorsOf a w = some r ∧ CntIs a (bytes w) r := by
 have h1 := impl_AutomatonValid_is a (small_len sa).1 (small_len sa).2
 have h2 := impl_WordValid_is (w := w) (by omega)
 have hf := @factors_is a sa
 obtain ⟨x, S, F, l⟩ := a
 obtain ⟨o, o1, o2, o3⟩ := hf ha hw h40
 have o5 := o3 0 (Nat.zero_le _)
 rw [List.drop_zero] at o5
 refine ⟨_, ?_, o5⟩
 simp only [impl_FactorsOf, h1, h2, Option.bind_some, ha, hw, decide_eq_false (show ¬ (w.size : Int) > 40 by omega), Bool.not_true, cond_false, o1]
 rw [if_pos ⟨by omega, by rw [o2]; omega⟩]
 rfl
end Go.Proofs.YtbndfclpclifbaaGreatDoor

/- Splits of words, the spec's way; the number of factors and the hardest word: both sides tell the same. -/
namespace Go.Proofs.YtbndfclpclifbaaGreatDoor
open Go Go.Proofs.YtbndfclpclifbaaGreatDoor.Am
end Go.Proofs.YtbndfclpclifbaaGreatDoor

/- The hardest word and the most factors; the laws' frames. -/
namespace Go.Proofs.YtbndfclpclifbaaGreatDoor
open Go Go.Proofs.YtbndfclpclifbaaGreatDoor.Am
end Go.Proofs.YtbndfclpclifbaaGreatDoor

/- Marks: what is written into lists and read back. -/
namespace Go.Proofs.YtbndfclpclifbaaGreatDoor
open Go Go.Proofs.YtbndfclpclifbaaGreatDoor.Am
end Go.Proofs.YtbndfclpclifbaaGreatDoor

/- Tables of costs and what they count; their laws' frames. -/
namespace Go.Proofs.YtbndfclpclifbaaGreatDoor
open Go Go.Proofs.YtbndfclpclifbaaGreatDoor.Am
/-! ### counts -/
def upTo (p : List Int) (c : Int) : List Int := p ++ List.replicate (c.toNat + 1 - p.length) 0
def cnt (p : List Int) (c : Int) : List Int := if c = 1000000 then p else (upTo p c).set c.toNat (IntKind.wrap .i64 ((upTo p c).getD c.toNat 0 + 1))
end Go.Proofs.YtbndfclpclifbaaGreatDoor

/- The least costs of each number of letters. -/
namespace Go.Proofs.YtbndfclpclifbaaGreatDoor
open Go Go.Proofs.YtbndfclpclifbaaGreatDoor.Am
/-! ### all words are there -/
/-! ### runs of any word -/
/-! ### byLength -/
end Go.Proofs.YtbndfclpclifbaaGreatDoor

/- Marks of texts; free words, the greatest costs, splits; their laws' frames. -/
namespace Go.Proofs.YtbndfclpclifbaaGreatDoor
open Go Go.Proofs.YtbndfclpclifbaaGreatDoor.Am
/-! ### lists of texts -/
/-! ### free words -/
/-! ### the greatest costs -/
end Go.Proofs.YtbndfclpclifbaaGreatDoor

/- Splits by the program; the laws of free words, greatest costs and splits. -/
namespace Go.Proofs.YtbndfclpclifbaaGreatDoor
open Go Go.Proofs.YtbndfclpclifbaaGreatDoor.Am
end Go.Proofs.YtbndfclpclifbaaGreatDoor
