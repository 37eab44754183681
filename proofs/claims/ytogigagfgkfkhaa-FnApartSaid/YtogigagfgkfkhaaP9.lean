/- The cost of a word, the program's way: from the end. -/
import Derived.Test.YtogigagfgkfkhaaP8
set_option linter.unusedVariables false
set_option linter.unusedSimpArgs false
namespace Go.Proofs.Ytogigagfgkfkhaa
open Go Go.Proofs.Ytogigagfgkfkhaa.Am
theorem extract_is {w : ByteArray} {i : Nat} (hi : i < w.size) : (w.extract i (i + 1)).toList = [w.data.getD i 0] := by
 have hi' : i < w.data.size := hi
 rw [toList_bytes, ByteArray.data_extract, Array.toList_extract]
 have h := bytes_at hi
 obtain ⟨h1, h2⟩ := List.getElem?_eq_some_iff.1 h
 have h2 : w.data.toList[i]'h1 = w.data.getD i 0 := h2
 have e : List.drop i w.data.toList = w.data.toList[i]'h1 :: List.drop (i + 1) w.data.toList := List.drop_eq_getElem_cons h1
 rw [← h2]
 simp only [List.extract_eq_take_drop, Nat.add_sub_cancel_left, e, List.take_succ_cons, List.take_zero]
/-- least costs of runs to a final -/
def VecIs (n : Nat) (F : List Int) (l : List Stp) (ws : List UInt8) (v : List Int) : Prop :=
 Rng v n ∧ ∀ i, i < n → ∀ z, z ≤ v.getD i 0 ↔ z ≤ Nv ∧ ∀ k ∈ F, ∀ c, Run l ws (i : Int) k c → z ≤ c
theorem toEnd_last {a : Aut} {n : Nat} (ha : AutIs a n) (hF : a.2.2.1.length ≤ 1048576) (w : ByteArray) :
  ∃ v, loopF impl_toEnd_l3 (w, ((n : Int), a.2.1, a.2.2.1, a.2.2.2, ()), List.replicate n Nv, a.2.2.1, (a.2.2.1.length : Int), (0 : Int), ()) = some (w, ((n : Int), a.2.1, a.2.2.1, a.2.2.2, ()), v, ()) ∧ VecIs n a.2.2.1 a.2.2.2 [] v := by
 obtain ⟨x, S, F, l⟩ := a
 have hF : F.length ≤ 1048576 := hF
 have aF : ∀ q ∈ F, 0 ≤ q ∧ q ≤ (n : Int) - 1 := ha.F
 obtain ⟨v, g1, g2⟩ := loop_rel (f := impl_toEnd_l3) F.length (fun i (v : List Int) => (w, ((n : Int), S, F, l, ()), v, F, (F.length : Int), (i : Int), ())) (fun v => (w, ((n : Int), S, F, l, ()), v, ()))
  (fun i v => Rng v n ∧ ∀ j, j < n → ∀ z, z ≤ v.getD j 0 ↔ z ≤ Nv ∧ ∀ k ∈ F.take i, k = (j : Int) → z ≤ 0)
  (fun i v hi hv => by
   have hk := aF _ (List.getElem_mem hi)
   refine ⟨v.set F[i].toNat 0, ?_, hv.1.set _ ⟨by decide, by decide⟩, fun j hj z => ?_⟩
   ·simp only [impl_toEnd_l3, lt_t hi, cond_true, if_pos (in_t hi), Int.toNat_natCast, getD_mem hi, List.drop_zero, Nat.zero_add, w64_succ hi (show F.length ≤ 9223372036854775807 by omega)]
    rw [if_pos ⟨by omega, by rw [hv.1.1]; omega⟩, List.take_of_length_le (by rw [List.length_set]; exact Nat.le_refl _)]
   ·rw [getD_set (by rw [hv.1.1]; omega), take_snoc hi]
    simp only [List.mem_append, List.mem_singleton]
    by_cases e : F[i].toNat = j
    ·rw [if_pos e]
     constructor
     ·intro h; exact ⟨by simp only [Nv]; omega, fun _ _ _ => h⟩
     ·rintro ⟨_, h⟩; exact h _ (.inr rfl) (by omega)
    ·rw [if_neg e, hv.2 j hj z]
     refine and_congr_right fun _ => ⟨fun h k hk hkj => ?_, fun h k hk hkj => h k (.inl hk) hkj⟩
     rcases hk with hk | rfl
     ·exact h k hk hkj
     ·omega)
  (fun v hv => by simp only [impl_toEnd_l3, lt_f, cond_false, List.drop_zero, List.take_length])
  (List.replicate n Nv) ⟨⟨by simp, fun x hx => by rw [List.eq_of_mem_replicate hx]; exact ⟨by decide, by decide⟩⟩, fun j hj z => by
   rw [List.getD_eq_getElem?_getD, List.getElem?_eq_getElem (by simp; exact hj)]
   simp⟩
 refine ⟨v, g1, g2.1, fun i hi z => ?_⟩
 rw [g2.2 i hi z, List.take_length]
 simp only [Run]
 refine and_congr_right fun _ => ⟨fun h k hk c hc => ?_, fun h k hk hki => h k hk 0 ⟨hki.symm, rfl⟩⟩
 have := h k hk hc.1.symm
 omega
theorem toEnd_next {a : Aut} {n : Nat} (ha : AutIs a n) {w : ByteArray} (hw : w.size ≤ 1000) {i : Nat} (hi : i < w.size) {ws : List UInt8} {v : List Int} (hv : VecIs n a.2.2.1 a.2.2.2 ws v) (o : List (List Int)) :
  ∃ v', loopF impl_toEnd_l13 (w, ((n : Int), a.2.1, a.2.2.1, a.2.2.2, ()), v, o, (i : Int), List.replicate n Nv, a.2.2.2, (a.2.2.2.length : Int), (0 : Int), ()) = some (w, ((n : Int), a.2.1, a.2.2.1, a.2.2.2, ()), o, (i : Int), v', ()) ∧ VecIs n a.2.2.1 a.2.2.2 (w.data.getD i 0 :: ws) v' := by
 obtain ⟨x, S, F, l⟩ := a
 have hl : l.length ≤ 24 := ha.len
 have hst : ∀ s ∈ l, StepIs (n : Int) s := ha.steps
 have hn4 := ha.n4
 obtain ⟨v', g1, g2⟩ := loop_rel (f := impl_toEnd_l13) l.length (fun j (u : List Int) => (w, ((n : Int), S, F, l, ()), v, o, (i : Int), u, l, (l.length : Int), (j : Int), ())) (fun u => (w, ((n : Int), S, F, l, ()), o, (i : Int), u, ()))
  (fun j u => Rng u n ∧ ∀ q, q < n → ∀ z, z ≤ u.getD q 0 ↔ z ≤ Nv ∧ ∀ s ∈ l.take j, s.2.1.toList = [w.data.getD i 0] → s.1 = (q : Int) → z ≤ s.2.2.2 + v.getD s.2.2.1.toNat 0)
  (fun j u hj hu => by
   have hmem : l.getD j stp0 = l[j] := by rw [List.getD_eq_getElem?_getD, List.getElem?_eq_getElem hj]; rfl
   have hs := hst _ (List.getElem_mem hj)
   have e0 := hs.f0
   have e1 := hs.f1
   have e2 := hs.t0
   have e3 := hs.t1
   have e4 := hs.c0
   have e5 := hs.c1
   have hvt := hv.1.at (show l[j].2.2.1.toNat < n by omega)
   have hut := hu.1.at (show l[j].1.toNat < n by omega)
   simp only [Nv] at hvt hut
   cases hc : l[j].2.1.toList == [w.data.getD i 0] with
   | false =>
    refine ⟨u, ?_, hu.1, fun q hq z => ?_⟩
    ·simp only [impl_toEnd_l13, lt_t hj, cond_true, if_pos (in_t hj), Int.toNat_natCast, hmem, w64_succ hi (show w.size ≤ 9223372036854775807 by omega), w64_succ hj (show l.length ≤ 9223372036854775807 by omega), extract_is hi, hc, cond_false, List.drop_zero, List.take_length]
     rw [if_pos ⟨by omega, by omega, by omega⟩]
    ·rw [hu.2 q hq z, take_snoc hj]
     simp only [List.mem_append, List.mem_singleton]
     refine and_congr_right fun _ => ⟨fun h s hs h1 h2 => ?_, fun h s hs h1 h2 => h s (.inl hs) h1 h2⟩
     rcases hs with hs | rfl
     ·exact h s hs h1 h2
     ·rw [h1] at hc; simp at hc
   | true =>
    have hcc := eq_of_beq hc
    refine ⟨u.set l[j].1.toNat (if l[j].2.2.2 + v.getD l[j].2.2.1.toNat 0 < u.getD l[j].1.toNat 0 then l[j].2.2.2 + v.getD l[j].2.2.1.toNat 0 else u.getD l[j].1.toNat 0), ?_, hu.1.set _ (by simp only [Nv]; split <;> omega), fun q hq z => ?_⟩
    ·simp only [impl_toEnd_l13, lt_t hj, cond_true, if_pos (in_t hj), Int.toNat_natCast, hmem, w64_succ hi (show w.size ≤ 9223372036854775807 by omega), w64_succ hj (show l.length ≤ 9223372036854775807 by omega), extract_is hi, hc, List.drop_zero, List.take_length, Nat.zero_add, w64 (show -9223372036854775808 ≤ l[j].2.2.2 + v.getD l[j].2.2.1.toNat 0 by omega) (by omega)]
     rw [if_pos ⟨by omega, by omega, by omega⟩, if_pos ⟨by omega, by rw [hu.1.1]; omega⟩, if_pos ⟨by omega, by rw [hv.1.1]; omega⟩, if_pos ⟨by omega, by rw [hu.1.1]; omega⟩, List.take_of_length_le (by rw [List.length_set]; exact Nat.le_refl _)]
    ·rw [getD_set (by rw [hu.1.1]; omega), take_snoc hj]
     simp only [List.mem_append, List.mem_singleton]
     by_cases e : l[j].1.toNat = q
     ·subst e
      rw [if_pos rfl, min_is, hu.2 _ (by omega) z]
      constructor
      ·rintro ⟨⟨h1, h2⟩, h3⟩
       refine ⟨h1, fun s hs k1 k2 => ?_⟩
       rcases hs with hs | rfl
       ·exact h2 s hs k1 k2
       ·exact h3
      ·rintro ⟨h1, h2⟩
       exact ⟨⟨h1, fun s hs => h2 s (.inl hs)⟩, h2 _ (.inr rfl) hcc (by omega)⟩
     ·rw [if_neg e, hu.2 q hq z]
      refine and_congr_right fun _ => ⟨fun h s hs h1 h2 => ?_, fun h s hs h1 h2 => h s (.inl hs) h1 h2⟩
      rcases hs with hs | rfl
      ·exact h s hs h1 h2
      ·omega)
  (fun u hu => by simp only [impl_toEnd_l13, lt_f, cond_false, List.drop_zero, List.take_length])
  (List.replicate n Nv) ⟨⟨by simp, fun x hx => by rw [List.eq_of_mem_replicate hx]; exact ⟨by decide, by decide⟩⟩, fun j hj z => by
   rw [List.getD_eq_getElem?_getD, List.getElem?_eq_getElem (by simp; exact hj)]
   simp⟩
 refine ⟨v', g1, g2.1, fun q hq z => ?_⟩
 rw [g2.2 q hq z, List.take_length]
 simp only [Run]
 refine and_congr_right fun hz => ?_
 constructor
 ·rintro h k hk c ⟨s, h1, h2, h3, c', h4, rfl⟩
  have hs := hst s h1
  have q1 := hs.t0
  have q2 := hs.t1
  have q3 := hs.c0
  have := h s h1 h2 h3
  have := (hv.2 s.2.2.1.toNat (by omega) (z - s.2.2.2)).1 (by omega)
  have := this.2 k hk c' (by rw [show ((s.2.2.1.toNat : Nat) : Int) = s.2.2.1 by omega]; exact h4)
  omega
 ·intro h s h1 h2 h3
  have hs := hst s h1
  have q1 := hs.t0
  have q2 := hs.t1
  have q3 := hs.c0
  have : z - s.2.2.2 ≤ v.getD s.2.2.1.toNat 0 := by
   rw [hv.2 s.2.2.1.toNat (by omega)]
   refine ⟨by omega, fun k hk c hr => ?_⟩
   rw [show ((s.2.2.1.toNat : Nat) : Int) = s.2.2.1 by omega] at hr
   have := h k hk _ ⟨s, h1, h2, h3, c, hr, rfl⟩
   omega
  omega
theorem toEnd_is {a : Aut} {n : Nat} (ha : AutIs a n) (hF : a.2.2.1.length ≤ 1048576) {w : ByteArray} (hw : w.size ≤ 1000) :
  ∃ o, impl_toEnd a w = some o ∧ o.length = w.size + 1 ∧ ∀ m, m ≤ w.size → VecIs n a.2.2.1 a.2.2.2 ((bytes w).drop (w.size - m)) (o.getD m []) := by
 obtain ⟨v0, e1, e2⟩ := toEnd_last ha hF w
 obtain ⟨x, S, F, l⟩ := a
 have hx : x = (n : Int) := ha.st
 subst hx
 have hn1 := ha.n1
 have hn4 := ha.n4
 have hrep := Repeat_is (1000000 : Int) (n := (n : Int)) (by omega) (by omega)
 have e1 : loopF impl_toEnd_l3 (w, ((n : Int), S, F, l, ()), List.replicate n Nv, F, (F.length : Int), (0 : Int), ()) = some (w, ((n : Int), S, F, l, ()), v0, ()) := e1
 simp only [impl_toEnd, List.drop_zero, show List.take 1 [(1000000 : Int)] = [1000000] from rfl, hrep, Option.bind_some, List.take_length, Int.toNat_natCast]
 rw [show ((1000000 : Int)) = Nv from rfl, e1]
 simp only [Option.bind_some, List.take_length]
 obtain ⟨r, g1, g2⟩ := loop_rel (f := impl_toEnd_l9) w.size (fun j (p : List Int × List (List Int)) => (w, ((n : Int), S, F, l, ()), p.1, p.2, (w.size : Int) - 1 - (j : Int), ())) (fun p => (p.2, ()))
  (fun j p => p.2.length = j + 1 ∧ VecIs n F l ((bytes w).drop (w.size - j)) p.1 ∧ ∀ m, m ≤ j → VecIs n F l ((bytes w).drop (w.size - m)) (p.2.getD m []))
  (fun j p hj hp => by
   obtain ⟨h1, h2, h3⟩ := hp
   have hi : w.size - 1 - j < w.size := by omega
   have ei : (w.size : Int) - 1 - (j : Int) = ((w.size - 1 - j : Nat) : Int) := by omega
   obtain ⟨v', f1, f2⟩ := toEnd_next ha hw hi h2 p.2
   have f1 : loopF impl_toEnd_l13 (w, ((n : Int), S, F, l, ()), p.1, p.2, ((w.size - 1 - j : Nat) : Int), List.replicate n Nv, l, (l.length : Int), (0 : Int), ()) = some (w, ((n : Int), S, F, l, ()), p.2, ((w.size - 1 - j : Nat) : Int), v', ()) := f1
   have edrop : (bytes w).drop (w.size - (j + 1)) = w.data.getD (w.size - 1 - j) 0 :: (bytes w).drop (w.size - j) := by
    rw [show w.size - (j + 1) = w.size - 1 - j by omega, bytes_drop hi]
    congr 2
    omega
   have f2 : VecIs n F l ((bytes w).drop (w.size - (j + 1))) v' := by rw [edrop]; exact f2
   refine ⟨(v', p.2 ++ [v']), ?_, by simp [h1], f2, fun m hm => ?_⟩
   ·simp only [impl_toEnd_l9, List.drop_zero, show List.take 1 [(1000000 : Int)] = [1000000] from rfl, hrep, Option.bind_some, List.take_length, Int.toNat_natCast]
    rw [ei, decide_eq_true (by omega)]
    simp only [cond_true]
    rw [show ((1000000 : Int)) = Nv from rfl, f1]
    simp only [Option.bind_some, List.take_length, Nat.zero_add]
    rw [show List.take 1 [v'] = [v'] from rfl, if_pos ⟨trivial, by simp; omega⟩, List.take_of_length_le (by simp), w64 (by omega) (by omega), show (((w.size - 1 - j : Nat) : Int) - 1) = (w.size : Int) - 1 - ((j + 1 : Nat) : Int) by omega]
   ·simp only [List.getD_eq_getElem?_getD, List.getElem?_append]
    by_cases e : m < p.2.length
    ·rw [if_pos e]
     have := h3 m (by omega)
     rw [List.getD_eq_getElem?_getD] at this
     exact this
    ·obtain rfl : m = j + 1 := by omega
     rw [if_neg e, h1]
     simpa using f2)
  (fun p hp => by
   simp only [impl_toEnd_l9]
   rw [decide_eq_false (by omega)]
   simp only [cond_false, List.drop_zero, List.take_length])
  (v0, [v0]) ⟨rfl, by rw [Nat.sub_zero, List.drop_of_length_le (by rw [bytes_len]; omega)]; exact e2, fun m hm => by
   obtain rfl : m = 0 := by omega
   rw [Nat.sub_zero, List.drop_of_length_le (by rw [bytes_len]; omega)]
   exact e2⟩
 have g1 : loopF impl_toEnd_l9 (w, ((n : Int), S, F, l, ()), v0, [v0], (w.size : Int) - 1 - ((0 : Nat) : Int), ()) = _ := g1
 rw [show (w.size : Int) - 1 - ((0 : Nat) : Int) = (w.size : Int) - 1 by omega] at g1
 rw [w64 (by omega) (by omega), show List.take 1 [v0] = [v0] from rfl, g1]
 refine ⟨r.2, by simp only [Option.bind_some, List.take_length], g2.1, g2.2.2⟩
theorem impl_CostOf_is {a : Aut} (hs : Small a) (ha : autOk a = true) {w : ByteArray} (hw : wordOk w = true) : ∃ r, impl_CostOf a w = some r ∧ CostIs a (bytes w) r := by
 obtain ⟨n, h⟩ := autOk_is ha
 have hsz := wordOk_size hw
 obtain ⟨o, o1, o2, o3⟩ := toEnd_is h hs.2.1 hsz
 have hval := impl_AutomatonValid_is a (by have := hs.1; omega) (by have := hs.2.1; omega)
 rw [ha] at hval
 obtain ⟨x, S, F, l⟩ := a
 have hx : x = (n : Int) := h.st
 subst hx
 have hS : S.length ≤ 1048576 := hs.1
 have aS : ∀ q ∈ S, 0 ≤ q ∧ q ≤ (n : Int) - 1 := h.S
 have hv := o3 w.size (Nat.le_refl _)
 rw [Nat.sub_self, List.drop_zero] at hv
 have hv : VecIs n F l (bytes w) (o.getD w.size []) := hv
 simp only [impl_CostOf, hval, impl_WordValid_is (show w.size ≤ 9223372036854775807 by omega), hw, o1, Option.bind_some, Bool.not_true, cond_false, List.drop_zero, List.take_length]
 obtain ⟨r, g1, g2⟩ := loop_rel (f := impl_CostOf_l6) S.length (fun j (c : Int) => (w, o, c, S, (S.length : Int), (j : Int), ())) (fun c => (c, ()))
  (fun j c => (0 ≤ c ∧ c ≤ Nv) ∧ ∀ z, z ≤ c ↔ z ≤ Nv ∧ ∀ i ∈ S.take j, z ≤ (o.getD w.size []).getD i.toNat 0)
  (fun j c hj hc => by
   have hq := aS _ (List.getElem_mem hj)
   have hr := hv.1.at (show S[j].toNat < n by omega)
   refine ⟨if (o.getD w.size []).getD S[j].toNat 0 < c then (o.getD w.size []).getD S[j].toNat 0 else c, ?_, ?_, fun z => ?_⟩
   ·simp only [impl_CostOf_l6, lt_t hj, cond_true, if_pos (in_t hj), Int.toNat_natCast, getD_mem hj, Nat.zero_add, w64_succ hj (show S.length ≤ 9223372036854775807 by omega), List.drop_zero, List.take_length]
    rw [if_pos ⟨by omega, by rw [o2]; omega⟩, if_pos ⟨by omega, by rw [hv.1.1]; omega⟩]
   ·have := hc.1
    split <;> omega
   ·rw [min_is, hc.2 z, take_snoc hj]
    simp only [List.mem_append, List.mem_singleton]
    constructor
    ·rintro ⟨⟨h1, h2⟩, h3⟩
     refine ⟨h1, fun k hk => ?_⟩
     rcases hk with hk | rfl
     ·exact h2 k hk
     ·exact h3
    ·rintro ⟨h1, h2⟩
     exact ⟨⟨h1, fun k hk => h2 k (.inl hk)⟩, h2 _ (.inr rfl)⟩)
  (fun c hc => by simp only [impl_CostOf_l6, lt_f, cond_false])
  1000000 ⟨⟨by decide, by decide⟩, fun z => ⟨fun h => ⟨h, fun k hk => by simp at hk⟩, fun h => h.1⟩⟩
 have g1 : loopF impl_CostOf_l6 (w, o, (1000000 : Int), S, (S.length : Int), (0 : Int), ()) = _ := g1
 rw [g1]
 refine ⟨r, rfl, g2.1, fun z => ?_⟩
 rw [g2.2 z, List.take_length]
 refine and_congr_right fun hz => ?_
 constructor
 ·intro hh i hi k hk c hr
  have q1 := aS i hi
  have := (hv.2 i.toNat (by omega) z).1 (hh i hi)
  exact this.2 k hk c (by rw [show ((i.toNat : Nat) : Int) = i by omega]; exact hr)
 ·intro hh i hi
  have q1 := aS i hi
  rw [hv.2 i.toNat (by omega) z]
  refine ⟨hz, fun k hk c hr => ?_⟩
  rw [show ((i.toNat : Nat) : Int) = i by omega] at hr
  exact hh i hi k hk c hr
/-- both sides tell the same cost -/
theorem cost_same {a : Aut} (hs : Small a) (ha : autOk a = true) {w : ByteArray} (hw : wordOk w = true) : ∃ r, spec_l4Cost a w = some r ∧ impl_CostOf a w = some r ∧ CostIs a (bytes w) r := by
 obtain ⟨r, h1, h2⟩ := spec_l4Cost_is hs ha hw
 obtain ⟨r', h3, h4⟩ := impl_CostOf_is hs ha hw
 obtain rfl := h2.same h4
 exact ⟨r, h1, h3, h2⟩
end Go.Proofs.Ytogigagfgkfkhaa
