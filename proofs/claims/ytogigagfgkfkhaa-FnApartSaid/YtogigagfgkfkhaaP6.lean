/- Matrices of costs: what their lists hold. -/
import Derived.Test.YtogigagfgkfkhaaP5
set_option linter.unusedVariables false
set_option linter.unusedSimpArgs false
namespace Go.Proofs.Ytogigagfgkfkhaa
open Go Go.Proofs.Ytogigagfgkfkhaa.Am
theorem marks_mem {n : Int} {l : List Int} (h : marksOk n l = true) : ∀ q ∈ l, 0 ≤ q ∧ q ≤ n - 1 := by
 intro q hq
 obtain ⟨i, hi, rfl⟩ := List.getElem_of_mem hq
 have := List.all_eq_true.1 h i (List.mem_range.2 hi)
 unfold marksP at this
 rw [Bool.and_eq_true, decide_eq_true_eq, List.getD_eq_getElem?_getD, List.getElem?_eq_getElem hi] at this
 exact this.1
structure StepIs (n : Int) (s : Stp) : Prop where
 f0 : 0 ≤ s.1
 f1 : s.1 ≤ n - 1
 t0 : 0 ≤ s.2.2.1
 t1 : s.2.2.1 ≤ n - 1
 c0 : 0 ≤ s.2.2.2
 c1 : s.2.2.2 ≤ 3
 l : s.2.1.toList = la.toList ∨ s.2.1.toList = lb.toList
theorem stepOk_is {n : Int} {s : Stp} (h : stepOk n s = true) : StepIs n s := by
 unfold stepOk at h
 simp only [Bool.and_eq_true, decide_eq_true_eq, Bool.or_eq_true, beq_iff_eq] at h
 obtain ⟨⟨a, b⟩, ⟨c, d⟩, ⟨e, f⟩, g⟩ := h
 exact ⟨a, b, c, d, e, f, g⟩
def rank (s : Stp) : Int := s.1 * 8 + (if s.2.1.toList = lb.toList then 4 else 0) + s.2.2.1
theorem la_list : la.toList = [97] := by rw [toList_bytes]
theorem lb_list : lb.toList = [98] := by rw [toList_bytes]
theorem befB_rank {n : Int} (h4 : n ≤ 4) {s t : Stp} (hs : StepIs n s) (ht : StepIs n t) (h : befB s t = true) : rank s < rank t := by
 have a1 := hs.t0
 have a2 := hs.t1
 have a3 := ht.t0
 have a4 := ht.t1
 unfold befB at h
 unfold rank
 by_cases hf : s.1 = t.1
 ·rw [hf] at h ⊢
  simp only [bne_self_eq_false, cond_false] at h
  rcases hs.l with e1 | e1 <;> rcases ht.l with e2 | e2 <;> simp only [e1, e2, la_list, lb_list] at h ⊢ <;> simp [Op.bytesLess] at h ⊢ <;> omega
 ·have hb : (s.1 != t.1) = true := by simpa using hf
  simp only [hb, cond_true, decide_eq_true_eq] at h
  split <;> split <;> omega
theorem stepsOk_is {n : Int} (h4 : n ≤ 4) {l : List Stp} (h : stepsOk n l = true) : (∀ s ∈ l, StepIs n s) ∧ ∀ i j (hi : i < j) (hj : j < l.length), rank (l[i]'(by omega)) < rank l[j] := by
 have hall : ∀ i (hi : i < l.length), StepIs n l[i] ∧ (0 < i → befB (l[i - 1]'(by omega)) l[i] = true) := by
  intro i hi
  have := List.all_eq_true.1 h i (List.mem_range.2 hi)
  unfold stepsP at this
  rw [Bool.and_eq_true, List.getD_eq_getElem?_getD, List.getElem?_eq_getElem hi] at this
  refine ⟨stepOk_is this.1, fun h0 => ?_⟩
  have h2 := this.2
  rw [List.getD_eq_getElem?_getD, List.getElem?_eq_getElem (by omega), Bool.or_eq_true, decide_eq_true_eq] at h2
  rcases h2 with h2 | h2
  ·omega
  ·exact h2
 refine ⟨fun s hs => ?_, ?_⟩
 ·obtain ⟨i, hi, rfl⟩ := List.getElem_of_mem hs
  exact (hall i hi).1
 ·intro i j
  induction j with
  | zero => intro h; omega
  | succ j ih =>
   intro hi hj
   have h1 := befB_rank h4 (hall j (by omega)).1 (hall (j + 1) hj).1 ((hall (j + 1) hj).2 (by omega))
   by_cases e : i = j
   ·subst e; exact h1
   ·have := ih (by omega) (by omega)
    omega
abbrev Nv : Int := 1000000
/-- a list of so many costs -/
def Rng (l : List Int) (m : Nat) : Prop := l.length = m ∧ ∀ x ∈ l, 0 ≤ x ∧ x ≤ Nv
theorem Rng.at {l : List Int} {m i : Nat} (h : Rng l m) (hi : i < m) : 0 ≤ l.getD i 0 ∧ l.getD i 0 ≤ Nv := by
 have hi' : i < l.length := by rw [h.1]; exact hi
 rw [List.getD_eq_getElem?_getD, List.getElem?_eq_getElem hi']
 exact h.2 _ (List.getElem_mem hi')
theorem Rng.set {l : List Int} {m : Nat} (h : Rng l m) (i : Nat) {x : Int} (hx : 0 ≤ x ∧ x ≤ Nv) : Rng (l.set i x) m := by
 refine ⟨by rw [List.length_set]; exact h.1, fun y hy => ?_⟩
 rcases List.mem_or_eq_of_mem_set hy with hy | rfl
 ·exact h.2 y hy
 ·exact hx
theorem getD_set {l : List Int} {i j : Nat} {x : Int} (hi : i < l.length) : (l.set i x).getD j 0 = if i = j then x else l.getD j 0 := by
 simp only [List.getD_eq_getElem?_getD, List.getElem?_set]
 by_cases h : i = j
 ·subst h; simp [hi]
 ·simp [h]
theorem idx_lt {n i k : Nat} (hi : i < n) (hk : k < n) : i * n + k < n * n := by
 have : (i + 1) * n ≤ n * n := Nat.mul_le_mul_right _ hi
 rw [Nat.add_mul] at this
 omega
theorem idx_inj {n i k i' k' : Nat} (hk : k < n) (hk' : k' < n) (h : i * n + k = i' * n + k') : i = i' ∧ k = k' := by
 have h1 : (i * n + k) / n = i := by rw [Nat.mul_comm, Nat.mul_add_div (by omega), Nat.div_eq_of_lt hk]; omega
 have h2 : (i' * n + k') / n = i' := by rw [Nat.mul_comm, Nat.mul_add_div (by omega), Nat.div_eq_of_lt hk']; omega
 rw [h, h2] at h1
 subst h1
 exact ⟨rfl, by omega⟩
theorem sq_le {n : Nat} (h : n ≤ 4) : n * n ≤ 16 := Nat.mul_le_mul h h
/-- what a letter's matrix holds -/
def MatIs (n : Nat) (l : List Stp) (c : List UInt8) (M : List Int) : Prop :=
 Rng M (n * n) ∧ ∀ i k, i < n → k < n → ∀ z, z ≤ M.getD (i * n + k) 0 ↔ z ≤ Nv ∧ ∀ s ∈ l, s.2.1.toList = c → s.1 = (i : Int) → s.2.2.1 = (k : Int) → z ≤ s.2.2.2
theorem l3Matrix_is {a : Aut} {c : ByteArray} {n : Nat} (hn : a.1 = (n : Int)) (h1 : 1 ≤ n) (h4 : n ≤ 4) (hl : a.2.2.2.length ≤ 24) (hs : stepsOk a.1 a.2.2.2 = true) : ∃ M, spec_l3Matrix a c = some ((n : Int), M) ∧ MatIs n a.2.2.2 c.toList M := by
 obtain ⟨x, S, F, l⟩ := a
 have hn : x = (n : Int) := hn
 subst hn
 have hl : l.length ≤ 24 := hl
 obtain ⟨hst, hrk⟩ := stepsOk_is (show (n : Int) ≤ 4 by omega) hs
 have hst : ∀ s ∈ l, StepIs (n : Int) s := hst
 have hsq := sq_le h4
 have hw : IntKind.wrap .i64 ((n : Int) * (n : Int)) = ((n * n : Nat) : Int) := by
  have e : (n : Int) * (n : Int) = ((n * n : Nat) : Int) := by simp
  rw [e]
  exact w64 (by omega) (by omega)
 simp only [spec_l3Matrix, hw]
 obtain ⟨r, g1, g2⟩ := loop_inv (f := spec_l3Matrix_l3) (n * n) (fun i (o : List Int) => (c, ((n : Int), S, F, l, ()), ((0 : Int), [], ()), ((n : Int), o, ()), ((n * n : Nat) : Int), (i : Int), ())) (fun i o => o ++ [Nv]) (fun o => (c, ((n : Int), S, F, l, ()), ((0 : Int), [], ()), ((n : Int), o, ()), ())) (fun i o => o = List.replicate i Nv)
  (fun i o hi ho => by subst ho; rw [List.replicate_succ'])
  (fun i o hi ho => by
   have hol : o.length = i := by subst ho; simp
   simp only [spec_l3Matrix_l3, lt_t hi, cond_true, Nat.zero_add, List.drop_zero, w64_succ hi (show n * n ≤ 9223372036854775807 by omega)]
   rw [if_pos ⟨trivial, by simp; omega⟩]
   simp [List.take_of_length_le])
  (fun o ho => by simp only [spec_l3Matrix_l3, lt_f, cond_false, List.drop_zero, List.take_length])
  [] rfl
 rw [show ((0 : Int)) = ((0 : Nat) : Int) from rfl] at *
 rw [g1]
 subst g2
 simp only [Option.bind_some, List.drop_zero, List.take_length]
 obtain ⟨r, g1, g2⟩ := loop_inv (f := spec_l3Matrix_l7) l.length (fun i (M : List Int) => (c, ((n : Int), S, F, l, ()), ((0 : Int), [], ()), ((n : Int), M, ()), l, (l.length : Int), (i : Int), ())) (fun i M => bif (l.getD i stp0).2.1.toList == c.toList then M.set ((l.getD i stp0).1.toNat * n + (l.getD i stp0).2.2.1.toNat) (l.getD i stp0).2.2.2 else M)
  (fun M => (((0 : Int), [], ()), ((n : Int), M, ()), ())) (fun i M => MatIs n (l.take i) c.toList M)
  (fun i M hi hM => by
   have hmem : l.getD i stp0 = l[i] := by rw [List.getD_eq_getElem?_getD, List.getElem?_eq_getElem hi]; rfl
   have hsi := hst _ (List.getElem_mem hi)
   have e0 := hsi.f0
   have e1 := hsi.f1
   have e2 := hsi.t0
   have e3 := hsi.t1
   have e4 := hsi.c0
   have e5 := hsi.c1
   have htake : l.take (i + 1) = l.take i ++ [l[i]] := by rw [List.take_add_one, List.getElem?_eq_getElem hi]; rfl
   rw [hmem]
   cases hc : l[i].2.1.toList == c.toList with
   | false =>
    simp only [cond_false]
    refine ⟨hM.1, fun p q hp hq z => ?_⟩
    rw [hM.2 p q hp hq z, htake]
    refine and_congr Iff.rfl ⟨fun h s hs h1 h2 h3 => ?_, fun h s hs h1 h2 h3 => h s (List.mem_append_left _ hs) h1 h2 h3⟩
    rcases List.mem_append.1 hs with hs | hs
    ·exact h s hs h1 h2 h3
    ·simp only [List.mem_singleton] at hs
     subst hs
     rw [h1] at hc
     simp at hc
   | true =>
    have hc := eq_of_beq hc
    simp only [cond_true]
    have hlt : l[i].1.toNat * n + l[i].2.2.1.toNat < n * n := idx_lt (by omega) (by omega)
    refine ⟨hM.1.set _ ⟨e4, by simp only [Nv]; omega⟩, fun p q hp hq z => ?_⟩
    rw [getD_set (by rw [hM.1.1]; exact hlt)]
    by_cases hpq : l[i].1.toNat * n + l[i].2.2.1.toNat = p * n + q
    ·obtain ⟨rfl, rfl⟩ := idx_inj (by omega) hq hpq
     rw [if_pos rfl, htake]
     constructor
     ·intro hz
      refine ⟨by simp only [Nv]; omega, fun s hs h1 h2 h3 => ?_⟩
      rcases List.mem_append.1 hs with hs | hs
      ·exfalso
       obtain ⟨j, hj, rfl⟩ := List.getElem_of_mem hs
       rw [List.getElem_take] at h1 h2 h3
       simp only [List.length_take] at hj
       have := hrk j i (by omega) hi
       have this : rank l[j] < rank l[i] := this
       unfold rank at this
       rw [h1, hc, h2, h3] at this
       split at this <;> omega
      ·simp only [List.mem_singleton] at hs
       subst hs
       exact hz
     ·rintro ⟨_, h⟩
      exact h l[i] (List.mem_append_right _ (List.mem_singleton.2 rfl)) hc (by omega) (by omega)
    ·rw [if_neg hpq, hM.2 p q hp hq z, htake]
     refine and_congr Iff.rfl ⟨fun h s hs h1 h2 h3 => ?_, fun h s hs h1 h2 h3 => h s (List.mem_append_left _ hs) h1 h2 h3⟩
     rcases List.mem_append.1 hs with hs | hs
     ·exact h s hs h1 h2 h3
     ·simp only [List.mem_singleton] at hs
      subst hs
      exact absurd (by rw [h2, h3]; rfl) hpq)
  (fun i M hi hM => by
   have hmem : l.getD i stp0 = l[i] := by rw [List.getD_eq_getElem?_getD, List.getElem?_eq_getElem hi]; rfl
   have hsi := hst _ (List.getElem_mem hi)
   rw [← hmem] at hsi
   have e0 := hsi.f0
   have e1 := hsi.f1
   have e2 := hsi.t0
   have e3 := hsi.t1
   have hlt : (l.getD i stp0).1.toNat * n + (l.getD i stp0).2.2.1.toNat < n * n := idx_lt (by omega) (by omega)
   have m1 : (l.getD i stp0).1 * (n : Int) = (((l.getD i stp0).1.toNat * n : Nat) : Int) := by
    rw [Int.natCast_mul]
    congr 1
    omega
   have w1 : IntKind.wrap .i64 ((l.getD i stp0).1 * (n : Int)) = (((l.getD i stp0).1.toNat * n : Nat) : Int) := by rw [m1]; exact w64 (by omega) (by omega)
   have w2 : IntKind.wrap .i64 ((((l.getD i stp0).1.toNat * n : Nat) : Int) + (l.getD i stp0).2.2.1) = (((l.getD i stp0).1.toNat * n + (l.getD i stp0).2.2.1.toNat : Nat) : Int) := by
    rw [w64 (by omega) (by omega)]
    omega
   simp only [spec_l3Matrix_l7, lt_t hi, cond_true, if_pos (in_t hi), Int.toNat_natCast, List.drop_zero, Nat.zero_add, w64_succ hi (show l.length ≤ 9223372036854775807 by omega), w1, w2]
   cases hc : (l.getD i stp0).2.1.toList == c.toList with
   | false => simp only [cond_false, List.take_length]
   | true =>
    simp only [cond_true]
    rw [if_pos ⟨by omega, by rw [hM.1.1]; omega⟩, List.take_length, List.take_of_length_le (by rw [List.length_set]; exact Nat.le_refl _)])
  (fun M hM => by simp only [spec_l3Matrix_l7, lt_f, cond_false, List.drop_zero, List.take_length])
  (List.replicate (n * n) Nv) ⟨⟨by simp, fun x hx => by rw [List.eq_of_mem_replicate hx]; exact ⟨by decide, by decide⟩⟩, fun p q hp hq z => by
   rw [List.getD_eq_getElem?_getD, List.getElem?_eq_getElem (by simp; exact idx_lt hp hq)]
   simp⟩
 rw [show ((0 : Int)) = ((0 : Nat) : Int) from rfl] at *
 rw [g1]
 refine ⟨r, ?_, by rw [List.take_length] at g2; exact g2⟩
 simp only [Option.bind_some, List.drop_zero, List.take_length]
end Go.Proofs.Ytogigagfgkfkhaa
