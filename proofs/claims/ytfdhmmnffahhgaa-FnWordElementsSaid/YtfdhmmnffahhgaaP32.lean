/- The grades of letters, by the reference and by the program. -/
import Derived.Test.YtfdhmmnffahhgaaP31
set_option linter.unusedVariables false
set_option linter.unusedSimpArgs false
namespace Go.Proofs.Ytfdhmmnffahhgaa
open Go Go.Proofs.Ytfdhmmnffahhgaa.Am
/-- a step's cost is put into its place -/
def putStep (c : ByteArray) (n : Nat) (l : List Stp) (i : Nat) (M : List Int) : List Int :=
 bif (l.getD i stp0).2.1.toList == c.toList then M.set ((l.getD i stp0).1.toNat * n + (l.getD i stp0).2.2.1.toNat) (l.getD i stp0).2.2.2 else M
def putSteps (c : ByteArray) (n : Nat) (l : List Stp) : Nat → List Int
 | 0 => List.replicate (n * n) Nv
 | i + 1 => putStep c n l i (putSteps c n l i)
theorem putSteps_len (c : ByteArray) (n : Nat) (l : List Stp) : ∀ i, (putSteps c n l i).length = n * n
 | 0 => by simp [putSteps]
 | i + 1 => by
  simp only [putSteps, putStep]
  cases (l.getD i stp0).2.1.toList == c.toList
  ·exact putSteps_len c n l i
  ·simp only [cond_true, List.length_set]; exact putSteps_len c n l i
theorem step_idx {n : Nat} (h4 : n ≤ 4) {s : Stp} (hs : StepIs (n : Int) s) : s.1.toNat * n + s.2.2.1.toNat < n * n ∧ IntKind.wrap .i64 (IntKind.wrap .i64 (s.1 * (n : Int)) + s.2.2.1) = ((s.1.toNat * n + s.2.2.1.toNat : Nat) : Int) := by
 have hsq := sq_le h4
 have e0 := hs.f0
 have e1 := hs.f1
 have e2 := hs.t0
 have e3 := hs.t1
 have hlt : s.1.toNat * n + s.2.2.1.toNat < n * n := idx_lt (by omega) (by omega)
 have m1 : s.1 * (n : Int) = ((s.1.toNat * n : Nat) : Int) := by
  rw [Int.natCast_mul]
  congr 1
  omega
 have w1 : IntKind.wrap .i64 (s.1 * (n : Int)) = ((s.1.toNat * n : Nat) : Int) := by rw [m1]; exact w64 (by omega) (by omega)
 refine ⟨hlt, ?_⟩
 rw [w1, w64 (by omega) (by omega)]
 omega
section
variable {S F : List Int} {l : List Stp} {n : Nat} (h4 : n ≤ 4) (hl : l.length ≤ 24) (hst : ∀ s ∈ l, StepIs (n : Int) s) (c : ByteArray)
include h4 hl hst
theorem l3Matrix_puts : spec_l3Matrix ((n : Int), S, F, l) c = some ((n : Int), putSteps c n l l.length) := by
 have hsq := sq_le h4
 simp only [spec_l3Matrix, sqw h4]
 obtain ⟨r, g1, g2⟩ := loop_inv (f := spec_l3Matrix_l3) (n * n) (fun i (o : List Int) => (c, ((n : Int), S, F, l, ()), ((0 : Int), [], ()), ((n : Int), o, ()), ((n * n : Nat) : Int), (i : Int), ())) (fun i o => o ++ [Nv]) (fun o => (c, ((n : Int), S, F, l, ()), ((0 : Int), [], ()), ((n : Int), o, ()), ())) (fun i o => o = List.replicate i Nv)
  (fun i o hi ho => by subst ho; rw [List.replicate_succ'])
  (fun i o hi ho => by
   have hol : o.length = i := by subst ho; simp
   simp only [spec_l3Matrix_l3, lt_t hi, cond_true, Nat.zero_add, List.drop_zero, w64_succ hi (show n * n ≤ 9223372036854775807 by omega)]
   rw [if_pos ⟨trivial, by simp; omega⟩]
   simp [List.take_of_length_le])
  (fun o ho => by simp only [spec_l3Matrix_l3, lt_f, cond_false, List.drop_zero, List.take_length])
  [] rfl
 have g1 : loopF spec_l3Matrix_l3 (c, ((n : Int), S, F, l, ()), ((0 : Int), [], ()), ((n : Int), [], ()), ((n * n : Nat) : Int), (0 : Int), ()) = _ := g1
 rw [g1]
 subst g2
 simp only [Option.bind_some, List.drop_zero, List.take_length]
 obtain ⟨r, g1, g2⟩ := loop_inv (f := spec_l3Matrix_l7) l.length (fun i (M : List Int) => (c, ((n : Int), S, F, l, ()), ((0 : Int), [], ()), ((n : Int), M, ()), l, (l.length : Int), (i : Int), ())) (fun i M => putStep c n l i M)
  (fun M => (((0 : Int), [], ()), ((n : Int), M, ()), ())) (fun i M => M = putSteps c n l i)
  (fun i M hi hM => by subst hM; rfl)
  (fun i M hi hM => by
   have hMl : M.length = n * n := by subst hM; exact putSteps_len c n l i
   have hsi := hst _ (show l.getD i stp0 ∈ l by rw [getD_get stp0 hi]; exact List.getElem_mem hi)
   obtain ⟨hlt, hw⟩ := step_idx h4 hsi
   simp only [spec_l3Matrix_l7, lt_t hi, cond_true, if_pos (in_t hi), Int.toNat_natCast, List.drop_zero, Nat.zero_add, w64_succ hi (show l.length ≤ 9223372036854775807 by omega), hw, putStep]
   cases hc : (l.getD i stp0).2.1.toList == c.toList with
   | false => simp only [cond_false, List.take_length]
   | true =>
    simp only [cond_true]
    rw [if_pos ⟨by omega, by rw [hMl]; omega⟩, List.take_length, List.take_of_length_le (by rw [List.length_set]; exact Nat.le_refl _)])
  (fun M hM => by simp only [spec_l3Matrix_l7, lt_f, cond_false, List.drop_zero, List.take_length])
  (List.replicate (n * n) Nv) rfl
 have g1 : loopF spec_l3Matrix_l7 (c, ((n : Int), S, F, l, ()), ((0 : Int), [], ()), ((n : Int), List.replicate (n * n) Nv, ()), l, (l.length : Int), (0 : Int), ()) = _ := g1
 rw [g1, g2]
 simp only [Option.bind_some, List.drop_zero, List.take_length]
theorem stepMatrix_in : Option.bind (impl_filled (n : Int) (fun y1 => (impl_StepMatrix_1 y1.1 y1.2.1))) (fun (r2, r3) => Option.bind (loopF impl_StepMatrix_l5 (c, ((0 : Int), [], ()), (r2, (List.take (List.length r3) (List.drop 0 r3)), ()), l, (((List.length l) : Nat) : Int), (0 : Int), ())) fun ((r4, r5, _), (r6, r7, _), _) => some ((r6, (List.take (List.length r7) (List.drop 0 r7))), true)) = some (((n : Int), putSteps c n l l.length), true) := by
 have hsq := sq_le h4
 have e0 : mk n (fun _ _ => Nv) = List.replicate (n * n) Nv := by
  unfold mk
  rw [List.map_const', List.length_range]
 rw [filled_is h4 (c := fun _ _ => Nv) (fun i k _ _ => rfl), e0]
 simp only [Option.bind_some, List.drop_zero, List.take_length]
 obtain ⟨r, g1, g2⟩ := loop_inv (f := impl_StepMatrix_l5) l.length (fun i (M : List Int) => (c, ((0 : Int), [], ()), ((n : Int), M, ()), l, (l.length : Int), (i : Int), ())) (fun i M => putStep c n l i M)
  (fun M => (((0 : Int), [], ()), ((n : Int), M, ()), ())) (fun i M => M = putSteps c n l i)
  (fun i M hi hM => by subst hM; rfl)
  (fun i M hi hM => by
   have hMl : M.length = n * n := by subst hM; exact putSteps_len c n l i
   have hsi := hst _ (show l.getD i stp0 ∈ l by rw [getD_get stp0 hi]; exact List.getElem_mem hi)
   obtain ⟨hlt, hw⟩ := step_idx h4 hsi
   simp only [impl_StepMatrix_l5, lt_t hi, cond_true, if_pos (in_t hi), Int.toNat_natCast, List.drop_zero, Nat.zero_add, w64_succ hi (show l.length ≤ 9223372036854775807 by omega), hw, putStep]
   cases hc : (l.getD i stp0).2.1.toList == c.toList with
   | false => simp only [cond_false, List.take_length, List.length_nil, List.take_zero]
   | true =>
    simp only [cond_true]
    rw [if_pos ⟨by omega, by rw [hMl]; omega⟩, List.take_length, List.take_of_length_le (by rw [List.length_set]; exact Nat.le_refl _)])
  (fun M hM => by simp only [impl_StepMatrix_l5, lt_f, cond_false, List.drop_zero, List.take_length])
  (List.replicate (n * n) Nv) rfl
 have g1 : loopF impl_StepMatrix_l5 (c, ((0 : Int), [], ()), ((n : Int), List.replicate (n * n) Nv, ()), l, (l.length : Int), (0 : Int), ()) = _ := g1
 rw [g1, g2]
 simp only [Option.bind_some, List.drop_zero, List.take_length]
end
theorem stepMatrix_is {a : Aut} {n : Nat} (ha : AutIs a n) (hv : autOk a = true) (hs : Small a) {c : ByteArray} (hc : c = la ∨ c = lb) : impl_StepMatrix a c = some (((n : Int), putSteps c n a.2.2.2 a.2.2.2.length), true) := by
 obtain ⟨x, S, F, l⟩ := a
 have hx : x = (n : Int) := ha.st
 subst hx
 have hin := stepMatrix_in ha.n4 ha.len ha.steps c
 unfold impl_StepMatrix
 dsimp only
 rw [impl_AutomatonValid_is _ (small_len hs).1 (small_len hs).2, hv]
 simp only [Option.bind_some, Bool.not_true, cond_false]
 rcases hc with rfl | rfl
 ·have e1 : (!(la.toList == (⟨#[(97 : UInt8)]⟩ : ByteArray).toList)) = false := by simp
  rw [e1, cond_false]
  exact hin
 ·have e1 : (!(lb.toList == (⟨#[(97 : UInt8)]⟩ : ByteArray).toList)) = true := by simp only [toList_bytes]; rfl
  have e2 : (!(lb.toList == (⟨#[(98 : UInt8)]⟩ : ByteArray).toList)) = false := by simp
  rw [e1, e2, cond_true, cond_false]
  exact hin
theorem l3Matrix_puts' {a : Aut} {n : Nat} (ha : AutIs a n) (c : ByteArray) : spec_l3Matrix a c = some ((n : Int), putSteps c n a.2.2.2 a.2.2.2.length) := by
 obtain ⟨x, S, F, l⟩ := a
 have hx : x = (n : Int) := ha.st
 subst hx
 exact l3Matrix_puts ha.n4 ha.len ha.steps c
theorem putSteps_rng {a : Aut} {n : Nat} (ha : AutIs a n) (c : ByteArray) : Rng (putSteps c n a.2.2.2 a.2.2.2.length) (n * n) := by
 obtain ⟨M, h1, h2⟩ := l3Matrix_is (c := c) ha.st ha.n1 ha.n4 ha.len ha.ok
 rw [l3Matrix_puts' ha c] at h1
 obtain ⟨_, rfl⟩ := Prod.mk.inj (Option.some.inj h1)
 exact h2.1
/-! ### grades -/
def gr (x : Int) : Int := if x = 0 then 0 else if x = 1000000 then 3 else 1
theorem gr_rng (x : Int) : 0 ≤ gr x ∧ gr x ≤ 3 := by
 unfold gr
 split
 ·omega
 ·split <;> omega
theorem gr_ok {n : Nat} {M : List Int} (hM : M.length = n * n) : GOk n (M.map gr) := by
 refine ⟨by rw [List.length_map, hM], fun x hx => ?_⟩
 obtain ⟨y, _, rfl⟩ := List.mem_map.1 hx
 exact gr_rng y
theorem l6Grades_is {n : Nat} (h4 : n ≤ 4) {M : List Int} (hM : M.length = n * n) : spec_l6Grades ((n : Int), M) = some ((n : Int), M.map gr) := by
 have hsq := sq_le h4
 simp only [spec_l6Grades]
 obtain ⟨r, g1, g2⟩ := loop_inv (f := spec_l6Grades_l3) M.length (fun i (o : List Int) => (((0 : Int), [], ()), ((n : Int), o, ()), M, (M.length : Int), (i : Int), ())) (fun i o => o ++ [gr (M.getD i 0)]) (fun o => (((0 : Int), [], ()), ((n : Int), o, ()), ())) (fun i o => o = (M.take i).map gr)
  (fun i o hi ho => by subst ho; rw [take_snoc hi, List.map_append, getD_get 0 hi]; rfl)
  (fun i o hi ho => by
   have hol : o.length = i := by subst ho; rw [List.length_map, List.length_take]; omega
   simp only [spec_l6Grades_l3, lt_t hi, cond_true, if_pos (in_t hi), Int.toNat_natCast, Nat.zero_add, List.drop_zero, List.take_length, w64_succ hi (show M.length ≤ 9223372036854775807 by omega)]
   by_cases z : M.getD i 0 = 0
   ·rw [z]
    simp only [BEq.rfl, cond_true]
    rw [if_pos ⟨trivial, by simp; omega⟩, show List.take 1 [(0 : Int)] = [gr 0] from rfl, List.take_of_length_le (by simp)]
   ·have z' : (M.getD i 0 == 0) = false := by simpa using z
    rw [z', cond_false]
    by_cases y : M.getD i 0 = 1000000
    ·rw [y]
     simp only [BEq.rfl, cond_true]
     rw [if_pos ⟨trivial, by simp; omega⟩, show List.take 1 [(3 : Int)] = [gr 1000000] from rfl, List.take_of_length_le (by simp)]
    ·have y' : (M.getD i 0 == 1000000) = false := by simpa using y
     rw [y', cond_false, if_pos ⟨trivial, by simp; omega⟩, show List.take 1 [(1 : Int)] = [gr (M.getD i 0)] by unfold gr; rw [if_neg z, if_neg y]; rfl, List.take_of_length_le (by simp)])
  (fun o ho => by simp only [spec_l6Grades_l3, lt_f, cond_false, List.drop_zero, List.take_length])
  [] rfl
 have g1 : loopF spec_l6Grades_l3 (((0 : Int), [], ()), ((n : Int), [], ()), M, (M.length : Int), (0 : Int), ()) = _ := g1
 rw [g1, g2]
 simp only [Option.bind_some, List.drop_zero, List.take_length]
theorem gradesOf_is {n : Nat} (h1 : 1 ≤ n) (h4 : n ≤ 4) {M : List Int} (hM : Rng M (n * n)) : impl_GradesOf ((n : Int), M) = some (((n : Int), M.map gr), true) := by
 have hsq := sq_le h4
 simp only [impl_GradesOf, matrixValid_is h1 h4 hM.1 (fun x hx => hM.2 x hx), Option.bind_some, Bool.not_true, cond_false]
 rw [filled_is h4 (c := fun i k => gr (M.getD (i * n + k) 0)) (fun i k hi hk => by
  simp only [impl_GradesOf_1, at_is h4 hM.1 hi hk, Option.bind_some]
  by_cases z : M.getD (i * n + k) 0 = 0
  ·rw [z]; rfl
  ·have z' : (M.getD (i * n + k) 0 == 0) = false := by simpa using z
   rw [z', cond_false]
   by_cases y : M.getD (i * n + k) 0 = 1000000
   ·rw [y]; rfl
   ·have y' : (M.getD (i * n + k) 0 == 1000000) = false := by simpa using y
    rw [y', cond_false]
    unfold gr
    rw [if_neg z, if_neg y])]
 have e : mk n (fun i k => gr (M.getD (i * n + k) 0)) = M.map gr := by
  refine (mk_is (by rw [List.length_map, hM.1]) fun i k hi hk => ?_).symm
  have := idx_lt hi hk
  rw [getD_get 0 (by rw [List.length_map, hM.1]; exact this), List.getElem_map, getD_get 0 (by rw [hM.1]; exact this)]
 simp only [Option.bind_some, List.drop_zero, List.take_length, e]
/-! ### the value of a letter -/
theorem readParts_letter {c : ByteArray} (hc : c = la ∨ c = lb) : impl_readParts c = some ([(c, PT.mk [])], (⟨#[]⟩ : ByteArray)) := by
 have e : impl_readParts = impl_readParts_step (impl_readParts_fuel 199) := rfl
 rw [e]
 generalize impl_readParts_fuel 199 = φ
 have s1 : impl_readParts_l2 φ (c, [], ()) = some (.inl ((⟨#[]⟩ : ByteArray), [(c, PT.mk [])], ())) := by
  rcases hc with rfl | rfl <;> (unfold impl_readParts_l2; simp only [toList_bytes]; rfl)
 have s2 : impl_readParts_l2 φ ((⟨#[]⟩ : ByteArray), [(c, PT.mk [])], ()) = some (.inr (.inr ((⟨#[]⟩ : ByteArray), [(c, PT.mk [])], ()))) := by
  unfold impl_readParts_l2
  simp only [toList_bytes]
  rfl
 unfold impl_readParts_step
 rw [show List.take 0 (List.drop 0 []) = ([] : List (ByteArray × PT)) from rfl, loopF_eq, s1]
 simp only [Option.bind_some]
 rw [loopF_eq, s2]
 rfl
theorem parts_letter {c : ByteArray} (hc : c = la ∨ c = lb) : impl_parts c = some ([(c, PT.mk [])], true) := by
 have hsz : c.size = 1 := by rcases hc with rfl | rfl <;> rfl
 unfold impl_parts
 rw [decide_eq_false (show ¬ (c.size : Int) > 120 by omega), cond_false, readParts_letter hc]
 simp
theorem valueOf_letter {a : Aut} {n : Nat} (ha : AutIs a n) (hv : autOk a = true) (hs : Small a) {c : ByteArray} (hc : c = la ∨ c = lb) : impl_ValueOf a c = some (((n : Int), (putSteps c n a.2.2.2 a.2.2.2.length).map gr), true) := by
 have hm := stepMatrix_is ha hv hs hc
 have hr := putSteps_rng ha c
 have hg := gradesOf_is ha.n1 ha.n4 hr
 obtain ⟨x, S, F, l⟩ := a
 unfold impl_ValueOf
 dsimp only
 rw [parts_letter hc]
 simp only [Option.bind_some, Bool.not_true, cond_false]
 rw [impl_AutomatonValid_is _ (small_len hs).1 (small_len hs).2, hv]
 simp only [Option.bind_some, Bool.not_true, cond_false, List.drop_zero, List.take_length]
 have e : impl_value = impl_value_step (impl_value_fuel 199) := rfl
 rw [e]
 generalize impl_value_fuel 199 = φ
 have hne : (!(c.toList == (⟨#[]⟩ : ByteArray).toList)) = true := by
  rcases hc with rfl | rfl <;> (simp only [toList_bytes]; rfl)
 have s1 : impl_value_l3 φ ((x, S, F, l, ()), ((0 : Int), [], ()), ((0 : Int), [], ()), [(c, PT.mk [])], (1 : Int), (0 : Int), ()) = some (.inl ((x, S, F, l, ()), ((0 : Int), [], ()), ((n : Int), (putSteps c n l l.length).map gr, ()), [(c, PT.mk [])], (1 : Int), (1 : Int), ())) := by
  unfold impl_value_l3
  simp only [show decide ((0 : Int) < 1) = true from rfl, cond_true]
  rw [if_pos ⟨Int.le_refl _, by simp⟩]
  simp only [show List.getD [(c, PT.mk [])] (Int.toNat 0) ((⟨Array.empty⟩ : ByteArray), PT.mk []) = (c, PT.mk []) from rfl, hne, cond_true, hm, Option.bind_some, List.drop_zero, List.take_length, hg, show decide ((0 : Int) > 0) = false from rfl, cond_false]
  rfl
 have s2 : impl_value_l3 φ ((x, S, F, l, ()), ((0 : Int), [], ()), ((n : Int), (putSteps c n l l.length).map gr, ()), [(c, PT.mk [])], (1 : Int), (1 : Int), ()) = some (.inr (.inr (((0 : Int), [], ()), ((n : Int), (putSteps c n l l.length).map gr, ()), ()))) := by
  unfold impl_value_l3
  simp only [show decide ((1 : Int) < 1) = false from rfl, cond_false, List.drop_zero, List.take_length]
 unfold impl_value_step
 dsimp only
 rw [show (((List.length [(c, PT.mk [])]) : Nat) : Int) = 1 from rfl, loopF_eq, s1]
 simp only [Option.bind_some]
 rw [loopF_eq, s2]
 simp only [Option.bind_some, List.drop_zero, List.take_length]
end Go.Proofs.Ytfdhmmnffahhgaa
