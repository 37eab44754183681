/- The automaton of factors: both sides make the same. -/
import Derived.Test.YtogigagfgkfkhaaP62
set_option linter.unusedVariables false
set_option linter.unusedSimpArgs false
namespace Go.Proofs.Ytogigagfgkfkhaa
open Go Go.Proofs.Ytogigagfgkfkhaa.Am
theorem ifSame_of {R : Type} {x y z : Option R} {r : R} (hy : y = some r) (hx : x = some r ∨ (x ≠ some r ∧ z = some r)) : ifSame x y z = some r := by
 unfold ifSame
 rcases hx with hx | ⟨hx, hz⟩
 ·rw [if_pos (by rw [hx, hy]), hx]
 ·rw [if_neg (by rw [hy]; exact hx), hz]
theorem clone_is {x : List Int} (h : x.length ≤ 1000000000) : slices_Clone x = some x := by
 have hB : (if (((0 + 0) = (List.length ([] : List Unit))) ∧ (((0 + (List.length x)) * 8) ≤ 140737488355328)) then some (List.take (0 + (List.length x)) (List.drop 0 ((List.drop 0 []) ++ x))) else none) = some x := by
  rw [if_pos ⟨rfl, by omega⟩]
  simp
 unfold slices_Clone
 refine ifSame_of hB ?_
 cases x with
 | nil => exact .inl rfl
 | cons a l => exact .inr ⟨by simp, hB⟩
theorem clone_step {x : List Stp} (h : x.length ≤ 1000000000) : slices_Clone_Step x = some x := by
 have hB : (if (((0 + 0) = (List.length ([] : List Unit))) ∧ (((0 + (List.length x)) * 40) ≤ 140737488355328)) then some (List.take (0 + (List.length x)) (List.drop 0 ((List.drop 0 []) ++ x))) else none) = some x := by
  rw [if_pos ⟨rfl, by omega⟩]
  simp
 unfold slices_Clone_Step
 refine ifSame_of hB ?_
 cases x with
 | nil => exact .inl rfl
 | cons a l => exact .inr ⟨by simp, hB⟩
/-! ### what stands in order -/
theorem marks_lt {n : Int} {l : List Int} (h : marksOk n l = true) : ∀ (d i : Nat), i + d + 1 < l.length → l.getD i 0 < l.getD (i + d + 1) 0
 | 0, i, hi => by
  have := List.all_eq_true.1 h (i + 1) (List.mem_range.2 hi)
  unfold marksP at this
  simp at this
  exact this.2
 | d + 1, i, hi => by
  have h1 := marks_lt h d i (by omega)
  have := List.all_eq_true.1 h (i + d + 1 + 1) (List.mem_range.2 (by omega))
  unfold marksP at this
  simp at this
  have h2 := this.2
  show l.getD i 0 < l.getD (i + d + 1 + 1) 0
  rw [List.getD_eq_getElem?_getD, List.getD_eq_getElem?_getD] at h1 ⊢
  omega
theorem marks_pair {n : Int} {l : List Int} (h : marksOk n l = true) : l.Pairwise fun a b => decide (a ≤ b) = true := by
 rw [List.pairwise_iff_getElem]
 intro i j hi hj hij
 have := marks_lt h (j - i - 1) i (by omega)
 rw [show i + (j - i - 1) + 1 = j by omega, getD_g 0 hi, getD_g 0 hj] at this
 exact decide_eq_true (by omega)
theorem sort_marks {n : Int} {l : List Int} (h : marksOk n l = true) (hl : l.length ≤ 1048576) : slices_Sort l = some ((), (l, ())) := by
 unfold slices_Sort sortI
 rw [if_pos (by omega), List.mergeSort_of_pairwise (marks_pair h)]
 rfl
theorem steps_lt {n : Int} {l : List Stp} (h : stepsOk n l = true) : ∀ (d i : Nat), i + d + 1 < l.length → ltS (l.getD i stp0) (l.getD (i + d + 1) stp0) = true
 | 0, i, hi => by
  have := List.all_eq_true.1 h (i + 1) (List.mem_range.2 hi)
  unfold stepsP at this
  rw [Bool.and_eq_true] at this
  have := this.2
  rw [decide_eq_false (by omega), Bool.false_or, befB_lt] at this
  exact this
 | d + 1, i, hi => by
  have h1 := steps_lt h d i (by omega)
  have := List.all_eq_true.1 h (i + d + 1 + 1) (List.mem_range.2 (by omega))
  unfold stepsP at this
  rw [Bool.and_eq_true] at this
  have := this.2
  rw [decide_eq_false (by omega), Bool.false_or, befB_lt] at this
  exact ltS_trans h1 this
theorem steps_srt {n : Int} {l : List Stp} (h : stepsOk n l = true) : Srt l := by
 unfold Srt
 rw [List.pairwise_iff_getElem]
 intro i j hi hj hij
 have := steps_lt h (j - i - 1) i (by omega)
 rwa [show i + (j - i - 1) + 1 = j by omega, getD_g stp0 hi, getD_g stp0 hj] at this
/-- what the program makes of steps, wherever they stand -/
theorem made_is {x : Int} {S F : List Int} {l m : List Stp} (hS : marksOk x S = true) (hF : marksOk x F = true) (hs : Srt m) (hp : l.Perm m) (sS : S.length ≤ 1048576) (sF : F.length ≤ 1048576) (sl : l.length ≤ 100000000) :
  impl_made x S F l = some (if autOk (x, S, F, m) = true then ((x, S, F, m), true) else (((0 : Int), [], [], []), false)) := by
 have hV := impl_AutomatonValid_is (x, S, F, m) (show S.length ≤ _ by omega) (show F.length ≤ _ by omega)
 have hsort : slices_SortFunc l = some ((), (m, ())) := by
  unfold slices_SortFunc
  rw [sortS_is hs hp (by omega)]
  rfl
 have hlm : l.length = m.length := hp.length_eq
 unfold impl_made
 rw [clone_is (by omega)]
 simp only [Option.bind_some]
 rw [clone_is (by omega)]
 simp only [Option.bind_some]
 rw [clone_step (by omega)]
 simp only [Option.bind_some, if_true]
 rw [sort_marks hS sS]
 simp only [Option.bind_some]
 rw [sort_marks hF sF]
 simp only [Option.bind_some]
 rw [hsort]
 simp only [Option.bind_some, hlm, List.drop_zero, List.take_length, hV]
 cases autOk (x, S, F, m) <;> rfl
/-! ### the loops -/
theorem any_loop {α : Type} (d : α) (l : List α) (p : α → Bool) : (match (List.range l.length).find? fun i => p (l.getD i d) with | some _ => true | none => false) = l.any p := by
 cases hf : (List.range l.length).find? fun i => p (l.getD i d) with
 | none =>
  have := List.find?_eq_none.1 hf
  symm
  rw [List.any_eq_false]
  intro x hx
  obtain ⟨i, hi, rfl⟩ := List.getElem_of_mem hx
  have := this i (List.mem_range.2 hi)
  rwa [getD_g d hi] at this
 | some i =>
  have hi := List.mem_range.1 (List.mem_of_find?_eq_some hf)
  have hp := List.find?_some (p := fun i => p (l.getD i d)) hf
  symm
  rw [List.any_eq_true]
  exact ⟨l.getD i d, by rw [getD_g d hi]; exact List.getElem_mem hi, hp⟩
theorem l4In_is {l : List Int} (hl : l.length ≤ 1000000000) (q : Int) : spec_l4In l q = some (l.any fun e => q == e) := by
 have g := loop_find (f := spec_l4In_l2) (fun i => (q, l, (l.length : Int), (i : Int), ())) l.length (fun i => q == l.getD i 0) (fun i => Sum.inl (true, ())) (Sum.inr ())
  (fun i hi => by
   simp only [spec_l4In_l2, lt_t hi, cond_true, if_pos (in_t hi), Int.toNat_natCast, w64_succ hi (show l.length ≤ 9223372036854775807 by omega)]
   rw [BEq.comm (a := l.getD i 0)]
   cases q == l.getD i 0 <;> rfl)
  (by simp only [spec_l4In_l2, lt_f, cond_false])
 have g : loopF spec_l4In_l2 (q, l, (l.length : Int), (0 : Int), ()) = _ := g
 have ha := any_loop 0 l fun e => q == e
 simp only [spec_l4In, g, Option.bind_some]
 rw [← ha]
 cases (List.range l.length).find? fun i => q == l.getD i 0 <;> rfl
def zs (s : Stp) : Stp := (s.1, s.2.1, s.2.2.1, 0)
/-! ### what is put -/
def cand (s : Stp) (f : Int) : Stp := (f, s.2.1, s.2.2.1, 1)
def addI (I : List Stp) (x : Stp) : List Stp := if (I.any fun s => stepC s x == 0) = true then I else I ++ [x]
def has1 (S : List Int) (s : Stp) : Bool := S.any fun e => s.1 == e
def rowI (S : List Int) (s : Stp) (I : List Stp) (F : List Int) : List Stp := F.foldl (fun I f => bif has1 S s then addI I (cand s f) else I) I
def rowP (S : List Int) (s : Stp) (I : List Stp) (F : List Int) : List Stp := F.foldl (fun I f => bif has1 S s then ins (cand s f) I else I) I
def allI (S F : List Int) (I : List Stp) (l : List Stp) : List Stp := l.foldl (fun I s => rowI S s I F) I
def allP (S F : List Int) (I : List Stp) (l : List Stp) : List Stp := l.foldl (fun I s => rowP S s I F) I
structure IP (I P : List Stp) : Prop where
 perm : I.Perm P
 srt : Srt P
 cost : ∀ s ∈ P, s.2.2.2 ≤ 1
theorem IP.put {I P : List Stp} (h : IP I P) (s : Stp) (f : Int) : IP (addI I (cand s f)) (ins (cand s f) P) := by
 have hc : ∀ t ∈ ins (cand s f) P, t.2.2.2 ≤ 1 := by
  intro t ht
  rcases ins_mem ht with rfl | ht
  ·exact Int.le_refl _
  ·exact h.cost t ht
 unfold addI
 cases ha : I.any fun t => stepC t (cand s f) == 0 with
 | true =>
  rw [if_pos rfl]
  obtain ⟨t, ht, he⟩ := List.any_eq_true.1 ha
  have he : stepC t (cand s f) = 0 := by simpa using he
  rw [ins_same h.srt ⟨t, h.perm.mem_iff.1 ht, he⟩]
  exact h
 | false =>
  rw [if_neg (by simp)]
  have hn : ∀ t ∈ P, stepC t (cand s f) ≠ 0 := by
   intro t ht he
   have := List.any_eq_false.1 ha t (h.perm.mem_iff.2 ht)
   simp [he] at this
  refine ⟨?_, ins_srt h.srt, hc⟩
  exact (List.perm_append_singleton _ _).trans ((h.perm.cons _).trans (ins_new hn).symm)
theorem IP.row {S : List Int} {s : Stp} : ∀ {F : List Int} {I P : List Stp}, IP I P → IP (rowI S s I F) (rowP S s P F)
 | [], _, _, h => h
 | f :: F, I, P, h => by
  show IP (rowI S s (bif has1 S s then addI I (cand s f) else I) F) (rowP S s (bif has1 S s then ins (cand s f) P else P) F)
  cases has1 S s with
  | true => exact IP.row (h.put s f)
  | false => exact IP.row h
theorem IP.all {S F : List Int} : ∀ {l : List Stp} {I P : List Stp}, IP I P → IP (allI S F I l) (allP S F P l)
 | [], _, _, h => h
 | s :: l, I, P, h => IP.all (l := l) (h.row (S := S) (s := s) (F := F))
end Go.Proofs.Ytogigagfgkfkhaa
