import Derived.Test.YtbndfclpclifbaaGreatDoorP10
set_option linter.unusedVariables false
set_option linter.unusedSimpArgs false
/- Marks of automata that are handed back. -/
namespace Go.Proofs.YtbndfclpclifbaaGreatDoor
open Go Go.Proofs.YtbndfclpclifbaaGreatDoor.Am
end Go.Proofs.YtbndfclpclifbaaGreatDoor

/- Steps in order: what is put among them; the sort of steps. -/
namespace Go.Proofs.YtbndfclpclifbaaGreatDoor
open Go Go.Proofs.YtbndfclpclifbaaGreatDoor.Am
theorem getD_g {α : Type} {l : List α} {i : Nat} (d : α) (hi : i < l.length) : l.getD i d = l[i] := by
 rw [List.getD_eq_getElem?_getD, List.getElem?_eq_getElem hi]
 rfl
theorem befB_lt (s t : Stp) : befB s t = ltS s t := by
 obtain ⟨r, h1, h2⟩ := impl_stepOrder_is s t
 have h3 := told_stepOrder s t
 rw [h3] at h1
 obtain rfl := Option.some.inj h1
 unfold ltS
 cases hb : befB s t with
 | true =>
  rw [hb] at h2
  have := of_decide_eq_false h2
  exact (decide_eq_true (by omega)).symm
 | false =>
  rw [hb] at h2
  have := of_decide_eq_true h2
  exact (decide_eq_false (by omega)).symm
theorem ltS_trans {a b c : Stp} (h : ltS a b = true) (k : ltS b c = true) : ltS a c = true := by
 have h := of_decide_eq_true h
 have k := of_decide_eq_true k
 have g1 := good_step.le a b c (by omega) (by omega)
 have g2 := good_step.eq a b c (by omega) (by omega)
 exact decide_eq_true (by omega)
theorem ltS_asymm {a b : Stp} (h : ltS a b = true) : ltS b a = false := by
 have h := of_decide_eq_true h
 have g := good_step.anti a b
 exact decide_eq_false (by omega)
theorem same_of {a b : Stp} (h : ltS a b = false) (k : ltS b a = false) : stepC a b = 0 := by
 have h := of_decide_eq_false h
 have k := of_decide_eq_false k
 have g := good_step.anti a b
 omega
theorem not_same {a b : Stp} (h : ltS a b = true) : stepC a b ≠ 0 := by
 have h := of_decide_eq_true h
 omega
/-- steps that stand in order, none twice -/
def Srt (l : List Stp) : Prop := l.Pairwise fun s t => ltS s t = true
def ins (x : Stp) : List Stp → List Stp
 | [] => [x]
 | s :: l => if ltS s x = true then s :: ins x l else if ltS x s = true then x :: s :: l else s :: l
theorem ins_mem {x y : Stp} : ∀ {l : List Stp}, y ∈ ins x l → y = x ∨ y ∈ l
 | [], h => .inl (List.mem_singleton.1 h)
 | s :: l, h => by
  unfold ins at h
  split at h
  ·rcases List.mem_cons.1 h with rfl | h
   ·exact .inr List.mem_cons_self
   ·exact (ins_mem h).imp id (List.mem_cons_of_mem _)
  ·split at h
   ·rcases List.mem_cons.1 h with rfl | h
    ·exact .inl rfl
    ·exact .inr h
   ·exact .inr h
theorem ins_srt {x : Stp} : ∀ {l : List Stp}, Srt l → Srt (ins x l)
 | [], _ => List.pairwise_singleton _ _
 | s :: l, h => by
  obtain ⟨h1, h2⟩ := List.pairwise_cons.1 h
  unfold ins
  split
  ·rename_i hs
   refine List.pairwise_cons.2 ⟨fun y hy => ?_, ins_srt h2⟩
   rcases ins_mem hy with rfl | hy
   ·exact hs
   ·exact h1 y hy
  ·split
   ·rename_i hx
    refine List.pairwise_cons.2 ⟨fun y hy => ?_, h⟩
    rcases List.mem_cons.1 hy with rfl | hy
    ·exact hx
    ·exact ltS_trans hx (h1 y hy)
   ·exact h
theorem ins_same {x : Stp} : ∀ {l : List Stp}, Srt l → (∃ s ∈ l, stepC s x = 0) → ins x l = l
 | [], _, ⟨_, h, _⟩ => by cases h
 | s :: l, h, ⟨t, ht, he⟩ => by
  obtain ⟨h1, h2⟩ := List.pairwise_cons.1 h
  unfold ins
  rcases List.mem_cons.1 ht with rfl | ht
  ·have a1 : ¬ ltS t x = true := fun hh => not_same hh he
   have a2 : ¬ ltS x t = true := fun hh => by
    have := not_same hh
    have g := good_step.anti t x
    omega
   rw [if_neg a1, if_neg a2]
  ·have hst := h1 t ht
   have hsx : ltS s x = true := by
    have b1 := of_decide_eq_true hst
    have g1 := good_step.le s t x (by omega) (by omega)
    have g2 := good_step.eq s t x (by omega) (by omega)
    exact decide_eq_true (by omega)
   rw [if_pos hsx, ins_same h2 ⟨t, ht, he⟩]
theorem ins_new {x : Stp} : ∀ {l : List Stp}, (∀ s ∈ l, stepC s x ≠ 0) → (ins x l).Perm (x :: l)
 | [], _ => List.Perm.refl _
 | s :: l, h => by
  unfold ins
  split
  ·exact ((ins_new fun t ht => h t (List.mem_cons_of_mem _ ht)).cons s).trans (List.Perm.swap x s l)
  ·rename_i h1
   split
   ·exact List.Perm.refl _
   ·rename_i h2
    exact absurd (same_of (by simpa using h1) (by simpa using h2)) (h s List.mem_cons_self)
/-- the sort of steps of which none is there twice -/
theorem sortS_is {l m : List Stp} (hs : Srt m) (hp : l.Perm m) (hl : l.length < 4611686018427387904) : sortS l = some m := by
 have hex : ∃ ys, sortS l = some ys := by
  unfold sortS
  rw [if_pos hl]
  exact ⟨_, rfl⟩
 obtain ⟨ys, hy⟩ := hex
 obtain ⟨h1, h2, h3⟩ := sortS_spec hy
 obtain ⟨q1, _, q3⟩ := h2
 have e1 : (ys.toArray.extract 0 l.length).toList = ys := by
  rw [← h1]
  simp
 have e2 : (l.toArray.extract 0 l.length).toList = l := by simp
 rw [e1, e2] at q3
 have hperm : ys.Perm m := q3.trans hp
 have hd : m.Pairwise fun s t => stepC s t ≠ 0 := hs.imp fun h => not_same h
 have hd2 : ys.Pairwise fun s t => stepC s t ≠ 0 := by
  refine (hperm.pairwise_iff ?_).2 hd
  intro a b hab
  have g := good_step.anti a b
  omega
 have hsr : ys.Pairwise fun s t => ltS s t = true := by
  rw [List.pairwise_iff_getElem] at hd2 ⊢
  intro i j hi hj hij
  have h4 := h3 i j (Nat.zero_le _) hij (by omega)
  have f1 : ys.toArray[j]! = ys[j] := by rw [getElem!_pos ys.toArray j (by simpa using hj)]; rfl
  have f2 : ys.toArray[i]! = ys[i] := by rw [getElem!_pos ys.toArray i (by simpa using hi)]; rfl
  rw [f1, f2] at h4
  have h5 := hd2 i j hi hj hij
  have h6 := of_decide_eq_false h4
  have g := good_step.anti ys[i] ys[j]
  exact decide_eq_true (by omega)
 have : ys = m := by
  refine List.Perm.eq_of_pairwise (le := fun s t => ltS s t = true) ?_ hsr hs hperm
  intro a b _ _ h5 h6
  rw [ltS_asymm h5] at h6
  cases h6
 rw [hy, this]
end Go.Proofs.YtbndfclpclifbaaGreatDoor

/- The automaton of factors: both sides make the same. -/
namespace Go.Proofs.YtbndfclpclifbaaGreatDoor
open Go Go.Proofs.YtbndfclpclifbaaGreatDoor.Am
theorem ifSame_of {R : Type} {x y z : Option R} {r : R} (hy : y = some r) (hx : x = some r ∨ (x ≠ some r ∧ z = some r)) : ifSame x y z = some r := by
 unfold ifSame
 rcases hx with hx | ⟨hx, hz⟩
 ·rw [if_pos (by rw [hx, hy]), hx]
 ·rw [if_neg (by rw [hy]; exact hx), hz]
theorem clone_is {x : List Int} (h : x.length ≤ 1000000000) : slices_Clone x = some x := by
 have hB : (if (((0 + 0) = (List.length ([] : List Unit))) ∧ (((0 + (List.length x)) * 8) ≤ 140737488355328)) then some (List.take (0 + (List.length x)) (List.drop 0 ((List.drop 0 []) ++ x))) else none) = some x := by
  rw [if_pos ⟨rfl, by omega⟩]
  simp
 unfold slices_Clone
 refine ifSame_of hB ?_
 cases x with
 | nil => exact .inl rfl
 | cons a l => exact .inr ⟨by simp, hB⟩
theorem clone_step {x : List Stp} (h : x.length ≤ 1000000000) : slices_Clone_Step x = some x := by
 have hB : (if (((0 + 0) = (List.length ([] : List Unit))) ∧ (((0 + (List.length x)) * 40) ≤ 140737488355328)) then some (List.take (0 + (List.length x)) (List.drop 0 ((List.drop 0 []) ++ x))) else none) = some x := by
  rw [if_pos ⟨rfl, by omega⟩]
  simp
 unfold slices_Clone_Step
 refine ifSame_of hB ?_
 cases x with
 | nil => exact .inl rfl
 | cons a l => exact .inr ⟨by simp, hB⟩
/-! ### what stands in order -/
theorem marks_lt {n : Int} {l : List Int} (h : marksOk n l = true) : ∀ (d i : Nat), i + d + 1 < l.length → l.getD i 0 < l.getD (i + d + 1) 0
 | 0, i, hi => by
  have := List.all_eq_true.1 h (i + 1) (List.mem_range.2 hi)
  unfold marksP at this
  simp at this
  exact this.2
 | d + 1, i, hi => by
  have h1 := marks_lt h d i (by omega)
  have := List.all_eq_true.1 h (i + d + 1 + 1) (List.mem_range.2 (by omega))
  unfold marksP at this
  simp at this
  have h2 := this.2
  show l.getD i 0 < l.getD (i + d + 1 + 1) 0
  rw [List.getD_eq_getElem?_getD, List.getD_eq_getElem?_getD] at h1 ⊢
  omega
theorem marks_pair {n : Int} {l : List Int} (h : marksOk n l = true) : l.Pairwise fun a b => decide (a ≤ b) = true := by
 rw [List.pairwise_iff_getElem]
 intro i j hi hj hij
 have := marks_lt h (j - i - 1) i (by omega)
 rw [show i + (j - i - 1) + 1 = j by omega, getD_g 0 hi, getD_g 0 hj] at this
 exact decide_eq_true (by omega)
theorem sort_marks {n : Int} {l : List Int} (h : marksOk n l = true) (hl : l.length ≤ 1048576) : slices_Sort l = some ((), (l, ())) := by
 unfold slices_Sort sortI
 rw [if_pos (by omega), List.mergeSort_of_pairwise (marks_pair h)]
 rfl
theorem steps_lt {n : Int} {l : List Stp} (h : stepsOk n l = true) : ∀ (d i : Nat), i + d + 1 < l.length → ltS (l.getD i stp0) (l.getD (i + d + 1) stp0) = true
 | 0, i, hi => by
  have := List.all_eq_true.1 h (i + 1) (List.mem_range.2 hi)
  unfold stepsP at this
  rw [Bool.and_eq_true] at this
  have := this.2
  rw [decide_eq_false (by omega), Bool.false_or, befB_lt] at this
  exact this
 | d + 1, i, hi => by
  have h1 := steps_lt h d i (by omega)
  have := List.all_eq_true.1 h (i + d + 1 + 1) (List.mem_range.2 (by omega))
  unfold stepsP at this
  rw [Bool.and_eq_true] at this
  have := this.2
  rw [decide_eq_false (by omega), Bool.false_or, befB_lt] at this
  exact ltS_trans h1 this
theorem steps_srt {n : Int} {l : List Stp} (h : stepsOk n l = true) : Srt l := by
 unfold Srt
 rw [List.pairwise_iff_getElem]
 intro i j hi hj hij
 have := steps_lt h (j - i - 1) i (by omega)
 rwa [show i + (j - i - 1) + 1 = j by omega, getD_g stp0 hi, getD_g stp0 hj] at this
/-- what the program makes of steps, wherever they stand -/
theorem made_is {x : Int} {S F : List Int} {l m : List Stp} (hS : marksOk x S = true) (hF : marksOk x F = true) (hs : Srt m) (hp : l.Perm m) (sS : S.length ≤ 1048576) (sF : F.length ≤ 1048576) (sl : l.length ≤ 100000000) :
  impl_made x S F l = some (if autOk (x, S, F, m) = true then ((x, S, F, m), true) else (((0 : Int), [], [], []), false)) := by
 have hV := impl_AutomatonValid_is (x, S, F, m) (show S.length ≤ _ by omega) (show F.length ≤ _ by omega)
 have hsort : slices_SortFunc l = some ((), (m, ())) := by
  unfold slices_SortFunc
  rw [sortS_is hs hp (by omega)]
  rfl
 have hlm : l.length = m.length := hp.length_eq
 unfold impl_made
 rw [clone_is (by omega)]
 simp only [Option.bind_some]
 rw [clone_is (by omega)]
 simp only [Option.bind_some]
 rw [clone_step (by omega)]
 simp only [Option.bind_some, if_true]
 rw [sort_marks hS sS]
 simp only [Option.bind_some]
 rw [sort_marks hF sF]
 simp only [Option.bind_some]
 rw [hsort]
 simp only [Option.bind_some, hlm, List.drop_zero, List.take_length, hV]
 cases autOk (x, S, F, m) <;> rfl
/-! ### the loops -/
def zs (s : Stp) : Stp := (s.1, s.2.1, s.2.2.1, 0)
theorem stepped_is {l : List Stp} (hl : l.length ≤ 1048576) {φ : (Stp × Unit) → Option Stp} {z : Stp → Stp} (hφ : ∀ s, φ (s, ()) = some (z s)) : impl_stepped l φ = some (l.map z) := by
 obtain ⟨r, g1, g2⟩ := loop_inv (f := impl_stepped_l3) l.length (fun i (o : List Stp) => (φ, o, l, (l.length : Int), (i : Int), ())) (fun i o => o ++ [z (l.getD i stp0)]) (fun o => (o, ())) (fun i o => o = (l.take i).map z)
  (fun i o hi ho => by rw [ho, take_snoc hi, List.map_append, getD_g stp0 hi]; rfl)
  (fun i o hi ho => by
   have hol : o.length = i := by rw [ho, List.length_map, List.length_take]; omega
   have hp := hφ (l.getD i stp0)
   have hp : φ (((l.getD i stp0).1, (l.getD i stp0).2.1, (l.getD i stp0).2.2.1, (l.getD i stp0).2.2.2), ()) = some ((z (l.getD i stp0)).1, (z (l.getD i stp0)).2.1, (z (l.getD i stp0)).2.2.1, (z (l.getD i stp0)).2.2.2) := hp
   have e : List.take 1 (List.drop 0 [z (l.getD i stp0)]) = [z (l.getD i stp0)] := rfl
   simp only [impl_stepped_l3, lt_t hi, cond_true, if_pos (in_t hi), Int.toNat_natCast, hp, Option.bind_some]
   show (if 0 + o.length = o.length ∧ (o.length + (List.take 1 (List.drop 0 [z (l.getD i stp0)])).length) * 40 ≤ 140737488355328 then some (Sum.inl (φ, List.take (o.length + (List.take 1 (List.drop 0 [z (l.getD i stp0)])).length) (List.drop 0 (List.drop 0 o ++ List.take 1 (List.drop 0 [z (l.getD i stp0)]))), l, (l.length : Int), IntKind.wrap .i64 ((i : Int) + 1), ())) else none) = _
   rw [e, if_pos ⟨by omega, by show (o.length + 1) * 40 ≤ _; omega⟩, w64_succ hi (by omega)]
   simp only [List.drop_zero]
   rw [List.take_of_length_le (by simp)])
  (fun o ho => by simp only [impl_stepped_l3, lt_f, cond_false, List.drop_zero, List.take_length])
  [] rfl
 have g1 : loopF impl_stepped_l3 (φ, [], l, (l.length : Int), (0 : Int), ()) = some (r, ()) := g1
 simp only [impl_stepped, List.take_zero, g1, Option.bind_some, List.drop_zero, List.take_length]
 rw [g2, List.take_length]
/-! ### what is put -/
def cand (s : Stp) (f : Int) : Stp := (f, s.2.1, s.2.2.1, 1)
def addI (I : List Stp) (x : Stp) : List Stp := if (I.any fun s => stepC s x == 0) = true then I else I ++ [x]
def has1 (S : List Int) (s : Stp) : Bool := S.any fun e => s.1 == e
def rowI (S : List Int) (s : Stp) (I : List Stp) (F : List Int) : List Stp := F.foldl (fun I f => bif has1 S s then addI I (cand s f) else I) I
def rowP (S : List Int) (s : Stp) (I : List Stp) (F : List Int) : List Stp := F.foldl (fun I f => bif has1 S s then ins (cand s f) I else I) I
def allI (S F : List Int) (I : List Stp) (l : List Stp) : List Stp := l.foldl (fun I s => rowI S s I F) I
def allP (S F : List Int) (I : List Stp) (l : List Stp) : List Stp := l.foldl (fun I s => rowP S s I F) I
structure IP (I P : List Stp) : Prop where
 perm : I.Perm P
 srt : Srt P
 cost : ∀ s ∈ P, s.2.2.2 ≤ 1
theorem IP.put {I P : List Stp} (h : IP I P) (s : Stp) (f : Int) : IP (addI I (cand s f)) (ins (cand s f) P) := by
 have hc : ∀ t ∈ ins (cand s f) P, t.2.2.2 ≤ 1 := by
  intro t ht
  rcases ins_mem ht with rfl | ht
  ·exact Int.le_refl _
  ·exact h.cost t ht
 unfold addI
 cases ha : I.any fun t => stepC t (cand s f) == 0 with
 | true =>
  rw [if_pos rfl]
  obtain ⟨t, ht, he⟩ := List.any_eq_true.1 ha
  have he : stepC t (cand s f) = 0 := by simpa using he
  rw [ins_same h.srt ⟨t, h.perm.mem_iff.1 ht, he⟩]
  exact h
 | false =>
  rw [if_neg (by simp)]
  have hn : ∀ t ∈ P, stepC t (cand s f) ≠ 0 := by
   intro t ht he
   have := List.any_eq_false.1 ha t (h.perm.mem_iff.2 ht)
   simp [he] at this
  refine ⟨?_, ins_srt h.srt, hc⟩
  exact (List.perm_append_singleton _ _).trans ((h.perm.cons _).trans (ins_new hn).symm)
theorem IP.row {S : List Int} {s : Stp} : ∀ {F : List Int} {I P : List Stp}, IP I P → IP (rowI S s I F) (rowP S s P F)
 | [], _, _, h => h
 | f :: F, I, P, h => by
  show IP (rowI S s (bif has1 S s then addI I (cand s f) else I) F) (rowP S s (bif has1 S s then ins (cand s f) P else P) F)
  cases has1 S s with
  | true => exact IP.row (h.put s f)
  | false => exact IP.row h
theorem IP.all {S F : List Int} : ∀ {l : List Stp} {I P : List Stp}, IP I P → IP (allI S F I l) (allP S F P l)
 | [], _, _, h => h
 | s :: l, I, P, h => IP.all (l := l) (h.row (S := S) (s := s) (F := F))
end Go.Proofs.YtbndfclpclifbaaGreatDoor

/- The automaton of factors, on: both sides make the same; its law. -/
namespace Go.Proofs.YtbndfclpclifbaaGreatDoor
open Go Go.Proofs.YtbndfclpclifbaaGreatDoor.Am
/-! ### costs put to nothing -/
theorem stepOk_zs {n : Int} {s : Stp} (h : stepOk n s = true) : stepOk n (zs s) = true := by
 unfold stepOk at h ⊢
 simp only [Bool.and_eq_true] at h ⊢
 exact ⟨h.1, h.2.1, rfl, h.2.2.2⟩
theorem getD_map0 {l : List Stp} {i : Nat} (hi : i < l.length) : (l.map zs).getD i stp0 = zs (l.getD i stp0) := by
 rw [getD_g stp0 (show i < (l.map zs).length by simpa using hi), getD_g stp0 hi]
 simp
theorem stepsOk_zs {n : Int} {l : List Stp} (h : stepsOk n l = true) : stepsOk n (l.map zs) = true := by
 unfold stepsOk at h ⊢
 rw [List.all_eq_true] at h ⊢
 intro i hi
 rw [List.length_map] at hi
 have hi' := List.mem_range.1 hi
 have h1 := h i hi
 unfold stepsP at h1 ⊢
 rw [Bool.and_eq_true] at h1 ⊢
 rw [getD_map0 hi', getD_map0 (show i - 1 < l.length by omega)]
 refine ⟨stepOk_zs h1.1, ?_⟩
 have h2 := h1.2
 rw [befB_lt] at h2 ⊢
 exact h2
theorem autOk_parts {x : Int} {S F : List Int} {l : List Stp} (h : autOk (x, S, F, l) = true) : marksOk x S = true ∧ marksOk x F = true ∧ l.length ≤ 24 ∧ stepsOk x l = true ∧ autOk (x, S, F, l.map zs) = true := by
 unfold autOk at h ⊢
 simp only [Bool.and_eq_true, decide_eq_true_eq] at h ⊢
 obtain ⟨h1, h2, h3, h4, h5⟩ := h
 exact ⟨h2, h3, h4, h5, h1, h2, h3, by simpa using h4, stepsOk_zs h5⟩
end Go.Proofs.YtbndfclpclifbaaGreatDoor
