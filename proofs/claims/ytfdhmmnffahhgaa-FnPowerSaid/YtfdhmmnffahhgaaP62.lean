/- Steps in order: what is put among them; the sort of steps. -/
import Derived.Test.YtfdhmmnffahhgaaP61
set_option linter.unusedVariables false
set_option linter.unusedSimpArgs false
namespace Go.Proofs.Ytfdhmmnffahhgaa
open Go Go.Proofs.Ytfdhmmnffahhgaa.Am
theorem getD_g {α : Type} {l : List α} {i : Nat} (d : α) (hi : i < l.length) : l.getD i d = l[i] := by
 rw [List.getD_eq_getElem?_getD, List.getElem?_eq_getElem hi]
 rfl
theorem befB_lt (s t : Stp) : befB s t = ltS s t := by
 obtain ⟨r, h1, h2⟩ := impl_stepOrder_is s t
 have h3 := told_stepOrder s t
 rw [h3] at h1
 obtain rfl := Option.some.inj h1
 unfold ltS
 cases hb : befB s t with
 | true =>
  rw [hb] at h2
  have := of_decide_eq_false h2
  exact (decide_eq_true (by omega)).symm
 | false =>
  rw [hb] at h2
  have := of_decide_eq_true h2
  exact (decide_eq_false (by omega)).symm
theorem ltS_trans {a b c : Stp} (h : ltS a b = true) (k : ltS b c = true) : ltS a c = true := by
 have h := of_decide_eq_true h
 have k := of_decide_eq_true k
 have g1 := good_step.le a b c (by omega) (by omega)
 have g2 := good_step.eq a b c (by omega) (by omega)
 exact decide_eq_true (by omega)
theorem ltS_asymm {a b : Stp} (h : ltS a b = true) : ltS b a = false := by
 have h := of_decide_eq_true h
 have g := good_step.anti a b
 exact decide_eq_false (by omega)
theorem same_of {a b : Stp} (h : ltS a b = false) (k : ltS b a = false) : stepC a b = 0 := by
 have h := of_decide_eq_false h
 have k := of_decide_eq_false k
 have g := good_step.anti a b
 omega
theorem not_same {a b : Stp} (h : ltS a b = true) : stepC a b ≠ 0 := by
 have h := of_decide_eq_true h
 omega
/-- steps that stand in order, none twice -/
def Srt (l : List Stp) : Prop := l.Pairwise fun s t => ltS s t = true
def ins (x : Stp) : List Stp → List Stp
 | [] => [x]
 | s :: l => if ltS s x = true then s :: ins x l else if ltS x s = true then x :: s :: l else s :: l
theorem ins_mem {x y : Stp} : ∀ {l : List Stp}, y ∈ ins x l → y = x ∨ y ∈ l
 | [], h => .inl (List.mem_singleton.1 h)
 | s :: l, h => by
  unfold ins at h
  split at h
  ·rcases List.mem_cons.1 h with rfl | h
   ·exact .inr List.mem_cons_self
   ·exact (ins_mem h).imp id (List.mem_cons_of_mem _)
  ·split at h
   ·rcases List.mem_cons.1 h with rfl | h
    ·exact .inl rfl
    ·exact .inr h
   ·exact .inr h
theorem ins_srt {x : Stp} : ∀ {l : List Stp}, Srt l → Srt (ins x l)
 | [], _ => List.pairwise_singleton _ _
 | s :: l, h => by
  obtain ⟨h1, h2⟩ := List.pairwise_cons.1 h
  unfold ins
  split
  ·rename_i hs
   refine List.pairwise_cons.2 ⟨fun y hy => ?_, ins_srt h2⟩
   rcases ins_mem hy with rfl | hy
   ·exact hs
   ·exact h1 y hy
  ·split
   ·rename_i hx
    refine List.pairwise_cons.2 ⟨fun y hy => ?_, h⟩
    rcases List.mem_cons.1 hy with rfl | hy
    ·exact hx
    ·exact ltS_trans hx (h1 y hy)
   ·exact h
theorem ins_same {x : Stp} : ∀ {l : List Stp}, Srt l → (∃ s ∈ l, stepC s x = 0) → ins x l = l
 | [], _, ⟨_, h, _⟩ => by cases h
 | s :: l, h, ⟨t, ht, he⟩ => by
  obtain ⟨h1, h2⟩ := List.pairwise_cons.1 h
  unfold ins
  rcases List.mem_cons.1 ht with rfl | ht
  ·have a1 : ¬ ltS t x = true := fun hh => not_same hh he
   have a2 : ¬ ltS x t = true := fun hh => by
    have := not_same hh
    have g := good_step.anti t x
    omega
   rw [if_neg a1, if_neg a2]
  ·have hst := h1 t ht
   have hsx : ltS s x = true := by
    have b1 := of_decide_eq_true hst
    have g1 := good_step.le s t x (by omega) (by omega)
    have g2 := good_step.eq s t x (by omega) (by omega)
    exact decide_eq_true (by omega)
   rw [if_pos hsx, ins_same h2 ⟨t, ht, he⟩]
theorem ins_new {x : Stp} : ∀ {l : List Stp}, (∀ s ∈ l, stepC s x ≠ 0) → (ins x l).Perm (x :: l)
 | [], _ => List.Perm.refl _
 | s :: l, h => by
  unfold ins
  split
  ·exact ((ins_new fun t ht => h t (List.mem_cons_of_mem _ ht)).cons s).trans (List.Perm.swap x s l)
  ·rename_i h1
   split
   ·exact List.Perm.refl _
   ·rename_i h2
    exact absurd (same_of (by simpa using h1) (by simpa using h2)) (h s List.mem_cons_self)
/-- where it is put: behind those before it -/
theorem ins_at {x : Stp} : ∀ (l : List Stp) (i : Nat), (∀ j, j < i → ltS (l.getD j stp0) x = true) → i ≤ l.length → (i < l.length → ltS (l.getD i stp0) x = false) →
  ins x l = if i < l.length ∧ ltS x (l.getD i stp0) = false then l else l.take i ++ x :: l.drop i
 | [], i, _, hi, _ => by
  have : i = 0 := by simpa using hi
  subst this
  rfl
 | s :: l, 0, _, _, h => by
  have h := h (by simp)
  have h : ltS s x = false := h
  unfold ins
  rw [if_neg (by rw [h]; simp)]
  show (if ltS x s = true then x :: s :: l else s :: l) = if 0 < (s :: l).length ∧ ltS x s = false then s :: l else x :: s :: l
  cases ltS x s <;> simp
 | s :: l, i + 1, hj, hi, h => by
  have h0 : ltS s x = true := hj 0 (by omega)
  have ih := ins_at (x := x) l i (fun j hjj => hj (j + 1) (by omega)) (by simpa using hi) (fun hl => h (by simpa using hl))
  unfold ins
  rw [if_pos h0, ih]
  simp only [List.length_cons, List.getD_cons_succ, Nat.add_lt_add_iff_right, List.take_succ_cons, List.drop_succ_cons, List.cons_append]
  split <;> rfl
/-- the reference puts a step that costs one among steps that cost nothing or one -/
theorem l3Put_eq {l : List Stp} (hl : l.length ≤ 100000000) (hc : ∀ s ∈ l, s.2.2.2 ≤ 1) (x y : Int) (z : ByteArray) : spec_l3Put l (x, z, y, 1) = some (ins (x, z, y, 1) l) := by
 have g := loop_find (f := spec_l3Put_l2) (fun i => (l, (x, z, y, (1 : Int), ()), (i : Int), ())) l.length (fun i => !ltS (l.getD i stp0) (x, z, y, 1)) (fun i => (l, (x, z, y, (1 : Int), ()), (i : Int), ())) (l, (x, z, y, (1 : Int), ()), ((l.length : Nat) : Int), ())
  (fun i hi => by
   simp only [spec_l3Put_l2, lt_t hi, cond_true, if_pos (in_t hi), Int.toNat_natCast, spec_l3Before_is, befB_lt, Option.bind_some, w64_succ hi (show l.length ≤ 9223372036854775807 by omega)]
   cases ltS (List.getD l i ((0 : Int), (⟨Array.empty⟩ : ByteArray), (0 : Int), (0 : Int))) (x, z, y, 1) <;> rfl)
  (by simp only [spec_l3Put_l2, lt_f, cond_false])
 have g : loopF spec_l3Put_l2 (l, (x, z, y, (1 : Int), ()), (0 : Int), ()) = _ := g
 have put : ∀ i : Nat, i ≤ l.length → (((0 + 0) = (List.length ([] : List Unit))) ∧ ((0 + (List.length (List.take (i - 0) (List.drop 0 l)))) * 40 ≤ 140737488355328)) ∧
   ((0 + (0 + (List.length (List.take (i - 0) (List.drop 0 l)))) = List.length ((List.drop 0 ([] : List Stp)) ++ (List.take (i - 0) (List.drop 0 l)))) ∧ (((0 + (List.length (List.take (i - 0) (List.drop 0 l)))) + (List.length (List.take 1 (List.drop 0 [((x, z, y, (1 : Int)) : Stp)])))) * 40 ≤ 140737488355328)) ∧
   ((0 + ((0 + (List.length (List.take (i - 0) (List.drop 0 l)))) + (List.length (List.take 1 (List.drop 0 [((x, z, y, (1 : Int)) : Stp)])))) = List.length ((List.drop 0 ((List.drop 0 ([] : List Stp)) ++ (List.take (i - 0) (List.drop 0 l)))) ++ (List.take 1 (List.drop 0 [((x, z, y, (1 : Int)) : Stp)])))) ∧ ((((0 + (List.length (List.take (i - 0) (List.drop 0 l)))) + (List.length (List.take 1 (List.drop 0 [((x, z, y, (1 : Int)) : Stp)])))) + (List.length (List.take (l.length - i) (List.drop i l)))) * 40 ≤ 140737488355328)) ∧
   List.take (((0 + (List.length (List.take (i - 0) (List.drop 0 l)))) + (List.length (List.take 1 (List.drop 0 [((x, z, y, (1 : Int)) : Stp)])))) + (List.length (List.take (l.length - i) (List.drop i l)))) (List.drop 0 ((List.drop 0 ((List.drop 0 ((List.drop 0 ([] : List Stp)) ++ (List.take (i - 0) (List.drop 0 l)))) ++ (List.take 1 (List.drop 0 [((x, z, y, (1 : Int)) : Stp)])))) ++ (List.take (l.length - i) (List.drop i l)))) = l.take i ++ (x, z, y, 1) :: l.drop i := by
  intro i hi
  have e1 : List.take (i - 0) (List.drop 0 l) = l.take i := by simp
  have e2 : List.take (l.length - i) (List.drop i l) = l.drop i := List.take_of_length_le (by simp)
  have e3 : (l.take i).length = i := by rw [List.length_take]; omega
  have e4 : (l.drop i).length = l.length - i := List.length_drop
  rw [e1, e2]
  refine ⟨⟨rfl, by omega⟩, ⟨by simp, ?_⟩, ⟨by simp, ?_⟩, ?_⟩
  ·show (0 + (l.take i).length + 1) * 40 ≤ _
   omega
  ·show (0 + (l.take i).length + 1 + (l.drop i).length) * 40 ≤ _
   omega
  ·rw [List.take_of_length_le (by simp; omega)]
   simp
 cases hf : (List.range l.length).find? fun i => !ltS (l.getD i stp0) (x, z, y, 1) with
 | none =>
  rw [hf] at g
  have hall : ∀ j, j < l.length → ltS (l.getD j stp0) (x, z, y, 1) = true := fun j hj => by
   have := List.find?_eq_none.1 hf j (List.mem_range.2 hj)
   simpa using this
  rw [ins_at l l.length hall (Nat.le_refl _) (fun h => absurd h (Nat.lt_irrefl _)), if_neg (fun h => absurd h.1 (Nat.lt_irrefl _))]
  obtain ⟨p1, p2, p3, p4⟩ := put l.length (Nat.le_refl _)
  unfold spec_l3Put
  dsimp only
  rw [g]
  simp only [Option.bind_some, lt_f, cond_false, Int.toNat_natCast]
  rw [if_pos ⟨by omega, by omega⟩, if_pos p1, if_pos p2, if_pos ⟨by omega, by omega⟩, if_pos p3, p4]
 | some i =>
  rw [hf] at g
  have hi := List.mem_range.1 (List.mem_of_find?_eq_some hf)
  have hp : ltS (l.getD i stp0) (x, z, y, 1) = false := by
   have := List.find?_some hf
   simpa using this
  have hall : ∀ j, j < i → ltS (l.getD j stp0) (x, z, y, 1) = true := by
   intro j hj
   have := (List.find?_range_eq_some.1 hf).2.2 j hj
   simpa using this
  obtain ⟨p1, p2, p3, p4⟩ := put i (by omega)
  have hmem : l.getD i stp0 ∈ l := by rw [getD_g stp0 hi]; exact List.getElem_mem hi
  have hcost := hc _ hmem
  have hins := ins_at l i hall (by omega) (fun _ => hp)
  cases hx : ltS (x, z, y, 1) (l.getD i stp0) with
  | false =>
   rw [if_pos ⟨hi, hx⟩] at hins
   rw [hins]
   have hx : ltS (x, z, y, 1) (List.getD l i ((0 : Int), (⟨Array.empty⟩ : ByteArray), (0 : Int), (0 : Int))) = false := hx
   have hset : l.set i (l.getD i stp0) = l := by
    rw [getD_g stp0 hi]
    exact List.set_getElem_self hi
   have hcost : ¬ (1 : Int) < (List.getD l i ((0 : Int), (⟨Array.empty⟩ : ByteArray), (0 : Int), (0 : Int))).2.2.2 := by
    show ¬ (1 : Int) < (l.getD i stp0).2.2.2
    omega
   unfold spec_l3Put
   dsimp only
   rw [g]
   simp only [Option.bind_some, lt_t hi, cond_true, if_pos (in_t hi), Int.toNat_natCast, spec_l3Before_is, befB_lt, hx, Bool.not_false, cond_true, List.drop_zero, List.nil_append, Nat.zero_add, if_neg hcost]
   rw [if_pos ⟨rfl, by omega⟩]
   show some (List.take l.length (l.set i (l.getD i stp0))) = some l
   rw [hset, List.take_length]
  | true =>
   rw [if_neg (fun h => by rw [hx] at h; cases h.2)] at hins
   rw [hins]
   have hx : ltS (x, z, y, 1) (List.getD l i ((0 : Int), (⟨Array.empty⟩ : ByteArray), (0 : Int), (0 : Int))) = true := hx
   unfold spec_l3Put
   dsimp only
   rw [g]
   simp only [Option.bind_some, lt_t hi, cond_true, if_pos (in_t hi), Int.toNat_natCast, spec_l3Before_is, befB_lt, hx, Bool.not_true, cond_false]
   rw [if_pos ⟨by omega, by omega⟩, if_pos p1, if_pos p2, if_pos ⟨by omega, by omega⟩, if_pos p3, p4]
/-- the sort of steps of which none is there twice -/
theorem sortS_is {l m : List Stp} (hs : Srt m) (hp : l.Perm m) (hl : l.length < 4611686018427387904) : sortS l = some m := by
 have hex : ∃ ys, sortS l = some ys := by
  unfold sortS
  rw [if_pos hl]
  exact ⟨_, rfl⟩
 obtain ⟨ys, hy⟩ := hex
 obtain ⟨h1, h2, h3⟩ := sortS_spec hy
 obtain ⟨q1, _, q3⟩ := h2
 have e1 : (ys.toArray.extract 0 l.length).toList = ys := by
  rw [← h1]
  simp
 have e2 : (l.toArray.extract 0 l.length).toList = l := by simp
 rw [e1, e2] at q3
 have hperm : ys.Perm m := q3.trans hp
 have hd : m.Pairwise fun s t => stepC s t ≠ 0 := hs.imp fun h => not_same h
 have hd2 : ys.Pairwise fun s t => stepC s t ≠ 0 := by
  refine (hperm.pairwise_iff ?_).2 hd
  intro a b hab
  have g := good_step.anti a b
  omega
 have hsr : ys.Pairwise fun s t => ltS s t = true := by
  rw [List.pairwise_iff_getElem] at hd2 ⊢
  intro i j hi hj hij
  have h4 := h3 i j (Nat.zero_le _) hij (by omega)
  have f1 : ys.toArray[j]! = ys[j] := by rw [getElem!_pos ys.toArray j (by simpa using hj)]; rfl
  have f2 : ys.toArray[i]! = ys[i] := by rw [getElem!_pos ys.toArray i (by simpa using hi)]; rfl
  rw [f1, f2] at h4
  have h5 := hd2 i j hi hj hij
  have h6 := of_decide_eq_false h4
  have g := good_step.anti ys[i] ys[j]
  exact decide_eq_true (by omega)
 have : ys = m := by
  refine List.Perm.eq_of_pairwise (le := fun s t => ltS s t = true) ?_ hsr hs hperm
  intro a b _ _ h5 h6
  rw [ltS_asymm h5] at h6
  cases h6
 rw [hy, this]
end Go.Proofs.Ytfdhmmnffahhgaa
